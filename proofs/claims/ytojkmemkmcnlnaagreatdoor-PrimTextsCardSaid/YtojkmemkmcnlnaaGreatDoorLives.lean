/- The call at the head of each statement: "2" + "5" is "7". -/
import Derived.Test.YtojkmemkmcnlnaaGreatDoorDo
import Derived.Test.YtojkmemkmcnlnaaGreatDoorLike
namespace Go.Proofs.YtojkmemkmcnlnaaGreatDoor
open Go.RowKit Go.Shelf

def bAdd : ByteArray := ⟨#[97, 100, 100]⟩
def v2 : Val := .mk 3 b2 ⟨#[]⟩ [] []
def v5 : Val := .mk 3 b5 ⟨#[]⟩ [] []
def v7 : Val := .mk 3 b7 ⟨#[]⟩ [] []
def vIn : Val := .mk 5 ⟨#[]⟩ ⟨#[]⟩ [v2, v5] []
def sums : Nat → Val | 0 => Val.zero | 1 => v2 | _ => v7

theorem ok2 : v2.ok = true := by decide +kernel
theorem ok5 : v5.ok = true := by decide +kernel
theorem okIn : vIn.ok = true := by decide +kernel
theorem okZ : Val.zero.ok = true := by decide +kernel
theorem w_sums : ∀ k, (sums k).weight ≤ 1048576
  | 0 => by decide +kernel
  | 1 => by decide +kernel
  | _ + 2 => by simp only [sums]; decide +kernel
theorem kAdd : kget tabL (keyB bAdd ([] : List Val).length) = some (.func (.func 77) #[] #[]) := by kernel_rfl
theorem entAdd : ∀ (args : Array Value) (w : World), (callFunc 77 args).run Tryz.prog w = .ok (.enter 77 args) w := enters_of Tryz.func77 (by kernel_rfl) rfl

theorem livesAdd (A : Option Addr) (c : Nat) (B : Option Addr) (d : Nat) (W : World) (h : VSl All W [v2, v5] A c) (hT : Tabs W) :
    Calls Tryz.prog 77 #[.agg #[.int .i64 5, .string ⟨#[]⟩, .string ⟨#[]⟩, .slice A 2 c, .slice B 0 d, .slice none 0 0]] W fun e W' => ∃ ds, e = .returned (.tuple #[.agg ds.toArray, .bool true]) ∧ Rep (From W.heap.size) W' v7 ds ∧ Below W.heap.size W W' := by
  refine add_any sums ⟨#[]⟩ ⟨#[]⟩ [v2, v5] A B none c 0 d 0 0 W h hT (by decide) (by decide +kernel) (by decide +kernel) rfl ?_ (fun k _ => w_sums k)
  intro k hk W ca cb hT ha hb
  match k, hk with
  | 0, _ =>
    refine arithAdd_any Val.zero v2 ca cb W ha hb okZ ok2 hT v2 Val.zero true rfl rfl ?_
    intro W1 hW
    obtain ⟨A1, c1, B1, d1, rfl, _⟩ := ha.open_
    obtain ⟨A2, c2, B2, d2, rfl, _⟩ := hb.open_
    refine (pairAdd_null _ _ _ _ _ _ _ _ _ _ _ _ _ _ _ _ _ W1).mono ?_
    rintro e W2 ⟨rfl, hb2⟩
    exact ⟨[_, _, _, _, _], [_, _, _, _, _], rfl, ((hb.below hW).below hb2), Rep.zero _ _, hb2⟩
  | 1, _ =>
    refine arithAdd_any v2 v5 ca cb W ha hb ok2 ok5 hT v7 Val.zero true rfl rfl ?_
    intro W1 hW
    obtain ⟨A1, c1, B1, d1, rfl, _⟩ := ha.open_
    obtain ⟨A2, c2, B2, d2, rfl, _⟩ := hb.open_
    refine (pairAdd25 _ _ _ _ _ _ _ _ W1).mono ?_
    rintro e W2 ⟨rfl, hb2⟩
    exact ⟨[_, _, _, _, _], [_, _, _, _, _], rfl, Rep.flat All _ 3 b7 ⟨#[]⟩ (by decide) (by decide), Rep.zero _ _, hb2⟩

theorem doAdd (A : Option Addr) (c : Nat) (B : Option Addr) (d : Nat) (W : World) (hr : Rep All W vIn [.int .i64 5, .string ⟨#[]⟩, .string ⟨#[]⟩, .slice A 2 c, .slice B 0 d]) (hT : Tabs W) :
    Calls Tryz.prog 21 #[.string bAdd, .agg #[.int .i64 5, .string ⟨#[]⟩, .string ⟨#[]⟩, .slice A 2 c, .slice B 0 d], .slice none 0 0] W fun e w' => ∃ ds, e = .returned (.tuple #[.agg ds.toArray, .agg #[.int .i64 0, .string ⟨#[]⟩, .string ⟨#[]⟩, .slice none 0 0, .slice none 0 0], .bool true]) ∧ Rep (From W.heap.size) w' v7 ds ∧ Below W.heap.size W w' := by
  refine do_good bAdd vIn _ [] none 0 W 77 hr (VSl.nil _ _ _ _ (by decide)) hT (by decide) kAdd okIn rfl entAdd v7 ?_ (w_sums 2)
  intro W1 hW
  obtain ⟨A1, c1, B1, d1, e1, _, _, hi, _⟩ := hr.open_
  simp only [List.cons.injEq, Value.slice.injEq, and_true] at e1
  obtain ⟨_, _, _, ⟨rfl, _, rfl⟩, _⟩ := e1
  refine (livesAdd A c B d W1 (hi.below hW) (hT.below hW)).mono ?_
  rintro e W2 ⟨ds, rfl, h1, h2⟩
  exact ⟨ds, rfl, h1.wide fun g hg => .inr hg, h2⟩

set_option maxHeartbeats 2000000 in
set_option maxRecDepth 100000 in
theorem lives_any (w : World) (hT : Tabs w) : Calls Tryz.prog 7 #[] w fun e w' => e = .returned (.bool true) ∧ Below w.heap.size w w' := by
  have HT := Lib.hid hT; clear hT
  go_enter Tryz.func7, Tryz.ntmps7
  go_wp2_with fail
  have hb0 : Below w.heap.size w (w.alloc (.cells #[.int .i64 3, .string ⟨#[50]⟩, .string ⟨#[]⟩, .slice none 0 0, .slice none 0 0, .int .i64 3, .string ⟨#[53]⟩, .string ⟨#[]⟩, .slice none 0 0, .slice none 0 0] 25)) := (Below.refl _ _).alloc (Nat.le_refl _) _
  have hV := VSl.of_blk (S := All) (blk_new w (.cells #[.int .i64 3, .string ⟨#[50]⟩, .string ⟨#[]⟩, .slice none 0 0, .slice none 0 0, .int .i64 3, .string ⟨#[53]⟩, .string ⟨#[]⟩, .slice none 0 0, .slice none 0 0] 25)) (is := [v2, v5]) (css := [[.int .i64 3, .string ⟨#[50]⟩, .string ⟨#[]⟩, .slice none 0 0, .slice none 0 0], [.int .i64 3, .string ⟨#[53]⟩, .string ⟨#[]⟩, .slice none 0 0, .slice none 0 0]]) rfl
    (C5.two (Rep.flat _ _ 3 b2 ⟨#[]⟩ (by decide) (by decide)) (Rep.flat _ _ 3 b5 ⟨#[]⟩ (by decide) (by decide))) trivial (by decide)
  have hr : Rep All (w.alloc (.cells #[.int .i64 3, .string ⟨#[50]⟩, .string ⟨#[]⟩, .slice none 0 0, .slice none 0 0, .int .i64 3, .string ⟨#[53]⟩, .string ⟨#[]⟩, .slice none 0 0, .slice none 0 0] 25)) vIn _ := Rep.mk_ (v := vIn) (by decide) (by decide) hV (SSl.nil _ _ none 0 (by decide))
  generalize w.alloc (.cells #[.int .i64 3, .string ⟨#[50]⟩, .string ⟨#[]⟩, .slice none 0 0, .slice none 0 0, .int .i64 3, .string ⟨#[53]⟩, .string ⟨#[]⟩, .slice none 0 0, .slice none 0 0] 25) = W0 at *
  refine (doAdd _ _ _ _ W0 hr (HT.out.below hb0)).mono ?_
  rintro e W1 ⟨ds, rfl, h1, hb1⟩
  obtain ⟨A1, c1, B1, d1, rfl, _⟩ := h1.open_
  have hb2 := hb0.trans (hb1.mono hb0.size)
  have H1 := Lib.hid h1; clear h1 hV hr hb0 hb1
  go_wp2_with fail
  have e2 := heap_alloc2_new W1 (.cells #[.int .i64 v7.kind, .string v7.num, .string v7.text, .slice A1 v7.items.length c1, .slice B1 v7.keys.length d1] 25) (.cells #[.int .i64 0, .string ⟨#[]⟩, .string ⟨#[]⟩, .slice none 0 0, .slice none 0 0] 25)
  have hb3 : Below W1.heap.size W1 ((W1.alloc (.cells #[.int .i64 v7.kind, .string v7.num, .string v7.text, .slice A1 v7.items.length c1, .slice B1 v7.keys.length d1] 25)).alloc (.cells #[.int .i64 0, .string ⟨#[]⟩, .string ⟨#[]⟩, .slice none 0 0, .slice none 0 0] 25)) := ((Below.refl _ _).alloc (Nat.le_refl _) _).alloc (by simp) _
  generalize (W1.alloc (.cells #[.int .i64 v7.kind, .string v7.num, .string v7.text, .slice A1 v7.items.length c1, .slice B1 v7.keys.length d1] 25)).alloc (.cells #[.int .i64 0, .string ⟨#[]⟩, .string ⟨#[]⟩, .slice none 0 0, .slice none 0 0] 25) = W2 at *
  refine (like_any v7 v7 _ [.int .i64 3, .string ⟨#[55]⟩, .string ⟨#[]⟩, .slice none 0 0, .slice none 0 0] W2 (H1.out.below hb3).all (Rep.flat _ _ 3 b7 ⟨#[]⟩ (by decide) (by decide))).mono ?_
  rw [Val.like_self]
  rintro e W3 ⟨rfl, hb4⟩
  have e3 := blk_below e2 hb4
  have hb5 := hb2.trans ((hb3.trans (hb4.mono hb3.size)).mono hb2.size)
  have z0 : W3.cell? ⟨W1.heap.size + 1, 0, none⟩ = some (.int .i64 0) := (blk_cell e3 0).trans rfl
  have z1 : W3.cell? ⟨W1.heap.size + 1, 1, none⟩ = some (.string ⟨#[]⟩) := (blk_cell e3 1).trans rfl
  have z2 : W3.cell? ⟨W1.heap.size + 1, 2, none⟩ = some (.string ⟨#[]⟩) := (blk_cell e3 2).trans rfl
  have z3 : W3.cell? ⟨W1.heap.size + 1, 3, none⟩ = some (.slice none 0 0) := (blk_cell e3 3).trans rfl
  have z4 : W3.cell? ⟨W1.heap.size + 1, 4, none⟩ = some (.slice none 0 0) := (blk_cell e3 4).trans rfl
  clear e2 e3 hb2 hb3 hb4
  go_wp2_with fail
  refine (like_any Val.zero Val.zero [.int .i64 0, .string ⟨#[]⟩, .string ⟨#[]⟩, .slice none 0 0, .slice none 0 0] [.int .i64 0, .string ⟨#[]⟩, .string ⟨#[]⟩, .slice none 0 0, .slice none 0 0] W3 (Rep.zero _ _) (Rep.zero _ _)).mono ?_
  rw [Val.like_self]
  rintro e W4 ⟨rfl, hb4⟩
  have hb6 := hb5.trans (hb4.mono hb5.size)
  clear hb5 hb4 z0 z1 z2 z3 z4
  go_wp2_with fail
  go_ret
  exact ⟨rfl, hb6⟩
end Go.Proofs.YtojkmemkmcnlnaaGreatDoor
