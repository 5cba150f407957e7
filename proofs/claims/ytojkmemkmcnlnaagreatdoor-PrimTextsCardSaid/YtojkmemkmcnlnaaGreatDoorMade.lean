/- light, made, twice: over the contract of a primitive. -/
import Derived.Test.YtojkmemkmcnlnaaGreatDoorDo
import Derived.Test.YtojkmemkmcnlnaaGreatDoorLike
import Derived.Test.YtojkmemkmcnlnaaGreatDoorRefWeigh
import Derived.Test.YtojkmemkmcnlnaaGreatDoorNums
set_option linter.unusedVariables false
namespace Go.Proofs.YtojkmemkmcnlnaaGreatDoor
open Go.RowKit Go.Shelf

theorem Rep.old {w W : World} {v : Val} {cs : List Value} (h : Rep All w v cs) (hW : Below w.heap.size w W) : Rep (fun g => g < w.heap.size) W v cs :=
  Rep.keep (S := fun g => All g ∧ g < w.heap.size) (fun _ h => h.2) (fun g hg => hW.block g hg.2) h.lt
theorem VSl.old {w W : World} {is : List Val} {A : Option Addr} {c : Nat} (h : VSl All w is A c) (hW : Below w.heap.size w W) : VSl (fun g => g < w.heap.size) W is A c :=
  ⟨h.1, h.2.1, h.2.2.1, Its.keep (S := fun g => All g ∧ g < w.heap.size) (fun _ h => h.2) (fun g hg => hW.block g hg.2) h.2.2.2.lt⟩
/-- A primitive's function makes a value of an input and arguments. -/
def Makes (fid : FuncId) (v : Val) (args : List Val) (rv : Val) : Prop :=
  ∀ (S : Nat → Prop) (cs : List Value) (C : Option Addr) (c : Nat) (W : World), Tabs W → Rep S W v cs → VSl S W args C c →
    Calls Tryz.prog fid #[.agg (cs ++ [Value.slice C args.length c]).toArray] W fun e W' => ∃ ds, e = .returned (.tuple #[.agg ds.toArray, .bool true]) ∧ Rep (fun g => S g ∨ W.heap.size ≤ g) W' rv ds ∧ Below W.heap.size W W'
/-- A primitive of the table. -/
structure IsPrim (name : ByteArray) (k : Nat) (fid : FuncId) : Prop where
  size : name.size ≤ 140737488355328
  inTab : kget tabL (keyB name k) = some (.func (.func fid) #[] #[])
  ent : ∀ (args : Array Value) (w : World), (callFunc fid args).run Tryz.prog w = .ok (.enter fid args) w
theorem do_makes {name : ByteArray} {v rv : Val} {args : List Val} {fid : FuncId} (hp : IsPrim name args.length fid) (hm : Makes fid v args rv) (hok : v.ok = true) (hao : args.all Val.ok = true) (hw : rv.weight ≤ 1048576)
    (cs : List Value) (C : Option Addr) (c' : Nat) (w : World) (h : Rep All w v cs) (hA : VSl All w args C c') (hT : Tabs w) :
    Calls Tryz.prog 21 #[.string name, .agg cs.toArray, .slice C args.length c'] w fun e w' => ∃ ds, e = .returned (.tuple #[.agg ds.toArray, .agg #[.int .i64 0, .string ⟨#[]⟩, .string ⟨#[]⟩, .slice none 0 0, .slice none 0 0], .bool true]) ∧ Rep (From w.heap.size) w' rv ds ∧ Below w.heap.size w w' :=
  do_good name v cs args C c' w fid h hA hT hp.size hp.inTab hok hao hp.ent rv (fun W hW => hm (fun g => g < w.heap.size) cs C c' W (hT.below hW) (h.old hW) (hA.old hW)) hw

set_option maxHeartbeats 2000000 in
set_option maxRecDepth 100000 in
theorem made_good {name : ByteArray} {v rv : Val} {args : List Val} {fid : FuncId} (hp : IsPrim name args.length fid) (hm : Makes fid v args rv) (hok : v.ok = true) (hao : args.all Val.ok = true) (hw : rv.weight ≤ 1048576)
    (cs : List Value) (C : Option Addr) (c' : Nat) (w : World) (h : Rep All w v cs) (hA : VSl All w args C c') (hT : Tabs w) :
    Calls Tryz.prog 11 #[.string name, .agg cs.toArray, .slice C args.length c'] w fun e w' => ∃ ds, e = .returned (.tuple #[.agg ds.toArray, .bool true]) ∧ Rep (From w.heap.size) w' rv ds ∧ Below w.heap.size w w' := by
  have HD := Lib.hid (fun W (hW : Below w.heap.size w W) => do_makes hp hm hok hao hw cs C c' W (h.below hW) (hA.below hW) (hT.below hW))
  obtain ⟨A, c, B, d, rfl, _⟩ := h.open_
  clear h hA hT hm hp hok hao
  go_enter Tryz.func11, Tryz.ntmps11
  go_wp2_with fail
  generalize hX : Obj.cells #[.int .i64 v.kind, .string v.num, .string v.text, .slice A v.items.length c, .slice B v.keys.length d] 25 = X
  generalize hZ : Obj.cells #[.int .i64 0, .string ⟨#[]⟩, .string ⟨#[]⟩, .slice none 0 0, .slice none 0 0] 25 = Z
  have B1 := blk_new2 w X Z
  have hb0 : Below w.heap.size w ((w.alloc X).alloc Z) := ((Below.refl _ _).alloc (Nat.le_refl _) _).alloc (by simp) _
  have hs0 : ((w.alloc X).alloc Z).heap.size = w.heap.size + 2 := by simp
  generalize (w.alloc X).alloc Z = W0 at *
  subst hZ
  clear hX
  refine (HD.out W0 hb0).mono ?_
  rintro e W1 ⟨ds, rfl, hr, hb1⟩
  obtain ⟨A1, c1, B2, d1, rfl, _⟩ := hr.open_
  have B1' := blk_below B1 hb1
  have hb2 := hb0.trans (hb1.mono hb0.size)
  have hr1 : Rep (From (w.heap.size + 2)) W1 rv _ := hr.wide fun g hg => by have : W0.heap.size ≤ g := hg; show w.heap.size + 2 ≤ g; omega
  have hs1 : w.heap.size + 2 ≤ W1.heap.size := by have := hb1.size; omega
  have HR := Lib.hid hr1; clear hr hr1 hb1 B1 hb0 hs0
  have HB1 := Lib.hid B1'; clear B1'
  have HB2 := Lib.hid hb2; clear hb2
  go_upto_region 2 with fail
  generalize hX : Obj.cells #[.int .i64 rv.kind, .string rv.num, .string rv.text, .slice A1 rv.items.length c1, .slice B2 rv.keys.length d1] 25 = X
  generalize hZ : Obj.cells #[.int .i64 0, .string ⟨#[]⟩, .string ⟨#[]⟩, .slice none 0 0, .slice none 0 0] 25 = Z
  have x1 := heap_alloc2_old W1 X Z
  have B3 := blk_alloc (blk_alloc HB1.out X) Z
  have hb3 : Below W1.heap.size W1 ((W1.alloc X).alloc Z) := ((Below.refl _ _).alloc (Nat.le_refl _) _).alloc (by simp) _
  have HR3 := Lib.hid (HR.out.below hb3)
  have HB3 := Lib.hid (HB2.out.trans (hb3.mono HB2.out.size))
  generalize (W1.alloc X).alloc Z = W2 at *
  subst hX
  clear hZ hb3 HB1 HB2 HR
  have q0 : W2.cell? ⟨W1.heap.size, 0, none⟩ = some (.int .i64 rv.kind) := (blk_cell x1 0).trans rfl
  have q1 : W2.cell? ⟨W1.heap.size, 1, none⟩ = some (.string rv.num) := (blk_cell x1 1).trans rfl
  have q2 : W2.cell? ⟨W1.heap.size, 2, none⟩ = some (.string rv.text) := (blk_cell x1 2).trans rfl
  have q3 : W2.cell? ⟨W1.heap.size, 3, none⟩ = some (.slice A1 rv.items.length c1) := (blk_cell x1 3).trans rfl
  have q4 : W2.cell? ⟨W1.heap.size, 4, none⟩ = some (.slice B2 rv.keys.length d1) := (blk_cell x1 4).trans rfl
  clear x1
  go_wp2_with (refine wpList_store_blk rfl 25 _ _ rfl (w.heap.size + 1) _ _ _ rfl rfl B3 rfl (by kernel_rfl) (by simp [Value.oneCell']) ?_)
  intro w5 e5 ho
  have hr5 := HR3.out.keep (S' := From w.heap.size) (fun g hg => by have : w.heap.size + 2 ≤ g := hg; show w.heap.size ≤ g; omega) (fun g hg => ho.rest g (by have : w.heap.size + 2 ≤ g := hg; omega))
  have hb5 := ho.from HB3.out (by omega)
  clear ho B3 q0 q1 q2 q3 q4
  go_wp2_with fail
  exact bodyPost_ret (results_ct rfl _ _ (w.heap.size + 1) _ _ _ rfl e5 Tryz.underlying25 rfl (by kernel_rfl)) rfl ⟨_, rfl, hr5, hb5⟩

def LightC (w : World) (v : Val) (e : Ending) (w' : World) : Prop := ∃ b : Bool, e = .returned (.bool b) ∧ (b = true → v.ok = true ∧ v.weight < 30000) ∧ Below w.heap.size w w'
def FitC (w : World) (is : List Val) (e : Ending) (w' : World) : Prop := ∃ b : Bool, e = .returned (.bool b) ∧ (b = true → Val.weights is < 4611686018427387904) ∧ Below w.heap.size w w'
set_option maxHeartbeats 2000000 in
set_option maxRecDepth 100000 in
theorem light_any (v : Val) (cs : List Value) (w : World) (h : Rep All w v cs)
    (hF : ∀ (A : Option Addr) (c : Nat) (W : World), VSl All W [v] A c → Calls Tryz.prog 14 #[.slice A 1 c] W (FitC W [v])) :
    Calls Tryz.prog 8 #[.agg cs.toArray] w (LightC w v) := by
  obtain ⟨A, c, B, d, rfl, _⟩ := h.open_
  have H := Lib.hid h; clear h
  have HF := Lib.hid hF; clear hF
  go_enter Tryz.func8, Tryz.ntmps8
  go_wp2_with fail
  generalize hX : Obj.cells #[.int .i64 v.kind, .string v.num, .string v.text, .slice A v.items.length c, .slice B v.keys.length d] 25 = X
  have B0 := heap_alloc2_old w X X
  have B1 := blk_new2 w X X
  have hb0 : Below w.heap.size w ((w.alloc X).alloc X) := ((Below.refl _ _).alloc (Nat.le_refl _) _).alloc (by simp) _
  generalize (w.alloc X).alloc X = W0 at *
  subst hX
  have hV : VSl All W0 [v] (some ⟨w.heap.size + 1, 0, none⟩) 1 := VSl.of_blk (is := [v]) (css := [_]) B1 rfl (C5.one_ (H.out.below hb0)) trivial (show (1 : Nat) * 88 ≤ 140737488355328 by decide)
  refine (HF.out _ _ W0 hV).mono ?_
  rintro e W1 ⟨b, rfl, hbw, hb1⟩
  clear hV B1
  have B2 := blk_below B0 hb1
  have hb2 := hb0.trans (hb1.mono hb0.size)
  clear hb0 hb1 B0
  have q0 : W1.cell? ⟨w.heap.size, 0, none⟩ = some (.int .i64 v.kind) := (blk_cell B2 0).trans rfl
  have q1 : W1.cell? ⟨w.heap.size, 1, none⟩ = some (.string v.num) := (blk_cell B2 1).trans rfl
  have q2 : W1.cell? ⟨w.heap.size, 2, none⟩ = some (.string v.text) := (blk_cell B2 2).trans rfl
  have q3 : W1.cell? ⟨w.heap.size, 3, none⟩ = some (.slice A v.items.length c) := (blk_cell B2 3).trans rfl
  have q4 : W1.cell? ⟨w.heap.size, 4, none⟩ = some (.slice B v.keys.length d) := (blk_cell B2 4).trans rfl
  have HB2 := Lib.hid B2; clear B2
  have HB := Lib.hid hb2; clear hb2
  have HW := Lib.hid hbw; clear hbw
  cases b
  · clear HW
    go_wp2_with fail
    go_ret
    exact ⟨false, rfl, (fun h => absurd h Bool.false_ne_true), HB.out⟩
  · go_wp2_with fail
    refine (refFormed_any v _ W1 (H.out.below HB.out)).mono ?_
    cases hok : v.ok
    · rintro e W2 ⟨rfl, hb1⟩
      have hbx := HB.out.trans (hb1.mono HB.out.size)
      clear q0 q1 q2 q3 q4 hok
      go_wp2_with fail
      go_ret
      exact ⟨false, rfl, (fun h => absurd h Bool.false_ne_true), hbx⟩
    · rintro e W2 ⟨rfl, hb1⟩
      have B3 := blk_below HB2.out hb1
      have HBX := Lib.hid (HB.out.trans (hb1.mono HB.out.size))
      clear q0 q1 q2 q3 q4 hb1 HB HB2
      have HOK := Lib.hid hok; clear hok
      have q0 : W2.cell? ⟨w.heap.size, 0, none⟩ = some (.int .i64 v.kind) := (blk_cell B3 0).trans rfl
      have q1 : W2.cell? ⟨w.heap.size, 1, none⟩ = some (.string v.num) := (blk_cell B3 1).trans rfl
      have q2 : W2.cell? ⟨w.heap.size, 2, none⟩ = some (.string v.text) := (blk_cell B3 2).trans rfl
      have q3 : W2.cell? ⟨w.heap.size, 3, none⟩ = some (.slice A v.items.length c) := (blk_cell B3 3).trans rfl
      have q4 : W2.cell? ⟨w.heap.size, 4, none⟩ = some (.slice B v.keys.length d) := (blk_cell B3 4).trans rfl
      have hwt : v.weight < 4611686018427387904 := by have := HW.out (by trivial); simp only [Val.weights] at this; omega
      clear B3
      go_wp2_with fail
      refine (refWeight_any v _ W2 (H.out.below HBX.out) HOK.out hwt).mono ?_
      rintro e W3 ⟨rfl, hb1⟩
      have hby := HBX.out.trans (hb1.mono HBX.out.size)
      clear q0 q1 q2 q3 q4 hb1
      by_cases hlt : v.weight < 30000
      · have hlt' : (v.weight : Int) < 30000 := by omega
        have HL := Lib.hid hlt; clear hlt
        go_wp2_with fail
        go_ret
        exact ⟨true, rfl, fun _ => ⟨HOK.out, HL.out⟩, hby⟩
      · have hlt' : ¬ (v.weight : Int) < 30000 := by omega
        have hlt2 : decide (v.weight < 30000) = false := by rw [decide_eq_false_iff_not]; exact hlt
        have hlt3 : decide ((v.weight : Int) < 30000) = false := by rw [decide_eq_false_iff_not]; exact hlt'
        clear hlt hlt'
        go_wp2_with fail
        go_ret
        exact ⟨false, rfl, (fun h => absurd h Bool.false_ne_true), hby⟩

/-- What a call of made gives. -/
def MadeC (w : World) (rv : Val) (e : Ending) (w' : World) : Prop := ∃ ds, e = .returned (.tuple #[.agg ds.toArray, .bool true]) ∧ Rep (From w.heap.size) w' rv ds ∧ Below w.heap.size w w'
set_option maxHeartbeats 2000000 in
set_option maxRecDepth 100000 in
theorem twice_any (n1 n2 : ByteArray) (v r1 r2 want : Val) (cs ds : List Value) (w : World) (h : Rep All w v cs) (hw : Rep All w want ds)
    (h1 : ∀ W, Below w.heap.size w W → Calls Tryz.prog 11 #[.string n1, .agg cs.toArray, .slice none 0 0] W (MadeC W r1))
    (h2 : ∀ W xs, Below w.heap.size w W → Rep All W r1 xs → Calls Tryz.prog 11 #[.string n2, .agg xs.toArray, .slice none 0 0] W (MadeC W r2)) :
    Calls Tryz.prog 9 #[.string n1, .string n2, .agg cs.toArray, .agg ds.toArray] w fun e w' => e = .returned (.bool (r2.like want)) ∧ Below w.heap.size w w' := by
  obtain ⟨A, c, B, d, rfl, _⟩ := h.open_
  obtain ⟨A', c', B', d', rfl, _⟩ := hw.open_
  have H := Lib.hid h; clear h
  have HW := Lib.hid hw; clear hw
  have H1 := Lib.hid h1; clear h1
  have H2 := Lib.hid h2; clear h2
  go_enter Tryz.func9, Tryz.ntmps9
  go_wp2_with fail
  generalize hX : Obj.cells #[.int .i64 v.kind, .string v.num, .string v.text, .slice A v.items.length c, .slice B v.keys.length d] 25 = X
  generalize hY : Obj.cells #[.int .i64 want.kind, .string want.num, .string want.text, .slice A' want.items.length c', .slice B' want.keys.length d'] 25 = Y
  have B1 := blk_new2 w X Y
  have hb0 : Below w.heap.size w ((w.alloc X).alloc Y) := ((Below.refl _ _).alloc (Nat.le_refl _) _).alloc (by simp) _
  have hs0 : w.heap.size + 2 ≤ ((w.alloc X).alloc Y).heap.size := by simp
  generalize (w.alloc X).alloc Y = W0 at *
  subst hY
  clear hX
  refine (H1.out W0 hb0).mono ?_
  rintro e W1 ⟨xs, rfl, hr, hb1⟩
  obtain ⟨A1, c1, B2, d1, rfl, _⟩ := hr.open_
  have HB1 := Lib.hid (blk_below B1 hb1)
  have HB := Lib.hid (hb0.trans (hb1.mono hb0.size))
  have HR := Lib.hid hr.all
  have hs1 : w.heap.size + 2 ≤ W1.heap.size := Nat.le_trans hs0 hb1.size
  clear hr hb0 hb1 B1 hs0
  go_wp2_with fail
  generalize hX : Obj.cells #[.int .i64 r1.kind, .string r1.num, .string r1.text, .slice A1 r1.items.length c1, .slice B2 r1.keys.length d1] 25 = X
  have HB1' := Lib.hid (blk_alloc HB1.out X)
  have HBB := Lib.hid (HB.out.alloc HB.out.size X)
  have HRR := Lib.hid (HR.out.below ((Below.refl W1.heap.size W1).alloc (Nat.le_refl _) X))
  generalize W1.alloc X = W2 at *
  clear hX HB1 HB HR
  refine (H2.out W2 _ HBB.out HRR.out).mono ?_
  rintro e W3 ⟨ys, rfl, hr, hb1⟩
  obtain ⟨A3, c3, B3, d3, rfl, _⟩ := hr.open_
  have HB1 := Lib.hid (blk_below HB1'.out hb1)
  have HB := Lib.hid (HBB.out.trans (hb1.mono HBB.out.size))
  have HR := Lib.hid hr.all
  clear hr hb1 HB1' HBB HRR
  go_upto_region 3 with fail
  generalize hX : Obj.cells #[.int .i64 r2.kind, .string r2.num, .string r2.text, .slice A3 r2.items.length c3, .slice B3 r2.keys.length d3] 25 = X
  have x1 := blk_new W3 X
  have B1' := blk_alloc HB1.out X
  have HBB := Lib.hid (HB.out.alloc HB.out.size X)
  have HRR := Lib.hid (HR.out.below ((Below.refl W3.heap.size W3).alloc (Nat.le_refl _) X))
  generalize W3.alloc X = W4 at *
  subst hX
  clear HB1 HB HR
  have q0 : W4.cell? ⟨W3.heap.size, 0, none⟩ = some (.int .i64 r2.kind) := (blk_cell x1 0).trans rfl
  have q1 : W4.cell? ⟨W3.heap.size, 1, none⟩ = some (.string r2.num) := (blk_cell x1 1).trans rfl
  have q2 : W4.cell? ⟨W3.heap.size, 2, none⟩ = some (.string r2.text) := (blk_cell x1 2).trans rfl
  have q3 : W4.cell? ⟨W3.heap.size, 3, none⟩ = some (.slice A3 r2.items.length c3) := (blk_cell x1 3).trans rfl
  have q4 : W4.cell? ⟨W3.heap.size, 4, none⟩ = some (.slice B3 r2.keys.length d3) := (blk_cell x1 4).trans rfl
  have z0 : W4.cell? ⟨w.heap.size + 1, 0, none⟩ = some (.int .i64 want.kind) := (blk_cell B1' 0).trans rfl
  have z1 : W4.cell? ⟨w.heap.size + 1, 1, none⟩ = some (.string want.num) := (blk_cell B1' 1).trans rfl
  have z2 : W4.cell? ⟨w.heap.size + 1, 2, none⟩ = some (.string want.text) := (blk_cell B1' 2).trans rfl
  have z3 : W4.cell? ⟨w.heap.size + 1, 3, none⟩ = some (.slice A' want.items.length c') := (blk_cell B1' 3).trans rfl
  have z4 : W4.cell? ⟨w.heap.size + 1, 4, none⟩ = some (.slice B' want.keys.length d') := (blk_cell B1' 4).trans rfl
  clear x1 B1'
  go_wp2_with fail
  refine (like_any r2 want _ _ W4 HRR.out (HW.out.below HBB.out)).mono ?_
  rintro e W5 ⟨rfl, hb1⟩
  have hbx := HBB.out.trans (hb1.mono HBB.out.size)
  clear hb1 q0 q1 q2 q3 q4 z0 z1 z2 z3 z4
  go_wp2_with fail
  go_ret
  exact ⟨rfl, hbx⟩
end Go.Proofs.YtojkmemkmcnlnaaGreatDoor
