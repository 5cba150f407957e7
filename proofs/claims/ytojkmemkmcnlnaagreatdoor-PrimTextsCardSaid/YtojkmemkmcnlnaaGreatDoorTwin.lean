/- slices.Clone at values and texts; value.Twin: a value in memory of its own. -/
import Derived.Test.YtojkmemkmcnlnaaGreatDoorTabs
import Derived.Test.YtojkmemkmcnlnaaGreatDoorOwn
import Derived.Deep.LoopGhost
import Derived.Deep.QuietTactic
import Derived.BigQuiet
import Derived.Deep.RegionHeld3
import Derived.Lib.Walk
import Derived.Lib.SliceRun
import Derived.WalkSpells
import Derived.Deep.CutBlock
import Derived.Deep.DeepCutAuto
namespace Go.Proofs.YtojkmemkmcnlnaaGreatDoor
open Go.RowKit

theorem infoV : (Tryz.prog.info? 25).map (fun i => (i.zero, i.size, i.bytes)) = some (some (.agg #[.int .i64 0, .string ⟨#[]⟩, .string ⟨#[]⟩, .slice none 0 0, .slice none 0 0]), 5, 88) := by kernel_rfl
theorem infoS : (Tryz.prog.info? 9).map (fun i => (i.zero, i.size, i.bytes)) = some (some (.string ⟨#[]⟩), 1, 16) := by kernel_rfl
theorem eqNilV (w : World) (a : Option Addr) (n c n' c' : Nat) : (binOp .eql 22 (.slice a n c) (.slice none n' c')).run Tryz.prog w = .ok (.bool a.isNone) w := Lib.run_eql_slice_nil w _ _ a n c n' c' Tryz.underlying22
theorem eqNilS (w : World) (a : Option Addr) (n c n' c' : Nat) : (binOp .eql 23 (.slice a n c) (.slice none n' c')).run Tryz.prog w = .ok (.bool a.isNone) w := Lib.run_eql_slice_nil w _ _ a n c n' c' Tryz.underlying23

set_option maxHeartbeats 1000000 in
set_option maxRecDepth 100000 in
theorem cloneRow_V (A : Option Addr) (n c : Nat) (cells : List Value) (w : World) (hl : cells.length = n * 5) (hn : n * 88 ≤ 140737488355328)
    (hc : n ≠ 0 → ∃ g o, A = some ⟨g, o, none⟩ ∧ ∀ j u, cells[j]? = some u → w.cell? ⟨g, o + j, none⟩ = some u) (h1 : ∀ u ∈ cells, u.oneCell' = true) :
    Calls Tryz.prog 95 #[.slice A n c] w fun e w' => ∃ v', e = .returned v' ∧ w'.ownsRow w.heap.size 25 5 v' n cells ∧ Below w.heap.size w w' := by
  have q22 := eqNilV
  obtain ⟨i0, hi, hz0, hz1, hz2⟩ := info_parts infoV
  have HC := Lib.hid hc; clear hc
  have H1 := Lib.hid h1; clear h1
  cases A with
  | none =>
    have h0 : n = 0 := by
      rcases Nat.eq_zero_or_pos n with h | h
      · exact h
      · obtain ⟨g, o, e, _⟩ := HC.out (by omega); cases e
    subst h0
    obtain rfl : cells = [] := List.eq_nil_of_length_eq_zero (by omega)
    go_enter Tryz.func95, Tryz.ntmps95
    go_wp2_with fail
    go_ret
    exact ⟨_, rfl, World.ownsRow_nil _ _ _ _, Below.refl _ _⟩
  | some ad =>
    have hcells : ∀ j u, cells[j]? = some u → w.cell? (ad.add j) = some u := fun j u hj => by
      have hn0 : n ≠ 0 := by rintro rfl; have : cells = [] := List.eq_nil_of_length_eq_zero (by omega); subst this; simp at hj
      obtain ⟨g, o, e, hcc⟩ := HC.out hn0
      obtain rfl : ad = ⟨g, o, none⟩ := by simpa using e
      have := hcc j u hj
      rwa [Addr.add_lit]
    have HCC := Lib.hid hcells; clear hcells
    go_enter Tryz.func95, Tryz.ntmps95
    go_wp2_with (at_builtin; refine wpList_append_own _ rfl _ _ 22 rfl w.heap.size 25 i0 _ 5 88 Tryz.underlying22 hi hz0 hz1 hz2 rfl (by decide) _ _ _ rfl (World.ownsRow_made w #[] 0 (Nat.le_refl _) (Nat.zero_le _) (by simp)) ad n c cells rfl ?qc1 ?qc2 ?qc3 ?qc4 ?qc5 ?qc6 ?_)
    case qc1 => exact hl
    case qc2 => intro j u hj; exact Lib.cell?_alloc_some _ (HCC.out j u hj)
    case qc3 => exact H1.out
    case qc4 => simp only [maxLen]; omega
    case qc5 => omega
    case qc6 => simp
    intro v' w1 hown hgrow hnil
    have HO := Lib.hid hown; clear hown
    have HG := Lib.hid hgrow; clear hgrow hnil
    go_wp2_with fail
    go_ret
    exact ⟨v', rfl, by simpa using HO.out, ((Below.refl _ w).alloc (Nat.le_refl _) _).grown HG.out (by simp) (by intro k hk; simp [Value.ownBlock] at hk; omega)⟩
set_option maxHeartbeats 1000000 in
set_option maxRecDepth 100000 in
theorem cloneRow_S (A : Option Addr) (n c : Nat) (cells : List Value) (w : World) (hl : cells.length = n * 1) (hn : n * 16 ≤ 140737488355328)
    (hc : n ≠ 0 → ∃ g o, A = some ⟨g, o, none⟩ ∧ ∀ j u, cells[j]? = some u → w.cell? ⟨g, o + j, none⟩ = some u) (h1 : ∀ u ∈ cells, u.oneCell' = true) :
    Calls Tryz.prog 94 #[.slice A n c] w fun e w' => ∃ v', e = .returned v' ∧ w'.ownsRow w.heap.size 9 1 v' n cells ∧ Below w.heap.size w w' := by
  have q22 := eqNilS
  obtain ⟨i0, hi, hz0, hz1, hz2⟩ := info_parts infoS
  have HC := Lib.hid hc; clear hc
  have H1 := Lib.hid h1; clear h1
  cases A with
  | none =>
    have h0 : n = 0 := by
      rcases Nat.eq_zero_or_pos n with h | h
      · exact h
      · obtain ⟨g, o, e, _⟩ := HC.out (by omega); cases e
    subst h0
    obtain rfl : cells = [] := List.eq_nil_of_length_eq_zero (by omega)
    go_enter Tryz.func94, Tryz.ntmps94
    go_wp2_with fail
    go_ret
    exact ⟨_, rfl, World.ownsRow_nil _ _ _ _, Below.refl _ _⟩
  | some ad =>
    have hcells : ∀ j u, cells[j]? = some u → w.cell? (ad.add j) = some u := fun j u hj => by
      have hn0 : n ≠ 0 := by rintro rfl; have : cells = [] := List.eq_nil_of_length_eq_zero (by omega); subst this; simp at hj
      obtain ⟨g, o, e, hcc⟩ := HC.out hn0
      obtain rfl : ad = ⟨g, o, none⟩ := by simpa using e
      have := hcc j u hj
      rwa [Addr.add_lit]
    have HCC := Lib.hid hcells; clear hcells
    go_enter Tryz.func94, Tryz.ntmps94
    go_wp2_with (at_builtin; refine wpList_append_own _ rfl _ _ 23 rfl w.heap.size 9 i0 _ 1 16 Tryz.underlying23 hi hz0 hz1 hz2 rfl (by decide) _ _ _ rfl (World.ownsRow_made w #[] 0 (Nat.le_refl _) (Nat.zero_le _) (by simp)) ad n c cells rfl ?qc1 ?qc2 ?qc3 ?qc4 ?qc5 ?qc6 ?_)
    case qc1 => exact hl
    case qc2 => intro j u hj; exact Lib.cell?_alloc_some _ (HCC.out j u hj)
    case qc3 => exact H1.out
    case qc4 => simp only [maxLen]; omega
    case qc5 => omega
    case qc6 => simp
    intro v' w1 hown hgrow hnil
    have HO := Lib.hid hown; clear hown
    have HG := Lib.hid hgrow; clear hgrow hnil
    go_wp2_with fail
    go_ret
    exact ⟨v', rfl, by simpa using HO.out, ((Below.refl _ w).alloc (Nat.le_refl _) _).grown HG.out (by simp) (by intro k hk; simp [Value.ownBlock] at hk; omega)⟩

/-- What value.Twin answers. -/
def TwinOf (w w' : World) (v : Val) (r : Value) : Prop := ∃ vI vK css, r = .agg #[.int .i64 v.kind, .string v.num, .string v.text, vI, vK] ∧ w'.ownsRow w.heap.size 25 5 vI v.items.length css.flatten ∧
  C5 (fun g => w.heap.size ≤ g ∧ vI.ownBlock ≠ some g ∧ vK.ownBlock ≠ some g) w' v.items css ∧ w'.ownsRow w.heap.size 9 1 vK v.keys.length (v.keys.map Value.string)

theorem own_set5 {w : World} {base e size n : Nat} {v : Value} {xs : List Value} {g o : Nat} {c0 c1 c2 c3 c4 : Value} (h : w.ownsRow base e size v n xs) (hg : g < base) : (set5 w g o c0 c1 c2 c3 c4).ownsRow base e size v n xs :=
  ownsRow_setCell_below (ownsRow_setCell_below (ownsRow_setCell_below (ownsRow_setCell_below (ownsRow_setCell_below h (a := ⟨g, o, none⟩) hg _) (a := ⟨g, o + 1, none⟩) hg _) (a := ⟨g, o + 2, none⟩) hg _) (a := ⟨g, o + 3, none⟩) hg _) (a := ⟨g, o + 4, none⟩) hg _
def twS (N : Nat) (vI vK : Value) : Nat → Prop := fun g => N ≤ g ∧ vI.ownBlock ≠ some g ∧ vK.ownBlock ≠ some g
/-- The loop of value.Twin: k items are done. -/
def TwR (w W : World) (M : Nat) (v : Val) (AI : Option Addr) (cI : Nat) (AK : Option Addr) (cK : Nat) (css0 : List (List Value)) (k : Nat) (css : List (List Value)) : Prop :=
  M ≤ W.heap.size ∧ Below w.heap.size w W ∧ W.heap[w.heap.size]? = some (.cells #[.int .i64 v.kind, .string v.num, .string v.text, .slice AI v.items.length cI, .slice AK v.keys.length cK] 25 (0, 0)) ∧
    W.heap[w.heap.size + 1]? = some (.cells #[.int .i64 0, .string ⟨#[]⟩, .string ⟨#[]⟩, .slice none 0 0, .slice none 0 0] 25 (0, 0)) ∧ W.ownsRow (w.heap.size + 2) 9 1 (.slice AK v.keys.length cK) v.keys.length (v.keys.map Value.string) ∧
    W.ownsRow M 25 5 (.slice AI v.items.length cI) v.items.length css.flatten ∧ C5 (twS (w.heap.size + 2) (.slice AI v.items.length cI) (.slice AK v.keys.length cK)) W (v.items.take k) (css.take k) ∧ css.drop k = css0.drop k ∧ css.length = v.items.length ∧ ∀ cs ∈ css, cs.length = 5

theorem TwR.step {w W w1 : World} {M : Nat} {v : Val} {g cI : Nat} {AK : Option Addr} {cK : Nat} {css0 : List (List Value)} {k : Nat} {css : List (List Value)} {A' B' : Option Addr} {c' d' : Nat} {css' : List (List Value)} {AI' AK' : Option Addr} {cI' cK' : Nat}
    (h : TwR w W M v (some ⟨g, 0, none⟩) cI AK cK css0 k css) (hM : w.heap.size + 2 ≤ M) (hsK : ∀ g, (Value.slice AK v.keys.length cK).ownBlock = some g → g < M) (hk : k < v.items.length)
    (hr : Rep All W v.items[k] [.int .i64 (v.items[k]).kind, .string (v.items[k]).num, .string (v.items[k]).text, .slice A' (v.items[k]).items.length c', .slice B' (v.items[k]).keys.length d'])
    (ho1 : w1.ownsRow W.heap.size 25 5 (.slice AI' (v.items[k]).items.length cI') (v.items[k]).items.length css'.flatten)
    (ho2 : C5 (fun g => W.heap.size ≤ g ∧ (Value.slice AI' (v.items[k]).items.length cI').ownBlock ≠ some g ∧ (Value.slice AK' (v.items[k]).keys.length cK').ownBlock ≠ some g) w1 (v.items[k]).items css')
    (ho3 : w1.ownsRow W.heap.size 9 1 (.slice AK' (v.items[k]).keys.length cK') (v.items[k]).keys.length ((v.items[k]).keys.map Value.string)) (hb : Below W.heap.size W w1) :
    TwR w (set5 w1 g (k * 5) (.int .i64 (v.items[k]).kind) (.string (v.items[k]).num) (.string (v.items[k]).text) (.slice AI' (v.items[k]).items.length cI') (.slice AK' (v.items[k]).keys.length cK')) M v (some ⟨g, 0, none⟩) cI AK cK css0 (k + 1)
      (css.set k [.int .i64 (v.items[k]).kind, .string (v.items[k]).num, .string (v.items[k]).text, .slice AI' (v.items[k]).items.length cI', .slice AK' (v.items[k]).keys.length cK']) := by
  obtain ⟨h1, h2, h3, h4, h5, h6, h7, h8, h9, h10⟩ := h
  have hgM := (h6.lt g rfl).1
  have hgW := (h6.lt g rfl).2
  have hb' : Below w.heap.size w w1 := h2.trans (hb.mono h2.size)
  obtain ⟨o1, o2⟩ := own_set (c0 := .int .i64 (v.items[k]).kind) (c1 := .string (v.items[k]).num) (c2 := .string (v.items[k]).text) (c3 := .slice AI' (v.items[k]).items.length cI') (c4 := .slice AK' (v.items[k]).keys.length cK') (own_below h6 hb) h9 h10 hk
  obtain ⟨A0, c0, B0, d0, e0, hn, ht, hi, hks⟩ := hr.open_
  have hheap : ∀ i, i ≠ g → (set5 w1 g (k * 5) (.int .i64 (v.items[k]).kind) (.string (v.items[k]).num) (.string (v.items[k]).text) (.slice AI' (v.items[k]).items.length cI') (.slice AK' (v.items[k]).keys.length cK')).heap[i]? = w1.heap[i]? := fun i hi => set5_heap i hi
  refine ⟨by rw [set5_size]; have := hb.size; omega, set5_below hb' (by omega), ?_, ?_, ?_, o1, ?_, ?_, by simp [h9], ?_⟩
  · rw [hheap _ (by omega)]; exact blk_below h3 hb
  · rw [hheap _ (by omega)]; exact blk_below h4 hb
  · exact (own_below h5 hb).kept o2 (by
      rcases hK : (Value.slice AK v.keys.length cK).ownBlock with _ | gk
      · exact .inl rfl
      · refine .inr fun e => ?_
        have := hsK gk hK
        simp only [Option.some.injEq] at e
        omega)
  · have hkeep : C5 (twS (w.heap.size + 2) (.slice (some ⟨g, 0, none⟩) v.items.length cI) (.slice AK v.keys.length cK)) (set5 w1 g (k * 5) (.int .i64 (v.items[k]).kind) (.string (v.items[k]).num) (.string (v.items[k]).text) (.slice AI' (v.items[k]).items.length cI') (.slice AK' (v.items[k]).keys.length cK')) (v.items.take k) (css.take k) :=
      (h7.below hb).keep (fun _ h => h) fun i hi => hheap i fun e => hi.2.1 (by rw [e]; rfl)
    have hS : ∀ i, W.heap.size ≤ i → twS (w.heap.size + 2) (.slice (some ⟨g, 0, none⟩) v.items.length cI) (.slice AK v.keys.length cK) i := fun i hi => by
      refine ⟨by omega, fun e => ?_, fun e => ?_⟩
      · simp only [Value.ownBlock, Option.some.injEq] at e; omega
      · have := hsK i e; omega
    have hne : ∀ i, W.heap.size ≤ i → i ≠ g := fun i hi e => by omega
    obtain ⟨Ax, cx, ex, hV⟩ := own_VSl (S' := fun i => W.heap.size ≤ i) ho1 ho2 hi.2.2.1 (fun _ h => h.1) (fun g hg => (ho1.lt g hg).1)
    obtain ⟨Ay, cy, ey, hSl⟩ := own_SSl (S := fun i => W.heap.size ≤ i) ho3 hks.2.2.1 hks.2.2.2.1 (fun g hg => (ho3.lt g hg).1)
    simp only [Value.slice.injEq, true_and] at ex ey
    obtain ⟨rfl, rfl⟩ := ex
    obtain ⟨rfl, rfl⟩ := ey
    have := hkeep.snoc (Rep.mk_ (v := v.items[k]) hn ht (hV.keep hS fun i hi => hheap i (hne i hi)) (hSl.keep hS fun i hi => hheap i (hne i hi)))
    rw [List.take_add_one, List.getElem?_eq_getElem hk, List.take_add_one, List.getElem?_set, List.take_set_of_le (Nat.le_refl _)]
    simpa [h9, hk] using this
  · rw [List.drop_set_of_lt (by omega)]
    have := congrArg (·.drop 1) h8
    simpa [List.drop_drop, Nat.add_comm] using this
  · intro cs hcs
    rcases List.mem_or_eq_of_mem_set hcs with h | rfl
    · exact h10 cs h
    · rfl

set_option maxHeartbeats 2000000 in
set_option maxRecDepth 100000 in
theorem twin_all (m : Nat) : ∀ (v : Val) (cs : List Value) (w : World), v.sz ≤ m → Rep All w v cs →
    Calls Tryz.prog 37 #[.agg cs.toArray] w fun e w' => ∃ r, e = .returned r ∧ TwinOf w w' v r ∧ Below w.heap.size w w' := by
  induction m with
  | zero => intro v cs w hv; cases v; simp [Val.sz] at hv
  | succ m ih =>
  intro v cs w hv h
  obtain ⟨A, c, B, d, rfl, hn, ht, hi, hk⟩ := h.open_
  have IH := Lib.hid ih; clear ih
  have HV := Lib.hid hv; clear hv
  obtain ⟨css0, hcss, hcells⟩ := hi.cells
  have l1 : v.items.length ≤ 9223372036854775807 := by have := hi.2.2.1; omega
  have hN : v.items.length * 88 ≤ 140737488355328 := hi.2.2.1
  have hK : v.keys.length * 16 ≤ 140737488355328 := hk.2.2.1
  have HK := Lib.hid hk; clear hk
  have HC0 := Lib.hid hcss; clear hcss
  have HCE := Lib.hid hcells; clear hcells hi h
  go_enter Tryz.func37, Tryz.ntmps37
  go_wp2_with fail
  generalize hW0 : (w.alloc (Obj.cells #[.int .i64 v.kind, .string v.num, .string v.text, .slice A v.items.length c, .slice B v.keys.length d] 25)).alloc (Obj.cells #[.int .i64 0, .string ⟨#[]⟩, .string ⟨#[]⟩, .slice none 0 0, .slice none 0 0] 25) = W0
  have B0 : W0.heap[w.heap.size]? = some (.cells #[.int .i64 v.kind, .string v.num, .string v.text, .slice A v.items.length c, .slice B v.keys.length d] 25 (0, 0)) := by rw [← hW0]; exact blk_alloc (blk_new w _) _
  have B1 : W0.heap[w.heap.size + 1]? = some (.cells #[.int .i64 0, .string ⟨#[]⟩, .string ⟨#[]⟩, .slice none 0 0, .slice none 0 0] 25 (0, 0)) := by rw [← hW0]; have := blk_new (w.alloc (Obj.cells #[.int .i64 v.kind, .string v.num, .string v.text, .slice A v.items.length c, .slice B v.keys.length d] 25)) (Obj.cells #[.int .i64 0, .string ⟨#[]⟩, .string ⟨#[]⟩, .slice none 0 0, .slice none 0 0] 25); simpa using this
  have hb0 : Below w.heap.size w W0 := by rw [← hW0]; exact ((Below.refl _ _).alloc (Nat.le_refl _) _).alloc (by simp) _
  have hs0 : W0.heap.size = w.heap.size + 2 := by rw [← hW0]; simp
  clear hW0
  refine (cloneRow_S B v.keys.length d (v.keys.map Value.string) W0 (by simp) hK ?_ (by simp [Value.oneCell'])).mono ?_
  · intro h0
    obtain ⟨g, o, e, _, hcc⟩ := (HK.out.below hb0).2.2.2.2 (by intro h; rw [h] at h0; simp at h0)
    refine ⟨g, o, e, fun j u hj => ?_⟩
    rw [List.getElem?_map, Option.map_eq_some_iff] at hj
    obtain ⟨s, hs, rfl⟩ := hj
    exact hcc j s hs
  rintro e w1 ⟨vK, rfl, hownK, hb1⟩
  obtain ⟨AK, cK, rfl⟩ := own_shape hownK
  have C0 := blk_below B0 hb1
  have C1 := blk_below B1 hb1
  have hb1' : Below w.heap.size w w1 := hb0.trans (hb1.mono (by omega))
  have hs1 : w.heap.size + 2 ≤ w1.heap.size := by have := hb1.size; omega
  have hok := own_mono hownK (base' := w.heap.size + 2) (by omega)
  have HB1 := Lib.hid hb1'; clear hb1' hb1 hb0 B0 B1 hs0
  have HOK := Lib.hid hok; clear hownK hok
  have q4 := (blk_cell C0 4).trans rfl
  have f4 := blk_frozen C0 4
  have q3 := (blk_cell C0 3).trans rfl
  have HC0' := Lib.hid C0; clear C0
  have HC1' := Lib.hid C1; clear C1
  go_wp2_with fail
  clear q4 f4 q3
  have D0 := blk_set HC0'.out 4 (.slice AK v.keys.length cK)
  have D1 := blk_far HC1'.out (p := ⟨w.heap.size, 4, none⟩) (by simp) (.slice AK v.keys.length cK)
  have hb2 : Below w.heap.size w (w1.setCell ⟨w.heap.size, 4, none⟩ (.slice AK v.keys.length cK)) := HB1.out.setCell (p := ⟨w.heap.size, 4, none⟩) (Nat.le_refl _) _
  have hok : (w1.setCell ⟨w.heap.size, 4, none⟩ (.slice AK v.keys.length cK)).ownsRow (w.heap.size + 2) 9 1 (.slice AK v.keys.length cK) v.keys.length (v.keys.map Value.string) := ownsRow_setCell_below HOK.out (by simp) _
  have hs2 : w.heap.size + 2 ≤ (w1.setCell ⟨w.heap.size, 4, none⟩ (.slice AK v.keys.length cK)).heap.size := by simpa using hs1
  generalize w1.setCell ⟨w.heap.size, 4, none⟩ (.slice AK v.keys.length cK) = W2 at *
  clear HB1 HOK HC0' HC1' hs1
  refine (cloneRow_V A v.items.length c css0.flatten W2 HC0.out.len hN ?_ HC0.out.one).mono ?_
  · intro h0
    obtain ⟨g, o, e, _, hcc⟩ := HCE.out (by intro h; rw [h] at h0; simp at h0)
    exact ⟨g, o, e, fun j u hj => (hb2.cell (World.block_lt_of_cell? w _ (hcc j u hj))).trans (hcc j u hj)⟩
  rintro e w3 ⟨vI, rfl, hownI, hb3⟩
  obtain ⟨AI, cI, rfl⟩ := own_shape hownI
  have hsI : ∀ g, (Value.slice AI v.items.length cI).ownBlock = some g → W2.heap.size ≤ g := fun g hg => (hownI.lt g hg).1
  have hsK : ∀ g, (Value.slice AK v.keys.length cK).ownBlock = some g → w.heap.size + 2 ≤ g ∧ g < W2.heap.size := fun g hg => hok.lt g hg
  have E0 := blk_below D0 hb3
  have E1 := blk_below D1 hb3
  have hok3 := own_below hok hb3
  have hb3' : Below w.heap.size w w3 := hb2.trans (hb3.mono (by omega))
  have q3 := (blk_cell E0 3).trans rfl
  have f3 := blk_frozen E0 3
  have HE0 := Lib.hid E0; clear E0
  have HE1 := Lib.hid E1; clear E1
  have HOK := Lib.hid hok3; clear hok3 hok
  have HOI := Lib.hid hownI; clear hownI
  have HSI := Lib.hid hsI; clear hsI
  have HSK := Lib.hid hsK; clear hsK
  have hs3 : W2.heap.size ≤ w3.heap.size := hb3.size
  have HB3 := Lib.hid hb3'; clear hb3' hb3 hb2 D0 D1
  go_upto_block 0 with fail
  clear q3 f3
  have D0 : (w3.setCell ⟨w.heap.size, 3, none⟩ (.slice AI v.items.length cI)).heap[w.heap.size]? = some (.cells #[.int .i64 v.kind, .string v.num, .string v.text, .slice AI v.items.length cI, .slice AK v.keys.length cK] 25 (0, 0)) := blk_set HE0.out 3 _
  have D1 := blk_far HE1.out (p := ⟨w.heap.size, 3, none⟩) (by simp) (.slice AI v.items.length cI)
  have hb4 : Below w.heap.size w (w3.setCell ⟨w.heap.size, 3, none⟩ (.slice AI v.items.length cI)) := HB3.out.setCell (p := ⟨w.heap.size, 3, none⟩) (Nat.le_refl _) _
  have hok := ownsRow_setCell_below HOK.out (a := ⟨w.heap.size, 3, none⟩) (by simp) (.slice AI v.items.length cI)
  have hoi := ownsRow_setCell_below HOI.out (a := ⟨w.heap.size, 3, none⟩) (show w.heap.size < W2.heap.size by omega) (.slice AI v.items.length cI)
  have hs4 : W2.heap.size ≤ (w3.setCell ⟨w.heap.size, 3, none⟩ (.slice AI v.items.length cI)).heap.size := by simpa using hs3
  generalize w3.setCell ⟨w.heap.size, 3, none⟩ (.slice AI v.items.length cI) = W4 at *
  clear HB3 HOK HOI HE0 HE1 hs3
  have hrel0 : TwR w W4 W2.heap.size v AI cI AK cK css0 0 css0 := ⟨hs4, hb4, D0, D1, hok, hoi, by simpa using C5.nil _ W4, rfl, HC0.out.1, HC0.out.five⟩
  have HR0 := Lib.hid hrel0; clear hrel0 D0 D1 hok hoi hb4 hs4
  have HS2 := Lib.hid hs2; clear hs2
  go_wp2_with fail
  go_loopw [3, 15] (fun _ i W => ∃ (k : Nat) (css : List (List Value)), k ≤ v.items.length ∧ i = .int .i64 k ∧ Hid (TwR w W W2.heap.size v AI cI AK cK css0 k css)) (fun _ i _ => v.items.length - (intOf i).toNat)
  case atStart => exact ⟨0, css0, Nat.zero_le _, rfl, HR0⟩
  case round =>
    clear HR0
    obtain ⟨k, css, hk, rfl, HR⟩ := hrel
    have q5 : wr.cell? ⟨w.heap.size, 3, none⟩ = some (.slice AI v.items.length cI) := (blk_cell HR.out.2.2.1 3).trans rfl
    by_cases hlt : k < v.items.length
    · have hHOI := HR.out.2.2.2.2.2.1
      obtain ⟨g, rfl, hgI⟩ : ∃ g, AI = some ⟨g, 0, none⟩ ∧ W2.heap.size ≤ g := by
        rcases hHOI.2 with ⟨e, h0⟩ | ⟨g, cap, cur, e, hg, _⟩
        · omega
        · simp only [Value.slice.injEq] at e; exact ⟨g, e.1, hg⟩
      have hgW : g < wr.heap.size := (hHOI.lt g rfl).2
      have hne : g ≠ w.heap.size := by have := HS2.out; omega
      have hNW : w.heap.size < wr.heap.size := by have := HS2.out; omega
      obtain ⟨cs, hcs, hrep⟩ : ∃ cs, css[k]? = some cs ∧ Rep All w v.items[k] cs := by
        obtain ⟨cs, e, hr⟩ := HC0.out.2 k v.items[k] (List.getElem?_eq_getElem hlt)
        refine ⟨cs, ?_, hr⟩
        have := congrArg (·[0]?) HR.out.2.2.2.2.2.2.2.1
        simpa [List.getElem?_drop, e] using this
      obtain ⟨A', c', B', d', rfl, _⟩ := hrep.open_
      have hcell : ∀ j, j < 5 → wr.cell? ⟨g, k * 5 + j, none⟩ = ([Value.int .i64 (v.items[k]).kind, .string (v.items[k]).num, .string (v.items[k]).text, .slice A' (v.items[k]).items.length c', .slice B' (v.items[k]).keys.length d'] : List Value)[j]? := fun j hj => by
        rw [hHOI.cellAt _ (by omega), flat_get HR.out.2.2.2.2.2.2.2.2.2 k j hj, hcs]; rfl
      have hrep1 := hrep.below HR.out.2.1
      have HREP := Lib.hid hrep1; clear hrep hrep1 hcs
      have HREPD : Hid (Rep All wr.drew v.items[k] _) := Lib.hid (Rep.keep (w := wr) (w' := wr.drew) (fun _ h => h) (fun _ _ => rfl) HREP.out)
      have q0 : wr.cell? ⟨g, k * 5, none⟩ = _ := hcell 0 (by omega)
      have q1 := hcell 1 (by omega)
      have q2 := hcell 2 (by omega)
      have q3 := hcell 3 (by omega)
      have q4 := hcell 4 (by omega)
      simp only [List.getElem?_cons_zero, List.getElem?_cons_succ] at q0 q1 q2 q3 q4
      clear hcell
      have HF0 : Hid (∀ o, wr.frozen? ⟨g, o, none⟩ = false) := Lib.hid fun o => hHOI.frozenAt o
      clear hHOI
      have hszV : (v.items[k]).sz ≤ m := by have h1 := Val.sz_item (List.getElem_mem hlt); have h2 := HV.out; omega
      have HSZ := Lib.hid hszV; clear hszV
      have l2 : (0 : Int) ≤ ↑k := by omega
      have l3 : (k : Int) < ↑v.items.length := by omega
      go_wp2_with fail
      go_region_law
        (first
          | (go_simp
             go_at_call 37
             refine (IH.out _ _ wr.drew HSZ.out HREPD.out).mono ?_
             rintro e w1 ⟨r, rfl, ⟨vI', vK', css', rfl, ho1, ho2, ho3⟩, hb⟩
             obtain ⟨AI', cI', rfl⟩ := own_shape ho1
             obtain ⟨AK', cK', rfl⟩ := own_shape ho3
             have z0 := ((bcell hb).1 g (k * 5) hgW).trans q0
             have z1 := ((bcell hb).1 g (k * 5 + 1) hgW).trans q1
             have z2 := ((bcell hb).1 g (k * 5 + 2) hgW).trans q2
             have z3 := ((bcell hb).1 g (k * 5 + 3) hgW).trans q3
             have z4 := ((bcell hb).1 g (k * 5 + 4) hgW).trans q4
             have y0 := ((bcell hb).2 g (k * 5) hgW).trans (HF0.out _)
             have y1 := ((bcell hb).2 g (k * 5 + 1) hgW).trans (HF0.out _)
             have y2 := ((bcell hb).2 g (k * 5 + 2) hgW).trans (HF0.out _)
             have y3 := ((bcell hb).2 g (k * 5 + 3) hgW).trans (HF0.out _)
             have y4 := ((bcell hb).2 g (k * 5 + 4) hgW).trans (HF0.out _)
             have z5 := ((bcell hb).1 w.heap.size 3 hNW).trans q5
             have HST := Lib.hid (HR.out.step HS2.out (fun g hg => (HSK.out g hg).2) hlt HREP.out ho1 ho2 ho3 ⟨hb.os, hb.tape, hb.output, hb.size, hb.block⟩)
             clear ho1 ho2 ho3 hb q0 q1 q2 q3 q4 q5))
      all_goals
        clear z0 z1 z2 z3 z4 y0 y1 y2 y3 y4 z5
        go_wp2_with fail
        refine ⟨⟨k + 1, _, hlt, ?_, HST⟩, ?_⟩
        · simp
        · simp [intOf]; omega
    · obtain rfl : k = v.items.length := by omega
      obtain ⟨h1, h2, h3, h4, h5, h6, h7, _⟩ := HR.out
      have p0 : wr.cell? ⟨w.heap.size, 0, none⟩ = some (.int .i64 v.kind) := (blk_cell h3 0).trans rfl
      have p1 : wr.cell? ⟨w.heap.size, 1, none⟩ = some (.string v.num) := (blk_cell h3 1).trans rfl
      have p2 : wr.cell? ⟨w.heap.size, 2, none⟩ = some (.string v.text) := (blk_cell h3 2).trans rfl
      have p4 : wr.cell? ⟨w.heap.size, 4, none⟩ = some (.slice AK v.keys.length cK) := (blk_cell h3 4).trans rfl
      have r0 : wr.cell? ⟨w.heap.size + 1, 0, none⟩ = some (.int .i64 0) := (blk_cell h4 0).trans rfl
      have r1 : wr.cell? ⟨w.heap.size + 1, 1, none⟩ = some (.string ⟨#[]⟩) := (blk_cell h4 1).trans rfl
      have r2 : wr.cell? ⟨w.heap.size + 1, 2, none⟩ = some (.string ⟨#[]⟩) := (blk_cell h4 2).trans rfl
      have r3 : wr.cell? ⟨w.heap.size + 1, 3, none⟩ = some (.slice none 0 0) := (blk_cell h4 3).trans rfl
      have r4 : wr.cell? ⟨w.heap.size + 1, 4, none⟩ = some (.slice none 0 0) := (blk_cell h4 4).trans rfl
      have f0 := blk_frozen h4 0
      have f1 := blk_frozen h4 1
      have f2 := blk_frozen h4 2
      have f3 := blk_frozen h4 3
      have f4 := blk_frozen h4 4
      have HH2 := Lib.hid h2; clear h2
      have HH5 := Lib.hid h5; clear h5
      have HH6 := Lib.hid h6; clear h6
      have HH7 := Lib.hid h7; clear h7 h3 h4
      go_wp2_with fail
      clear p0 p1 p2 p4 r0 r1 r2 r3 r4 f0 f1 f2 f3 f4 q5
      change bodyPost _ _ _ _ _ (set5 wr (w.heap.size + 1) 0 _ _ _ _ _)
      have e4 : (set5 wr (w.heap.size + 1) 0 (.int .i64 v.kind) (.string v.num) (.string v.text) (.slice AI v.items.length cI) (.slice AK v.keys.length cK)).heap[w.heap.size + 1]? = some (.cells #[.int .i64 v.kind, .string v.num, .string v.text, .slice AI v.items.length cI, .slice AK v.keys.length cK] 25 (0, 0)) :=
        blk_set (blk_set (blk_set (blk_set (blk_set HR.out.2.2.2.1 0 _) 1 _) 2 _) 3 _) 4 _
      have hM := HS2.out
      have hW := HR.out.1
      have c1 : TwinOf w (set5 wr (w.heap.size + 1) 0 (.int .i64 v.kind) (.string v.num) (.string v.text) (.slice AI v.items.length cI) (.slice AK v.keys.length cK)) v (.agg #[.int .i64 v.kind, .string v.num, .string v.text, .slice AI v.items.length cI, .slice AK v.keys.length cK]) := by
        refine ⟨_, _, css, rfl, own_mono (base := W2.heap.size) ?_ (by omega), ?_, own_mono (base := w.heap.size + 2) ?_ (by omega)⟩
        · exact own_set5 HH6.out (by omega)
        · have h7 := HH7.out
          rw [List.take_of_length_le (Nat.le_refl _), List.take_of_length_le (by have := HR.out.2.2.2.2.2.2.2.2.1; omega)] at h7
          exact h7.keep (fun g h => ⟨by have := h.1; omega, h.2⟩) fun g h => set5_heap g (by have := h.1; omega)
        · exact own_set5 HH5.out (by omega)
      have c2 := set5_below (g := w.heap.size + 1) (o := 0) (c0 := .int .i64 v.kind) (c1 := .string v.num) (c2 := .string v.text) (c3 := .slice AI v.items.length cI) (c4 := .slice AK v.keys.length cK) HH2.out (by omega)
      have C1 := Lib.hid c1; clear c1
      have C2 := Lib.hid c2; clear c2
      generalize set5 wr (w.heap.size + 1) 0 (.int .i64 v.kind) (.string v.num) (.string v.text) (.slice AI v.items.length cI) (.slice AK v.keys.length cK) = W5 at *
      have d0 : W5.cell? ⟨w.heap.size + 1, 0, none⟩ = some (.int .i64 v.kind) := (blk_cell e4 0).trans rfl
      have d1 : W5.cell? ⟨w.heap.size + 1, 1, none⟩ = some (.string v.num) := (blk_cell e4 1).trans rfl
      have d2 : W5.cell? ⟨w.heap.size + 1, 2, none⟩ = some (.string v.text) := (blk_cell e4 2).trans rfl
      have d3 : W5.cell? ⟨w.heap.size + 1, 3, none⟩ = some (.slice AI v.items.length cI) := (blk_cell e4 3).trans rfl
      have d4 : W5.cell? ⟨w.heap.size + 1, 4, none⟩ = some (.slice AK v.keys.length cK) := (blk_cell e4 4).trans rfl
      refine bodyPost_ret (v := .agg #[.int .i64 v.kind, .string v.num, .string v.text, .slice AI v.items.length cI, .slice AK v.keys.length cK]) ?_ rfl ⟨_, rfl, C1.out, C2.out⟩
      simp only [results, Tryz.f37]
      go_simp

/-- The whole contract of value.Twin: the same value, in blocks of the call's own. -/
theorem twin_any (v : Val) (cs : List Value) (w : World) (h : Rep All w v cs) :
    Calls Tryz.prog 37 #[.agg cs.toArray] w fun e w' => ∃ cs', e = .returned (.agg cs'.toArray) ∧ Rep (From w.heap.size) w' v cs' ∧ Below w.heap.size w w' := by
  refine (twin_all v.sz v cs w (Nat.le_refl _) h).mono ?_
  rintro e w' ⟨r, rfl, ⟨vI, vK, css, rfl, h1, h2, h3⟩, hb⟩
  obtain ⟨A, c, B, d, rfl, hn, ht, hi, hk⟩ := h.open_
  obtain ⟨Ax, cx, rfl, hV⟩ := own_VSl (S' := From w.heap.size) h1 h2 hi.2.2.1 (fun _ h => h.1) (fun g hg => (h1.lt g hg).1)
  obtain ⟨Ay, cy, rfl, hS⟩ := own_SSl (S := From w.heap.size) h3 hk.2.2.1 hk.2.2.2.1 (fun g hg => (h3.lt g hg).1)
  exact ⟨_, rfl, Rep.mk_ hn ht hV hS, hb⟩
end Go.Proofs.YtojkmemkmcnlnaaGreatDoor
