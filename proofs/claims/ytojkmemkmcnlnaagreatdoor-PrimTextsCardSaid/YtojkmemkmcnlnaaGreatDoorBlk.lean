/- Whole variables read and written as blocks. No program in sight. -/
import Derived.Test.YtojkmemkmcnlnaaGreatDoorOwn
import Derived.Laws.Rows
import Derived.Deep.MidRow
import Derived.Deep.Draws
namespace Go.Proofs.YtojkmemkmcnlnaaGreatDoor
open Go.RowKit

theorem Rep.drew {S : Nat → Prop} {w : World} {v : Val} {cs : List Value} (h : Rep S w v cs) : Rep S w.drew v cs := Rep.keep (w := w) (w' := w.drew) (fun _ h => h) (fun _ _ => rfl) h
theorem VSl.drew {S : Nat → Prop} {w : World} {is : List Val} {A : Option Addr} {c : Nat} (h : VSl S w is A c) : VSl S w.drew is A c := VSl.keep (w := w) (w' := w.drew) h (fun _ h => h) (fun _ _ => rfl)
theorem SSl.drew {S : Nat → Prop} {w : World} {is : List ByteArray} {A : Option Addr} {c : Nat} (h : SSl S w is A c) : SSl S w.drew is A c := SSl.keep (w := w) (w' := w.drew) h (fun _ h => h) (fun _ _ => rfl)
/-- A value without lists leads nowhere. -/
theorem Rep.bare {S S' : Nat → Prop} {w w' : World} {v : Val} {cs : List Value} (h : Rep S w v cs) (hi : v.items = []) (hk : v.keys = []) : Rep S' w' v cs := by
  obtain ⟨A, c, B, d, rfl, hn, ht, ⟨i1, i2, i3, i4⟩, k1, k2, k3, k4, k5⟩ := h.open_
  exact Rep.mk_ hn ht ⟨i1, i2, i3, by rw [hi]; simp only [Its]⟩ ⟨k1, k2, k3, k4, fun hne => absurd hk hne⟩
/-- Nothing but block g has been written, and nothing made. -/
structure Only (g : Nat) (w w' : World) : Prop where
  below : Below g w w'
  size : w'.heap.size = w.heap.size
  rest : ∀ i, i ≠ g → w'.heap[i]? = w.heap[i]?
theorem Only.refl (g : Nat) (w : World) : Only g w w := ⟨Below.refl _ _, rfl, fun _ _ => rfl⟩
theorem Only.trans {g : Nat} {a b c : World} (h : Only g a b) (k : Only g b c) : Only g a c := ⟨h.below.trans k.below, k.size.trans h.size, fun i hi => (k.rest i hi).trans (h.rest i hi)⟩
theorem only_setCell (w : World) (g o : Nat) (v : Value) : Only g w (w.setCell ⟨g, o, none⟩ v) :=
  ⟨(Below.refl g w).setCell (p := ⟨g, o, none⟩) (Nat.le_refl _) v, by simp, fun i hi => Below.heap_setCell _ _ _ _ hi⟩
theorem Only.from {g N : Nat} {w w' a : World} (h : Only g w w') (hb : Below N a w) (hN : N ≤ g) : Below N a w' := hb.trans (h.below.mono hN)

theorem setCells_blk {t : TypeId} {g : Nat} : ∀ (vs : List Value) (o : Nat) (cs : Array Value) (w : World), w.heap[g]? = some (.cells cs t (0, 0)) →
    ∃ cs', (w.setCells g o vs).heap[g]? = some (.cells cs' t (0, 0)) ∧ cs'.size = cs.size ∧ (∀ j, j < o → cs'[j]? = cs[j]?) ∧ (∀ j, j < vs.length → o + j < cs.size → cs'[o + j]? = vs[j]?) ∧ Only g w (w.setCells g o vs)
  | [], o, cs, w, h => ⟨cs, h, rfl, fun _ _ => rfl, fun j hj => by simp at hj, Only.refl _ _⟩
  | v :: vs, o, cs, w, h => by
    obtain ⟨cs', h1, h2, h3, h4, h5⟩ := setCells_blk vs (o + 1) _ _ (blk_set h o v)
    refine ⟨cs', h1, by rw [h2]; simp, fun j hj => ?_, fun j hj hc => ?_, (only_setCell w g o v).trans h5⟩
    · rw [h3 j (by omega), Array.getElem?_setIfInBounds_ne (by omega)]
    · cases j with
      | zero =>
        rw [h3 (o + 0) (by omega)]
        simp only [Nat.add_zero] at hc ⊢
        rw [Array.getElem?_setIfInBounds_self_of_lt hc]
        rfl
      | succ j =>
        have := h4 j (by simpa using hj) (by simp; omega)
        rw [show o + (j + 1) = o + 1 + j by omega, this]
        rfl
/-- The whole block is written anew. -/
theorem setCells_whole {t : TypeId} {g : Nat} {cs vs : Array Value} {w : World} (h : w.heap[g]? = some (.cells cs t (0, 0))) (hs : vs.size = cs.size) :
    (w.setCells g 0 vs.toList).heap[g]? = some (.cells vs t (0, 0)) ∧ Only g w (w.setCells g 0 vs.toList) := by
  obtain ⟨cs', h1, h2, _, h4, h5⟩ := setCells_blk vs.toList 0 cs w h
  have e : cs' = vs := by
    apply Array.ext_getElem?
    intro j
    rcases Nat.lt_or_ge j vs.size with hj | hj
    · have := h4 j (by simpa using hj) (by omega)
      rw [Nat.zero_add] at this
      rw [this]
      simp
    · rw [Array.getElem?_eq_none (by omega), Array.getElem?_eq_none hj]
  exact ⟨e ▸ h1, h5⟩
theorem there_blk {t : TypeId} {g n : Nat} {cs : Array Value} {w : World} (h : w.heap[g]? = some (.cells cs t (0, 0))) (hn : n ≤ cs.size) : w.there g 0 n := fun j hj => by
  rw [Nat.zero_add]
  exact ⟨by rw [blk_cell h, Array.getElem?_eq_getElem (by omega)]; rfl, blk_frozen h j⟩

theorem set5_blk {t : TypeId} {g : Nat} {cs : Array Value} {w : World} (h : w.heap[g]? = some (.cells cs t (0, 0))) (hs : cs.size = 5) (c0 c1 c2 c3 c4 : Value) :
    (set5 w g 0 c0 c1 c2 c3 c4).heap[g]? = some (.cells #[c0, c1, c2, c3, c4] t (0, 0)) ∧ Only g w (set5 w g 0 c0 c1 c2 c3 c4) :=
  setCells_whole (vs := #[c0, c1, c2, c3, c4]) h (by rw [hs]; rfl)
/-- A block that holds rows of cells reads as a list of values. -/
theorem VSl.of_blk {S : Nat → Prop} {w : World} {is : List Val} {css : List (List Value)} {g : Nat} {t : TypeId} {cs : Array Value} (hg : w.heap[g]? = some (.cells cs t (0, 0))) (e : css.flatten = cs.toList) (hc : C5 S w is css) (hS : S g) (hl : is.length * 88 ≤ 140737488355328) :
    VSl S w is (some ⟨g, 0, none⟩) is.length := by
  refine ⟨Nat.le_refl _, by omega, hl, Its.of_get hS fun i x hi => ?_⟩
  obtain ⟨ds, e1, hr⟩ := hc.2 i x hi
  refine ⟨ds, hr, fun j u hj => ?_⟩
  have hj5 : j < 5 := by have := hr.length; have := (List.getElem?_eq_some_iff.1 hj).1; omega
  rw [blk_cell hg, Nat.zero_add, ← Array.getElem?_toList, ← e, flat_get hc.five i j hj5, e1]
  exact hj
theorem C5.two {S : Nat → Prop} {w : World} {a b : Val} {ca cb : List Value} (ha : Rep S w a ca) (hb : Rep S w b cb) : C5 S w [a, b] [ca, cb] := ((C5.nil S w).snoc ha).snoc hb
theorem C5.one_ {S : Nat → Prop} {w : World} {a : Val} {ca : List Value} (ha : Rep S w a ca) : C5 S w [a] [ca] := (C5.nil S w).snoc ha
theorem blk_new2 (w : World) (A B : Obj) : ((w.alloc A).alloc B).heap[w.heap.size + 1]? = some B := heap_alloc2_new w A B
theorem blk_new3 (w : World) (A B C : Obj) : (((w.alloc A).alloc B).alloc C).heap[w.heap.size + 1 + 1]? = some C := by have := blk_new ((w.alloc A).alloc B) C; simpa using this
theorem blk_new4 (w : World) (A B C D : Obj) : ((((w.alloc A).alloc B).alloc C).alloc D).heap[w.heap.size + 1 + 1 + 1]? = some D := by have := blk_new (((w.alloc A).alloc B).alloc C) D; simpa using this
theorem blk_new5 (w : World) (A B C D E : Obj) : (((((w.alloc A).alloc B).alloc C).alloc D).alloc E).heap[w.heap.size + 1 + 1 + 1 + 1]? = some E := by have := blk_new ((((w.alloc A).alloc B).alloc C).alloc D) E; simpa using this
section
variable {P : Program}
theorem wpList_store_blk {ops : Array Oper} {rest : List Oper} {op : Oper} {a : Act} {w : World} {Q : Exit → Act → World → Prop} (hgd : op.guard = none) (ty : TypeId) (x y : Operand) (ho : op.op = .store ty x y)
    (g : Nat) (cs vs : Array Value) (t : TypeId) (hx : a.eval x = .pointer (some ⟨g, 0, none⟩)) (hy : a.eval y = .agg vs) (hg : w.heap[g]? = some (.cells cs t (0, 0))) (hs : vs.size = cs.size) (hi : (P.info? ty).map (·.size) = some vs.size) (h1 : vs.all (·.oneCell') = true)
    (h : ∀ w', w'.heap[g]? = some (.cells vs t (0, 0)) → Only g w w' → wpList P ops Q rest (a.put op.dst undef) w') : wpList P ops Q (op :: rest) a w :=
  have k := setCells_whole hg hs
  wpList_store_mid hgd ty x y ho g 0 vs hx hy (there_blk hg (by omega)) hi h1 (h _ k.1 k.2)
theorem wp_store_blk {op : Oper} {a : Act} {w : World} {K : Act → World → Prop} {Q : Exit → Act → World → Prop} (ty : TypeId) (x y : Operand) (ho : op.op = .store ty x y)
    (g : Nat) (cs vs : Array Value) (t : TypeId) (hx : a.eval x = .pointer (some ⟨g, 0, none⟩)) (hy : a.eval y = .agg vs) (hg : w.heap[g]? = some (.cells cs t (0, 0))) (hs : vs.size = cs.size) (hi : (P.info? ty).map (·.size) = some vs.size) (h1 : vs.all (·.oneCell') = true)
    (h : ∀ w', w'.heap[g]? = some (.cells vs t (0, 0)) → Only g w w' → K (a.put op.dst undef) w') : op.wp P a w K Q :=
  have k := setCells_whole hg hs
  wp_store_mid ty x y ho g 0 vs hx hy (there_blk hg (by omega)) hi h1 (h _ k.1 k.2)
/-- Two variables and a slot are handed back. -/
theorem results_cct {fn : Func} {p q r : Tmp} {ty ty' : TypeId} (h : fn.results = #[.cell p ty, .cell q ty', .tmp r]) (tmps : Array Value) (w : World) (g g' : Nat) (t t' : TypeId) (cs cs' : Array Value) (d d' : TypeDesc)
    (hp : tmps.getD p undef = .pointer (some ⟨g, 0, none⟩)) (hq : tmps.getD q undef = .pointer (some ⟨g', 0, none⟩)) (hg : w.heap[g]? = some (.cells cs t (0, 0))) (hg' : w.heap[g']? = some (.cells cs' t' (0, 0)))
    (hu : P.underlying ty = some d) (hd : (match d with | .struct _ | .array _ _ => true | _ => false) = true) (hi : (P.info? ty).map (·.size) = some cs.size)
    (hu' : P.underlying ty' = some d') (hd' : (match d' with | .struct _ | .array _ _ => true | _ => false) = true) (hi' : (P.info? ty').map (·.size) = some cs'.size) :
    (results fn tmps).run P w = .ok (.tuple #[.agg cs, .agg cs', tmps.getD r undef]) w := by
  have hp' : tmps[p]?.getD undef = .pointer (some ⟨g, 0, none⟩) := by simpa using hp
  have hq' : tmps[q]?.getD undef = .pointer (some ⟨g', 0, none⟩) := by simpa using hq
  simp [results, h, hp', hq', asAddr, run_loadVar_row w g t ty cs (0, 0) d hg hu hd hi, run_loadVar_row w g' t' ty' cs' (0, 0) d' hg' hu' hd' hi']
/-- A variable and a slot. -/
theorem results_ct {fn : Func} {p r : Tmp} {ty : TypeId} (h : fn.results = #[.cell p ty, .tmp r]) (tmps : Array Value) (w : World) (g : Nat) (t : TypeId) (cs : Array Value) (d : TypeDesc)
    (hp : tmps.getD p undef = .pointer (some ⟨g, 0, none⟩)) (hg : w.heap[g]? = some (.cells cs t (0, 0)))
    (hu : P.underlying ty = some d) (hd : (match d with | .struct _ | .array _ _ => true | _ => false) = true) (hi : (P.info? ty).map (·.size) = some cs.size) :
    (results fn tmps).run P w = .ok (.tuple #[.agg cs, tmps.getD r undef]) w := by
  have hp' : tmps[p]?.getD undef = .pointer (some ⟨g, 0, none⟩) := by simpa using hp
  simp [results, h, hp', asAddr, run_loadVar_row w g t ty cs (0, 0) d hg hu hd hi]
end
end Go.Proofs.YtojkmemkmcnlnaaGreatDoor
