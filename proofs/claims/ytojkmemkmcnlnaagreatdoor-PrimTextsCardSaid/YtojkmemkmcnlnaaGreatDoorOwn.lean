/- Slices of values that a call has made itself: as rows of five cells an item. -/
import Derived.Test.YtojkmemkmcnlnaaGreatDoorBase
import Derived.Maps.AppendAt
namespace Go.Proofs.YtojkmemkmcnlnaaGreatDoor
open Go.RowKit

/-- Rows of cells that are the items of a list. -/
def C5 (S : Nat → Prop) (w : World) (is : List Val) (css : List (List Value)) : Prop := css.length = is.length ∧ ∀ (i : Nat) (x : Val), is[i]? = some x → ∃ cs, css[i]? = some cs ∧ Rep S w x cs

theorem flat_len : ∀ {css : List (List Value)}, (∀ cs ∈ css, cs.length = 5) → css.flatten.length = css.length * 5
  | [], _ => rfl
  | c :: css, h => by
    have := flat_len (css := css) fun cs hc => h cs (by simp [hc])
    have := h c (by simp)
    simp only [List.flatten_cons, List.length_append, List.length_cons]; omega
theorem flat_get : ∀ {css : List (List Value)}, (∀ cs ∈ css, cs.length = 5) → ∀ (i r : Nat), r < 5 → css.flatten[i * 5 + r]? = (css[i]?).bind (·[r]?)
  | [], _, i, r, _ => by simp
  | c :: css, h, i, r, hr => by
    have h5 := h c (by simp)
    rw [List.flatten_cons]
    cases i with
    | zero =>
      rw [List.getElem?_append_left (by omega)]
      simp
    | succ i =>
      rw [List.getElem?_append_right (by omega), show (i + 1) * 5 + r - c.length = i * 5 + r by omega, flat_get (fun cs hc => h cs (by simp [hc])) i r hr]
      simp
theorem flat_mem {css : List (List Value)} {u : Value} (h : u ∈ css.flatten) : ∃ cs ∈ css, u ∈ cs := by simpa using h

section
variable {S S' : Nat → Prop} {w w' : World} {is : List Val} {css : List (List Value)}
theorem Rep.one {v : Val} {cs : List Value} (h : Rep S w v cs) : ∀ u ∈ cs, u.oneCell' = true := by
  obtain ⟨A, c, B, d, rfl, _⟩ := h.open_
  simp [Value.oneCell']
theorem C5.mem (h : C5 S w is css) {cs : List Value} (hc : cs ∈ css) : ∃ x ∈ is, Rep S w x cs := by
  obtain ⟨i, hi, e⟩ := List.getElem_of_mem hc
  have hil : i < is.length := by have := h.1; omega
  obtain ⟨cs', e', hr⟩ := h.2 i is[i] (List.getElem?_eq_getElem hil)
  rw [List.getElem?_eq_getElem hi, e] at e'
  obtain rfl : cs = cs' := by simpa using e'
  exact ⟨is[i], List.getElem_mem _, hr⟩
theorem C5.five (h : C5 S w is css) : ∀ cs ∈ css, cs.length = 5 := fun cs hc => by
  obtain ⟨x, _, hr⟩ := h.mem hc
  exact hr.length
theorem C5.one (h : C5 S w is css) : ∀ u ∈ css.flatten, u.oneCell' = true := fun u hu => by
  obtain ⟨cs, hc, huc⟩ := flat_mem hu
  obtain ⟨x, _, hr⟩ := h.mem hc
  exact hr.one u huc
theorem C5.len (h : C5 S w is css) : css.flatten.length = is.length * 5 := by rw [flat_len h.five, h.1]
theorem C5.keep (h : C5 S w is css) (hS : ∀ g, S g → S' g) (hk : ∀ g, S g → w'.heap[g]? = w.heap[g]?) : C5 S' w' is css :=
  ⟨h.1, fun i x hi => let ⟨cs, e, hr⟩ := h.2 i x hi; ⟨cs, e, hr.keep hS hk⟩⟩
theorem C5.below (h : C5 S w is css) (hb : Below w.heap.size w w') : C5 S w' is css :=
  ⟨h.1, fun i x hi => let ⟨cs, e, hr⟩ := h.2 i x hi; ⟨cs, e, hr.below hb⟩⟩
theorem C5.nil (S : Nat → Prop) (w : World) : C5 S w [] [] := ⟨rfl, fun i x hi => by simp at hi⟩
theorem C5.snoc (h : C5 S w is css) {x : Val} {cs : List Value} (hr : Rep S w x cs) : C5 S w (is ++ [x]) (css ++ [cs]) := by
  refine ⟨by simp [h.1], fun i y hi => ?_⟩
  rcases Nat.lt_or_ge i is.length with hlt | hge
  · rw [List.getElem?_append_left hlt] at hi
    obtain ⟨cs', e, hr'⟩ := h.2 i y hi
    exact ⟨cs', by rw [List.getElem?_append_left (by rw [h.1]; exact hlt)]; exact e, hr'⟩
  · rw [List.getElem?_append_right hge] at hi
    have h0 : i - is.length = 0 := by
      rcases Nat.eq_zero_or_pos (i - is.length) with h0 | h0
      · exact h0
      · rw [List.getElem?_eq_none (by simp; omega)] at hi; cases hi
    rw [h0] at hi
    obtain rfl : x = y := by simpa using hi
    exact ⟨cs, by rw [List.getElem?_append_right (by rw [h.1]; exact hge), h.1, h0]; rfl, hr⟩
theorem C5.append {js : List Val} {dss : List (List Value)} (h : C5 S w is css) (k : C5 S w js dss) : C5 S w (is ++ js) (css ++ dss) := by
  refine ⟨by simp [h.1, k.1], fun i y hi => ?_⟩
  rcases Nat.lt_or_ge i is.length with hlt | hge
  · rw [List.getElem?_append_left hlt] at hi
    obtain ⟨cs', e, hr'⟩ := h.2 i y hi
    exact ⟨cs', by rw [List.getElem?_append_left (by rw [h.1]; exact hlt)]; exact e, hr'⟩
  · rw [List.getElem?_append_right hge] at hi
    obtain ⟨cs', e, hr'⟩ := k.2 _ y hi
    exact ⟨cs', by rw [List.getElem?_append_right (by rw [h.1]; exact hge), h.1]; exact e, hr'⟩
theorem C5.set_ (h : C5 S w is css) {k : Nat} {x : Val} {cs : List Value} (hr : Rep S w x cs) : C5 S w (is.set k x) (css.set k cs) := by
  refine ⟨by simp [h.1], fun i y hi => ?_⟩
  by_cases e : k = i
  · subst e
    rw [List.getElem?_set] at hi
    simp only [if_true] at hi
    split at hi
    · rename_i hl
      obtain rfl : x = y := by simpa using hi
      exact ⟨cs, by rw [List.getElem?_set]; simp [h.1, hl], hr⟩
    · cases hi
  · rw [List.getElem?_set_ne e] at hi
    obtain ⟨cs', e', hr'⟩ := h.2 i y hi
    exact ⟨cs', by rw [List.getElem?_set_ne e]; exact e', hr'⟩
theorem C5.take (h : C5 S w is css) (k : Nat) : C5 S w (is.take k) (css.take k) := by
  refine ⟨by simp [h.1], fun i y hi => ?_⟩
  rw [List.getElem?_take] at hi
  split at hi
  · rename_i hlt
    obtain ⟨cs', e', hr'⟩ := h.2 i y hi
    exact ⟨cs', by rw [List.getElem?_take, if_pos hlt]; exact e', hr'⟩
  · cases hi
theorem C5.drop (h : C5 S w is css) (k : Nat) : C5 S w (is.drop k) (css.drop k) := by
  refine ⟨by simp [h.1], fun i y hi => ?_⟩
  rw [List.getElem?_drop] at hi
  obtain ⟨cs', e', hr'⟩ := h.2 _ y hi
  exact ⟨cs', by rw [List.getElem?_drop]; exact e', hr'⟩

/-- What a slice that came in holds, as rows of cells. -/
theorem VSl.cells {A : Option Addr} {c : Nat} (h : VSl S w is A c) : ∃ css, C5 S w is css ∧ (is ≠ [] → ∃ g o, A = some ⟨g, o, none⟩ ∧ S g ∧ ∀ j u, css.flatten[j]? = some u → w.cell? ⟨g, o + j, none⟩ = some u) := by
  have hI := h.2.2.2
  clear h
  induction is generalizing A with
  | nil => exact ⟨[], C5.nil _ _, fun h => absurd rfl h⟩
  | cons x xs ih =>
    simp only [Its] at hI
    obtain ⟨g, o, cs, rfl, hs, hr, hc, hx⟩ := hI
    obtain ⟨css, hcss, hcells⟩ := ih hx
    refine ⟨cs :: css, ?_, fun _ => ⟨g, o, rfl, hs, fun j u hj => ?_⟩⟩
    · refine ⟨by simp [hcss.1], fun i y hi => ?_⟩
      cases i with
      | zero => obtain rfl : x = y := by simpa using hi
                exact ⟨cs, rfl, hr⟩
      | succ i => simpa using hcss.2 i y (by simpa using hi)
    · rw [List.flatten_cons] at hj
      rcases Nat.lt_or_ge j cs.length with hlt | hge
      · rw [List.getElem?_append_left hlt] at hj
        exact hc j u hj
      · rw [List.getElem?_append_right hge, hr.length] at hj
        have h5 := hr.length
        have hne : xs ≠ [] := by
          rintro rfl
          have h0 := hcss.1
          simp at h0
          subst h0
          simp at hj
        obtain ⟨g', o', e', _, hcc⟩ := hcells hne
        simp only [Option.some.injEq, Addr.mk.injEq, and_true] at e'
        obtain ⟨rfl, rfl⟩ := e'
        have := hcc _ u hj
        rwa [show o + 5 + (j - 5) = o + j by omega] at this

/-- A row of the call's own reads as a slice of values. -/
theorem own_VSl {base e : Nat} {v : Value} (h : w.ownsRow base e 5 v is.length css.flatten) (hc : C5 S w is css) (hb : is.length * 88 ≤ 140737488355328) (hS : ∀ g, S g → S' g) (hv : ∀ g, v.ownBlock = some g → S' g) :
    ∃ A c, v = .slice A is.length c ∧ VSl S' w is A c := by
  rcases h.2 with ⟨rfl, h0⟩ | ⟨g, cap, cur, rfl, _, hg, hnc, hm, _, _⟩
  · obtain rfl : is = [] := List.eq_nil_of_length_eq_zero h0
    exact ⟨none, 0, rfl, VSl.nil _ _ _ _ (by omega)⟩
  · refine ⟨_, cap, rfl, hnc, hm, hb, Its.of_get (hv g rfl) fun i x hi => ?_⟩
    obtain ⟨cs, e, hr⟩ := hc.2 i x hi
    refine ⟨cs, hr.wide hS, fun j u hj => ?_⟩
    have hl : i < is.length := (List.getElem?_eq_some_iff.1 hi).1
    have hj5 : j < 5 := by have := hr.length; have := (List.getElem?_eq_some_iff.1 hj).1; omega
    rw [Nat.zero_add, h.cellAt _ (by omega), flat_get hc.five i j hj5, e]
    exact hj
/-- Five stores into a row of the call's own. -/
theorem own_set {base e g cap n : Nat} {k : Nat} {c0 c1 c2 c3 c4 : Value} (h : w.ownsRow base e 5 (.slice (some ⟨g, 0, none⟩) n cap) n css.flatten) (hn : css.length = n) (hc5 : ∀ cs ∈ css, cs.length = 5) (hk : k < n) :
    (((((w.setCell ⟨g, k * 5, none⟩ c0).setCell ⟨g, k * 5 + 1, none⟩ c1).setCell ⟨g, k * 5 + 2, none⟩ c2).setCell ⟨g, k * 5 + 3, none⟩ c3).setCell ⟨g, k * 5 + 4, none⟩ c4).ownsRow base e 5 (.slice (some ⟨g, 0, none⟩) n cap) n (css.set k [c0, c1, c2, c3, c4]).flatten ∧
    w.grownBy (((((w.setCell ⟨g, k * 5, none⟩ c0).setCell ⟨g, k * 5 + 1, none⟩ c1).setCell ⟨g, k * 5 + 2, none⟩ c2).setCell ⟨g, k * 5 + 3, none⟩ c3).setCell ⟨g, k * 5 + 4, none⟩ c4) (some g) := by
  obtain ⟨h0, g0⟩ := h.stored (k * 5) c0
  obtain ⟨h1, g1⟩ := h0.stored (k * 5 + 1) c1
  obtain ⟨h2, g2⟩ := h1.stored (k * 5 + 2) c2
  obtain ⟨h3, g3⟩ := h2.stored (k * 5 + 3) c3
  obtain ⟨h4, g4⟩ := h3.stored (k * 5 + 4) c4
  have e : (((((css.flatten.set (k * 5) c0).set (k * 5 + 1) c1).set (k * 5 + 2) c2).set (k * 5 + 3) c3).set (k * 5 + 4) c4) = (css.set k [c0, c1, c2, c3, c4]).flatten := by
    have h5 : ∀ cs ∈ css.set k [c0, c1, c2, c3, c4], cs.length = 5 := fun cs hcs => by
      rcases List.mem_or_eq_of_mem_set hcs with h | rfl
      · exact hc5 cs h
      · rfl
    have hck : k < css.length := by rw [hn]; exact hk
    apply List.ext_getElem?
    intro j
    obtain ⟨i, r, hr, rfl⟩ : ∃ i r, r < 5 ∧ j = i * 5 + r := ⟨j / 5, j % 5, by omega, by omega⟩
    rw [flat_get h5 i r hr]
    have hl2 : css.flatten.length = css.length * 5 := flat_len hc5
    by_cases hik : k = i
    · subst hik
      have hrc : r = 0 ∨ r = 1 ∨ r = 2 ∨ r = 3 ∨ r = 4 := by omega
      have e2 : ((css.set k [c0, c1, c2, c3, c4])[k]?).bind (·[r]?) = [c0, c1, c2, c3, c4][r]? := by rw [List.getElem?_set]; simp [hck]
      rw [e2]
      generalize css.flatten = F at hl2
      rcases hrc with rfl | rfl | rfl | rfl | rfl <;> simp [List.getElem?_set] <;> omega
    · rw [List.getElem?_set_ne hik, ← flat_get hc5 i r hr]
      rw [List.getElem?_set_ne (by omega), List.getElem?_set_ne (by omega), List.getElem?_set_ne (by omega), List.getElem?_set_ne (by omega), List.getElem?_set_ne (by omega)]
  rw [e] at h4
  exact ⟨h4, (((g0.trans g1).trans g2).trans g3).trans g4⟩
end
theorem own_shape {w : World} {base e size n : Nat} {v : Value} {xs : List Value} (h : w.ownsRow base e size v n xs) : ∃ A c, v = .slice A n c := by
  rcases h.2 with ⟨rfl, rfl⟩ | ⟨g, cap, cur, rfl, _⟩
  · exact ⟨none, 0, rfl⟩
  · exact ⟨_, cap, rfl⟩
theorem own_mono {w : World} {base base' e size n : Nat} {v : Value} {xs : List Value} (h : w.ownsRow base e size v n xs) (hb : base' ≤ base) : w.ownsRow base' e size v n xs := by
  refine ⟨h.1, ?_⟩
  rcases h.2 with h0 | ⟨g, cap, cur, e, h1, h2⟩
  · exact .inl h0
  · exact .inr ⟨g, cap, cur, e, Nat.le_trans hb h1, h2⟩
theorem own_below {w w1 : World} {base e size n : Nat} {v : Value} {xs : List Value} (h : w.ownsRow base e size v n xs) (hb : Below w.heap.size w w1) : w1.ownsRow base e size v n xs :=
  h.kept (row := none) ⟨hb.os, hb.tape, hb.output, hb.size, fun i hi _ => hb.block i hi⟩ (by cases v.ownBlock <;> simp)
/-- Five stores into one block. -/
def set5 (w : World) (g o : Nat) (c0 c1 c2 c3 c4 : Value) : World := ((((w.setCell ⟨g, o, none⟩ c0).setCell ⟨g, o + 1, none⟩ c1).setCell ⟨g, o + 2, none⟩ c2).setCell ⟨g, o + 3, none⟩ c3).setCell ⟨g, o + 4, none⟩ c4
theorem set5_heap {w : World} {g o : Nat} {c0 c1 c2 c3 c4 : Value} (i : Nat) (h : i ≠ g) : (set5 w g o c0 c1 c2 c3 c4).heap[i]? = w.heap[i]? := by
  unfold set5
  rw [Below.heap_setCell _ _ _ _ (by exact h), Below.heap_setCell _ _ _ _ (by exact h), Below.heap_setCell _ _ _ _ (by exact h), Below.heap_setCell _ _ _ _ (by exact h), Below.heap_setCell _ _ _ _ (by exact h)]
theorem set5_size {w : World} {g o : Nat} {c0 c1 c2 c3 c4 : Value} : (set5 w g o c0 c1 c2 c3 c4).heap.size = w.heap.size := by simp [set5]
theorem set5_below {N : Nat} {w' w : World} {g o : Nat} {c0 c1 c2 c3 c4 : Value} (h : Below N w' w) (hg : N ≤ g) : Below N w' (set5 w g o c0 c1 c2 c3 c4) :=
  ((((h.setCell (p := ⟨g, o, none⟩) hg _).setCell (p := ⟨g, o + 1, none⟩) hg _).setCell (p := ⟨g, o + 2, none⟩) hg _).setCell (p := ⟨g, o + 3, none⟩) hg _).setCell (p := ⟨g, o + 4, none⟩) hg _
/-- A row of texts of the call's own reads as a slice of texts. -/
theorem own_SSl {S : Nat → Prop} {w : World} {base e : Nat} {v : Value} {ks : List ByteArray} (h : w.ownsRow base e 1 v ks.length (ks.map Value.string)) (hb : ks.length * 16 ≤ 140737488355328) (hs : ∀ s ∈ ks, s.size ≤ 140737488355328) (hv : ∀ g, v.ownBlock = some g → S g) :
    ∃ A c, v = .slice A ks.length c ∧ SSl S w ks A c := by
  rcases h.2 with ⟨rfl, h0⟩ | ⟨g, cap, cur, rfl, _, hg, hnc, hm, _, _⟩
  · obtain rfl : ks = [] := List.eq_nil_of_length_eq_zero h0
    exact ⟨none, 0, rfl, SSl.nil _ _ _ _ (by omega)⟩
  · refine ⟨_, cap, rfl, hnc, hm, hb, hs, fun hne => ⟨g, 0, rfl, hv g rfl, fun i s hi => ?_⟩⟩
    have hl : i < ks.length := (List.getElem?_eq_some_iff.1 hi).1
    rw [Nat.zero_add, h.cellAt _ (by omega), List.getElem?_map, hi]
    rfl
end Go.Proofs.YtojkmemkmcnlnaaGreatDoor
