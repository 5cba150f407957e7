/- Values of the program as a Lean type, and what it means that cells of memory hold one. Plain definitions and lemmas: no program in sight. -/
import Derived.Below
import Derived.Deep.Draws
import Derived.Laws.OwnMore
import Derived.Maps.AppendAt
import Derived.Lib.Hide
import Derived.WalkKit
set_option linter.unusedVariables false
namespace Go.Proofs.YtojkmemkmcnlnaaGreatDoor
open Go.RowKit

inductive Val where
  | mk (kind : Int) (num text : ByteArray) (items : List Val) (keys : List ByteArray)

namespace Val
def kind : Val → Int | .mk k _ _ _ _ => k
def num : Val → ByteArray | .mk _ n _ _ _ => n
def text : Val → ByteArray | .mk _ _ t _ _ => t
def items : Val → List Val | .mk _ _ _ is _ => is
def keys : Val → List ByteArray | .mk _ _ _ _ ks => ks
def zero : Val := .mk 0 ⟨#[]⟩ ⟨#[]⟩ [] []
mutual
def sz : Val → Nat | .mk _ _ _ is _ => 1 + szs is
def szs : List Val → Nat | [] => 0 | x :: xs => sz x + szs xs
end
theorem sz_mem {x : Val} : ∀ {xs : List Val}, x ∈ xs → sz x ≤ szs xs
  | y :: ys, h => by
    rcases List.mem_cons.1 h with rfl | h
    · simp [szs]
    · have := sz_mem h
      simp [szs]; omega
theorem sz_item {v x : Val} (h : x ∈ v.items) : sz x < sz v := by
  cases v with
  | mk k n t is ks =>
    have := sz_mem h
    simp only [items] at this
    simp only [sz]
    omega
theorem eta (v : Val) : v = .mk v.kind v.num v.text v.items v.keys := by cases v; rfl
end Val

/-- Cells one behind the other. -/
def CellsAt (w : World) (g o : Nat) (cs : List Value) : Prop := ∀ j v, cs[j]? = some v → w.cell? ⟨g, o + j, none⟩ = some v

/-- A list of texts in memory, in blocks of S alone. -/
def Strs (S : Nat → Prop) (w : World) (ks : List ByteArray) (A : Option Addr) : Prop :=
  ks ≠ [] → ∃ g o, A = some ⟨g, o, none⟩ ∧ S g ∧ ∀ i s, ks[i]? = some s → w.cell? ⟨g, o + i, none⟩ = some (.string s)

mutual
/-- Five cells that are a value; what they lead to lies in blocks of S. -/
def Rep (S : Nat → Prop) (w : World) : Val → List Value → Prop
  | .mk k n t is ks, cs => ∃ A c B d, cs = [.int .i64 k, .string n, .string t, .slice A is.length c, .slice B ks.length d] ∧
      n.size ≤ 140737488355328 ∧ t.size ≤ 140737488355328 ∧
      (is.length ≤ c ∧ c ≤ 9223372036854775807 ∧ is.length * 88 ≤ 140737488355328 ∧ Its S w is A) ∧
      (ks.length ≤ d ∧ d ≤ 9223372036854775807 ∧ ks.length * 16 ≤ 140737488355328 ∧ (∀ s ∈ ks, s.size ≤ 140737488355328) ∧ Strs S w ks B)
/-- A list of values in memory. -/
def Its (S : Nat → Prop) (w : World) : List Val → Option Addr → Prop
  | [], _ => True
  | x :: xs, A => ∃ g o cs, A = some ⟨g, o, none⟩ ∧ S g ∧ Rep S w x cs ∧ CellsAt w g o cs ∧ Its S w xs (some ⟨g, o + 5, none⟩)
end

/-- A slice of values: address, capacity. -/
def VSl (S : Nat → Prop) (w : World) (is : List Val) (A : Option Addr) (c : Nat) : Prop :=
  is.length ≤ c ∧ c ≤ 9223372036854775807 ∧ is.length * 88 ≤ 140737488355328 ∧ Its S w is A
/-- A slice of texts. -/
def SSl (S : Nat → Prop) (w : World) (ks : List ByteArray) (B : Option Addr) (d : Nat) : Prop :=
  ks.length ≤ d ∧ d ≤ 9223372036854775807 ∧ ks.length * 16 ≤ 140737488355328 ∧ (∀ s ∈ ks, s.size ≤ 140737488355328) ∧ Strs S w ks B

def All : Nat → Prop := fun _ => True
def From (b : Nat) : Nat → Prop := fun g => b ≤ g

section
variable {S S' : Nat → Prop} {w w' : World}

theorem Rep.open_ {v : Val} {cs : List Value} (h : Rep S w v cs) : ∃ A c B d, cs = [.int .i64 v.kind, .string v.num, .string v.text, .slice A v.items.length c, .slice B v.keys.length d] ∧
    v.num.size ≤ 140737488355328 ∧ v.text.size ≤ 140737488355328 ∧ VSl S w v.items A c ∧ SSl S w v.keys B d := by
  cases v with
  | mk k n t is ks => exact h
theorem Rep.mk_ {v : Val} {A B : Option Addr} {c d : Nat} (hn : v.num.size ≤ 140737488355328) (ht : v.text.size ≤ 140737488355328) (hi : VSl S w v.items A c) (hk : SSl S w v.keys B d) :
    Rep S w v [.int .i64 v.kind, .string v.num, .string v.text, .slice A v.items.length c, .slice B v.keys.length d] := by
  cases v with
  | mk k n t is ks => exact ⟨A, c, B, d, rfl, hn, ht, hi, hk⟩
theorem VSl.nil (S : Nat → Prop) (w : World) (A : Option Addr) (c : Nat) (hc : c ≤ 9223372036854775807) : VSl S w [] A c := ⟨Nat.zero_le _, hc, by simp, by simp only [Its]⟩
theorem SSl.nil (S : Nat → Prop) (w : World) (A : Option Addr) (c : Nat) (hc : c ≤ 9223372036854775807) : SSl S w [] A c := ⟨Nat.zero_le _, hc, by simp, by simp, fun h => absurd rfl h⟩
/-- A value without lists. -/
theorem Rep.flat (S : Nat → Prop) (w : World) (k : Int) (n t : ByteArray) (hn : n.size ≤ 140737488355328) (ht : t.size ≤ 140737488355328) :
    Rep S w (.mk k n t [] []) [.int .i64 k, .string n, .string t, .slice none 0 0, .slice none 0 0] :=
  Rep.mk_ (v := .mk k n t [] []) hn ht (VSl.nil S w none 0 (by omega)) (SSl.nil S w none 0 (by omega))
theorem Rep.zero (S : Nat → Prop) (w : World) : Rep S w Val.zero [.int .i64 0, .string ⟨#[]⟩, .string ⟨#[]⟩, .slice none 0 0, .slice none 0 0] :=
  Rep.flat S w 0 ⟨#[]⟩ ⟨#[]⟩ (by decide) (by decide)
theorem Rep.length {v : Val} {cs : List Value} (h : Rep S w v cs) : cs.length = 5 := by
  obtain ⟨A, c, B, d, rfl, _⟩ := h.open_
  rfl

theorem CellsAt.keep {g o : Nat} {cs : List Value} (h : CellsAt w g o cs) (hk : w'.heap[g]? = w.heap[g]?) : CellsAt w' g o cs :=
  fun j v hj => (World.cell?_of_block hk).trans (h j v hj)
theorem CellsAt.lt {g o : Nat} {cs : List Value} (h : CellsAt w g o cs) (hn : cs ≠ []) : g < w.heap.size := by
  cases cs with
  | nil => exact absurd rfl hn
  | cons c cs => exact World.block_lt_of_cell? w _ (h 0 c rfl)
theorem Strs.keep {ks : List ByteArray} {A : Option Addr} (h : Strs S w ks A) (hS : ∀ g, S g → S' g) (hk : ∀ g, S g → w'.heap[g]? = w.heap[g]?) : Strs S' w' ks A := fun hn => by
  obtain ⟨g, o, e, hs, hc⟩ := h hn
  exact ⟨g, o, e, hS g hs, fun i s hi => (World.cell?_of_block (hk g hs)).trans (hc i s hi)⟩
theorem Strs.lt {ks : List ByteArray} {A : Option Addr} (h : Strs S w ks A) : Strs (fun g => S g ∧ g < w.heap.size) w ks A := fun hn => by
  obtain ⟨g, o, e, hs, hc⟩ := h hn
  cases ks with
  | nil => exact absurd rfl hn
  | cons k ks => exact ⟨g, o, e, ⟨hs, World.block_lt_of_cell? w _ (hc 0 k rfl)⟩, hc⟩

mutual
theorem Rep.keep (hS : ∀ g, S g → S' g) (hk : ∀ g, S g → w'.heap[g]? = w.heap[g]?) : ∀ {v : Val} {cs : List Value}, Rep S w v cs → Rep S' w' v cs
  | .mk k n t is ks, cs, h => by
    simp only [Rep] at h ⊢
    obtain ⟨A, c, B, d, e, hn, ht, ⟨h1, h2, h3, h4⟩, k1, k2, k3, k4, k5⟩ := h
    exact ⟨A, c, B, d, e, hn, ht, ⟨h1, h2, h3, Its.keep hS hk h4⟩, k1, k2, k3, k4, k5.keep hS hk⟩
theorem Its.keep (hS : ∀ g, S g → S' g) (hk : ∀ g, S g → w'.heap[g]? = w.heap[g]?) : ∀ {is : List Val} {A : Option Addr}, Its S w is A → Its S' w' is A
  | [], _, _ => by simp only [Its]
  | x :: xs, A, h => by
    simp only [Its] at h ⊢
    obtain ⟨g, o, cs, e, hs, hr, hc, hx⟩ := h
    exact ⟨g, o, cs, e, hS g hs, Rep.keep hS hk hr, hc.keep (hk g hs), Its.keep hS hk hx⟩
end
mutual
theorem Rep.lt : ∀ {v : Val} {cs : List Value}, Rep S w v cs → Rep (fun g => S g ∧ g < w.heap.size) w v cs
  | .mk k n t is ks, cs, h => by
    simp only [Rep] at h ⊢
    obtain ⟨A, c, B, d, e, hn, ht, ⟨h1, h2, h3, h4⟩, k1, k2, k3, k4, k5⟩ := h
    exact ⟨A, c, B, d, e, hn, ht, ⟨h1, h2, h3, Its.lt h4⟩, k1, k2, k3, k4, k5.lt⟩
theorem Its.lt : ∀ {is : List Val} {A : Option Addr}, Its S w is A → Its (fun g => S g ∧ g < w.heap.size) w is A
  | [], _, _ => by simp only [Its]
  | x :: xs, A, h => by
    simp only [Its] at h ⊢
    obtain ⟨g, o, cs, e, hs, hr, hc, hx⟩ := h
    exact ⟨g, o, cs, e, ⟨hs, hc.lt (by intro h0; have := hr.length; simp [h0] at this)⟩, Rep.lt hr, hc, Its.lt hx⟩
end
/-- What lies below stays what it was. -/
theorem Rep.below {v : Val} {cs : List Value} (h : Rep S w v cs) (hb : Below w.heap.size w w') : Rep S w' v cs :=
  Rep.keep (fun _ h => h.1) (fun g hg => hb.block g hg.2) h.lt
theorem Its.below {is : List Val} {A : Option Addr} (h : Its S w is A) (hb : Below w.heap.size w w') : Its S w' is A :=
  Its.keep (fun _ h => h.1) (fun g hg => hb.block g hg.2) h.lt
theorem Strs.below {ks : List ByteArray} {A : Option Addr} (h : Strs S w ks A) (hb : Below w.heap.size w w') : Strs S w' ks A :=
  Strs.keep h.lt (fun _ h => h.1) (fun g hg => hb.block g hg.2)
theorem VSl.below {is : List Val} {A : Option Addr} {c : Nat} (h : VSl S w is A c) (hb : Below w.heap.size w w') : VSl S w' is A c := ⟨h.1, h.2.1, h.2.2.1, h.2.2.2.below hb⟩
theorem SSl.below {ks : List ByteArray} {A : Option Addr} {c : Nat} (h : SSl S w ks A c) (hb : Below w.heap.size w w') : SSl S w' ks A c := ⟨h.1, h.2.1, h.2.2.1, h.2.2.2.1, h.2.2.2.2.below hb⟩
theorem VSl.keep {is : List Val} {A : Option Addr} {c : Nat} (h : VSl S w is A c) (hS : ∀ g, S g → S' g) (hk : ∀ g, S g → w'.heap[g]? = w.heap[g]?) : VSl S' w' is A c := ⟨h.1, h.2.1, h.2.2.1, h.2.2.2.keep hS hk⟩
theorem SSl.keep {ks : List ByteArray} {A : Option Addr} {c : Nat} (h : SSl S w ks A c) (hS : ∀ g, S g → S' g) (hk : ∀ g, S g → w'.heap[g]? = w.heap[g]?) : SSl S' w' ks A c := ⟨h.1, h.2.1, h.2.2.1, h.2.2.2.1, h.2.2.2.2.keep hS hk⟩
theorem Rep.wide {v : Val} {cs : List Value} (h : Rep S w v cs) (hS : ∀ g, S g → S' g) : Rep S' w v cs := Rep.keep hS (fun _ _ => rfl) h
theorem Rep.all {v : Val} {cs : List Value} (h : Rep S w v cs) : Rep All w v cs := h.wide fun _ _ => trivial
theorem VSl.all {is : List Val} {A : Option Addr} {c : Nat} (h : VSl S w is A c) : VSl All w is A c := h.keep (fun _ _ => trivial) (fun _ _ => rfl)
theorem SSl.all {is : List ByteArray} {A : Option Addr} {c : Nat} (h : SSl S w is A c) : SSl All w is A c := h.keep (fun _ _ => trivial) (fun _ _ => rfl)

/-- The item at a place. -/
theorem Its.get : ∀ {is : List Val} {A : Option Addr}, Its S w is A → ∀ {i : Nat} {x : Val}, is[i]? = some x → ∃ g o cs, A = some ⟨g, o, none⟩ ∧ S g ∧ Rep S w x cs ∧ CellsAt w g (o + i * 5) cs
  | [], _, _, i, x, hi => by simp at hi
  | y :: ys, A, h, i, x, hi => by
    simp only [Its] at h
    obtain ⟨g, o, cs, e, hs, hr, hc, hx⟩ := h
    cases i with
    | zero =>
      obtain rfl : y = x := by simpa using hi
      exact ⟨g, o, cs, e, hs, hr, by simpa using hc⟩
    | succ i =>
      obtain ⟨g', o', cs', e', hs', hr', hc'⟩ := Its.get hx (by simpa using hi)
      simp only [Option.some.injEq, Addr.mk.injEq, and_true] at e'
      obtain ⟨rfl, rfl⟩ := e'
      exact ⟨g, o, cs', e, hs, hr', by rw [show o + (i + 1) * 5 = o + 5 + i * 5 by omega]; exact hc'⟩
theorem Its.of_get {g : Nat} (hs : S g) : ∀ {is : List Val} {o : Nat}, (∀ i x, is[i]? = some x → ∃ cs, Rep S w x cs ∧ CellsAt w g (o + i * 5) cs) → Its S w is (some ⟨g, o, none⟩)
  | [], _, _ => by simp only [Its]
  | y :: ys, o, h => by
    simp only [Its]
    obtain ⟨cs, hr, hc⟩ := h 0 y rfl
    refine ⟨g, o, cs, rfl, hs, hr, by simpa using hc, Its.of_get hs fun i x hi => ?_⟩
    obtain ⟨cs, hr, hc⟩ := h (i + 1) x (by simpa using hi)
    exact ⟨cs, hr, by rw [show o + 5 + i * 5 = o + (i + 1) * 5 by omega]; exact hc⟩
theorem Its.ext_addr {is : List Val} {A A' : Option Addr} (h : Its S w is A) (hA : is ≠ [] → A' = A) : Its S w is A' := by
  cases is with
  | nil => simp only [Its]
  | cons x xs => rw [hA (by simp)]; exact h

/-- The five cells of the item at a place, as a walk wants them. -/
theorem VSl.at_ {is : List Val} {A : Option Addr} {c i : Nat} (h : VSl S w is A c) (hi : i < is.length) :
    ∃ g o A' c' B' d', A = some ⟨g, o, none⟩ ∧ S g ∧ w.cell? ⟨g, o + i * 5, none⟩ = some (.int .i64 (is[i]).kind) ∧ w.cell? ⟨g, o + i * 5 + 1, none⟩ = some (.string (is[i]).num) ∧
      w.cell? ⟨g, o + i * 5 + 2, none⟩ = some (.string (is[i]).text) ∧ w.cell? ⟨g, o + i * 5 + 3, none⟩ = some (.slice A' (is[i]).items.length c') ∧ w.cell? ⟨g, o + i * 5 + 4, none⟩ = some (.slice B' (is[i]).keys.length d') ∧
      Rep S w is[i] [.int .i64 (is[i]).kind, .string (is[i]).num, .string (is[i]).text, .slice A' (is[i]).items.length c', .slice B' (is[i]).keys.length d'] := by
  obtain ⟨g, o, cs, e, hs, hr, hc⟩ := h.2.2.2.get (List.getElem?_eq_getElem hi)
  obtain ⟨A', c', B', d', rfl, _⟩ := hr.open_
  exact ⟨g, o, A', c', B', d', e, hs, hc 0 _ rfl, hc 1 _ rfl, hc 2 _ rfl, hc 3 _ rfl, hc 4 _ rfl, hr⟩
theorem SSl.at_ {ks : List ByteArray} {A : Option Addr} {c i : Nat} (h : SSl S w ks A c) (hi : i < ks.length) :
    ∃ g o, A = some ⟨g, o, none⟩ ∧ S g ∧ w.cell? ⟨g, o + i, none⟩ = some (.string ks[i]) ∧ ks[i].size ≤ 140737488355328 := by
  obtain ⟨g, o, e, hs, hc⟩ := h.2.2.2.2 (by intro h0; subst h0; simp at hi)
  exact ⟨g, o, e, hs, hc i _ (List.getElem?_eq_getElem hi), h.2.2.2.1 _ (List.getElem_mem hi)⟩
theorem VSl.drop {is : List Val} {g o c : Nat} (h : VSl S w is (some ⟨g, o, none⟩) c) {k : Nat} (hk : k ≤ is.length) : VSl S w (is.drop k) (some ⟨g, o + k * 5, none⟩) (c - k) := by
  obtain ⟨h1, h2, h3, h4⟩ := h
  refine ⟨by simp; omega, by omega, by simp; omega, ?_⟩
  by_cases hn : is.drop k = []
  · rw [hn]; simp only [Its]
  · have hlt : k < is.length := by
      rcases Nat.lt_or_ge k is.length with h | h
      · exact h
      · exact absurd (List.drop_eq_nil_of_le h) hn
    obtain ⟨g0, o0, _, e0, hs0, _⟩ := h4.get (List.getElem?_eq_getElem hlt)
    simp only [Option.some.injEq, Addr.mk.injEq, and_true] at e0
    obtain ⟨rfl, rfl⟩ := e0
    refine Its.of_get hs0 fun i x hi => ?_
    obtain ⟨g', o', cs, e, hs, hr, hc⟩ := h4.get (i := k + i) (x := x) (by rw [← hi, List.getElem?_drop])
    simp only [Option.some.injEq, Addr.mk.injEq, and_true] at e
    obtain ⟨rfl, rfl⟩ := e
    exact ⟨cs, hr, by rw [show o + k * 5 + i * 5 = o + (k + i) * 5 by omega]; exact hc⟩
theorem VSl.take {is : List Val} {A : Option Addr} {c : Nat} (h : VSl S w is A c) (k : Nat) : VSl S w (is.take k) A c := by
  obtain ⟨h1, h2, h3, h4⟩ := h
  refine ⟨by simp; omega, h2, by simp; omega, ?_⟩
  by_cases hn : is.take k = []
  · rw [hn]; simp only [Its]
  · have hlt : 0 < is.length := by
      rcases Nat.eq_zero_or_pos is.length with h0 | h0
      · exact absurd (by rw [List.eq_nil_of_length_eq_zero h0]; simp) hn
      · exact h0
    obtain ⟨g, o, _, rfl, hs0, _⟩ := h4.get (List.getElem?_eq_getElem hlt)
    refine Its.of_get hs0 fun i x hi => ?_
    obtain ⟨g', o', cs, e, hs, hr, hc⟩ := h4.get (i := i) (x := x) (by
      rw [List.getElem?_take] at hi
      split at hi
      · exact hi
      · cases hi)
    simp only [Option.some.injEq, Addr.mk.injEq, and_true] at e
    obtain ⟨rfl, rfl⟩ := e
    exact ⟨cs, hr, hc⟩
end

/-- Behind a call: cells and marks below read as before. -/
theorem bcell {W w1 : World} (hb : Below W.heap.size W w1) : (∀ b o, b < W.heap.size → w1.cell? ⟨b, o, none⟩ = W.cell? ⟨b, o, none⟩) ∧ (∀ b o, b < W.heap.size → w1.frozen? ⟨b, o, none⟩ = W.frozen? ⟨b, o, none⟩) :=
  ⟨fun b o h => hb.cell (p := ⟨b, o, none⟩) h, fun b o h => hb.frozen (p := ⟨b, o, none⟩) h⟩
theorem below_drewN {B : Nat} {a w : World} (h : Below B a w) (n : Nat) : Below B a (w.drewN n) := ⟨h.os, h.tape, h.output, h.size, h.block⟩
theorem below_then {B : Nat} {w w1 w2 : World} (h : Below B w w1) (hB : B ≤ w1.heap.size) (k : Below w1.heap.size w1 w2) : Below B w w2 := h.trans (k.mono hB)
theorem blk_lt {w : World} {g : Nat} {o : Obj} (h : w.heap[g]? = some o) : g < w.heap.size := by
  rcases Nat.lt_or_ge g w.heap.size with hlt | hge
  · exact hlt
  · rw [Array.getElem?_eq_none hge] at h; cases h
theorem blk_cell {w : World} {g : Nat} {cs : Array Value} {t : TypeId} (h : w.heap[g]? = some (.cells cs t (0, 0))) (i : Nat) : w.cell? ⟨g, i, none⟩ = cs[i]? := cell_of_row w g i cs t (0, 0) h
theorem blk_frozen {w : World} {g : Nat} {cs : Array Value} {t : TypeId} (h : w.heap[g]? = some (.cells cs t (0, 0))) (i : Nat) : w.frozen? ⟨g, i, none⟩ = false := by simp [World.frozen?, h]
theorem blk_below {w w' : World} {g : Nat} {o : Obj} (h : w.heap[g]? = some o) (hb : Below w.heap.size w w') : w'.heap[g]? = some o := (hb.block g (blk_lt h)).trans h
theorem blk_new (w : World) (o : Obj) : (w.alloc o).heap[w.heap.size]? = some o := heap_alloc_new w o
theorem blk_alloc {w : World} {g : Nat} {o : Obj} (h : w.heap[g]? = some o) (o' : Obj) : (w.alloc o').heap[g]? = some o := (Below.heap_alloc w o' g (blk_lt h)).trans h
theorem blk_drewN {w : World} {g : Nat} {o : Obj} (h : w.heap[g]? = some o) (n : Nat) : (w.drewN n).heap[g]? = some o := h
theorem blk_set {w : World} {g : Nat} {cs : Array Value} {t : TypeId} (h : w.heap[g]? = some (.cells cs t (0, 0))) (i : Nat) (u : Value) : (w.setCell ⟨g, i, none⟩ u).heap[g]? = some (.cells (cs.setIfInBounds i u) t (0, 0)) := by
  simp [World.setCell, Array.getElem?_modify, h]
theorem blk_far {w : World} {g : Nat} {o : Obj} (h : w.heap[g]? = some o) {p : Addr} (hp : g ≠ p.block) (u : Value) : (w.setCell p u).heap[g]? = some o := (Below.heap_setCell w p u g hp).trans h
theorem quiet_left {P : Program} {f : FuncId} {args : Array Value} {w : World} {n : Nat} {v : Value}
    (h : Calls P f args (w.drewN n) fun e w' => e = .returned v ∧ w.drewN n = w') : Calls P f args (w.drewN n) fun e w'' => e = .returned v ∧ ∃ m, w'' = w.drewN m :=
  h.mono fun _ _ ⟨he, hm⟩ => ⟨he, n, hm.symm⟩
theorem wrap_nat (n : Nat) (h : n < 9223372036854775808) : wrap64 (n : Int) = n := by unfold wrap64; omega
theorem wrap_int (n : Int) (h : -9223372036854775808 ≤ n ∧ n < 9223372036854775808) : wrap64 n = n := by unfold wrap64; omega
theorem int_eq {k : IntKind} {a b : Int} (h : a = b) : Value.int k a = Value.int k b := by rw [h]
theorem ret_int {k : IntKind} {a b : Int} (h : a = b) : Ending.returned (.int k a) = .returned (.int k b) := by rw [h]
theorem ret_bool {a b : Bool} (h : a = b) : Ending.returned (.bool a) = .returned (.bool b) := by rw [h]
theorem ret_str {a b : ByteArray} (h : a = b) : Ending.returned (.string a) = .returned (.string b) := by rw [h]
end Go.Proofs.YtojkmemkmcnlnaaGreatDoor
