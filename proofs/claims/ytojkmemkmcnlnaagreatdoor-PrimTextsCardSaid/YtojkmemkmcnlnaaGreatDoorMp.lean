/- A map from texts that a call fills itself, entry by entry: the map's object, a new key, a look-up. No program in sight. -/
import Derived.Test.YtojkmemkmcnlnaaGreatDoorBase
import Derived.Maps.OwnOps
namespace Go.Proofs.YtojkmemkmcnlnaaGreatDoor
open Go.RowKit Go.Instr
open Go.ChangeMaps (setBlock)

/-- The entries, born one behind the other. -/
def ents : Nat → List (ByteArray × Value) → List MapEntry
  | _, [] => []
  | i, (k, v) :: l => ⟨.string k, v, i⟩ :: ents (i + 1) l
/-- The map's object. -/
def mobj (l : List (ByteArray × Value)) : Obj := .map (ents 0 l).toArray l.length
def kget (l : List (ByteArray × Value)) (k : ByteArray) : Option Value := (l.find? fun p => decide (p.1 = k)).map (·.2)

theorem ents_length : ∀ (l : List (ByteArray × Value)) (i : Nat), (ents i l).length = l.length
  | [], _ => rfl
  | _ :: l, i => by simp [ents, ents_length l]
theorem ents_snoc (k : ByteArray) (v : Value) : ∀ (l : List (ByteArray × Value)) (i : Nat), ents i (l ++ [(k, v)]) = ents i l ++ [⟨.string k, v, i + l.length⟩]
  | [], i => by simp [ents]
  | (k', v') :: l, i => by
    simp only [ents, List.cons_append, ents_snoc k v l (i + 1), List.length_cons]
    rw [show i + 1 + l.length = i + (l.length + 1) by omega]
theorem find_ents (k : ByteArray) : ∀ (l : List (ByteArray × Value)) (i j : Nat), ∃ r, findNow .string (.string k) (ents i l) j = some r ∧ r.map (·.2) = kget l k
  | [], _, _ => ⟨none, rfl, rfl⟩
  | (k', v) :: l, i, j => by
    by_cases h : k = k'
    · subst h
      have hb : (k == k) = true := (MapKept.bytes_beq k k).2 rfl
      exact ⟨some (j, v), by simp [ents, findNow, sameNow, hb], by simp [kget]⟩
    · obtain ⟨r, hr, e⟩ := find_ents k l (i + 1) (j + 1)
      refine ⟨r, ?_, ?_⟩
      · have hb : (k == k') = false := by
          rcases hx : k == k' with _ | _
          · rfl
          · exact absurd ((MapKept.bytes_beq k k').1 hx) h
        simp [ents, findNow, sameNow, hb, hr]
      · have hb : ¬ k' = k := fun e => h e.symm
        rw [e]; simp [kget, hb]

section
variable {P : Program}
theorem run_findKey (t : TypeId) (ht : P.underlying t = some .string) (k : ByteArray) (l : List (ByteArray × Value)) (w : World) : ∃ r, (findKey t (.string k) (ents 0 l)).run P w = .ok r w ∧ r.map (·.2) = kget l k := by
  obtain ⟨r, hr, e⟩ := find_ents k l 0 0
  refine ⟨r, ?_, e⟩
  have hu : (underlying t).run P w = .ok .string w := by simp [underlying, ht]
  simp [findKey, hu, Result.andThen, hr]
theorem run_checkKey (t : TypeId) (ht : P.underlying t = some .string) (k : ByteArray) (b : Bool) (w : World) : (checkKey b 10000 t (.string k)).run P w = .ok () w := by
  have hu : (underlying t).run P w = .ok .string w := by simp [underlying, ht]
  show (checkKey b (9999 + 1) t (.string k)).run P w = _
  rw [checkKey]
  simp [hu, Result.andThen]
/-- 'v, ok := m[k]'. -/
theorem run_lookup (t kt e : TypeId) (ht : P.underlying t = some (.map kt e)) (hk : P.underlying kt = some .string) (z : Value) (w : World) (hz : (zeroValue e).run P w = .ok z w) (r : Nat) (l : List (ByteArray × Value)) (hr : w.heap[r]? = some (mobj l)) (k : ByteArray) :
    (Instr.lookup t (.map (some r)) (.string k) true).run P w = .ok (.tuple #[(kget l k).getD z, .bool (kget l k).isSome]) w := by
  obtain ⟨o, ho, eo⟩ := run_findKey (P := P) kt hk k l w
  have hu : (underlying t).run P w = .ok (.map kt e) w := by simp [underlying, ht]
  unfold mobj at hr
  simp only [Instr.lookup, Sem.run_bind, hu, Result.andThen, getObj, Sem.run, hr, run_checkKey kt hk]
  rw [← eo]
  cases o with
  | none => simp [hz, ho, Result.andThen]
  | some p => simp [ho]
/-- 'm[k] = v' at a key that isn't there. -/
theorem run_insert (t kt e : TypeId) (ht : P.underlying t = some (.map kt e)) (hk : P.underlying kt = some .string) (w : World) (r : Nat) (l : List (ByteArray × Value)) (hr : w.heap[r]? = some (mobj l)) (k : ByteArray) (v : Value) (hnew : kget l k = none) :
    (Instr.mapUpdate t (.map (some r)) (.string k) v).run P w = .ok () (setBlock w r (mobj (l ++ [(k, v)]))) := by
  obtain ⟨o, ho, eo⟩ := run_findKey (P := P) kt hk k l w
  have hu : (underlying t).run P w = .ok (.map kt e) w := by simp [underlying, ht]
  have hr' := hr
  unfold mobj at hr
  rw [hnew] at eo
  obtain rfl : o = none := by simpa using eo
  simp only [Instr.mapUpdate, Sem.run_bind, hu, Result.andThen, getObj, Sem.run, hr, run_checkKey kt hk, ho]
  simp [setObj, Sem.run, hr, setBlock, mobj, ents_snoc]
theorem wpList_insert {w : World} {ops : Array Oper} {rest : List Oper} {o : Oper} {a : Act} {Q : Exit → Act → World → Prop} (hg : o.guard = none) (m x v : Operand) (t : TypeId) (hop : o.op = Op.insert t m x v)
    (kt e : TypeId) (ht : P.underlying t = some (.map kt e)) (hk : P.underlying kt = some .string) (r : Nat) (hm : a.eval m = .map (some r)) (l : List (ByteArray × Value)) (hr : w.heap[r]? = some (mobj l)) (k : ByteArray) (u : Value) (hx : a.eval x = .string k) (hv : a.eval v = u) (hnew : kget l k = none)
    (hK : ∀ w', w'.heap[r]? = some (mobj (l ++ [(k, u)])) → Below r w w' → wpList P ops Q rest (a.put o.dst undef) w') : wpList P ops Q (o :: rest) a w := by
  refine wpList_plain hg fun K' hK' => ?_
  have hrun := run_insert t kt e ht hk w r l hr k u hnew
  unfold Oper.wp
  simp [execOp, hop, hm, hx, hv, hrun, Result.andThen]
  have hlt := blk_lt hr
  refine hK' _ _ (hK _ ?_ ⟨rfl, rfl, rfl, by simp [setBlock], fun i hi => ?_⟩)
  · simp [setBlock, hlt]
  · simp only [setBlock]
    rw [Array.getElem?_setIfInBounds_ne (by omega)]

/-- An entry of a map's literal: text, function. -/
def isIns (t x : Nat) (o : Oper) : Option (ByteArray × Value) :=
  match o.dst, o.guard, o.op with
  | none, none, .insert t' (.tmp x') (.const (.string k)) (.func f) => if t' = t ∧ x' = x then some (k, .func (.func f) #[] #[]) else none
  | _, _, _ => none
theorem isIns_spec {t x : Nat} {o : Oper} {p : ByteArray × Value} (h : isIns t x o = some p) : o.dst = none ∧ o.guard = none ∧ ∃ f, o.op = .insert t (.tmp x) (.const (.string p.1)) (.func f) ∧ p.2 = .func (.func f) #[] #[] := by
  unfold isIns at h
  split at h
  · rename_i t' x' k f h1 h2 h3
    split at h
    · rename_i hc
      obtain ⟨rfl, rfl⟩ := hc
      simp only [Option.some.injEq] at h
      subst h
      exact ⟨h1, h2, f, h3, rfl⟩
    · cases h
  · cases h
def allNew : List (ByteArray × Value) → List (ByteArray × Value) → Bool
  | _, [] => true
  | l, p :: es => (kget l p.1).isNone && allNew (l ++ [p]) es
theorem wpList_inserts {ops : Array Oper} {Q : Exit → Act → World → Prop} {a : Act} (t x : Nat) (kt e : TypeId) (ht : P.underlying t = some (.map kt e)) (hk : P.underlying kt = some .string) (r : Nat) (hm : a.eval (.tmp x) = .map (some r)) :
    ∀ (es : List (ByteArray × Value)) (rest : List Oper) (l : List (ByteArray × Value)) (w : World), (rest.take es.length).map (isIns t x) = es.map some → allNew l es = true → w.heap[r]? = some (mobj l) →
    (∀ w', w'.heap[r]? = some (mobj (l ++ es)) → Below r w w' → wpList P ops Q (rest.drop es.length) a w') → wpList P ops Q rest a w
  | [], rest, l, w, _, _, hr, hK => by simpa using hK w (by simpa using hr) (Below.refl _ _)
  | p :: es, rest, l, w, he, hn, hr, hK => by
    cases rest with
    | nil => simp at he
    | cons o rest =>
      simp only [List.length_cons, List.take_succ_cons, List.map_cons, List.cons.injEq] at he
      obtain ⟨h1, h2, f, h3, h4⟩ := isIns_spec he.1
      simp only [allNew, Bool.and_eq_true, Option.isNone_iff_eq_none] at hn
      refine wpList_insert h2 _ _ _ t h3 kt e ht hk r hm l hr p.1 p.2 rfl (by rw [h4]; rfl) hn.1 ?_
      intro w1 hr1 hb1
      have ea : a.put o.dst undef = a := by rw [h1]; rfl
      rw [ea]
      refine wpList_inserts t x kt e ht hk r hm es rest (l ++ [p]) w1 he.2 hn.2 hr1 ?_
      intro w2 hr2 hb2
      simpa using hK w2 (by simpa using hr2) (hb1.trans hb2)
/-- A map's literal: made, and filled. -/
theorem wpList_literal {w : World} {ops : Array Oper} {rest : List Oper} {o : Oper} {a : Act} {Q : Exit → Act → World → Prop} (hg : o.guard = none) (t x : Nat) (hop : o.op = Op.makeMap t none) (kt e : TypeId) (ht : P.underlying t = some (.map kt e)) (hk : P.underlying kt = some .string)
    (es : List (ByteArray × Value)) (hm : (a.put o.dst (.map (some w.heap.size))).eval (.tmp x) = .map (some w.heap.size)) (he : (rest.take es.length).map (isIns t x) = es.map some) (hn : allNew [] es = true)
    (hK : ∀ w', w'.heap[w.heap.size]? = some (mobj es) → Below w.heap.size w w' → wpList P ops Q (rest.drop es.length) (a.put o.dst (.map (some w.heap.size))) w') : wpList P ops Q (o :: rest) a w := by
  refine wpList_plain hg fun K' hK' => ?_
  have hrun : (Instr.makeMap t none).run P w = .ok (.map (some w.heap.size)) (w.alloc (.map #[] 0)) := rfl
  unfold Oper.wp
  simp [execOp, hop, hrun, Result.andThen]
  refine hK' _ _ (wpList_inserts t x kt e ht hk w.heap.size hm es rest [] _ he hn (blk_new w _) ?_)
  intro w' hr hb
  exact hK w' (by simpa using hr) (((Below.refl _ _).alloc (Nat.le_refl _) _).trans hb)
end
end Go.Proofs.YtojkmemkmcnlnaaGreatDoor
