/- What the program's functions on values compute: plain Lean, no program in sight. -/
import Derived.Test.YtojkmemkmcnlnaaGreatDoorBase
import Derived.Lib.ValidU
import Derived.Lib.Strings
namespace Go.Proofs.YtojkmemkmcnlnaaGreatDoor
open Go.RowKit

def trimMinus (n : ByteArray) : ByteArray := ⟨(Lib.trimPrefix n.data.toList [45]).toArray⟩
theorem trimMinus_le (n : ByteArray) : (trimMinus n).size ≤ n.size := by
  have h : (trimMinus n).size = (Lib.trimPrefix n.data.toList [45]).length := by simp [trimMinus, ByteArray.size]
  have h2 : n.size = n.data.toList.length := by simp
  rw [h, h2, Lib.trimPrefix]
  split
  · simp
  · exact Nat.le_refl _
def digs (n : ByteArray) : Nat := (trimMinus n).size
def keysW (ks : List ByteArray) : Nat := (ks.map fun s => 1 + s.size).sum
theorem keysW_take (ks : List ByteArray) (k : Nat) (h : k < ks.length) : keysW (ks.take (k + 1)) = keysW (ks.take k) + (1 + ks[k].size) := by
  unfold keysW; rw [List.take_succ_eq_append_getElem h, List.map_append, List.sum_append]; simp
theorem keysW_take_le (ks : List ByteArray) (k : Nat) : keysW (ks.take k) ≤ keysW ks := by
  induction ks generalizing k with
  | nil => simp
  | cons s ss ih => 
    cases k with
    | zero => simp [keysW]
    | succ k => have := ih k; simp [keysW] at *; omega
mutual
def Val.weight : Val → Nat | .mk _ n t is ks => 1 + digs n + t.size + keysW ks + Val.weights is
def Val.weights : List Val → Nat | [] => 0 | x :: xs => Val.weight x + Val.weights xs
end
theorem weight_eq (v : Val) : v.weight = 1 + digs v.num + v.text.size + keysW v.keys + Val.weights v.items := by cases v; rfl
theorem weights_append (xs ys : List Val) : Val.weights (xs ++ ys) = Val.weights xs + Val.weights ys := by
  induction xs with
  | nil => simp [Val.weights]
  | cons x xs ih => simp [Val.weights, ih]; omega
theorem weights_take (is : List Val) (k : Nat) (h : k < is.length) : Val.weights (is.take (k + 1)) = Val.weights (is.take k) + (is[k]).weight := by
  rw [List.take_succ_eq_append_getElem h, weights_append]; simp [Val.weights]
theorem weights_take_le (is : List Val) (k : Nat) : Val.weights (is.take k) ≤ Val.weights is := by
  have h := weights_append (is.take k) (is.drop k)
  rw [List.take_append_drop] at h
  omega

def digB (c : UInt8) : Bool := decide (48 ≤ (c.toNat : Int)) && decide ((c.toNat : Int) ≤ 57)
/-- Digits, at least one, no nought ahead. -/
def digsOk (l : List UInt8) : Bool := !l.isEmpty && l.head? != some 48 && l.all digB
/-- A whole number in tens. -/
def numOkL (l : List UInt8) : Bool := l == [48] || (if l.head? = some 45 then digsOk l.tail else digsOk l)
def numOk (s : ByteArray) : Bool := numOkL s.data.toList
theorem isEmpty_of (s : ByteArray) : s.data.toList.isEmpty = decide (s.size = 0) := by
  cases h : s.data.toList with
  | nil => have := congrArg List.length h; simp at this; simp [this]
  | cons a l => have := congrArg List.length h; simp at this; simp [this]
theorem data_nil {s : ByteArray} (h : s.size = 0) : s.data.toList = [] := List.eq_nil_of_length_eq_zero (by simpa using h)
theorem toList_nil {s : ByteArray} (h : s.size = 0) : s.toList = [] := by rw [ByteArray.toList_eq]; exact data_nil h
theorem toList_ne {s : ByteArray} (h : 0 < s.size) : s.toList.isEmpty = false := by rw [ByteArray.toList_eq, isEmpty_of]; simpa using (show s.size ≠ 0 by omega)
theorem head_of (s : ByteArray) (h : 0 < s.size) : s.data.toList.head? = some s[0] := by
  have h' : 0 < s.data.toList.length := by simpa using h
  rw [List.head?_eq_getElem?, List.getElem?_eq_getElem h']
  rfl
theorem tail_of (s : ByteArray) : (s.extract 1 s.size).data.toList = s.data.toList.tail := by
  simp [List.take_of_length_le]
theorem all_take (s : ByteArray) (k : Nat) (h : k < s.size) (p : UInt8 → Bool) : (s.data.toList.take (k + 1)).all p = ((s.data.toList.take k).all p && p s[k]) := by
  rw [List.take_succ_eq_append_getElem (by simpa using h), List.all_append]
  simp [ByteArray.getElem_eq_getElem_data]
theorem u8_eq (c : UInt8) (n : Nat) (hn : n < 256) : (c = UInt8.ofNat n) ↔ ((c.toNat : Int) = n) := by
  rw [← UInt8.toNat_inj, UInt8.toNat_ofNat_of_lt' (by simpa using hn)]; omega
theorem all_take_le (s : ByteArray) (k : Nat) (p : UInt8 → Bool) (h : s.data.toList.all p = true) : (s.data.toList.take k).all p = true := by
  rw [List.all_eq_true] at h ⊢
  exact fun x hx => h x (List.mem_of_mem_take hx)
theorem u8_beq (c d : UInt8) (n : Int) (h : (d.toNat : Int) = n) : ((c.toNat : Int) == n) = (c == d) := by
  rw [Bool.eq_iff_iff, beq_iff_eq, beq_iff_eq, ← UInt8.toNat_inj]; omega

def utfOk (s : ByteArray) : Bool := Lib.validD s.data.toList
/-- Texts in UTF-8, each above the one ahead. -/
def riseFrom : Option ByteArray → List ByteArray → Bool
  | _, [] => true
  | none, s :: ss => utfOk s && riseFrom (some s) ss
  | some p, s :: ss => utfOk s && Op.bytesLess p.toList s.toList && riseFrom (some s) ss
def riseOk (ks : List ByteArray) : Bool := riseFrom none ks
def prevOf (ks : List ByteArray) (k : Nat) : Option ByteArray := if k = 0 then none else ks[k - 1]?
theorem drop_cons {α : Type} (l : List α) (k : Nat) (h : k < l.length) : l.drop k = l[k] :: l.drop (k + 1) := List.drop_eq_getElem_cons h
def emptyOk (v : Val) (b1 b2 b3 b4 : Bool) : Bool := (b1 || v.num.toList.isEmpty) && (b2 || v.text.toList.isEmpty) && (b3 || v.items.length == 0) && (b4 || v.keys.length == 0)
mutual
/-- A well shaped value. -/
def Val.ok : Val → Bool
  | .mk k n t is ks =>
    if k = 0 ∨ k = 1 ∨ k = 2 then emptyOk (.mk k n t is ks) false false false false
    else if k = 3 then emptyOk (.mk k n t is ks) true false false false && numOk n
    else if k = 4 then emptyOk (.mk k n t is ks) false true false false && utfOk t
    else if k = 5 then emptyOk (.mk k n t is ks) false false true false && Val.oks is
    else if k = 6 then emptyOk (.mk k n t is ks) false false true true && is.length == ks.length && riseOk ks && Val.oks is
    else false
def Val.oks : List Val → Bool | [] => true | x :: xs => Val.ok x && Val.oks xs
end
theorem oks_all (xs : List Val) : Val.oks xs = xs.all Val.ok := by
  induction xs with
  | nil => rfl
  | cons x xs ih => simp [Val.oks, ih]
theorem ok_eq (v : Val) : v.ok = (if v.kind = 0 ∨ v.kind = 1 ∨ v.kind = 2 then emptyOk v false false false false
    else if v.kind = 3 then emptyOk v true false false false && numOk v.num
    else if v.kind = 4 then emptyOk v false true false false && utfOk v.text
    else if v.kind = 5 then emptyOk v false false true false && v.items.all Val.ok
    else if v.kind = 6 then emptyOk v false false true true && v.items.length == v.keys.length && riseOk v.keys && v.items.all Val.ok
    else false) := by
  cases v
  rw [← oks_all]
  rfl
end Go.Proofs.YtojkmemkmcnlnaaGreatDoor
