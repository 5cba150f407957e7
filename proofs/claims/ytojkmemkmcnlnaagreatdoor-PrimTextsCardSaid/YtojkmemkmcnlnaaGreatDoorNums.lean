/- Whole numbers written in tens, and read again: plain laws. No program in sight. -/
import Derived.Test.YtojkmemkmcnlnaaGreatDoorPure
import Derived.Lib.ItoaNum
namespace Go.Proofs.YtojkmemkmcnlnaaGreatDoor
open Go.RowKit

/-- The number that digits are. -/
def digitsVal (l : List UInt8) : Nat := l.foldl (fun n c => 10 * n + (c.toNat - 48)) 0
theorem digitsVal_snoc (l : List UInt8) (c : UInt8) : digitsVal (l ++ [c]) = 10 * digitsVal l + (c.toNat - 48) := by simp [digitsVal, List.foldl_append]
theorem dig_of (d : Nat) (h : d < 10) : (UInt8.ofNat (48 + d)).toNat = 48 + d := by rw [UInt8.toNat_ofNat']; omega
theorem val_dec (u : Nat) : digitsVal (Lib.decDigits u) = u := by
  induction u using Nat.strongRecOn with
  | _ u ih =>
    rw [Lib.decDigits]
    split
    · rename_i h
      have := dig_of u h
      simp only [digitsVal, List.foldl_cons, List.foldl_nil, this]; omega
    · rename_i h
      rw [digitsVal_snoc, ih (u / 10) (by omega), dig_of _ (by omega)]; omega
theorem dec_ne (u : Nat) : Lib.decDigits u ≠ [] := by
  rw [Lib.decDigits]
  split <;> simp
theorem dec_all (u : Nat) : (Lib.decDigits u).all digB = true := by
  induction u using Nat.strongRecOn with
  | _ u ih =>
    rw [Lib.decDigits]
    split
    · rename_i h
      have := dig_of u h
      simp only [List.all_cons, List.all_nil, digB, this, Bool.and_true, Bool.and_eq_true, decide_eq_true_eq]; omega
    · rename_i h
      have := dig_of (u % 10) (by omega)
      rw [List.all_append, ih (u / 10) (by omega)]
      simp only [List.all_cons, List.all_nil, digB, this, Bool.true_and, Bool.and_true, Bool.and_eq_true, decide_eq_true_eq]; omega
theorem dec_head (u : Nat) (hu : 0 < u) : (Lib.decDigits u).head? ≠ some 48 := by
  induction u using Nat.strongRecOn with
  | _ u ih =>
    rw [Lib.decDigits]
    split
    · rename_i h
      have := dig_of u h
      intro e
      simp only [List.head?_cons, Option.some.injEq] at e
      rw [e] at this
      have h48 : (48 : UInt8).toNat = 48 := rfl
      omega
    · rename_i h
      have := ih (u / 10) (by omega) (by omega)
      rw [List.head?_append]
      cases hd : (Lib.decDigits (u / 10)).head? with
      | none => exact absurd (List.head?_eq_none_iff.1 hd) (dec_ne _)
      | some x => rw [hd] at this; simpa using this
theorem dec_no_minus (u : Nat) : (Lib.decDigits u).head? ≠ some 45 := by
  intro e
  have h1 := dec_all u
  cases hd : Lib.decDigits u with
  | nil => exact absurd hd (dec_ne u)
  | cons x xs =>
    rw [hd] at e h1
    simp only [List.head?_cons, Option.some.injEq] at e
    subst e
    simp [digB] at h1
theorem numOk_dec (u : Nat) : numOkL (Lib.decDigits u) = true := by
  unfold numOkL
  by_cases hu : u = 0
  · subst hu
    have : Lib.decDigits 0 = [48] := by rw [Lib.decDigits]; rfl
    rw [this]; rfl
  · rw [if_neg (dec_no_minus u)]
    have h1 := dec_head u (by omega)
    have h2 := dec_all u
    have h3 := dec_ne u
    simp only [digsOk, h2, Bool.and_true, Bool.or_eq_true, Bool.and_eq_true]
    right
    refine ⟨?_, ?_⟩
    · cases hd : Lib.decDigits u with
      | nil => exact absurd hd h3
      | cons x xs => rfl
    · simpa using h1
theorem nDigits_le : ∀ (k u : Nat), 1 ≤ k → u < 10 ^ k → Lib.nDigits u ≤ k
  | 0, _, h, _ => by omega
  | 1, u, _, h => by rw [Lib.nDigits_small (by simpa using h)]; exact Nat.le_refl _
  | k + 2, u, _, h => by
    by_cases hu : u < 10
    · rw [Lib.nDigits_small hu]; omega
    · rw [Lib.nDigits_big hu]
      have := nDigits_le (k + 1) (u / 10) (by omega) (by rw [Nat.pow_succ] at h; omega)
      omega
theorem dec_len (u : Nat) (h : u < 10000000) : (Lib.decDigits u).length ≤ 7 := by
  rw [Lib.decDigits_length]; exact nDigits_le 7 u (by decide) (by simpa using h)
/-- The number of a place or of a rune. -/
def numB (u : Nat) : ByteArray := ⟨(Lib.decDigits u).toArray⟩
theorem numB_data (u : Nat) : (numB u).data.toList = Lib.decDigits u := by simp [numB]
theorem numB_itoa (u : Nat) : (⟨(Lib.itoa (u : Int)).toArray⟩ : ByteArray) = numB u := by
  unfold numB Lib.itoa; rw [if_neg (by omega)]; simp
theorem numB_ok (u : Nat) : numOk (numB u) = true := by rw [numOk, numB_data]; exact numOk_dec u
theorem numB_size (u : Nat) : (numB u).size = (Lib.decDigits u).length := by simp [numB, ByteArray.size]
def numV (u : Nat) : Val := .mk 3 (numB u) ⟨#[]⟩ [] []
def textV (s : ByteArray) : Val := .mk 4 ⟨#[]⟩ s [] []
def listV (l : List Val) : Val := .mk 5 ⟨#[]⟩ ⟨#[]⟩ l []
theorem numV_ok (u : Nat) : (numV u).ok = true := by
  rw [ok_eq, numV]
  simp [Val.kind, Val.num, Val.text, Val.items, Val.keys, emptyOk, numB_ok, ByteArray.toList_eq]
theorem textV_ok (s : ByteArray) : (textV s).ok = utfOk s := by
  rw [ok_eq, textV]
  simp [Val.kind, Val.num, Val.text, Val.items, Val.keys, emptyOk, ByteArray.toList_eq]
theorem listV_ok (l : List Val) : (listV l).ok = l.all Val.ok := by
  rw [ok_eq, listV]
  simp [Val.kind, Val.num, Val.text, Val.items, Val.keys, emptyOk, ByteArray.toList_eq]
theorem digs_numB (u : Nat) : digs (numB u) ≤ (Lib.decDigits u).length := by
  have := trimMinus_le (numB u)
  rw [numB_size] at this
  exact this
theorem digs_nil : digs ⟨#[]⟩ = 0 := by decide
theorem weight_num (u : Nat) : (numV u).weight ≤ 1 + (Lib.decDigits u).length := by
  have := digs_numB u
  rw [weight_eq]
  show 1 + digs (numB u) + 0 + 0 + 0 ≤ _
  omega
theorem weight_text (s : ByteArray) : (textV s).weight = 1 + s.size := by
  rw [weight_eq]
  show 1 + digs ⟨#[]⟩ + s.size + 0 + 0 = _
  rw [digs_nil]; omega
theorem weight_list (l : List Val) : (listV l).weight = 1 + Val.weights l := by
  rw [weight_eq]
  show 1 + digs ⟨#[]⟩ + 0 + 0 + Val.weights l = _
  rw [digs_nil]
theorem weights_le (l : List Val) (m : Nat) (h : ∀ v ∈ l, v.weight ≤ m) : Val.weights l ≤ m * l.length := by
  induction l with
  | nil => simp [Val.weights]
  | cons v l ih =>
    have h1 := h v (by simp)
    have h2 := ih fun x hx => h x (by simp [hx])
    simp only [Val.weights, List.length_cons, Nat.mul_add]; omega
theorem weights_map_text (l : List ByteArray) : Val.weights (l.map textV) = (l.map (·.size)).sum + l.length := by
  induction l with
  | nil => rfl
  | cons s l ih => simp only [List.map_cons, Val.weights, weight_text, ih, List.sum_cons, List.length_cons]; omega
end Go.Proofs.YtojkmemkmcnlnaaGreatDoor
