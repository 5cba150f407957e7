/- UTF-8 texts and their runes, cut and joined: plain laws. No program in sight. -/
import Derived.Test.YtojkmemkmcnlnaaGreatDoorPure
import Derived.Lib.MapLaws
import Derived.Lib.ValidLaws
import Derived.Lib.Split
import Derived.Lib.Join
namespace Go.Proofs.YtojkmemkmcnlnaaGreatDoor
open Go.RowKit

/-- The runes of a text. -/
def runesGo : Nat → List UInt8 → List Nat
  | 0, _ => []
  | n + 1, l => if l = [] then [] else (Lib.decodeL l).1 :: runesGo n (l.drop (Lib.decodeL l).2)
def runes (l : List UInt8) : List Nat := runesGo l.length l
theorem runesGo_nil : ∀ n, runesGo n [] = []
  | 0 => rfl
  | _ + 1 => by simp [runesGo]
theorem runesGo_fuel : ∀ (n m : Nat) (l : List UInt8), l.length ≤ n → l.length ≤ m → runesGo n l = runesGo m l
  | 0, m, l, hn, _ => by
    obtain rfl : l = [] := List.eq_nil_of_length_eq_zero (by omega)
    rw [runesGo_nil, runesGo_nil]
  | n + 1, 0, l, _, hm => by
    obtain rfl : l = [] := List.eq_nil_of_length_eq_zero (by omega)
    rw [runesGo_nil, runesGo_nil]
  | n + 1, m + 1, l, hn, hm => by
    by_cases hne : l = []
    · subst hne; rw [runesGo_nil, runesGo_nil]
    · have hw := Lib.decodeL_width l
      have hl : 0 < l.length := List.length_pos_iff.2 hne
      simp only [runesGo, if_neg hne]
      rw [runesGo_fuel n m _ (by rw [List.length_drop]; omega) (by rw [List.length_drop]; omega)]
theorem runes_nil : runes [] = [] := rfl
theorem runes_step (l : List UInt8) (hne : l ≠ []) : runes l = (Lib.decodeL l).1 :: runes (l.drop (Lib.decodeL l).2) := by
  have hw := Lib.decodeL_width l
  have hl : 0 < l.length := List.length_pos_iff.2 hne
  unfold runes
  obtain ⟨n, hn⟩ : ∃ n, l.length = n + 1 := ⟨l.length - 1, by omega⟩
  rw [hn]
  simp only [runesGo, if_neg hne]
  rw [runesGo_fuel n _ _ (by rw [List.length_drop]; omega) (Nat.le_refl _)]
theorem runesGo_len : ∀ (n : Nat) (l : List UInt8), (runesGo n l).length ≤ n
  | 0, _ => by simp [runesGo]
  | n + 1, l => by
    simp only [runesGo]
    split
    · simp
    · have := runesGo_len n (l.drop (Lib.decodeL l).2)
      simp only [List.length_cons]; omega
theorem runes_len (l : List UInt8) : (runes l).length ≤ l.length := runesGo_len _ _

/-- What may stand in a text. -/
def runeOk (r : Nat) : Prop := r < 55296 ∨ (57344 ≤ r ∧ r ≤ 1114111)
theorem enc1 (r : Nat) (h1 : r ≤ 127) : Lib.encodeRune (r : Int) = [UInt8.ofNat r] := by
  unfold Lib.encodeRune
  rw [Lib.encodeRuneZ_one (by omega) (by omega)]
  simp only [List.map_cons, List.map_nil, Int.toNat_natCast]
theorem enc2 (r : Nat) (h0 : 128 ≤ r) (h1 : r ≤ 2047) : Lib.encodeRune (r : Int) = [UInt8.ofNat (192 + r / 64), UInt8.ofNat (128 + r % 64)] := by
  unfold Lib.encodeRune
  rw [Lib.encodeRuneZ_two (by omega) (by omega)]
  simp only [List.map_cons, List.map_nil]
  rw [show (192 + (r : Int) / 64).toNat = 192 + r / 64 by omega, show (128 + (r : Int) % 64).toNat = 128 + r % 64 by omega]
theorem enc3 (r : Nat) (h0 : 2048 ≤ r) (h1 : r ≤ 65535) (h : runeOk r) : Lib.encodeRune (r : Int) = [UInt8.ofNat (224 + r / 4096), UInt8.ofNat (128 + r / 64 % 64), UInt8.ofNat (128 + r % 64)] := by
  unfold runeOk at h
  unfold Lib.encodeRune
  rw [Lib.encodeRuneZ_three (by omega)]
  simp only [List.map_cons, List.map_nil]
  rw [show (224 + (r : Int) / 4096).toNat = 224 + r / 4096 by omega, show (128 + (r : Int) / 64 % 64).toNat = 128 + r / 64 % 64 by omega, show (128 + (r : Int) % 64).toNat = 128 + r % 64 by omega]
theorem enc4 (r : Nat) (h0 : 65536 ≤ r) (h1 : r ≤ 1114111) : Lib.encodeRune (r : Int) = [UInt8.ofNat (240 + r / 262144), UInt8.ofNat (128 + r / 4096 % 64), UInt8.ofNat (128 + r / 64 % 64), UInt8.ofNat (128 + r % 64)] := by
  unfold Lib.encodeRune
  rw [Lib.encodeRuneZ_four (by omega) (by omega)]
  simp only [List.map_cons, List.map_nil]
  rw [show (240 + (r : Int) / 262144).toNat = 240 + r / 262144 by omega, show (128 + (r : Int) / 4096 % 64).toNat = 128 + r / 4096 % 64 by omega, show (128 + (r : Int) / 64 % 64).toNat = 128 + r / 64 % 64 by omega, show (128 + (r : Int) % 64).toNat = 128 + r % 64 by omega]
theorem enc_shape (r : Nat) (h : runeOk r) : (r ≤ 127 ∧ Lib.encodeRune (r : Int) = [UInt8.ofNat r]) ∨
    (128 ≤ r ∧ r ≤ 2047 ∧ Lib.encodeRune (r : Int) = [UInt8.ofNat (192 + r / 64), UInt8.ofNat (128 + r % 64)]) ∨
    (2048 ≤ r ∧ r ≤ 65535 ∧ Lib.encodeRune (r : Int) = [UInt8.ofNat (224 + r / 4096), UInt8.ofNat (128 + r / 64 % 64), UInt8.ofNat (128 + r % 64)]) ∨
    (65536 ≤ r ∧ r ≤ 1114111 ∧ Lib.encodeRune (r : Int) = [UInt8.ofNat (240 + r / 262144), UInt8.ofNat (128 + r / 4096 % 64), UInt8.ofNat (128 + r / 64 % 64), UInt8.ofNat (128 + r % 64)]) := by
  have h' := h
  unfold runeOk at h'
  by_cases c1 : r ≤ 127
  · exact .inl ⟨c1, enc1 r c1⟩
  · by_cases c2 : r ≤ 2047
    · exact .inr (.inl ⟨by omega, c2, enc2 r (by omega) c2⟩)
    · by_cases c3 : r ≤ 65535
      · exact .inr (.inr (.inl ⟨by omega, c3, enc3 r (by omega) c3 h⟩))
      · exact .inr (.inr (.inr ⟨by omega, by omega, enc4 r (by omega) (by omega)⟩))
theorem dec1 (n b0 b1 b2 b3 r : Nat) (hr : r ≤ 127) (h0 : b0 = r) : Lib.decodeN n b0 b1 b2 b3 = (r, 1) := by
  unfold Lib.decodeN
  rw [if_pos (by omega), h0]
theorem dec2 (n b0 b1 b2 b3 r : Nat) (hr : 128 ≤ r) (hr' : r ≤ 2047) (hn : 2 ≤ n) (h0 : b0 = 192 + r / 64) (h1 : b1 = 128 + r % 64) : Lib.decodeN n b0 b1 b2 b3 = (r, 2) := by
  unfold Lib.decodeN
  rw [if_neg (by omega), if_pos (by omega), if_pos (by omega)]
  exact Prod.ext (by dsimp only; omega) rfl
theorem dec3 (n b0 b1 b2 b3 r : Nat) (hr : 2048 ≤ r) (hr' : r ≤ 65535) (h : runeOk r) (hn : 3 ≤ n) (h0 : b0 = 224 + r / 4096) (h1 : b1 = 128 + r / 64 % 64) (h2 : b2 = 128 + r % 64) : Lib.decodeN n b0 b1 b2 b3 = (r, 3) := by
  unfold runeOk at h
  unfold Lib.decodeN
  rw [if_neg (by omega), if_neg (by omega), if_pos (by omega), if_pos (by omega)]
  exact Prod.ext (by dsimp only; omega) rfl
theorem dec4 (n b0 b1 b2 b3 r : Nat) (hr : 65536 ≤ r) (hr' : r ≤ 1114111) (hn : 4 ≤ n) (h0 : b0 = 240 + r / 262144) (h1 : b1 = 128 + r / 4096 % 64) (h2 : b2 = 128 + r / 64 % 64) (h3 : b3 = 128 + r % 64) : Lib.decodeN n b0 b1 b2 b3 = (r, 4) := by
  unfold Lib.decodeN
  rw [if_neg (by omega), if_neg (by omega), if_neg (by omega), if_pos (by omega), if_pos (by omega)]
  exact Prod.ext (by dsimp only; omega) rfl
theorem toNat_of (n : Nat) (h : n < 256) : (UInt8.ofNat n).toNat = n := by rw [UInt8.toNat_ofNat']; omega
theorem decode_encode (r : Nat) (h : runeOk r) (t : List UInt8) : Lib.decodeL (Lib.encodeRune (r : Int) ++ t) = (r, (Lib.encodeRune (r : Int)).length) := by
  rw [Lib.decodeL_N]
  rcases enc_shape r h with ⟨c, e⟩ | ⟨c0, c1, e⟩ | ⟨c0, c1, e⟩ | ⟨c0, c1, e⟩
  · rw [e]
    exact dec1 _ _ _ _ _ r c (toNat_of _ (by omega))
  · rw [e]
    exact dec2 _ _ _ _ _ r c0 c1 (by simp) (toNat_of _ (by omega)) (toNat_of _ (by omega))
  · rw [e]
    exact dec3 _ _ _ _ _ r c0 c1 h (by simp) (toNat_of _ (by omega)) (toNat_of _ (by omega)) (toNat_of _ (by omega))
  · rw [e]
    exact dec4 _ _ _ _ _ r c0 c1 (by simp) (toNat_of _ (by omega)) (toNat_of _ (by omega)) (toNat_of _ (by omega)) (toNat_of _ (by omega))
theorem enc_ne (r : Nat) (h : runeOk r) : Lib.encodeRune (r : Int) ≠ [] := by
  rcases enc_shape r h with ⟨c, e⟩ | ⟨c0, c1, e⟩ | ⟨c0, c1, e⟩ | ⟨c0, c1, e⟩ <;> rw [e] <;> simp
theorem enc_le (r : Nat) (h : runeOk r) : (Lib.encodeRune (r : Int)).length ≤ 4 := by
  rcases enc_shape r h with ⟨c, e⟩ | ⟨c0, c1, e⟩ | ⟨c0, c1, e⟩ | ⟨c0, c1, e⟩ <;> rw [e] <;> simp
/-- The first byte is no later one. -/
theorem enc_head (r : Nat) (h : runeOk r) (t : List UInt8) : ((Lib.encodeRune (r : Int) ++ t).getD 0 0).toNat / 64 ≠ 2 := by
  rcases enc_shape r h with ⟨c, e⟩ | ⟨c0, c1, e⟩ | ⟨c0, c1, e⟩ | ⟨c0, c1, e⟩ <;> rw [e]
  · show (UInt8.ofNat r).toNat / 64 ≠ 2
    rw [toNat_of _ (by omega)]; omega
  · show (UInt8.ofNat (192 + r / 64)).toNat / 64 ≠ 2
    rw [toNat_of _ (by omega)]; omega
  · show (UInt8.ofNat (224 + r / 4096)).toNat / 64 ≠ 2
    rw [toNat_of _ (by omega)]; omega
  · show (UInt8.ofNat (240 + r / 262144)).toNat / 64 ≠ 2
    rw [toNat_of _ (by omega)]; omega
/-- The others are. -/
theorem enc_tail (r : Nat) (h : runeOk r) (a b : List UInt8) (e : Lib.encodeRune (r : Int) = a ++ b) (ha : a ≠ []) (hb : b ≠ []) (t : List UInt8) : ((b ++ t).getD 0 0).toNat / 64 = 2 := by
  have ht : ∀ x ∈ (Lib.encodeRune (r : Int)).tail, x.toNat / 64 = 2 := by
    rcases enc_shape r h with ⟨c, e⟩ | ⟨c0, c1, e⟩ | ⟨c0, c1, e⟩ | ⟨c0, c1, e⟩ <;> rw [e]
    · simp
    · intro x hx
      simp only [List.tail_cons, List.mem_cons, List.not_mem_nil, or_false] at hx
      subst hx
      rw [toNat_of _ (by omega)]; omega
    · intro x hx
      simp only [List.tail_cons, List.mem_cons, List.not_mem_nil, or_false] at hx
      rcases hx with rfl | rfl <;> rw [toNat_of _ (by omega)] <;> omega
    · intro x hx
      simp only [List.tail_cons, List.mem_cons, List.not_mem_nil, or_false] at hx
      rcases hx with rfl | rfl | rfl <;> rw [toNat_of _ (by omega)] <;> omega
  cases a with
  | nil => exact absurd rfl ha
  | cons x a =>
    cases b with
    | nil => exact absurd rfl hb
    | cons y b =>
      rw [e] at ht
      exact ht y (by simp)
theorem valid_enc (r : Nat) (h : runeOk r) (t : List UInt8) : Lib.validD (Lib.encodeRune (r : Int) ++ t) = Lib.validD t := by
  rw [Lib.validD_step _ (by simp [enc_ne r h]), decode_encode r h t, List.drop_left]
  rw [if_neg]
  rintro ⟨h1, h2⟩
  dsimp only at h1 h2
  subst h1
  rw [enc3 _ (by omega) (by omega) h] at h2
  simp at h2
theorem runes_enc (r : Nat) (h : runeOk r) (t : List UInt8) : runes (Lib.encodeRune (r : Int) ++ t) = r :: runes t := by
  rw [runes_step _ (by simp [enc_ne r h]), decode_encode r h t, List.drop_left]
theorem decode_ok (l : List UInt8) : runeOk (Lib.decodeL l).1 := by
  unfold runeOk
  rw [Lib.decodeL_N]
  have k0 := (l.getD 0 0).toNat_lt
  rcases Lib.decodeN_shape l.length (l.getD 0 0).toNat (l.getD 1 0).toNat (l.getD 2 0).toNat (l.getD 3 0).toNat with ⟨c, e⟩ | ⟨c1, c2, c3, cv, e⟩ | ⟨c1, c2, c3, c4, cv, cs, e⟩ | ⟨c1, c2, c3, c4, c5, cv, cw, e⟩ | e
  all_goals (rw [e]; dsimp only; omega)
/-- A text goes rune by rune. -/
theorem valid_ind {p : List UInt8 → Prop} (h0 : p []) (h1 : ∀ (r : Nat) (t : List UInt8), runeOk r → Lib.validD t = true → p t → p (Lib.encodeRune (r : Int) ++ t)) : ∀ (n : Nat) (l : List UInt8), l.length ≤ n → Lib.validD l = true → p l
  | 0, l, hn, _ => by
    obtain rfl : l = [] := List.eq_nil_of_length_eq_zero (by omega)
    exact h0
  | n + 1, l, hn, hv => by
    by_cases hne : l = []
    · subst hne; exact h0
    · have hw := Lib.decodeL_width l
      have hl : 0 < l.length := List.length_pos_iff.2 hne
      rw [Lib.validD_step l hne] at hv
      split at hv
      · cases hv
      · rename_i hbad
        have e := Lib.encode_decode l hne hbad
        have ih := valid_ind h0 h1 n (l.drop (Lib.decodeL l).2) (by rw [List.length_drop]; omega) hv
        have := h1 (Lib.decodeL l).1 _ (decode_ok l) hv ih
        rwa [e, List.take_append_drop] at this
/-- The texts of runes. -/
def encs : List Nat → List UInt8
  | [] => []
  | r :: rs => Lib.encodeRune (r : Int) ++ encs rs
theorem encs_append (a b : List Nat) : encs (a ++ b) = encs a ++ encs b := by
  induction a with
  | nil => rfl
  | cons r a ih => simp [encs, ih]
theorem encs_len (rs : List Nat) (h : ∀ r ∈ rs, runeOk r) : (encs rs).length ≤ 4 * rs.length := by
  induction rs with
  | nil => simp [encs]
  | cons r rs ih =>
    have h1 := ih fun x hx => h x (by simp [hx])
    have h2 := enc_le r (h r (by simp))
    simp only [encs, List.length_append, List.length_cons]; omega
theorem encs_runes (l : List UInt8) (h : Lib.validD l = true) : encs (runes l) = l := by
  refine valid_ind (p := fun l => encs (runes l) = l) rfl (fun r t hr _ ih => ?_) l.length l (Nat.le_refl _) h
  rw [runes_enc r hr, encs, ih]
theorem runesGo_ok : ∀ (n : Nat) (l : List UInt8), ∀ r ∈ runesGo n l, runeOk r
  | 0, _, r, h => by simp [runesGo] at h
  | n + 1, l, r, h => by
    simp only [runesGo] at h
    split at h
    · simp at h
    · rcases List.mem_cons.1 h with rfl | h
      · exact decode_ok l
      · exact runesGo_ok n _ r h
theorem runes_ok (l : List UInt8) : ∀ r ∈ runes l, runeOk r := runesGo_ok _ _
theorem runes_encs (rs : List Nat) (h : ∀ r ∈ rs, runeOk r) : runes (encs rs) = rs := by
  induction rs with
  | nil => rfl
  | cons r rs ih => rw [encs, runes_enc r (h r (by simp)), ih fun x hx => h x (by simp [hx])]
theorem valid_encs (rs : List Nat) (h : ∀ r ∈ rs, runeOk r) : Lib.validD (encs rs) = true := by
  induction rs with
  | nil => rfl
  | cons r rs ih => rw [encs, valid_enc r (h r (by simp)), ih fun x hx => h x (by simp [hx])]
/-- The runes the other way round. -/
def turned (l : List UInt8) : List UInt8 := encs (runes l).reverse
theorem runes_rev_ok (l : List UInt8) : ∀ r ∈ (runes l).reverse, runeOk r := fun r h => runes_ok l r (by simpa using h)
theorem turned_valid (l : List UInt8) : Lib.validD (turned l) = true := valid_encs _ (runes_rev_ok l)
theorem turned_turned (l : List UInt8) (h : Lib.validD l = true) : turned (turned l) = l := by
  unfold turned
  rw [runes_encs _ (runes_rev_ok l), List.reverse_reverse, encs_runes l h]
theorem turned_len (l : List UInt8) : (turned l).length ≤ 4 * l.length := by
  have h1 := encs_len _ (runes_rev_ok l)
  have h2 := runes_len l
  unfold turned
  rw [List.length_reverse] at h1
  omega

/-- A text that goes on where a rune begins falls in two texts. -/
theorem valid_parts (l : List UInt8) (h : Lib.validD l = true) : ∀ a c, l = a ++ c → (c = [] ∨ (c.getD 0 0).toNat / 64 ≠ 2) → Lib.validD a = true ∧ Lib.validD c = true := by
  refine valid_ind (p := fun l => ∀ a c, l = a ++ c → (c = [] ∨ (c.getD 0 0).toNat / 64 ≠ 2) → Lib.validD a = true ∧ Lib.validD c = true) ?_ (fun r t hr ht ih => ?_) l.length l (Nat.le_refl _) h
  · intro a c e _
    obtain ⟨rfl, rfl⟩ := List.append_eq_nil_iff.1 e.symm
    exact ⟨rfl, rfl⟩
  · intro a c e hc
    rcases List.append_eq_append_iff.1 e with ⟨as, rfl, rfl⟩ | ⟨bs, e1, rfl⟩
    · obtain ⟨h1, h2⟩ := ih as c rfl hc
      exact ⟨by rw [valid_enc r hr]; exact h1, h2⟩
    · by_cases hb : bs = []
      · subst hb
        rw [List.append_nil] at e1
        subst e1
        exact ⟨by have := valid_enc r hr []; rw [List.append_nil] at this; rw [this]; rfl, ht⟩
      · by_cases ha : a = []
        · subst ha
          rw [List.nil_append] at e1
          subst e1
          exact ⟨rfl, by rw [valid_enc r hr]; exact ht⟩
        · rcases hc with hc | hc
          · exact absurd (List.append_eq_nil_iff.1 hc).1 hb
          · exact absurd (enc_tail r hr a bs e1 ha hb t) hc
theorem valid_head (l : List UInt8) (h : Lib.validD l = true) (hne : l ≠ []) : (l.getD 0 0).toNat / 64 ≠ 2 := by
  refine valid_ind (p := fun l => l ≠ [] → (l.getD 0 0).toNat / 64 ≠ 2) (fun h => absurd rfl h) (fun r t hr _ _ _ => enc_head r hr t) l.length l (Nat.le_refl _) h hne
theorem valid_app (x y : List UInt8) (h : Lib.validD x = true) : Lib.validD (x ++ y) = Lib.validD y := by
  refine valid_ind (p := fun x => Lib.validD (x ++ y) = Lib.validD y) rfl (fun r t hr _ ih => ?_) x.length x (Nat.le_refl _) h
  rw [List.append_assoc, valid_enc r hr, ih]
theorem valid_cut (a sep b : List UInt8) (h : Lib.validD (a ++ (sep ++ b)) = true) (hs : Lib.validD sep = true) (hne : sep ≠ []) : Lib.validD a = true ∧ Lib.validD b = true := by
  have hd : ((sep ++ b).getD 0 0).toNat / 64 ≠ 2 := by
    have := valid_head sep hs hne
    cases sep with
    | nil => exact absurd rfl hne
    | cons x xs => exact this
  obtain ⟨h1, h2⟩ := valid_parts _ h a (sep ++ b) rfl (.inr hd)
  exact ⟨h1, by rw [← valid_app sep b hs]; exact h2⟩
theorem index_cut (s sep : List UInt8) (h : (Lib.index s sep == -1) = false) : s = s.take ((Lib.index s sep).toNat + 0) ++ (sep ++ s.drop ((Lib.index s sep).toNat + sep.length)) := by
  have hne : Lib.index s sep ≠ -1 := by simpa using h
  rcases Lib.index_spec s sep with ⟨h1, _⟩ | ⟨i, h1, h2, h3, _⟩
  · exact absurd h1 hne
  · have hr := Lib.index_room s sep (by omega)
    rw [h1] at hr ⊢
    rw [Lib.occAt_iff_take s sep i (by omega), beq_iff_eq] at h3
    rw [Int.toNat_natCast, Nat.add_zero]
    calc s = s.take i ++ s.drop i := (List.take_append_drop i s).symm
      _ = s.take i ++ ((s.drop i).take sep.length ++ (s.drop i).drop sep.length) := by rw [List.take_append_drop sep.length (s.drop i)]
      _ = _ := by rw [h3, List.drop_drop]
theorem splitK_valid (sep : List UInt8) (hs : Lib.validD sep = true) (hne : sep ≠ []) : ∀ (k : Nat) (s : List UInt8), Lib.validD s = true → ∀ p ∈ Lib.splitK sep 0 k s, Lib.validD p = true
  | 0, s, h, p, hp => by
    obtain rfl : p = s := by simpa [Lib.splitK] using hp
    exact h
  | k + 1, s, h, p, hp => by
    unfold Lib.splitK at hp
    split at hp
    · obtain rfl : p = s := by simpa using hp
      exact h
    · rename_i hi
      have e := index_cut s sep (by simpa using hi)
      rw [e] at h
      obtain ⟨h1, h2⟩ := valid_cut _ _ _ h hs hne
      rcases List.mem_cons.1 hp with rfl | hp
      · exact h1
      · exact splitK_valid sep hs hne k _ h2 p hp
theorem splitK_cons (sep : List UInt8) : ∀ (k : Nat) (s : List UInt8), ∃ x r, Lib.splitK sep 0 k s = x :: r
  | 0, s => ⟨s, [], rfl⟩
  | k + 1, s => by
    unfold Lib.splitK
    split
    · exact ⟨_, _, rfl⟩
    · exact ⟨_, _, rfl⟩
theorem join_splitK (sep : List UInt8) : ∀ (k : Nat) (s : List UInt8), Lib.join (Lib.splitK sep 0 k s) sep = s
  | 0, s => Lib.join_one s sep
  | k + 1, s => by
    unfold Lib.splitK
    split
    · exact Lib.join_one s sep
    · rename_i hi
      have e := index_cut s sep (by simpa using hi)
      have ih := join_splitK sep k (s.drop ((Lib.index s sep).toNat + sep.length))
      obtain ⟨x, r, hx⟩ := splitK_cons sep k (s.drop ((Lib.index s sep).toNat + sep.length))
      rw [hx] at ih ⊢
      rw [Lib.join_cons] at ih ⊢
      conv => rhs; rw [e]
      simp only [Lib.joinTail, List.map_cons, List.flatten_cons] at ih ⊢
      rw [List.append_assoc, ih]
theorem lens_splitK (sep : List UInt8) (hne : sep ≠ []) : ∀ (k : Nat) (s : List UInt8), Lib.lens (Lib.splitK sep 0 k s) + (Lib.splitK sep 0 k s).length ≤ s.length + 1
  | 0, s => by simp [Lib.splitK, Lib.lens]
  | k + 1, s => by
    unfold Lib.splitK
    split
    · simp [Lib.lens]
    · rename_i hi
      have e := congrArg List.length (index_cut s sep (by simpa using hi))
      have hl : 0 < sep.length := List.length_pos_iff.2 hne
      have ih := lens_splitK sep hne k (s.drop ((Lib.index s sep).toNat + sep.length))
      simp only [List.length_append] at e
      simp only [Lib.lens, List.map_cons, List.sum_cons, List.length_cons] at ih ⊢
      omega
end Go.Proofs.YtojkmemkmcnlnaaGreatDoor
