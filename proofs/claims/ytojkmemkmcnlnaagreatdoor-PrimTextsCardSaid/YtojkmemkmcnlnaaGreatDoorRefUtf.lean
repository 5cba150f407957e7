/- hallmarkref03's UTF: trail, width, UTF, Rise: what they answer. -/
import Derived.Test.YtojkmemkmcnlnaaGreatDoorBlk
import Derived.Test.YtojkmemkmcnlnaaGreatDoorTabs
import Derived.Lib.ValidLaws
import Derived.Lib.TrimUEq
import Derived.Test.YtojkmemkmcnlnaaGreatDoorProg
import Derived.Deep.LoopGhost
import Derived.Deep.DeepCutAuto
import Derived.Deep.CutBlock
import Derived.Lib.Walk
import Derived.WalkSpells
import Derived.WalkLawsBesides
set_option linter.unusedVariables false
namespace Go.Proofs.YtojkmemkmcnlnaaGreatDoor
open Go.RowKit

/-- The byte at a place, as a number. -/
def bat (s : ByteArray) (i : Nat) : Nat := (s.data.getD i 0).toNat
def tails (s : ByteArray) (i : Nat) : Nat → Bool
  | 0 => true
  | n + 1 => decide (128 ≤ bat s i ∧ bat s i ≤ 191) && tails s (i + 1) n
def trailB (s : ByteArray) (i n lo hi : Nat) : Bool := decide (i + n ≤ s.size) && tails s i n && decide (lo ≤ bat s i ∧ bat s i ≤ hi)
set_option maxHeartbeats 1000000 in
set_option maxRecDepth 100000 in
theorem trail_any (s : ByteArray) (i n lo hi : Nat) (w : World) (hs : s.size ≤ 140737488355328) (hi' : i < s.size + 8) (hn : n ≤ 8) (hn0 : 0 < n) :
    Calls Tryz.prog 153 #[.string s, .int .i64 i, .int .i64 n, .int .u8 lo, .int .u8 hi] w fun e w' => e = .returned (.bool (trailB s i n lo hi)) ∧ w = w' := by
  by_cases hle : i + n ≤ s.size
  · have e1 : (i : Int) + ↑n ≤ ↑s.size := by omega
    generalize hA : trailB s i n lo hi = ANS
    have HA := Lib.hid hA; clear hA
    go_enter Tryz.func153, Tryz.ntmps153
    go_wp2_with fail
    go_loopw [11] (fun j W => ∃ k : Nat, k ≤ n ∧ j = .int .i64 k ∧ Hid ((tails s (i + k) (n - k) && decide (lo ≤ bat s i ∧ bat s i ≤ hi)) = ANS) ∧ w = W) (fun j _ => n - (intOf j).toNat)
    case atStart => exact ⟨0, by omega, rfl, Lib.hid (by rw [← HA.out]; simp [trailB, hle]), rfl⟩
    case round =>
      clear HA
      obtain ⟨k, hk, rfl, HK, rfl⟩ := hrel
      by_cases hlt : k < n
      · have hb1 : i + k < s.size := by omega
        have hR := HK.out
        rw [show n - k = (n - (k + 1)) + 1 by omega, tails] at hR
        have HR := Lib.hid hR; clear hR HK
        have hv : (s[i + k]'hb1).toNat = bat s (i + k) := by simp [bat, hb1]; rfl
        have hV := Lib.hid hv
        by_cases h1 : 128 ≤ (s[i + k]'hb1).toNat
        · by_cases h2 : (s[i + k]'hb1).toNat ≤ 191
          · have h1' : (128 : Int) ≤ ↑(s[i + k]'hb1).toNat := by omega
            have h2' : (↑(s[i + k]'hb1).toNat : Int) ≤ 191 := by omega
            have hR : Hid ((tails s (i + (k + 1)) (n - (k + 1)) && decide (lo ≤ bat s i ∧ bat s i ≤ hi)) = ANS) := Lib.hid (by rw [← HR.out, ← hV.out]; simp [h1, h2, Nat.add_assoc])
            clear HR hv
            go_wp2_with fail
            go_roundw
            case rel => exact ⟨k + 1, hlt, by go_num, hR, trivial⟩
            case measure => simp [intOf]; omega
          · have h1' : (128 : Int) ≤ ↑(s[i + k]'hb1).toNat := by omega
            have h2' : ¬ (↑(s[i + k]'hb1).toNat : Int) ≤ 191 := by omega
            have hR : Hid (ANS = false) := Lib.hid (by rw [← HR.out, ← hV.out]; simp [h2])
            clear HR hv
            go_wp2_with fail
            go_ret
            exact ⟨ret_bool hR.out.symm, rfl⟩
        · have h1' : ¬ (128 : Int) ≤ ↑(s[i + k]'hb1).toNat := by omega
          have hR : Hid (ANS = false) := Lib.hid (by rw [← HR.out, ← hV.out]; simp [h1])
          clear HR hv
          go_wp2_with fail
          go_ret
          exact ⟨ret_bool hR.out.symm, rfl⟩
      · obtain rfl : k = n := by omega
        have hb1 : i < s.size := by omega
        have hv : (s[i]'hb1).toNat = bat s i := by simp [bat, hb1]; rfl
        have hR : Hid (decide (lo ≤ (s[i]'hb1).toNat ∧ (s[i]'hb1).toNat ≤ hi) = ANS) := Lib.hid (by rw [← HK.out, hv]; simp [tails])
        clear hv HK
        by_cases h1 : lo ≤ (s[i]'hb1).toNat
        · have h1' : (lo : Int) ≤ ↑(s[i]'hb1).toNat := by omega
          by_cases h2 : (s[i]'hb1).toNat ≤ hi
          · have h2' : (↑(s[i]'hb1).toNat : Int) ≤ ↑hi := by omega
            go_wp2_with fail
            go_ret
            exact ⟨ret_bool (by rw [← hR.out]; simp [h1, h2]), rfl⟩
          · have h2' : ¬ (↑(s[i]'hb1).toNat : Int) ≤ ↑hi := by omega
            go_wp2_with fail
            go_ret
            exact ⟨ret_bool (by rw [← hR.out]; simp [h2]), rfl⟩
        · have h1' : ¬ (lo : Int) ≤ ↑(s[i]'hb1).toNat := by omega
          go_wp2_with fail
          go_ret
          exact ⟨ret_bool (by rw [← hR.out]; simp [h1]), rfl⟩
  · have e1 : ¬ (i : Int) + ↑n ≤ ↑s.size := by omega
    go_enter Tryz.func153, Tryz.ntmps153
    go_wp2_with fail
    go_ret
    exact ⟨ret_bool (by simp [trailB, hle]), rfl⟩

/-- How many bytes the rune that begins at a place has; 0: none begins there. -/
def widthN (s : ByteArray) (i : Nat) : Nat :=
  if bat s i < 128 then 1 else (Lib.checkN (s.size - i) (bat s (i + 1)) (bat s (i + 2)) (bat s (i + 3)) (Lib.firstT (bat s i) % 8) (Lib.accLo (Lib.firstT (bat s i) / 16)) (Lib.accHi (Lib.firstT (bat s i) / 16))).getD 0
theorem chk2 (s : ByteArray) (i : Nat) : (Lib.checkN (s.size - i) (bat s (i + 1)) (bat s (i + 2)) (bat s (i + 3)) 2 128 191).getD 0 = if trailB s (i + 1) 1 128 191 = true then 2 else 0 := by
  simp only [trailB, tails, Bool.and_eq_true, decide_eq_true_eq, Bool.and_true]
  unfold Lib.checkN
  repeat' split
  all_goals first | rfl | (exfalso; omega)
theorem chk3 (s : ByteArray) (i lo hi : Nat) (hl : 128 ≤ lo) (hh : hi ≤ 191) : (Lib.checkN (s.size - i) (bat s (i + 1)) (bat s (i + 2)) (bat s (i + 3)) 3 lo hi).getD 0 = if trailB s (i + 1) 2 lo hi = true then 3 else 0 := by
  simp only [trailB, tails, Bool.and_eq_true, decide_eq_true_eq, Bool.and_true]
  rw [show i + 1 + 1 = i + 2 by omega]
  unfold Lib.checkN
  repeat' split
  all_goals first | rfl | (exfalso; omega)
theorem chk4 (s : ByteArray) (i lo hi : Nat) (hl : 128 ≤ lo) (hh : hi ≤ 191) : (Lib.checkN (s.size - i) (bat s (i + 1)) (bat s (i + 2)) (bat s (i + 3)) 4 lo hi).getD 0 = if trailB s (i + 1) 3 lo hi = true then 4 else 0 := by
  simp only [trailB, tails, Bool.and_eq_true, decide_eq_true_eq, Bool.and_true]
  rw [show i + 1 + 1 = i + 2 by omega, show i + 2 + 1 = i + 3 by omega]
  unfold Lib.checkN
  repeat' split
  all_goals first | rfl | (exfalso; omega)
theorem firstT_bad {b : Nat} (h : (128 ≤ b ∧ b < 194) ∨ 245 ≤ b) : Lib.firstT b = 241 := by
  unfold Lib.firstT
  repeat' split
  all_goals omega
theorem wid_lo (s : ByteArray) (i : Nat) (h : bat s i < 128) : widthN s i = 1 := by rw [widthN, if_pos h]
theorem wid_bad (s : ByteArray) (i : Nat) (h : (128 ≤ bat s i ∧ bat s i < 194) ∨ 245 ≤ bat s i) : widthN s i = 0 := by
  rw [widthN, if_neg (by omega), firstT_bad h]; rfl
theorem wid_2 (s : ByteArray) (i : Nat) (h : 194 ≤ bat s i ∧ bat s i < 224) : widthN s i = if trailB s (i + 1) 1 128 191 = true then 2 else 0 := by
  rw [widthN, if_neg (by omega), Lib.firstT_C2 h]; exact chk2 s i
theorem wid_E0 (s : ByteArray) (i : Nat) (h : bat s i = 224) : widthN s i = if trailB s (i + 1) 2 160 191 = true then 3 else 0 := by
  rw [widthN, if_neg (by omega), Lib.firstT_E0 h]; exact chk3 s i 160 191 (by decide) (by decide)
theorem wid_3 (s : ByteArray) (i : Nat) (h : (225 ≤ bat s i ∧ bat s i < 237) ∨ (238 ≤ bat s i ∧ bat s i < 240)) : widthN s i = if trailB s (i + 1) 2 128 191 = true then 3 else 0 := by
  rw [widthN, if_neg (by omega), Lib.firstT_E1 h]; exact chk3 s i 128 191 (by decide) (by decide)
theorem wid_ED (s : ByteArray) (i : Nat) (h : bat s i = 237) : widthN s i = if trailB s (i + 1) 2 128 159 = true then 3 else 0 := by
  rw [widthN, if_neg (by omega), Lib.firstT_ED h]; exact chk3 s i 128 159 (by decide) (by decide)
theorem wid_F0 (s : ByteArray) (i : Nat) (h : bat s i = 240) : widthN s i = if trailB s (i + 1) 3 144 191 = true then 4 else 0 := by
  rw [widthN, if_neg (by omega), Lib.firstT_F0 h]; exact chk4 s i 144 191 (by decide) (by decide)
theorem wid_4 (s : ByteArray) (i : Nat) (h : 241 ≤ bat s i ∧ bat s i < 244) : widthN s i = if trailB s (i + 1) 3 128 191 = true then 4 else 0 := by
  rw [widthN, if_neg (by omega), Lib.firstT_F1 h]; exact chk4 s i 128 191 (by decide) (by decide)
theorem wid_F4 (s : ByteArray) (i : Nat) (h : bat s i = 244) : widthN s i = if trailB s (i + 1) 3 128 143 = true then 4 else 0 := by
  rw [widthN, if_neg (by omega), Lib.firstT_F4 h]; exact chk4 s i 128 143 (by decide) (by decide)
theorem bat_get (s : ByteArray) (i : Nat) (h : i < s.size) : (s[i]'h).toNat = bat s i := by simp [bat, h]; rfl
theorem bat_list (s : ByteArray) (i k : Nat) : ((s.data.toList.drop i).getD k 0).toNat = bat s (i + k) := by
  rw [Lib.getD_dropU]
  simp [bat, Array.getD_eq_getD_getElem?, List.getD_eq_getElem?_getD]
theorem width_step (s : ByteArray) (i : Nat) (h : i < s.size) : Lib.validD (s.data.toList.drop i) = (!decide (widthN s i = 0) && Lib.validD (s.data.toList.drop (i + widthN s i))) := by
  have hl : (s.data.toList.drop i).length = s.size - i := by rw [List.length_drop]; simp
  have hne : s.data.toList.drop i ≠ [] := fun e => by rw [e] at hl; simp at hl; omega
  by_cases h1 : bat s i < 128
  · rw [wid_lo s i h1]
    have h2 : s.data.toList.drop i = s.data.toList[i]'(by simpa using h) :: s.data.toList.drop (i + 1) := List.drop_eq_getElem_cons _
    have h3 := bat_list s i 0
    rw [h2] at h3 ⊢
    rw [Lib.validD_cons _ _ (by simp only [List.getD_cons_zero, Nat.add_zero] at h3; omega)]
    rfl
  · have hb := bat_list s i 0
    rw [Nat.add_zero] at hb
    have k := Lib.validD_lead _ hne (by rw [hb]; omega)
    rw [hl, bat_list, bat_list, bat_list, hb] at k
    rw [k, widthN, if_neg h1]
    cases hc : Lib.checkN (s.size - i) (bat s (i + 1)) (bat s (i + 2)) (bat s (i + 3)) (Lib.firstT (bat s i) % 8) (Lib.accLo (Lib.firstT (bat s i) / 16)) (Lib.accHi (Lib.firstT (bat s i) / 16)) with
    | none => rfl
    | some n =>
      have hn : n ≠ 0 := by
        rintro rfl
        unfold Lib.checkN at hc
        repeat' split at hc
        all_goals cases hc
      simp [hn, List.drop_drop]
theorem width_le (s : ByteArray) (i : Nat) (h : i < s.size) : i + widthN s i ≤ s.size ∧ widthN s i ≤ 4 := by
  rw [widthN]
  split
  · omega
  · unfold Lib.checkN
    repeat' split
    all_goals simp only [Option.getD_none, Option.getD_some]
    all_goals omega

section
variable (s : ByteArray) (i : Nat) (w : World)
set_option maxHeartbeats 1000000 in
set_option maxRecDepth 100000 in
theorem width_c2 (hs : s.size ≤ 140737488355328) (hi' : i < s.size) (h : 194 ≤ bat s i ∧ bat s i < 224) :
    Calls Tryz.prog 96 #[.string s, .int .i64 i] w fun e w' => e = .returned (.int .i64 (widthN s i)) ∧ w = w' := by
  have hv := bat_get s i hi'
  rw [wid_2 s i (h)]
  have HT := Lib.hid (trail_any s (i + 1) 1 128 191 w hs (by omega) (by decide) (by decide))
  have g0 : ¬ (↑(s[i]'hi').toNat : Int) < 128 := by omega
  have g1 : (194 : Int) ≤ (↑(s[i]'hi').toNat : Int) := by omega
  have g2 : (↑(s[i]'hi').toNat : Int) ≤ 223 := by omega
  have g3 : ¬ (↑(s[i]'hi').toNat : Int) = 224 := by omega
  have g4 : ¬ (↑(s[i]'hi').toNat : Int) = 237 := by omega
  have g5 : ¬ (↑(s[i]'hi').toNat : Int) = 240 := by omega
  have g6 : ¬ (↑(s[i]'hi').toNat : Int) = 244 := by omega
  have g7 : ¬ (224 : Int) ≤ (↑(s[i]'hi').toNat : Int) := by omega
  have g8 : ¬ (240 : Int) ≤ (↑(s[i]'hi').toNat : Int) := by omega
  clear hv
  cases ht : trailB s (i + 1) 1 128 191
  all_goals
    rw [ht] at HT
    clear ht
    go_enter Tryz.func96, Tryz.ntmps96
    go_wp2_with fail
    refine HT.out.mono ?_
    rintro e w1 ⟨rfl, rfl⟩
    go_wp2_with fail
    go_ret
    exact ⟨ret_int (by rfl), rfl⟩
set_option maxHeartbeats 1000000 in
set_option maxRecDepth 100000 in
theorem width_e0 (hs : s.size ≤ 140737488355328) (hi' : i < s.size) (h : bat s i = 224) :
    Calls Tryz.prog 96 #[.string s, .int .i64 i] w fun e w' => e = .returned (.int .i64 (widthN s i)) ∧ w = w' := by
  have hv := bat_get s i hi'
  rw [wid_E0 s i (h)]
  have HT := Lib.hid (trail_any s (i + 1) 2 160 191 w hs (by omega) (by decide) (by decide))
  have g0 : ¬ (↑(s[i]'hi').toNat : Int) < 128 := by omega
  have g1 : (↑(s[i]'hi').toNat : Int) = 224 := by omega
  clear hv
  cases ht : trailB s (i + 1) 2 160 191
  all_goals
    rw [ht] at HT
    clear ht
    go_enter Tryz.func96, Tryz.ntmps96
    go_wp2_with fail
    refine HT.out.mono ?_
    rintro e w1 ⟨rfl, rfl⟩
    go_wp2_with fail
    go_ret
    exact ⟨ret_int (by rfl), rfl⟩
set_option maxHeartbeats 1000000 in
set_option maxRecDepth 100000 in
theorem width_ed (hs : s.size ≤ 140737488355328) (hi' : i < s.size) (h : bat s i = 237) :
    Calls Tryz.prog 96 #[.string s, .int .i64 i] w fun e w' => e = .returned (.int .i64 (widthN s i)) ∧ w = w' := by
  have hv := bat_get s i hi'
  rw [wid_ED s i (h)]
  have HT := Lib.hid (trail_any s (i + 1) 2 128 159 w hs (by omega) (by decide) (by decide))
  have g0 : ¬ (↑(s[i]'hi').toNat : Int) < 128 := by omega
  have g1 : (↑(s[i]'hi').toNat : Int) = 237 := by omega
  clear hv
  cases ht : trailB s (i + 1) 2 128 159
  all_goals
    rw [ht] at HT
    clear ht
    go_enter Tryz.func96, Tryz.ntmps96
    go_wp2_with fail
    refine HT.out.mono ?_
    rintro e w1 ⟨rfl, rfl⟩
    go_wp2_with fail
    go_ret
    exact ⟨ret_int (by rfl), rfl⟩
set_option maxHeartbeats 1000000 in
set_option maxRecDepth 100000 in
theorem width_e1 (hs : s.size ≤ 140737488355328) (hi' : i < s.size) (h : (225 ≤ bat s i ∧ bat s i < 237) ∨ (238 ≤ bat s i ∧ bat s i < 240)) :
    Calls Tryz.prog 96 #[.string s, .int .i64 i] w fun e w' => e = .returned (.int .i64 (widthN s i)) ∧ w = w' := by
  have hv := bat_get s i hi'
  rw [wid_3 s i (h)]
  have HT := Lib.hid (trail_any s (i + 1) 2 128 191 w hs (by omega) (by decide) (by decide))
  have g0 : ¬ (↑(s[i]'hi').toNat : Int) < 128 := by omega
  have g1 : (194 : Int) ≤ (↑(s[i]'hi').toNat : Int) := by omega
  have g2 : ¬ (↑(s[i]'hi').toNat : Int) ≤ 223 := by omega
  have g3 : ¬ (↑(s[i]'hi').toNat : Int) = 224 := by omega
  have g4 : ¬ (↑(s[i]'hi').toNat : Int) = 237 := by omega
  have g5 : ¬ (↑(s[i]'hi').toNat : Int) = 240 := by omega
  have g6 : ¬ (↑(s[i]'hi').toNat : Int) = 244 := by omega
  have g7 : (224 : Int) ≤ (↑(s[i]'hi').toNat : Int) := by omega
  have g8 : (↑(s[i]'hi').toNat : Int) ≤ 239 := by omega
  have g9 : ¬ (240 : Int) ≤ (↑(s[i]'hi').toNat : Int) := by omega
  clear hv
  cases ht : trailB s (i + 1) 2 128 191
  all_goals
    rw [ht] at HT
    clear ht
    go_enter Tryz.func96, Tryz.ntmps96
    go_wp2_with fail
    refine HT.out.mono ?_
    rintro e w1 ⟨rfl, rfl⟩
    go_wp2_with fail
    go_ret
    exact ⟨ret_int (by rfl), rfl⟩
set_option maxHeartbeats 1000000 in
set_option maxRecDepth 100000 in
theorem width_f0 (hs : s.size ≤ 140737488355328) (hi' : i < s.size) (h : bat s i = 240) :
    Calls Tryz.prog 96 #[.string s, .int .i64 i] w fun e w' => e = .returned (.int .i64 (widthN s i)) ∧ w = w' := by
  have hv := bat_get s i hi'
  rw [wid_F0 s i (h)]
  have HT := Lib.hid (trail_any s (i + 1) 3 144 191 w hs (by omega) (by decide) (by decide))
  have g0 : ¬ (↑(s[i]'hi').toNat : Int) < 128 := by omega
  have g1 : (↑(s[i]'hi').toNat : Int) = 240 := by omega
  clear hv
  cases ht : trailB s (i + 1) 3 144 191
  all_goals
    rw [ht] at HT
    clear ht
    go_enter Tryz.func96, Tryz.ntmps96
    go_wp2_with fail
    refine HT.out.mono ?_
    rintro e w1 ⟨rfl, rfl⟩
    go_wp2_with fail
    go_ret
    exact ⟨ret_int (by rfl), rfl⟩
set_option maxHeartbeats 1000000 in
set_option maxRecDepth 100000 in
theorem width_f4 (hs : s.size ≤ 140737488355328) (hi' : i < s.size) (h : bat s i = 244) :
    Calls Tryz.prog 96 #[.string s, .int .i64 i] w fun e w' => e = .returned (.int .i64 (widthN s i)) ∧ w = w' := by
  have hv := bat_get s i hi'
  rw [wid_F4 s i (h)]
  have HT := Lib.hid (trail_any s (i + 1) 3 128 143 w hs (by omega) (by decide) (by decide))
  have g0 : ¬ (↑(s[i]'hi').toNat : Int) < 128 := by omega
  have g1 : (↑(s[i]'hi').toNat : Int) = 244 := by omega
  clear hv
  cases ht : trailB s (i + 1) 3 128 143
  all_goals
    rw [ht] at HT
    clear ht
    go_enter Tryz.func96, Tryz.ntmps96
    go_wp2_with fail
    refine HT.out.mono ?_
    rintro e w1 ⟨rfl, rfl⟩
    go_wp2_with fail
    go_ret
    exact ⟨ret_int (by rfl), rfl⟩
set_option maxHeartbeats 1000000 in
set_option maxRecDepth 100000 in
theorem width_f1 (hs : s.size ≤ 140737488355328) (hi' : i < s.size) (h : 241 ≤ bat s i ∧ bat s i < 244) :
    Calls Tryz.prog 96 #[.string s, .int .i64 i] w fun e w' => e = .returned (.int .i64 (widthN s i)) ∧ w = w' := by
  have hv := bat_get s i hi'
  rw [wid_4 s i (h)]
  have HT := Lib.hid (trail_any s (i + 1) 3 128 191 w hs (by omega) (by decide) (by decide))
  have g0 : ¬ (↑(s[i]'hi').toNat : Int) < 128 := by omega
  have g1 : (194 : Int) ≤ (↑(s[i]'hi').toNat : Int) := by omega
  have g2 : ¬ (↑(s[i]'hi').toNat : Int) ≤ 223 := by omega
  have g3 : ¬ (↑(s[i]'hi').toNat : Int) = 224 := by omega
  have g4 : ¬ (↑(s[i]'hi').toNat : Int) = 237 := by omega
  have g5 : ¬ (↑(s[i]'hi').toNat : Int) = 240 := by omega
  have g6 : ¬ (↑(s[i]'hi').toNat : Int) = 244 := by omega
  have g7 : (224 : Int) ≤ (↑(s[i]'hi').toNat : Int) := by omega
  have g8 : ¬ (↑(s[i]'hi').toNat : Int) ≤ 239 := by omega
  have g9 : (240 : Int) ≤ (↑(s[i]'hi').toNat : Int) := by omega
  have g10 : (↑(s[i]'hi').toNat : Int) ≤ 244 := by omega
  clear hv
  cases ht : trailB s (i + 1) 3 128 191
  all_goals
    rw [ht] at HT
    clear ht
    go_enter Tryz.func96, Tryz.ntmps96
    go_wp2_with fail
    refine HT.out.mono ?_
    rintro e w1 ⟨rfl, rfl⟩
    go_wp2_with fail
    go_ret
    exact ⟨ret_int (by rfl), rfl⟩
set_option maxHeartbeats 1000000 in
set_option maxRecDepth 100000 in
theorem width_lo (hs : s.size ≤ 140737488355328) (hi' : i < s.size) (h : bat s i < 128) :
    Calls Tryz.prog 96 #[.string s, .int .i64 i] w fun e w' => e = .returned (.int .i64 (widthN s i)) ∧ w = w' := by
  have hv := bat_get s i hi'
  rw [wid_lo s i h]
  have g0 : (↑(s[i]'hi').toNat : Int) < 128 := by omega
  clear hv
  go_enter Tryz.func96, Tryz.ntmps96
  go_wp2_with fail
  go_ret
  exact ⟨ret_int (by rfl), rfl⟩
set_option maxHeartbeats 1000000 in
set_option maxRecDepth 100000 in
theorem width_b1 (hs : s.size ≤ 140737488355328) (hi' : i < s.size) (h : 128 ≤ bat s i ∧ bat s i < 194) :
    Calls Tryz.prog 96 #[.string s, .int .i64 i] w fun e w' => e = .returned (.int .i64 (widthN s i)) ∧ w = w' := by
  have hv := bat_get s i hi'
  rw [wid_bad s i (.inl h)]
  have g0 : ¬ (↑(s[i]'hi').toNat : Int) < 128 := by omega
  have g1 : ¬ (194 : Int) ≤ (↑(s[i]'hi').toNat : Int) := by omega
  have g2 : ¬ (↑(s[i]'hi').toNat : Int) = 224 := by omega
  have g3 : ¬ (↑(s[i]'hi').toNat : Int) = 237 := by omega
  have g4 : ¬ (↑(s[i]'hi').toNat : Int) = 240 := by omega
  have g5 : ¬ (↑(s[i]'hi').toNat : Int) = 244 := by omega
  have g6 : ¬ (224 : Int) ≤ (↑(s[i]'hi').toNat : Int) := by omega
  have g7 : ¬ (240 : Int) ≤ (↑(s[i]'hi').toNat : Int) := by omega
  clear hv
  go_enter Tryz.func96, Tryz.ntmps96
  go_wp2_with fail
  go_ret
  exact ⟨ret_int (by rfl), rfl⟩
set_option maxHeartbeats 1000000 in
set_option maxRecDepth 100000 in
theorem width_b2 (hs : s.size ≤ 140737488355328) (hi' : i < s.size) (h : 245 ≤ bat s i) :
    Calls Tryz.prog 96 #[.string s, .int .i64 i] w fun e w' => e = .returned (.int .i64 (widthN s i)) ∧ w = w' := by
  have hv := bat_get s i hi'
  rw [wid_bad s i (.inr h)]
  have g0 : ¬ (↑(s[i]'hi').toNat : Int) < 128 := by omega
  have g1 : (194 : Int) ≤ (↑(s[i]'hi').toNat : Int) := by omega
  have g2 : ¬ (↑(s[i]'hi').toNat : Int) ≤ 223 := by omega
  have g3 : ¬ (↑(s[i]'hi').toNat : Int) = 224 := by omega
  have g4 : ¬ (↑(s[i]'hi').toNat : Int) = 237 := by omega
  have g5 : ¬ (↑(s[i]'hi').toNat : Int) = 240 := by omega
  have g6 : ¬ (↑(s[i]'hi').toNat : Int) = 244 := by omega
  have g7 : (224 : Int) ≤ (↑(s[i]'hi').toNat : Int) := by omega
  have g8 : ¬ (↑(s[i]'hi').toNat : Int) ≤ 239 := by omega
  have g9 : (240 : Int) ≤ (↑(s[i]'hi').toNat : Int) := by omega
  have g10 : ¬ (↑(s[i]'hi').toNat : Int) ≤ 244 := by omega
  clear hv
  go_enter Tryz.func96, Tryz.ntmps96
  go_wp2_with fail
  go_ret
  exact ⟨ret_int (by rfl), rfl⟩
theorem width_any (hs : s.size ≤ 140737488355328) (hi' : i < s.size) :
    Calls Tryz.prog 96 #[.string s, .int .i64 i] w fun e w' => e = .returned (.int .i64 (widthN s i)) ∧ w = w' := by
  by_cases h0 : bat s i < 128
  · exact width_lo s i w hs hi' h0
  by_cases h1 : bat s i < 194
  · exact width_b1 s i w hs hi' ⟨by omega, h1⟩
  by_cases h2 : bat s i < 224
  · exact width_c2 s i w hs hi' ⟨by omega, h2⟩
  by_cases h3 : bat s i = 224
  · exact width_e0 s i w hs hi' h3
  by_cases h4 : bat s i = 237
  · exact width_ed s i w hs hi' h4
  by_cases h5 : bat s i < 240
  · exact width_e1 s i w hs hi' (by omega)
  by_cases h6 : bat s i = 240
  · exact width_f0 s i w hs hi' h6
  by_cases h7 : bat s i = 244
  · exact width_f4 s i w hs hi' h7
  by_cases h8 : bat s i < 244
  · exact width_f1 s i w hs hi' ⟨by omega, h8⟩
  exact width_b2 s i w hs hi' (by omega)
end
set_option maxHeartbeats 1000000 in
set_option maxRecDepth 100000 in
theorem utf_any (s : ByteArray) (w : World) (hs : s.size ≤ 140737488355328) :
    Calls Tryz.prog 39 #[.string s] w fun e w' => e = .returned (.bool (utfOk s)) ∧ w = w' := by
  unfold utfOk
  generalize hA : Lib.validD s.data.toList = ANS
  have HA := Lib.hid hA; clear hA
  go_enter Tryz.func39, Tryz.ntmps39
  go_wp2_with fail
  go_loopw [3, 4] (fun j _ W => ∃ k : Nat, k ≤ s.size ∧ j = .int .i64 k ∧ Hid (Lib.validD (s.data.toList.drop k) = ANS) ∧ w = W) (fun j _ _ => s.size - (intOf j).toNat)
  case atStart => exact ⟨0, by omega, rfl, HA, rfl⟩
  case round =>
    clear HA
    obtain ⟨k, hk, rfl, HK, rfl⟩ := hrel
    by_cases hlt : k < s.size
    · have HW := Lib.hid (width_any s k w hs hlt)
      have HS := Lib.hid (width_step s k hlt)
      have HL := Lib.hid (width_le s k hlt)
      generalize widthN s k = n at *
      by_cases h0 : n = 0
      · subst h0
        have HR : Hid (ANS = false) := Lib.hid (by rw [← HK.out, HS.out]; simp)
        clear HS HL
        go_wp2_with fail
        refine HW.out.mono ?_
        rintro e w1 ⟨rfl, rfl⟩
        go_wp2_with fail
        go_ret
        exact ⟨ret_bool HR.out.symm, rfl⟩
      · have HR : Hid (Lib.validD (s.data.toList.drop (k + n)) = ANS) := Lib.hid (by rw [← HK.out, HS.out]; simp [h0])
        clear HS
        have h0' : ¬ (n : Int) = 0 := by omega
        have hl2 : k + n ≤ s.size := HL.out.1
        have hl3 : 0 < n := by omega
        clear h0
        go_wp2_with fail
        refine HW.out.mono ?_
        rintro e w1 ⟨rfl, rfl⟩
        go_wp2_with fail
        go_roundw
        case rel => exact ⟨k + n, hl2, by go_num, HR, by trivial⟩
        case measure => simp [intOf]; omega
    · obtain rfl : k = s.size := by omega
      have HR : Hid (ANS = true) := Lib.hid (by rw [← HK.out, List.drop_eq_nil_of_le (by simp)]; rfl)
      go_wp2_with fail
      go_ret
      exact ⟨ret_bool HR.out.symm, rfl⟩
end Go.Proofs.YtojkmemkmcnlnaaGreatDoor
