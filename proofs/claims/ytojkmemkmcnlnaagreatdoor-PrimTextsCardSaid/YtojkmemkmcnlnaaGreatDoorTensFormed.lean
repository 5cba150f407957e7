/- tens.Formed says whether a text is a whole number in tens. -/
import Derived.Test.YtojkmemkmcnlnaaGreatDoorProg
import Derived.Test.YtojkmemkmcnlnaaGreatDoorPure
import Derived.KernelRfl
import Derived.Deep.LoopGhost
import Derived.Deep.QuietTactic
import Derived.BigQuiet
import Derived.Deep.DeepCutAuto
import Derived.Deep.CutBlock
namespace Go.Proofs.YtojkmemkmcnlnaaGreatDoor
open Go.RowKit

set_option maxHeartbeats 800000 in
theorem tensFormed_any (s : ByteArray) (w : World) (hs : s.size ≤ 140737488355328) :
    Calls Tryz.prog 87 #[.string s] w fun e w' => e = .returned (.bool (numOk s)) ∧ w = w' := by
  generalize hA : numOk s = ANS
  have HA := Lib.hid hA; clear hA
  by_cases h1 : s.data.toList = [48]
  · have hb : (s.toList == [48]) = true := by rw [ByteArray.toList_eq, h1]; rfl
    have hn := HA.out
    simp only [numOk, numOkL, h1] at hn
    clear h1 HA
    have HN := Lib.hid hn; clear hn
    go_enter Tryz.func87, Tryz.ntmps87
    go_wp2_with fail
    go_ret
    exact ⟨ret_bool HN.out, rfl⟩
  · have hb : (s.toList == [48]) = false := by rw [ByteArray.toList_eq]; simpa using h1
    have hn : (if s.data.toList.head? = some 45 then digsOk s.data.toList.tail else digsOk s.data.toList) = ANS := by rw [← HA.out]; simp [numOk, numOkL, h1]
    clear HA h1
    generalize hB : decide (s.data.toList.head? = some 45) = B at *
    have hn' : (if B = true then digsOk s.data.toList.tail else digsOk s.data.toList) = ANS := by rw [← hn, ← hB]; simp
    clear hn
    have HN := Lib.hid hn'; clear hn'
    have HB := Lib.hid hB; clear hB
    go_enter Tryz.func87, Tryz.ntmps87
    go_upto_region 3 with fail
    clear hb
    go_cut [12] (fun s12 wx => s12 = .bool B ∧ w = wx)
    case first =>
      by_cases h0 : s.size = 0
      · have e0 : s.toList = [] := by rw [ByteArray.toList_eq]; exact List.eq_nil_of_length_eq_zero (by simpa using h0)
        go_wp2_with fail
        go_meet
        case rel =>
          have hb := HB.out
          rw [← ByteArray.toList_eq, e0] at hb
          exact ⟨by rw [← hb]; rfl, rfl⟩
      · have hp : 0 < s.size := by omega
        have e0 : s.toList.isEmpty = false := by rw [ByteArray.toList_eq, isEmpty_of]; simpa using h0
        go_wp2_with fail
        go_meet
        case rel => exact ⟨by rw [← HB.out, head_of s hp, u8_beq s[0] 45 45 rfl]; simp [Bool.beq_eq_decide_eq], rfl⟩
    case rest =>
      obtain ⟨rfl, rfl⟩ := hcut
      go_upto_if 12 with fail
      go_cut [0] (fun s0 wx => ∃ d : ByteArray, s0 = .string d ∧ Hid (digsOk d.data.toList = ANS) ∧ d.size ≤ 140737488355328 ∧ w = wx)
      case first =>
        cases B
        · go_wp2_with fail
          go_meet
          case rel => exact ⟨s, rfl, Lib.hid (by simpa using HN.out), hs, rfl⟩
        · have hp : 1 ≤ s.size := by
            have := HB.out
            rcases Nat.eq_zero_or_pos s.size with h | h
            · rw [data_nil h] at this; simp at this
            · omega
          go_wp2_with fail
          go_meet
          case rel => exact ⟨_, rfl, Lib.hid (by rw [tail_of]; simpa using HN.out), by simp; omega, rfl⟩
      case rest =>
        obtain ⟨d, rfl, HD, hd, rfl⟩ := hcut
        clear HN HB
        generalize hC : (d.data.toList.isEmpty || d.data.toList.head? == some 48) = C
        have HC := Lib.hid hC; clear hC
        go_upto_region 5 with fail
        go_cut [21] (fun s21 wx => s21 = .bool C ∧ w = wx)
        case first =>
          by_cases h0 : d.size = 0
          · have e0 := toList_nil h0
            go_wp2_with fail
            go_meet
            case rel => exact ⟨by rw [← HC.out, data_nil h0]; rfl, rfl⟩
          · have hp : 0 < d.size := by omega
            have e0 := toList_ne hp
            go_wp2_with fail
            go_meet
            case rel => exact ⟨by rw [← HC.out, head_of d hp, isEmpty_of, u8_beq d[0] 48 48 rfl]; simp [h0], rfl⟩
        case rest =>
          obtain ⟨rfl, rfl⟩ := hcut
          cases C
          · have hne : 0 < d.size := by
              have := HC.out
              rcases Nat.eq_zero_or_pos d.size with h | h
              · rw [data_nil h] at this; simp at this
              · exact h
            have hD : d.data.toList.all digB = ANS := by
              rw [← HD.out, digsOk]
              have := HC.out
              rw [Bool.or_eq_false_iff] at this
              rw [this.1, bne, this.2]; rfl
            have HE := Lib.hid hD; clear hD HD HC
            go_wp2_with fail
            go_loop [3, 24] (fun _ i => ∃ k : Nat, k ≤ d.size ∧ i = .int .i64 k ∧ Hid ((d.data.toList.take k).all digB = true)) (fun _ i => d.size - (intOf i).toNat)
            case atStart => exact ⟨0, Nat.zero_le _, rfl, Lib.hid (by simp)⟩
            case round =>
              obtain ⟨k, hk, rfl, HK⟩ := hrel
              by_cases hlt : k < d.size
              · have ht := all_take d k hlt digB
                have HT := Lib.hid ht
                by_cases hc : digB d[k] = true
                · have hc' := hc
                  rw [digB, Bool.and_eq_true, decide_eq_true_eq, decide_eq_true_eq] at hc'
                  obtain ⟨c1, c2⟩ := hc'
                  have HCC := Lib.hid hc; clear hc ht
                  go_wp2_with fail
                  go_round
                  case rel => exact ⟨k + 1, by omega, by go_num, Lib.hid (by rw [HT.out, HK.out, HCC.out]; rfl)⟩
                  case measure => simp [intOf]; omega
                · have hb : decide ((d[k].toNat : Int) < 48) = true ∨ decide ((57 : Int) < d[k].toNat) = true := by
                    simp only [digB, Bool.and_eq_true, decide_eq_true_eq] at hc ⊢; omega
                  have hfin : ANS = false := by
                    rw [← HE.out, ← Bool.not_eq_true]
                    intro h
                    have hl := all_take_le d (k + 1) digB h
                    rw [ht, Bool.and_eq_true] at hl
                    exact hc hl.2
                  have HF := Lib.hid hfin
                  clear ht hc HT hfin
                  by_cases h1 : (d[k].toNat : Int) < 48
                  · go_wp2_with fail
                    go_ret
                    exact ⟨ret_bool HF.out.symm, rfl⟩
                  · have h2 : (57 : Int) < d[k].toNat := by simp only [decide_eq_true_eq] at hb; omega
                    clear hb
                    go_wp2_with fail
                    go_ret
                    exact ⟨ret_bool HF.out.symm, rfl⟩
              · obtain rfl : k = d.size := by omega
                go_wp2_with fail
                go_ret
                exact ⟨ret_bool (by rw [← HE.out, ← HK.out, List.take_of_length_le (by simp)]), rfl⟩
          · go_wp2_with fail
            go_ret
            exact ⟨ret_bool (by rw [← HD.out, digsOk, bne]; have := HC.out; revert this; generalize d.data.toList.isEmpty = a; generalize (d.data.toList.head? == some 48) = b; cases a <;> cases b <;> simp), rfl⟩
end Go.Proofs.YtojkmemkmcnlnaaGreatDoor
