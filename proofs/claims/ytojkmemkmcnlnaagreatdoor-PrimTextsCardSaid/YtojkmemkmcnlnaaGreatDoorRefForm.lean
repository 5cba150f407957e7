/- hallmarkref03: Number, Rise, Formed, All, Weight: what they answer. -/
import Derived.Test.YtojkmemkmcnlnaaGreatDoorRefUtf
import Derived.Test.YtojkmemkmcnlnaaGreatDoorPure
import Derived.Deep.QuietTactic
import Derived.BigQuiet
import Derived.Lib.Hide
import Derived.IntWalk
namespace Go.Proofs.YtojkmemkmcnlnaaGreatDoor
open Go.RowKit

/-- What stands behind the sign. -/
def tailB (s : ByteArray) : ByteArray := if s.data.toList.head? = some 45 then s.extract 1 s.size else s
theorem numOk_tail (s : ByteArray) : numOk s = (decide (s.data.toList = [48]) || digsOk (tailB s).data.toList) := by
  unfold numOk numOkL tailB
  split
  · rw [tail_of]; simp [Bool.beq_eq_decide_eq]
  · simp [Bool.beq_eq_decide_eq]
set_option maxHeartbeats 1600000 in
set_option maxRecDepth 100000 in
theorem refNumber_any (s : ByteArray) (w : World) (hs : s.size ≤ 140737488355328) :
    Calls Tryz.prog 38 #[.string s] w fun e w' => e = .returned (.bool (numOk s)) ∧ w = w' := by
  generalize hA : numOk s = ANS
  have HA := Lib.hid hA; clear hA
  go_enter Tryz.func38, Tryz.ntmps38
  generalize hB : decide (s.data.toList.head? = some 45) = B
  have HB := Lib.hid hB; clear hB
  go_upto_region 2 with fail
  go_cut [13] (fun s13 wx => s13 = .bool B ∧ w = wx)
  case first =>
    by_cases h0 : s.size = 0
    · have e0 : ¬ 0 < s.size := by omega
      have HZ := Lib.hid h0; clear h0
      go_wp2_with fail
      go_meet
      case rel => exact ⟨by rw [← HB.out, data_nil HZ.out]; rfl, rfl⟩
    · have e0 : 0 < s.size := by omega
      clear h0
      go_wp2_with fail
      go_meet
      case rel => exact ⟨by rw [← HB.out, head_of s e0, u8_beq s[0] 45 45 rfl]; simp [Bool.beq_eq_decide_eq], rfl⟩
  case rest =>
  obtain ⟨rfl, rfl⟩ := hcut
  go_upto_if 13 with fail
  go_cut [3] (fun s3 wx => s3 = .string (tailB s) ∧ w = wx)
  case first =>
    cases B
    · have ht : tailB s = s := by unfold tailB; rw [if_neg (of_decide_eq_false HB.out)]
      have HT := Lib.hid ht; clear ht
      go_wp2_with fail
      go_meet
      case rel => exact ⟨by rw [HT.out], rfl⟩
    · have ht : tailB s = s.extract 1 s.size := by unfold tailB; rw [if_pos (of_decide_eq_true HB.out)]
      have hp : 1 ≤ s.size := by
        have := of_decide_eq_true HB.out
        rcases Nat.eq_zero_or_pos s.size with h | h
        · rw [data_nil h] at this; simp at this
        · omega
      have HT := Lib.hid ht; clear ht
      go_wp2_with fail
      go_meet
      case rel => exact ⟨by rw [HT.out], rfl⟩
  case rest =>
    obtain ⟨rfl, rfl⟩ := hcut
    have hd : (tailB s).size ≤ 140737488355328 := by
      unfold tailB
      split
      · simp; omega
      · exact hs
    have hN := numOk_tail s
    have hS : s.data.toList = [48] → (tailB s).data.toList = [48] := fun h => by
      unfold tailB
      rw [h, if_neg (by decide), h]
    generalize tailB s = d at *
    have HN := Lib.hid hN; clear hN
    have HS := Lib.hid hS; clear hS
    go_wp2_with fail
    go_loop [4] (fun i => ∃ k : Nat, k ≤ d.size ∧ i = .int .i64 k ∧ Hid ((d.data.toList.take k).all digB = true)) (fun i => d.size - (intOf i).toNat)
    case atStart => exact ⟨0, Nat.zero_le _, rfl, Lib.hid (by simp)⟩
    case round =>
      obtain ⟨k, hk, rfl, HK⟩ := hrel
      by_cases hlt : k < d.size
      · have ht := all_take d k hlt digB
        have HT := Lib.hid ht
        by_cases hc : digB d[k] = true
        · have hc' := hc
          rw [digB, Bool.and_eq_true, decide_eq_true_eq, decide_eq_true_eq] at hc'
          obtain ⟨c1, c2⟩ := hc'
          have HCC := Lib.hid hc; clear hc ht
          go_wp2_with fail
          go_round
          case rel => exact ⟨k + 1, by omega, by go_num, Lib.hid (by rw [HT.out, HK.out, HCC.out]; rfl)⟩
          case measure => simp [intOf]; omega
        · have hb : (d[k].toNat : Int) < 48 ∨ (57 : Int) < d[k].toNat := by
            simp only [digB, Bool.and_eq_true, decide_eq_true_eq] at hc; omega
          have hfin : ANS = false := by
            rw [← HA.out, HN.out, ← Bool.not_eq_true]
            intro h
            rcases Bool.or_eq_true_iff.1 h with h | h
            · have h2 := HS.out (of_decide_eq_true h)
              have h3 : d.data.toList.all digB = true := by rw [h2]; decide
              have hl := all_take_le d (k + 1) digB h3
              rw [ht, Bool.and_eq_true] at hl
              exact hc hl.2
            · have hl := all_take_le d (k + 1) digB (by simp only [digsOk, Bool.and_eq_true] at h; exact h.2)
              rw [ht, Bool.and_eq_true] at hl
              exact hc hl.2
          have HF := Lib.hid hfin
          clear ht hc HT hfin
          rcases hb with h1 | h2
          · go_wp2_with fail
            go_ret
            exact ⟨ret_bool HF.out.symm, rfl⟩
          · have h1 : ¬ (d[k].toNat : Int) < 48 := by omega
            go_wp2_with fail
            go_ret
            exact ⟨ret_bool HF.out.symm, rfl⟩
      · obtain rfl : k = d.size := by omega
        have hall : d.data.toList.all digB = true := by have := HK.out; rwa [List.take_of_length_le (by simp)] at this
        by_cases h0 : d.size = 0
        · have hF : Hid (ANS = false) := Lib.hid (by
            rw [← HA.out, HN.out, data_nil h0, ← Bool.not_eq_true]
            intro h
            rcases Bool.or_eq_true_iff.1 h with h | h
            · have h2 := HS.out (of_decide_eq_true h)
              rw [data_nil h0] at h2; cases h2
            · cases h)
          have e0 : (d.size : Int) = 0 := by omega
          clear hall h0 HK hlt hk
          go_wp2_with fail
          go_ret
          exact ⟨ret_bool hF.out.symm, rfl⟩
        · have hp : 0 < d.size := by omega
          have e0 : ((d.size : Int) == 0) = false := by rw [beq_eq_false_iff_ne]; omega
          have hh := head_of d hp
          by_cases h48 : d[0] = 48
          · have h1 : (d[0].toNat : Int) = 48 := by rw [h48]; rfl
            have hR : Hid (ANS = decide (s.data.toList = [48])) := Lib.hid (by
              rw [← HA.out, HN.out]
              have : digsOk d.data.toList = false := by simp [digsOk, hh, h48]
              rw [this, Bool.or_false])
            by_cases hs0 : s.data.toList = [48]
            · have hb : (s.toList == [48]) = true := by rw [ByteArray.toList_eq, hs0]; rfl
              have HR : Hid (ANS = true) := Lib.hid (by rw [hR.out, hs0]; rfl)
              clear hR hs0 hh h48 hall h0 HK hlt hk
              go_wp2_with fail
              go_ret
              exact ⟨ret_bool HR.out.symm, rfl⟩
            · have hb : (s.toList == [48]) = false := by rw [ByteArray.toList_eq]; simpa using hs0
              have HR : Hid (ANS = false) := Lib.hid (by rw [hR.out]; simpa using hs0)
              clear hR hs0 hh h48 hall h0 HK hlt hk
              go_wp2_with fail
              go_ret
              exact ⟨ret_bool HR.out.symm, rfl⟩
          · have h1 : ((d[0].toNat : Int) == 48) = false := by
              rw [beq_eq_false_iff_ne]
              exact fun h => h48 (by rw [← UInt8.toNat_inj]; have : (48 : UInt8).toNat = 48 := rfl; omega)
            have HR : Hid (ANS = true) := Lib.hid (by
              rw [← HA.out, HN.out]
              have : digsOk d.data.toList = true := by
                rw [digsOk, hall, isEmpty_of, hh]
                simp [h48, h0]
              rw [this, Bool.or_true])
            clear hh h48 hall h0 HK hlt hk
            go_wp2_with fail
            go_ret
            exact ⟨ret_bool HR.out.symm, rfl⟩

set_option maxHeartbeats 1600000 in
set_option maxRecDepth 100000 in
theorem refRise_any (ks : List ByteArray) (B : Option Addr) (d : Nat) (w : World) (h : SSl All w ks B d) :
    Calls Tryz.prog 40 #[.slice B ks.length d] w fun e w' => e = .returned (.bool (riseOk ks)) ∧ Below w.heap.size w w' := by
  have hl : ks.length ≤ 9223372036854775807 := by have := h.2.2.1; omega
  have H := Lib.hid h; clear h
  generalize hA : riseOk ks = ANS
  have HA := Lib.hid hA; clear hA
  go_enter Tryz.func40, Tryz.ntmps40
  go_wp2_with fail
  go_loopw [3] (fun i W => ∃ k : Nat, k ≤ ks.length ∧ i = .int .i64 k ∧ Hid (riseFrom (prevOf ks k) (ks.drop k) = ANS) ∧ Hid (Below w.heap.size w W)) (fun i _ => ks.length - (intOf i).toNat)
  case atStart => exact ⟨0, Nat.zero_le _, rfl, Lib.hid (by simpa [prevOf, riseOk] using HA.out), Lib.hid (Below.refl _ _)⟩
  case round =>
    clear HA
    obtain ⟨k, hk, rfl, HK, HB⟩ := hrel
    by_cases hlt : k < ks.length
    · obtain ⟨g, o, rfl, _, hc, hsz⟩ := (H.out.below HB.out).at_ hlt
      have hR := HK.out
      rw [drop_cons ks k hlt] at hR
      have hP : 0 < k → wr.cell? ⟨g, o + (k - 1), none⟩ = some (.string (ks[k - 1]'(by omega))) := fun h0 => by
        obtain ⟨g', o', e', _, hc', _⟩ := (H.out.below HB.out).at_ (i := k - 1) (by omega)
        simp only [Option.some.injEq, Addr.mk.injEq, and_true] at e'
        obtain ⟨rfl, rfl⟩ := e'
        exact hc'
      have HP := Lib.hid hP; clear hP HK
      cases hu : utfOk ks[k]
      · have HU := Lib.hid hu; clear hu
        have hF : ANS = false := by
          rw [← hR]
          cases prevOf ks k <;> simp [riseFrom, HU.out]
        have HF := Lib.hid hF; clear hF hR
        go_wp2_with (go_at_call 39; refine (utf_any _ _ hsz).mono ?_; rw [HU.out]; rintro e w1 ⟨rfl, rfl⟩)
        go_ret
        exact ⟨ret_bool HF.out.symm, HB.out⟩
      · have HU := Lib.hid hu; clear hu
        by_cases hz : k = 0
        · have hR0 : Hid (k = 0) := Lib.hid hz
          have hz' : decide (0 < k) = false := by rw [decide_eq_false_iff_not]; omega
          clear hz
          have HR := Lib.hid hR; clear hR
          go_wp2_with (go_at_call 39; refine (utf_any _ _ hsz).mono ?_; rw [HU.out]; rintro e w1 ⟨rfl, rfl⟩)
          go_quiet (fail)
          have HB2 := Lib.hid (below_drewN HB.out nq)
          go_wp2_with fail
          go_roundw
          case rel => exact ⟨k + 1, by omega, by go_num, Lib.hid (by have := HR.out; obtain rfl : k = 0 := hR0.out
                                                                     simpa [prevOf, riseFrom, HU.out, hlt] using this), HB2⟩
          case measure => simp [intOf]; omega
        · have hp := HP.out (by omega)
          have hR' : (Op.bytesLess (ks[k - 1]'(by omega)).toList ks[k].toList && riseFrom (some ks[k]) (ks.drop (k + 1))) = ANS := by
            rw [← hR, prevOf, if_neg hz, List.getElem?_eq_getElem (by omega)]
            simp [riseFrom, HU.out]
          have hk0 : 0 < k := by omega
          have hk1 : decide (0 < k) = true := by rw [decide_eq_true_eq]; omega
          have i0 : (0 : Int) ≤ ↑k := by omega
          have i1 : (k : Int) < ↑ks.length := by omega
          have j0 : (0 : Int) ≤ ↑k - 1 := by omega
          have j1 : (k : Int) - 1 < ↑ks.length := by omega
          have j2 : IntKind.i64.wrap ((k : Int) - 1) = ↑k - 1 := IntWalk.i64_in _ (by omega)
          have j3 : ((k : Int) - 1).toNat = k - 1 := by omega
          have hkz := Lib.hid hz
          clear hR hz
          generalize hs1 : ks[k - 1]'(by omega) = s1 at *
          generalize hs2 : ks[k] = s2 at *
          have HS2 := Lib.hid hs2; clear hs2 hs1
          cases hb : Op.bytesLess s1.toList s2.toList
          · rw [hb] at hR'
            have HF := Lib.hid hR'; clear hR'
            go_wp2_with (go_at_call 39; refine (utf_any _ _ hsz).mono ?_; rw [HU.out]; rintro e w1 ⟨rfl, rfl⟩)
            go_quiet (fail)
            have HB2 := Lib.hid (below_drewN HB.out nq)
            go_wp2_with fail
            go_ret
            exact ⟨ret_bool HF.out, HB2.out⟩
          · rw [hb] at hR'
            have HF := Lib.hid hR'; clear hR'
            go_wp2_with (go_at_call 39; refine (utf_any _ _ hsz).mono ?_; rw [HU.out]; rintro e w1 ⟨rfl, rfl⟩)
            go_quiet (fail)
            have HB2 := Lib.hid (below_drewN HB.out nq)
            clear j2
            go_wp2_with fail
            go_roundw
            case rel => exact ⟨k + 1, by omega, by go_num, Lib.hid (by rw [prevOf, if_neg (by omega), Nat.add_sub_cancel, List.getElem?_eq_getElem hlt, HS2.out]; simpa using HF.out), HB2⟩
            case measure => simp [intOf]; omega
    · obtain rfl : k = ks.length := by omega
      go_wp2_with fail
      go_ret
      exact ⟨ret_bool (by have := HK.out; rw [List.drop_length] at this; rw [← this]; cases prevOf ks ks.length <;> rfl), HB.out⟩
end Go.Proofs.YtojkmemkmcnlnaaGreatDoor
