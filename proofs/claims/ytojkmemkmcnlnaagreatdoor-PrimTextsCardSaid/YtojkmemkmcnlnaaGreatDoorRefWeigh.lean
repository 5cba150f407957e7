/- hallmarkref03.Weight, hallmarkkit.Fit and PartsOf: what they answer. -/
import Derived.Test.YtojkmemkmcnlnaaGreatDoorRefForm2
import Derived.Test.YtojkmemkmcnlnaaGreatDoorWeight
set_option linter.unusedVariables false
namespace Go.Proofs.YtojkmemkmcnlnaaGreatDoor
open Go.RowKit

section
variable {v : Val}
theorem size_of_empty {s : ByteArray} (h : s.toList.isEmpty = true) : s.size = 0 := by
  rw [ByteArray.toList_eq, isEmpty_of] at h
  exact of_decide_eq_true h
theorem ok_parts (h : v.ok = true) : (v.kind = 3 → 0 < v.num.size) ∧ (v.kind ≠ 3 → v.num.size = 0) ∧ (v.kind ≠ 6 → v.keys = []) ∧ (v.kind = 6 → v.keys.length = v.items.length) ∧ v.items.all Val.ok = true := by
  have nil_all : v.items.length = 0 → v.items.all Val.ok = true := fun h => by rw [List.eq_nil_of_length_eq_zero h]; rfl
  by_cases c0 : v.kind = 0 ∨ v.kind = 1 ∨ v.kind = 2
  · rw [ok_low c0] at h
    simp only [Bool.and_eq_true, beq_iff_eq] at h
    exact ⟨fun c => by omega, fun _ => size_of_empty h.1.1.1, fun _ => List.eq_nil_of_length_eq_zero h.2, fun c => by omega, nil_all h.1.2⟩
  by_cases c3 : v.kind = 3
  · rw [ok_3 c3] at h
    simp only [Bool.and_eq_true, beq_iff_eq] at h
    refine ⟨fun _ => ?_, fun c => absurd c3 c, fun _ => List.eq_nil_of_length_eq_zero h.1.2, fun c => by omega, nil_all h.1.1.2⟩
    rcases Nat.eq_zero_or_pos v.num.size with hz | hz
    · have h2 := h.2
      rw [numOk, data_nil hz] at h2
      cases h2
    · exact hz
  by_cases c4 : v.kind = 4
  · rw [ok_4 c4] at h
    simp only [Bool.and_eq_true, beq_iff_eq] at h
    exact ⟨fun c => by omega, fun _ => size_of_empty h.1.1.1, fun _ => List.eq_nil_of_length_eq_zero h.1.2, fun c => by omega, nil_all h.1.1.2⟩
  by_cases c5 : v.kind = 5
  · rw [ok_5 c5] at h
    simp only [Bool.and_eq_true, beq_iff_eq] at h
    exact ⟨fun c => by omega, fun _ => size_of_empty h.1.1.1, fun _ => List.eq_nil_of_length_eq_zero h.1.2, fun c => by omega, h.2⟩
  by_cases c6 : v.kind = 6
  · rw [ok_6 c6] at h
    simp only [Bool.and_eq_true, beq_iff_eq] at h
    exact ⟨fun c => by omega, fun _ => size_of_empty h.1.1.1.1, fun c => absurd c6 c, fun _ => h.1.1.2.symm, h.2⟩
  · rw [ok_no (by omega)] at h; cases h
end
theorem digs_eq (s : ByteArray) (h : 0 < s.size) : digs s + (if s[0] = 45 then 1 else 0) = s.size := by
  have e : digs s = (Lib.trimPrefix s.data.toList [45]).length := by simp [digs, trimMinus, ByteArray.size]
  have hh := head_of s h
  have hl : s.size = s.data.toList.length := by simp
  rw [e, hl]
  cases hd : s.data.toList with
  | nil => exact absurd h (by rw [hl, hd]; decide)
  | cons x xs =>
    rw [hd] at hh
    simp only [List.head?_cons, Option.some.injEq] at hh
    rw [← hh]
    by_cases hx : x = 45
    · subst hx; simp [Lib.trimPrefix, Lib.hasPrefix]
    · simp [Lib.trimPrefix, Lib.hasPrefix, hx, Ne.symm hx]
theorem digs_zero (s : ByteArray) (h : s.size = 0) : digs s = 0 := by have := trimMinus_le s; unfold digs; omega

set_option maxHeartbeats 2000000 in
set_option maxRecDepth 100000 in
theorem refWeight_all (m : Nat) : ∀ (v : Val) (cs : List Value) (w : World), v.sz ≤ m → Rep All w v cs → v.ok = true → v.weight < 4611686018427387904 →
    Calls Tryz.prog 23 #[.agg cs.toArray] w fun e w' => e = .returned (.int .i64 v.weight) ∧ Below w.heap.size w w' := by
  induction m with
  | zero => intro v cs w hv; cases v; simp [Val.sz] at hv
  | succ m ih =>
  intro v cs w hv h hok hw
  obtain ⟨A, c, B, d, rfl, hn, ht, hi, hk⟩ := h.open_
  have IH := Lib.hid ih; clear ih h
  rw [weight_eq] at hw ⊢
  obtain ⟨p1, p2, p3, p4, p5⟩ := ok_parts hok
  clear hok
  have l1 : v.items.length ≤ 9223372036854775807 := by have := hi.2.2.1; omega
  have Hi := Lib.hid hi; clear hi
  have Hk := Lib.hid hk; clear hk
  have HW := Lib.hid hw; clear hw
  have HV := Lib.hid hv; clear hv
  have P1 := Lib.hid p1; clear p1
  have P2 := Lib.hid p2; clear p2
  have P3 := Lib.hid p3; clear p3
  have P4 := Lib.hid p4; clear p4
  have P5 := Lib.hid p5; clear p5
  have HA : Hid (∀ k, k ≤ v.items.length → Val.weights (v.items.take k) + keysW (v.keys.take k) ≤ Val.weights v.items + keysW v.keys) := Lib.hid fun k _ => by
    have := weights_take_le v.items k; have := keysW_take_le v.keys k; omega
  generalize hkd : v.kind = kd at *
  have HKD := Lib.hid hkd; clear hkd
  go_enter Tryz.func23, Tryz.ntmps23
  generalize hB : (decide (kd = 3) && decide (v.num.data.toList.head? = some 45)) = bm
  have HB := Lib.hid hB; clear hB
  go_upto_region 2 with fail
  have l3 : 1 + v.num.size ≤ 9223372036854775807 := by omega
  have l4 : 1 + v.num.size + v.text.size ≤ 9223372036854775807 := by omega
  go_cut [21] (fun s21 wx => s21 = .bool bm ∧ (w.alloc (.cells #[.int .i64 kd, .string v.num, .string v.text, .slice A v.items.length c, .slice B v.keys.length d] 25)) = wx)
  case first =>
    by_cases c3 : kd = 3
    · have hp := P1.out c3
      subst c3
      go_wp2_with fail
      go_meet
      case rel => exact ⟨by rw [← HB.out, head_of v.num hp, u8_beq v.num[0] 45 45 rfl]; simp [Bool.beq_eq_decide_eq], rfl⟩
    · have c3b : (kd == 3) = false := by rw [beq_eq_false_iff_ne]; exact c3
      have c3c : decide (kd = 3) = false := by simpa using c3
      have C3 := Lib.hid c3c; clear c3c
      go_wp2_with fail
      go_meet
      case rel => exact ⟨by rw [← HB.out, C3.out]; rfl, rfl⟩
  case rest =>
  obtain ⟨rfl, rfl⟩ := hcut
  go_upto_if 21 with fail
  go_cut [3] (fun s3 wx => s3 = .int .i64 ((1 + digs v.num + v.text.size : Nat) : Int) ∧ (w.alloc (.cells #[.int .i64 kd, .string v.num, .string v.text, .slice A v.items.length c, .slice B v.keys.length d] 25)) = wx)
  case first =>
    cases bm
    · have hsz : digs v.num = v.num.size := by
        have hb := HB.out
        by_cases c3 : kd = 3
        · have hp := P1.out c3
          have e := digs_eq v.num hp
          rw [head_of v.num hp] at hb
          have : ¬ v.num[0] = 45 := by simpa [c3] using hb
          rw [if_neg this] at e; omega
        · have hz := P2.out c3
          rw [digs_zero v.num hz, hz]
      have HE := Lib.hid hsz
      clear hsz
      go_wp2_with fail
      go_meet
      case rel => exact ⟨int_eq (by have := HE.out; omega), rfl⟩
    · have hsz : digs v.num + 1 = v.num.size := by
        have hb := HB.out
        rw [Bool.and_eq_true, decide_eq_true_eq, decide_eq_true_eq] at hb
        have hp := P1.out hb.1
        have e := digs_eq v.num hp
        rw [head_of v.num hp, Option.some.injEq] at hb
        rw [if_pos hb.2] at e; exact e
      have HE := Lib.hid hsz
      clear hsz
      go_wp2_with fail
      go_meet
      case rel => exact ⟨int_eq (by have := HE.out; omega), rfl⟩
  case rest =>
    obtain ⟨rfl, rfl⟩ := hcut
    have hlen : 1 + digs v.num + v.text.size ≤ 4611686018427387904 := by have := HW.out; omega
    have HWS : Hid (1 + digs v.num + v.text.size + (Val.weights v.items + keysW v.keys) < 4611686018427387904) := Lib.hid (by have := HW.out; omega)
    have HFIN : Hid (1 + digs v.num + v.text.size + keysW v.keys + Val.weights v.items = 1 + digs v.num + v.text.size + (Val.weights v.items + keysW v.keys)) := Lib.hid (by omega)
    generalize hS0 : 1 + digs v.num + v.text.size = S0 at *
    have HS0 := Lib.hid hS0; clear hS0
    have HBX0 := Lib.hid ((Below.refl w.heap.size w).alloc (Nat.le_refl _) (.cells #[.int .i64 kd, .string v.num, .string v.text, .slice A v.items.length c, .slice B v.keys.length d] 25))
    have HBB0 := Lib.hid (blk_new w (.cells #[.int .i64 kd, .string v.num, .string v.text, .slice A v.items.length c, .slice B v.keys.length d] 25))
    generalize w.alloc (.cells #[.int .i64 kd, .string v.num, .string v.text, .slice A v.items.length c, .slice B v.keys.length d] 25) = W0 at *
    go_wp2_with fail
    go_loopw [3, 4] (fun s i W => ∃ k : Nat, k ≤ v.items.length ∧ i = .int .i64 k ∧ s = .int .i64 ((S0 + (Val.weights (v.items.take k) + keysW (v.keys.take k)) : Nat) : Int) ∧ Hid (Below w.heap.size w W) ∧ Hid (W.heap[w.heap.size]? = some (.cells #[.int .i64 kd, .string v.num, .string v.text, .slice A v.items.length c, .slice B v.keys.length d] 25 (0,0)))) (fun _ i _ => v.items.length - (intOf i).toNat)
    case atStart => exact ⟨0, Nat.zero_le _, rfl, int_eq (by simp [Val.weights, keysW]), HBX0, HBB0⟩
    case round =>
      clear HBX0 HBB0
      obtain ⟨k, hk, rfl, rfl, HB, HX⟩ := hrel
      have c3 : wr.cell? ⟨w.heap.size, 3, none⟩ = some (.slice A v.items.length c) := (blk_cell HX.out 3).trans rfl
      by_cases hlt : k < v.items.length
      · obtain ⟨g, o, A', c', B', d', rfl, _, h0, h1, h2, h3, h4, hr⟩ := (Hi.out.below HB.out).at_ hlt
        have Hr := Lib.hid hr; clear hr
        have E1 := Lib.hid (weights_take v.items k hlt)
        have E2 := Lib.hid (HA.out (k + 1) (by omega))
        have hokx : (v.items[k]).ok = true := List.all_eq_true.1 P5.out _ (List.getElem_mem hlt)
        have HO := Lib.hid hokx; clear hokx
        have i0 : (0 : Int) ≤ ↑k := by omega
        have i1 : (k : Int) < ↑v.items.length := by omega
        go_wp2_with fail
        refine (IH.out _ _ _ ?_ Hr.out HO.out ?_).mono ?_
        · have := Val.sz_item (v := v) (x := v.items[k]) (List.getElem_mem hlt); have := HV.out; omega
        · have := E1.out; have := E2.out; have := HWS.out; have := keysW_take_le v.keys (k + 1); omega
        · rintro e w1 ⟨rfl, hb1⟩
          clear h0 h1 h2 h3 h4 c3 i0 i1
          have HB1 := Lib.hid (HB.out.trans (hb1.mono HB.out.size))
          have HX1 := Lib.hid (blk_below HX.out hb1)
          clear hb1 HX
          have c0 : w1.cell? ⟨w.heap.size, 0, none⟩ = some (.int .i64 kd) := (blk_cell HX1.out 0).trans rfl
          have c4 : w1.cell? ⟨w.heap.size, 4, none⟩ = some (.slice B v.keys.length d) := (blk_cell HX1.out 4).trans rfl
          have hsum : S0 + (Val.weights (List.take k v.items) + keysW (List.take k v.keys)) + v.items[k].weight ≤ 4611686018427387904 := by
            have := E1.out; have := E2.out; have := HWS.out
            have h7 : keysW (List.take k v.keys) ≤ keysW (List.take (k + 1) v.keys) := by
              have := keysW_take_le (v.keys.take (k + 1)) k
              rwa [List.take_take, Nat.min_eq_left (by omega)] at this
            omega
          by_cases c6 : kd = 6
          · have hl2 := P4.out c6
            have hlt2 : k < v.keys.length := by omega
            obtain ⟨g', o', rfl, _, hc, hsz⟩ := (Hk.out.below HB1.out).at_ (i := k) hlt2
            have E3 := Lib.hid (keysW_take v.keys k hlt2)
            have HL2 := Lib.hid hl2; clear hl2
            have hsum2 : S0 + (Val.weights (List.take k v.items) + keysW (List.take k v.keys)) + v.items[k].weight + (1 + v.keys[k].size) ≤ 4611686018427387904 := by
              have := E1.out; have := E2.out; have := E3.out; have := HWS.out; omega
            have i0 : (0 : Int) ≤ ↑k := by omega
            have i1 : (k : Int) < ↑v.keys.length := by omega
            subst c6
            clear HKD
            go_wp2_with fail
            go_roundw
            case rel => exact ⟨k + 1, by omega, by go_num, int_eq (by have := E1.out; have := E3.out; omega), HB1, HX1⟩
            case measure => simp [intOf]; omega
          · have hk0 := P3.out c6
            have c6b : (kd == 6) = false := by rw [beq_eq_false_iff_ne]; exact c6
            have HK0 := Lib.hid hk0; clear hk0
            go_wp2_with fail
            go_roundw
            case rel => exact ⟨k + 1, by omega, by go_num, int_eq (by have := E1.out; rw [HK0.out] at *; simp only [List.take_nil] at *; omega), HB1, HX1⟩
            case measure => simp [intOf]; omega
      · obtain rfl : k = v.items.length := by omega
        go_wp2_with fail
        go_ret
        refine ⟨ret_int ?_, HB.out⟩
        rw [HS0.out, HFIN.out, List.take_length]
        by_cases c6 : kd = 6
        · rw [← P4.out c6, List.take_length]
        · rw [P3.out c6, List.take_nil]
theorem refWeight_any (v : Val) (cs : List Value) (w : World) (h : Rep All w v cs) (hok : v.ok = true) (hw : v.weight < 4611686018427387904) :
    Calls Tryz.prog 23 #[.agg cs.toArray] w fun e w' => e = .returned (.int .i64 v.weight) ∧ Below w.heap.size w w' := refWeight_all v.sz v cs w (Nat.le_refl _) h hok hw

def SomeInt (w : World) (e : Ending) (w' : World) : Prop := (∃ z : Int, e = .returned (.int .i64 z)) ∧ Below w.heap.size w w'
set_option maxHeartbeats 2000000 in
set_option maxRecDepth 100000 in
theorem parts_all (m : Nat) : ∀ (v : Val) (cs : List Value) (z : Int) (w : World), v.sz ≤ m → Rep All w v cs →
    Calls Tryz.prog 25 #[.agg cs.toArray, .int .i64 z] w (SomeInt w) := by
  induction m with
  | zero => intro v cs z w hv; cases v; simp [Val.sz] at hv
  | succ m ih =>
  intro v cs z w hv h
  obtain ⟨A, c, B, d, rfl, hn, ht, hi, hk⟩ := h.open_
  have IH := Lib.hid ih; clear ih h
  have l1 : v.items.length ≤ 9223372036854775807 := by have := hi.2.2.1; omega
  have Hi := Lib.hid hi; clear hi
  have HV := Lib.hid hv; clear hv hk
  go_enter Tryz.func25, Tryz.ntmps25
  go_wp2_with fail
  go_loopw [5, 6] (fun s i W => ∃ (k : Nat) (y : Int), k ≤ v.items.length ∧ i = .int .i64 k ∧ s = .int .i64 y ∧ Hid (Below w.heap.size w W) ∧ Hid (W.heap[w.heap.size]? = some (.cells #[.int .i64 v.kind, .string v.num, .string v.text, .slice A v.items.length c, .slice B v.keys.length d] 25 (0,0)))) (fun _ i _ => v.items.length - (intOf i).toNat)
  case atStart => exact ⟨0, 1, Nat.zero_le _, rfl, rfl, Lib.hid ((Below.refl w.heap.size w).alloc (Nat.le_refl _) _), Lib.hid (blk_new w _)⟩
  case round =>
    obtain ⟨k, y, hk, rfl, rfl, HB, HX⟩ := hrel
    have c3 : wr.cell? ⟨w.heap.size, 3, none⟩ = some (.slice A v.items.length c) := (blk_cell HX.out 3).trans rfl
    have c4 : wr.cell? ⟨w.heap.size, 4, none⟩ = some (.slice B v.keys.length d) := (blk_cell HX.out 4).trans rfl
    by_cases hlt : k < v.items.length
    · by_cases hy : y ≤ z
      · obtain ⟨g, o, A', c', B', d', rfl, _, h0, h1, h2, h3, h4, hr⟩ := (Hi.out.below HB.out).at_ hlt
        have Hr := Lib.hid hr; clear hr
        have i0 : (0 : Int) ≤ ↑k := by omega
        have i1 : (k : Int) < ↑v.items.length := by omega
        go_wp2_with fail
        refine (IH.out _ _ _ _ ?_ Hr.out).mono ?_
        · have := Val.sz_item (v := v) (x := v.items[k]) (List.getElem_mem hlt); have := HV.out; omega
        · rintro e w1 ⟨⟨y', rfl⟩, hb1⟩
          clear h0 h1 h2 h3 h4 c3 c4 i0 i1
          have HB1 := Lib.hid (HB.out.trans (hb1.mono HB.out.size))
          have HX1 := Lib.hid (blk_below HX.out hb1)
          clear hb1 HX
          go_wp2_with fail
          go_roundw
          case rel => exact ⟨k + 1, _, by omega, by go_num, rfl, HB1, HX1⟩
          case measure => simp [intOf]; omega
      · go_wp2_with fail
        go_ret
        exact ⟨⟨_, rfl⟩, HB.out⟩
    · go_wp2_with fail
      go_ret
      exact ⟨⟨_, rfl⟩, HB.out⟩
def SomeBool (w : World) (e : Ending) (w' : World) : Prop := (∃ b : Bool, e = .returned (.bool b)) ∧ Below w.heap.size w w'
set_option maxHeartbeats 2000000 in
set_option maxRecDepth 100000 in
theorem fit_any (is : List Val) (A : Option Addr) (c : Nat) (w : World) (h : VSl All w is A c) :
    Calls Tryz.prog 14 #[.slice A is.length c] w (SomeBool w) := by
  have hl : is.length ≤ 9223372036854775807 := by have := h.2.2.1; omega
  have H := Lib.hid h; clear h
  go_enter Tryz.func14, Tryz.ntmps14
  go_wp2_with fail
  go_loopw [3, 4] (fun s i W => ∃ (k : Nat) (y : Int), k ≤ is.length ∧ i = .int .i64 k ∧ s = .int .i64 y ∧ Hid (Below w.heap.size w W)) (fun _ i _ => is.length - (intOf i).toNat)
  case atStart => exact ⟨0, 0, Nat.zero_le _, rfl, rfl, Lib.hid (Below.refl _ _)⟩
  case round =>
    obtain ⟨k, y, hk, rfl, rfl, HB⟩ := hrel
    by_cases hlt : k < is.length
    · obtain ⟨g, o, A', c', B', d', rfl, _, h0, h1, h2, h3, h4, hr⟩ := (H.out.below HB.out).at_ hlt
      have Hr := Lib.hid hr; clear hr
      have i0 : (0 : Int) ≤ ↑k := by omega
      have i1 : (k : Int) < ↑is.length := by omega
      go_wp2_with fail
      refine (parts_all _ _ _ _ _ (Nat.le_refl _) Hr.out).mono ?_
      rintro e w1 ⟨⟨y', rfl⟩, hb1⟩
      clear h0 h1 h2 h3 h4 i0 i1
      have HB1 := Lib.hid (HB.out.trans (hb1.mono HB.out.size))
      clear hb1
      go_wp2_with fail
      · go_ret
        exact ⟨⟨_, rfl⟩, HB1.out⟩
      · go_roundw
        case rel => exact ⟨k + 1, _, by omega, by go_num, rfl, HB1⟩
        case measure => simp [intOf]; omega
    · go_wp2_with fail
      go_ret
      exact ⟨⟨_, rfl⟩, HB.out⟩
end Go.Proofs.YtojkmemkmcnlnaaGreatDoor
