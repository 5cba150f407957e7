/- hallmarkref03: Formed, All, Weight: what they answer. -/
import Derived.Test.YtojkmemkmcnlnaaGreatDoorRefForm
set_option linter.unusedVariables false
namespace Go.Proofs.YtojkmemkmcnlnaaGreatDoor
open Go.RowKit

section
variable {v : Val}
theorem ok_low (h : v.kind = 0 ∨ v.kind = 1 ∨ v.kind = 2) : v.ok = (v.num.toList.isEmpty && v.text.toList.isEmpty && (v.items.length == 0) && (v.keys.length == 0)) := by
  rw [ok_eq, if_pos h]; simp [emptyOk]
theorem ok_3 (h : v.kind = 3) : v.ok = ((v.text.toList.isEmpty && (v.items.length == 0) && (v.keys.length == 0)) && numOk v.num) := by
  rw [ok_eq, h]; simp [emptyOk]
theorem ok_4 (h : v.kind = 4) : v.ok = ((v.num.toList.isEmpty && (v.items.length == 0) && (v.keys.length == 0)) && utfOk v.text) := by
  rw [ok_eq, h]; simp [emptyOk]
theorem ok_5 (h : v.kind = 5) : v.ok = ((v.num.toList.isEmpty && v.text.toList.isEmpty && (v.keys.length == 0)) && v.items.all Val.ok) := by
  rw [ok_eq, h]; simp [emptyOk]
theorem ok_6 (h : v.kind = 6) : v.ok = ((v.num.toList.isEmpty && v.text.toList.isEmpty) && (v.items.length == v.keys.length) && riseOk v.keys && v.items.all Val.ok) := by
  rw [ok_eq, h]; simp [emptyOk]
theorem ok_no (h : v.kind < 0 ∨ 6 < v.kind) : v.ok = false := by
  rw [ok_eq, if_neg (by omega), if_neg (by omega), if_neg (by omega), if_neg (by omega), if_neg (by omega)]
end

def AllC (w : World) (is : List Val) (A : Option Addr) (c : Nat) : Prop :=
  ∀ W, Below w.heap.size w W → Calls Tryz.prog 15 #[.slice A is.length c] W fun e W' => e = .returned (.bool (is.all Val.ok)) ∧ Below W.heap.size W W'
set_option maxHeartbeats 1000000 in
set_option maxRecDepth 100000 in
theorem rf_l1 (v : Val) (A B : Option Addr) (c d : Nat) (w : World) (ANS : Bool) (kd : Int) (k0 : ¬ kd < 0) (k1 : ¬ 6 < kd) (k3 : (kd == 3) = false) (k4 : (kd == 4) = false) (k5 : kd < 5) (k6 : kd < 6) (k7 : (kd == 6) = false) (m3 : ¬ kd = 3) (m4 : ¬ kd = 4) (m6 : ¬ kd = 6) (e1 : v.num.toList.isEmpty = false) (hF : ANS = false) :
    Calls Tryz.prog 22 #[.agg #[.int .i64 kd, .string v.num, .string v.text, .slice A v.items.length c, .slice B v.keys.length d]] w fun e w' => e = .returned (.bool ANS) ∧ Below w.heap.size w w' := by
  have HBX := Lib.hid ((Below.refl w.heap.size w).alloc (Nat.le_refl _) (.cells #[.int .i64 kd, .string v.num, .string v.text, .slice A v.items.length c, .slice B v.keys.length d] 25))
  have HF := Lib.hid hF; clear hF
  go_enter Tryz.func22, Tryz.ntmps22
  go_wp2_with fail
  go_ret
  exact ⟨ret_bool HF.out.symm, HBX.out⟩
set_option maxHeartbeats 1000000 in
set_option maxRecDepth 100000 in
theorem rf_l2 (v : Val) (A B : Option Addr) (c d : Nat) (w : World) (ANS : Bool) (kd : Int) (k0 : ¬ kd < 0) (k1 : ¬ 6 < kd) (k3 : (kd == 3) = false) (k4 : (kd == 4) = false) (k5 : kd < 5) (k6 : kd < 6) (k7 : (kd == 6) = false) (m3 : ¬ kd = 3) (m4 : ¬ kd = 4) (m6 : ¬ kd = 6) (e1 : v.num.toList = []) (e2 : v.text.toList.isEmpty = false) (hF : ANS = false) :
    Calls Tryz.prog 22 #[.agg #[.int .i64 kd, .string v.num, .string v.text, .slice A v.items.length c, .slice B v.keys.length d]] w fun e w' => e = .returned (.bool ANS) ∧ Below w.heap.size w w' := by
  have HBX := Lib.hid ((Below.refl w.heap.size w).alloc (Nat.le_refl _) (.cells #[.int .i64 kd, .string v.num, .string v.text, .slice A v.items.length c, .slice B v.keys.length d] 25))
  have HF := Lib.hid hF; clear hF
  go_enter Tryz.func22, Tryz.ntmps22
  go_wp2_with fail
  go_ret
  exact ⟨ret_bool HF.out.symm, HBX.out⟩
set_option maxHeartbeats 1000000 in
set_option maxRecDepth 100000 in
theorem rf_l3 (v : Val) (A B : Option Addr) (c d : Nat) (w : World) (ANS : Bool) (kd : Int) (k0 : ¬ kd < 0) (k1 : ¬ 6 < kd) (k3 : (kd == 3) = false) (k4 : (kd == 4) = false) (k5 : kd < 5) (k6 : kd < 6) (k7 : (kd == 6) = false) (m3 : ¬ kd = 3) (m4 : ¬ kd = 4) (m6 : ¬ kd = 6) (e1 : v.num.toList = []) (e2 : v.text.toList = []) (hi1 : 0 < v.items.length) (hF : ANS = false) :
    Calls Tryz.prog 22 #[.agg #[.int .i64 kd, .string v.num, .string v.text, .slice A v.items.length c, .slice B v.keys.length d]] w fun e w' => e = .returned (.bool ANS) ∧ Below w.heap.size w w' := by
  have HBX := Lib.hid ((Below.refl w.heap.size w).alloc (Nat.le_refl _) (.cells #[.int .i64 kd, .string v.num, .string v.text, .slice A v.items.length c, .slice B v.keys.length d] 25))
  have HF := Lib.hid hF; clear hF
  go_enter Tryz.func22, Tryz.ntmps22
  go_wp2_with fail
  go_ret
  exact ⟨ret_bool HF.out.symm, HBX.out⟩
set_option maxHeartbeats 1000000 in
set_option maxRecDepth 100000 in
theorem rf_l4 (v : Val) (A B : Option Addr) (c d : Nat) (w : World) (ANS : Bool) (kd : Int) (k0 : ¬ kd < 0) (k1 : ¬ 6 < kd) (k3 : (kd == 3) = false) (k4 : (kd == 4) = false) (k5 : kd < 5) (k6 : kd < 6) (k7 : (kd == 6) = false) (m3 : ¬ kd = 3) (m4 : ¬ kd = 4) (m6 : ¬ kd = 6) (e1 : v.num.toList = []) (e2 : v.text.toList = []) (hi0 : ¬ 0 < v.items.length) (hk1 : 0 < v.keys.length) (hF : ANS = false) :
    Calls Tryz.prog 22 #[.agg #[.int .i64 kd, .string v.num, .string v.text, .slice A v.items.length c, .slice B v.keys.length d]] w fun e w' => e = .returned (.bool ANS) ∧ Below w.heap.size w w' := by
  have HBX := Lib.hid ((Below.refl w.heap.size w).alloc (Nat.le_refl _) (.cells #[.int .i64 kd, .string v.num, .string v.text, .slice A v.items.length c, .slice B v.keys.length d] 25))
  have HF := Lib.hid hF; clear hF
  go_enter Tryz.func22, Tryz.ntmps22
  go_wp2_with fail
  go_ret
  exact ⟨ret_bool HF.out.symm, HBX.out⟩
set_option maxHeartbeats 1000000 in
set_option maxRecDepth 100000 in
theorem rf_l5 (v : Val) (A B : Option Addr) (c d : Nat) (w : World) (ANS : Bool) (kd : Int) (k0 : ¬ kd < 0) (k1 : ¬ 6 < kd) (k3 : (kd == 3) = false) (k4 : (kd == 4) = false) (k5 : kd < 5) (k6 : kd < 6) (k7 : (kd == 6) = false) (m3 : ¬ kd = 3) (m4 : ¬ kd = 4) (m6 : ¬ kd = 6) (e1 : v.num.toList = []) (e2 : v.text.toList = []) (hi0 : ¬ 0 < v.items.length) (hk0 : ¬ 0 < v.keys.length) (ha : AllC w v.items A c) (hx : v.items.all Val.ok = ANS) :
    Calls Tryz.prog 22 #[.agg #[.int .i64 kd, .string v.num, .string v.text, .slice A v.items.length c, .slice B v.keys.length d]] w fun e w' => e = .returned (.bool ANS) ∧ Below w.heap.size w w' := by
  have HBX := Lib.hid ((Below.refl w.heap.size w).alloc (Nat.le_refl _) (.cells #[.int .i64 kd, .string v.num, .string v.text, .slice A v.items.length c, .slice B v.keys.length d] 25))
  have HA := Lib.hid ha; clear ha
  have HX := Lib.hid hx; clear hx
  go_enter Tryz.func22, Tryz.ntmps22
  go_wp2_with (go_at_call 15; refine (HA.out _ HBX.out).mono ?_; rw [HX.out]; rintro e w2 ⟨rfl, hb2⟩)
  go_ret
  exact ⟨rfl, HBX.out.trans (hb2.mono HBX.out.size)⟩
set_option maxHeartbeats 1000000 in
set_option maxRecDepth 100000 in
theorem rf_n1 (v : Val) (A B : Option Addr) (c d : Nat) (w : World) (ANS : Bool) (hn : v.num.size ≤ 140737488355328) (hN : numOk v.num = false) (hF : ANS = false) :
    Calls Tryz.prog 22 #[.agg #[.int .i64 3, .string v.num, .string v.text, .slice A v.items.length c, .slice B v.keys.length d]] w fun e w' => e = .returned (.bool ANS) ∧ Below w.heap.size w w' := by
  have HBX := Lib.hid ((Below.refl w.heap.size w).alloc (Nat.le_refl _) (.cells #[.int .i64 3, .string v.num, .string v.text, .slice A v.items.length c, .slice B v.keys.length d] 25))
  have HF := Lib.hid hF; clear hF
  have HN := Lib.hid hN; clear hN
  go_enter Tryz.func22, Tryz.ntmps22
  go_wp2_with (go_at_call 38; refine (refNumber_any _ _ hn).mono ?_; rw [HN.out]; rintro e w1 ⟨rfl, rfl⟩)
  go_ret
  exact ⟨ret_bool HF.out.symm, HBX.out⟩
set_option maxHeartbeats 1000000 in
set_option maxRecDepth 100000 in
theorem rf_n2 (v : Val) (A B : Option Addr) (c d : Nat) (w : World) (ANS : Bool) (hn : v.num.size ≤ 140737488355328) (hN : numOk v.num = true) (e2 : v.text.toList.isEmpty = false) (hF : ANS = false) :
    Calls Tryz.prog 22 #[.agg #[.int .i64 3, .string v.num, .string v.text, .slice A v.items.length c, .slice B v.keys.length d]] w fun e w' => e = .returned (.bool ANS) ∧ Below w.heap.size w w' := by
  have HBX := Lib.hid ((Below.refl w.heap.size w).alloc (Nat.le_refl _) (.cells #[.int .i64 3, .string v.num, .string v.text, .slice A v.items.length c, .slice B v.keys.length d] 25))
  have HF := Lib.hid hF; clear hF
  have HN := Lib.hid hN; clear hN
  go_enter Tryz.func22, Tryz.ntmps22
  go_wp2_with (go_at_call 38; refine (refNumber_any _ _ hn).mono ?_; rw [HN.out]; rintro e w1 ⟨rfl, rfl⟩)
  go_ret
  exact ⟨ret_bool HF.out.symm, HBX.out⟩
set_option maxHeartbeats 1000000 in
set_option maxRecDepth 100000 in
theorem rf_n3 (v : Val) (A B : Option Addr) (c d : Nat) (w : World) (ANS : Bool) (hn : v.num.size ≤ 140737488355328) (hN : numOk v.num = true) (e2 : v.text.toList = []) (hi1 : 0 < v.items.length) (hF : ANS = false) :
    Calls Tryz.prog 22 #[.agg #[.int .i64 3, .string v.num, .string v.text, .slice A v.items.length c, .slice B v.keys.length d]] w fun e w' => e = .returned (.bool ANS) ∧ Below w.heap.size w w' := by
  have HBX := Lib.hid ((Below.refl w.heap.size w).alloc (Nat.le_refl _) (.cells #[.int .i64 3, .string v.num, .string v.text, .slice A v.items.length c, .slice B v.keys.length d] 25))
  have HF := Lib.hid hF; clear hF
  have HN := Lib.hid hN; clear hN
  go_enter Tryz.func22, Tryz.ntmps22
  go_wp2_with (go_at_call 38; refine (refNumber_any _ _ hn).mono ?_; rw [HN.out]; rintro e w1 ⟨rfl, rfl⟩)
  go_ret
  exact ⟨ret_bool HF.out.symm, HBX.out⟩
set_option maxHeartbeats 1000000 in
set_option maxRecDepth 100000 in
theorem rf_n4 (v : Val) (A B : Option Addr) (c d : Nat) (w : World) (ANS : Bool) (hn : v.num.size ≤ 140737488355328) (hN : numOk v.num = true) (e2 : v.text.toList = []) (hi0 : ¬ 0 < v.items.length) (hk1 : 0 < v.keys.length) (hF : ANS = false) :
    Calls Tryz.prog 22 #[.agg #[.int .i64 3, .string v.num, .string v.text, .slice A v.items.length c, .slice B v.keys.length d]] w fun e w' => e = .returned (.bool ANS) ∧ Below w.heap.size w w' := by
  have HBX := Lib.hid ((Below.refl w.heap.size w).alloc (Nat.le_refl _) (.cells #[.int .i64 3, .string v.num, .string v.text, .slice A v.items.length c, .slice B v.keys.length d] 25))
  have HF := Lib.hid hF; clear hF
  have HN := Lib.hid hN; clear hN
  go_enter Tryz.func22, Tryz.ntmps22
  go_wp2_with (go_at_call 38; refine (refNumber_any _ _ hn).mono ?_; rw [HN.out]; rintro e w1 ⟨rfl, rfl⟩)
  go_ret
  exact ⟨ret_bool HF.out.symm, HBX.out⟩
set_option maxHeartbeats 1000000 in
set_option maxRecDepth 100000 in
theorem rf_n5 (v : Val) (A B : Option Addr) (c d : Nat) (w : World) (ANS : Bool) (hn : v.num.size ≤ 140737488355328) (hN : numOk v.num = true) (e2 : v.text.toList = []) (hi0 : ¬ 0 < v.items.length) (hk0 : ¬ 0 < v.keys.length) (ha : AllC w v.items A c) (hx : v.items.all Val.ok = ANS) :
    Calls Tryz.prog 22 #[.agg #[.int .i64 3, .string v.num, .string v.text, .slice A v.items.length c, .slice B v.keys.length d]] w fun e w' => e = .returned (.bool ANS) ∧ Below w.heap.size w w' := by
  have HBX := Lib.hid ((Below.refl w.heap.size w).alloc (Nat.le_refl _) (.cells #[.int .i64 3, .string v.num, .string v.text, .slice A v.items.length c, .slice B v.keys.length d] 25))
  have HA := Lib.hid ha; clear ha
  have HX := Lib.hid hx; clear hx
  have HN := Lib.hid hN; clear hN
  go_enter Tryz.func22, Tryz.ntmps22
  go_wp2_with (first | (go_at_call 38; refine (refNumber_any _ _ hn).mono ?_; rw [HN.out]; rintro e w1 ⟨rfl, rfl⟩) | (go_at_call 15; refine (HA.out _ HBX.out).mono ?_; rw [HX.out]; rintro e w2 ⟨rfl, hb2⟩))
  go_ret
  exact ⟨rfl, HBX.out.trans (hb2.mono HBX.out.size)⟩
set_option maxHeartbeats 1000000 in
set_option maxRecDepth 100000 in
theorem rf_t1 (v : Val) (A B : Option Addr) (c d : Nat) (w : World) (ANS : Bool) (e1 : v.num.toList.isEmpty = false) (hF : ANS = false) :
    Calls Tryz.prog 22 #[.agg #[.int .i64 4, .string v.num, .string v.text, .slice A v.items.length c, .slice B v.keys.length d]] w fun e w' => e = .returned (.bool ANS) ∧ Below w.heap.size w w' := by
  have HBX := Lib.hid ((Below.refl w.heap.size w).alloc (Nat.le_refl _) (.cells #[.int .i64 4, .string v.num, .string v.text, .slice A v.items.length c, .slice B v.keys.length d] 25))
  have HF := Lib.hid hF; clear hF
  go_enter Tryz.func22, Tryz.ntmps22
  go_wp2_with fail
  go_ret
  exact ⟨ret_bool HF.out.symm, HBX.out⟩
set_option maxHeartbeats 1000000 in
set_option maxRecDepth 100000 in
theorem rf_t2 (v : Val) (A B : Option Addr) (c d : Nat) (w : World) (ANS : Bool) (e1 : v.num.toList = []) (ht : v.text.size ≤ 140737488355328) (hU : utfOk v.text = false) (hF : ANS = false) :
    Calls Tryz.prog 22 #[.agg #[.int .i64 4, .string v.num, .string v.text, .slice A v.items.length c, .slice B v.keys.length d]] w fun e w' => e = .returned (.bool ANS) ∧ Below w.heap.size w w' := by
  have HBX := Lib.hid ((Below.refl w.heap.size w).alloc (Nat.le_refl _) (.cells #[.int .i64 4, .string v.num, .string v.text, .slice A v.items.length c, .slice B v.keys.length d] 25))
  have HF := Lib.hid hF; clear hF
  have HU := Lib.hid hU; clear hU
  go_enter Tryz.func22, Tryz.ntmps22
  go_wp2_with (go_at_call 39; refine (utf_any _ _ ht).mono ?_; rw [HU.out]; rintro e w1 ⟨rfl, rfl⟩)
  go_ret
  exact ⟨ret_bool HF.out.symm, HBX.out⟩
set_option maxHeartbeats 1000000 in
set_option maxRecDepth 100000 in
theorem rf_t3 (v : Val) (A B : Option Addr) (c d : Nat) (w : World) (ANS : Bool) (e1 : v.num.toList = []) (ht : v.text.size ≤ 140737488355328) (hU : utfOk v.text = true) (hi1 : 0 < v.items.length) (hF : ANS = false) :
    Calls Tryz.prog 22 #[.agg #[.int .i64 4, .string v.num, .string v.text, .slice A v.items.length c, .slice B v.keys.length d]] w fun e w' => e = .returned (.bool ANS) ∧ Below w.heap.size w w' := by
  have HBX := Lib.hid ((Below.refl w.heap.size w).alloc (Nat.le_refl _) (.cells #[.int .i64 4, .string v.num, .string v.text, .slice A v.items.length c, .slice B v.keys.length d] 25))
  have HF := Lib.hid hF; clear hF
  have HU := Lib.hid hU; clear hU
  go_enter Tryz.func22, Tryz.ntmps22
  go_wp2_with (go_at_call 39; refine (utf_any _ _ ht).mono ?_; rw [HU.out]; rintro e w1 ⟨rfl, rfl⟩)
  go_ret
  exact ⟨ret_bool HF.out.symm, HBX.out⟩
set_option maxHeartbeats 1000000 in
set_option maxRecDepth 100000 in
theorem rf_t4 (v : Val) (A B : Option Addr) (c d : Nat) (w : World) (ANS : Bool) (e1 : v.num.toList = []) (ht : v.text.size ≤ 140737488355328) (hU : utfOk v.text = true) (hi0 : ¬ 0 < v.items.length) (hk1 : 0 < v.keys.length) (hF : ANS = false) :
    Calls Tryz.prog 22 #[.agg #[.int .i64 4, .string v.num, .string v.text, .slice A v.items.length c, .slice B v.keys.length d]] w fun e w' => e = .returned (.bool ANS) ∧ Below w.heap.size w w' := by
  have HBX := Lib.hid ((Below.refl w.heap.size w).alloc (Nat.le_refl _) (.cells #[.int .i64 4, .string v.num, .string v.text, .slice A v.items.length c, .slice B v.keys.length d] 25))
  have HF := Lib.hid hF; clear hF
  have HU := Lib.hid hU; clear hU
  go_enter Tryz.func22, Tryz.ntmps22
  go_wp2_with (go_at_call 39; refine (utf_any _ _ ht).mono ?_; rw [HU.out]; rintro e w1 ⟨rfl, rfl⟩)
  go_ret
  exact ⟨ret_bool HF.out.symm, HBX.out⟩
set_option maxHeartbeats 1000000 in
set_option maxRecDepth 100000 in
theorem rf_t5 (v : Val) (A B : Option Addr) (c d : Nat) (w : World) (ANS : Bool) (e1 : v.num.toList = []) (ht : v.text.size ≤ 140737488355328) (hU : utfOk v.text = true) (hi0 : ¬ 0 < v.items.length) (hk0 : ¬ 0 < v.keys.length) (ha : AllC w v.items A c) (hx : v.items.all Val.ok = ANS) :
    Calls Tryz.prog 22 #[.agg #[.int .i64 4, .string v.num, .string v.text, .slice A v.items.length c, .slice B v.keys.length d]] w fun e w' => e = .returned (.bool ANS) ∧ Below w.heap.size w w' := by
  have HBX := Lib.hid ((Below.refl w.heap.size w).alloc (Nat.le_refl _) (.cells #[.int .i64 4, .string v.num, .string v.text, .slice A v.items.length c, .slice B v.keys.length d] 25))
  have HA := Lib.hid ha; clear ha
  have HX := Lib.hid hx; clear hx
  have HU := Lib.hid hU; clear hU
  go_enter Tryz.func22, Tryz.ntmps22
  go_wp2_with (first | (go_at_call 39; refine (utf_any _ _ ht).mono ?_; rw [HU.out]; rintro e w1 ⟨rfl, rfl⟩) | (go_at_call 15; refine (HA.out _ HBX.out).mono ?_; rw [HX.out]; rintro e w2 ⟨rfl, hb2⟩))
  go_ret
  exact ⟨rfl, HBX.out.trans (hb2.mono HBX.out.size)⟩
set_option maxHeartbeats 1000000 in
set_option maxRecDepth 100000 in
theorem rf_a1 (v : Val) (A B : Option Addr) (c d : Nat) (w : World) (ANS : Bool) (e1 : v.num.toList.isEmpty = false) (hF : ANS = false) :
    Calls Tryz.prog 22 #[.agg #[.int .i64 5, .string v.num, .string v.text, .slice A v.items.length c, .slice B v.keys.length d]] w fun e w' => e = .returned (.bool ANS) ∧ Below w.heap.size w w' := by
  have HBX := Lib.hid ((Below.refl w.heap.size w).alloc (Nat.le_refl _) (.cells #[.int .i64 5, .string v.num, .string v.text, .slice A v.items.length c, .slice B v.keys.length d] 25))
  have HF := Lib.hid hF; clear hF
  go_enter Tryz.func22, Tryz.ntmps22
  go_wp2_with fail
  go_ret
  exact ⟨ret_bool HF.out.symm, HBX.out⟩
set_option maxHeartbeats 1000000 in
set_option maxRecDepth 100000 in
theorem rf_a2 (v : Val) (A B : Option Addr) (c d : Nat) (w : World) (ANS : Bool) (e1 : v.num.toList = []) (e2 : v.text.toList.isEmpty = false) (hF : ANS = false) :
    Calls Tryz.prog 22 #[.agg #[.int .i64 5, .string v.num, .string v.text, .slice A v.items.length c, .slice B v.keys.length d]] w fun e w' => e = .returned (.bool ANS) ∧ Below w.heap.size w w' := by
  have HBX := Lib.hid ((Below.refl w.heap.size w).alloc (Nat.le_refl _) (.cells #[.int .i64 5, .string v.num, .string v.text, .slice A v.items.length c, .slice B v.keys.length d] 25))
  have HF := Lib.hid hF; clear hF
  go_enter Tryz.func22, Tryz.ntmps22
  go_wp2_with fail
  go_ret
  exact ⟨ret_bool HF.out.symm, HBX.out⟩
set_option maxHeartbeats 1000000 in
set_option maxRecDepth 100000 in
theorem rf_a3 (v : Val) (A B : Option Addr) (c d : Nat) (w : World) (ANS : Bool) (e1 : v.num.toList = []) (e2 : v.text.toList = []) (hk1 : 0 < v.keys.length) (hF : ANS = false) :
    Calls Tryz.prog 22 #[.agg #[.int .i64 5, .string v.num, .string v.text, .slice A v.items.length c, .slice B v.keys.length d]] w fun e w' => e = .returned (.bool ANS) ∧ Below w.heap.size w w' := by
  have HBX := Lib.hid ((Below.refl w.heap.size w).alloc (Nat.le_refl _) (.cells #[.int .i64 5, .string v.num, .string v.text, .slice A v.items.length c, .slice B v.keys.length d] 25))
  have HF := Lib.hid hF; clear hF
  go_enter Tryz.func22, Tryz.ntmps22
  go_wp2_with fail
  go_ret
  exact ⟨ret_bool HF.out.symm, HBX.out⟩
set_option maxHeartbeats 1000000 in
set_option maxRecDepth 100000 in
theorem rf_a4 (v : Val) (A B : Option Addr) (c d : Nat) (w : World) (ANS : Bool) (e1 : v.num.toList = []) (e2 : v.text.toList = []) (hk0 : ¬ 0 < v.keys.length) (ha : AllC w v.items A c) (hx : v.items.all Val.ok = ANS) :
    Calls Tryz.prog 22 #[.agg #[.int .i64 5, .string v.num, .string v.text, .slice A v.items.length c, .slice B v.keys.length d]] w fun e w' => e = .returned (.bool ANS) ∧ Below w.heap.size w w' := by
  have HBX := Lib.hid ((Below.refl w.heap.size w).alloc (Nat.le_refl _) (.cells #[.int .i64 5, .string v.num, .string v.text, .slice A v.items.length c, .slice B v.keys.length d] 25))
  have HA := Lib.hid ha; clear ha
  have HX := Lib.hid hx; clear hx
  go_enter Tryz.func22, Tryz.ntmps22
  go_wp2_with (go_at_call 15; refine (HA.out _ HBX.out).mono ?_; rw [HX.out]; rintro e w2 ⟨rfl, hb2⟩)
  go_ret
  exact ⟨rfl, HBX.out.trans (hb2.mono HBX.out.size)⟩
set_option maxHeartbeats 1000000 in
set_option maxRecDepth 100000 in
theorem rf_o1 (v : Val) (A B : Option Addr) (c d : Nat) (w : World) (ANS : Bool) (e1 : v.num.toList.isEmpty = false) (hF : ANS = false) :
    Calls Tryz.prog 22 #[.agg #[.int .i64 6, .string v.num, .string v.text, .slice A v.items.length c, .slice B v.keys.length d]] w fun e w' => e = .returned (.bool ANS) ∧ Below w.heap.size w w' := by
  have HBX := Lib.hid ((Below.refl w.heap.size w).alloc (Nat.le_refl _) (.cells #[.int .i64 6, .string v.num, .string v.text, .slice A v.items.length c, .slice B v.keys.length d] 25))
  have HF := Lib.hid hF; clear hF
  go_enter Tryz.func22, Tryz.ntmps22
  go_wp2_with fail
  go_ret
  exact ⟨ret_bool HF.out.symm, HBX.out⟩
set_option maxHeartbeats 1000000 in
set_option maxRecDepth 100000 in
theorem rf_o2 (v : Val) (A B : Option Addr) (c d : Nat) (w : World) (ANS : Bool) (e1 : v.num.toList = []) (e2 : v.text.toList.isEmpty = false) (hF : ANS = false) :
    Calls Tryz.prog 22 #[.agg #[.int .i64 6, .string v.num, .string v.text, .slice A v.items.length c, .slice B v.keys.length d]] w fun e w' => e = .returned (.bool ANS) ∧ Below w.heap.size w w' := by
  have HBX := Lib.hid ((Below.refl w.heap.size w).alloc (Nat.le_refl _) (.cells #[.int .i64 6, .string v.num, .string v.text, .slice A v.items.length c, .slice B v.keys.length d] 25))
  have HF := Lib.hid hF; clear hF
  go_enter Tryz.func22, Tryz.ntmps22
  go_wp2_with fail
  go_ret
  exact ⟨ret_bool HF.out.symm, HBX.out⟩
set_option maxHeartbeats 1000000 in
set_option maxRecDepth 100000 in
theorem rf_o3 (v : Val) (A B : Option Addr) (c d : Nat) (w : World) (ANS : Bool) (e1 : v.num.toList = []) (e2 : v.text.toList = []) (hl : ((v.keys.length : Int) == ↑v.items.length) = false) (hm : ((v.keys.length : Int) != ↑v.items.length) = true) (hF : ANS = false) :
    Calls Tryz.prog 22 #[.agg #[.int .i64 6, .string v.num, .string v.text, .slice A v.items.length c, .slice B v.keys.length d]] w fun e w' => e = .returned (.bool ANS) ∧ Below w.heap.size w w' := by
  have HBX := Lib.hid ((Below.refl w.heap.size w).alloc (Nat.le_refl _) (.cells #[.int .i64 6, .string v.num, .string v.text, .slice A v.items.length c, .slice B v.keys.length d] 25))
  have HF := Lib.hid hF; clear hF
  go_enter Tryz.func22, Tryz.ntmps22
  go_wp2_with fail
  go_ret
  exact ⟨ret_bool HF.out.symm, HBX.out⟩
set_option maxHeartbeats 1000000 in
set_option maxRecDepth 100000 in
theorem rf_o4 (v : Val) (A B : Option Addr) (c d : Nat) (w : World) (ANS : Bool) (e1 : v.num.toList = []) (e2 : v.text.toList = []) (hl : ((v.keys.length : Int) == ↑v.items.length) = true) (hm : ((v.keys.length : Int) != ↑v.items.length) = false) (hk : SSl All w v.keys B d) (hR : riseOk v.keys = false) (hF : ANS = false) :
    Calls Tryz.prog 22 #[.agg #[.int .i64 6, .string v.num, .string v.text, .slice A v.items.length c, .slice B v.keys.length d]] w fun e w' => e = .returned (.bool ANS) ∧ Below w.heap.size w w' := by
  have HBX := Lib.hid ((Below.refl w.heap.size w).alloc (Nat.le_refl _) (.cells #[.int .i64 6, .string v.num, .string v.text, .slice A v.items.length c, .slice B v.keys.length d] 25))
  have HF := Lib.hid hF; clear hF
  have HR := Lib.hid hR; clear hR
  have HK := Lib.hid hk; clear hk
  go_enter Tryz.func22, Tryz.ntmps22
  go_wp2_with (go_at_call 40; refine (refRise_any _ _ _ _ (HK.out.below HBX.out)).mono ?_; rw [HR.out]; rintro e w1 ⟨rfl, hb1⟩; have HB1 := Lib.hid (HBX.out.trans (hb1.mono HBX.out.size)); have hq : w1.cell? ⟨w.heap.size, 3, none⟩ = some (.slice A v.items.length c) := (blk_cell (blk_below (blk_new w _) hb1) 3).trans rfl; clear hb1)
  go_ret
  exact ⟨ret_bool HF.out.symm, HB1.out⟩
set_option maxHeartbeats 1000000 in
set_option maxRecDepth 100000 in
theorem rf_o5 (v : Val) (A B : Option Addr) (c d : Nat) (w : World) (ANS : Bool) (e1 : v.num.toList = []) (e2 : v.text.toList = []) (hl : ((v.keys.length : Int) == ↑v.items.length) = true) (hm : ((v.keys.length : Int) != ↑v.items.length) = false) (hk : SSl All w v.keys B d) (hR : riseOk v.keys = true) (ha : AllC w v.items A c) (hx : v.items.all Val.ok = ANS) :
    Calls Tryz.prog 22 #[.agg #[.int .i64 6, .string v.num, .string v.text, .slice A v.items.length c, .slice B v.keys.length d]] w fun e w' => e = .returned (.bool ANS) ∧ Below w.heap.size w w' := by
  have HBX := Lib.hid ((Below.refl w.heap.size w).alloc (Nat.le_refl _) (.cells #[.int .i64 6, .string v.num, .string v.text, .slice A v.items.length c, .slice B v.keys.length d] 25))
  have HA := Lib.hid ha; clear ha
  have HX := Lib.hid hx; clear hx
  have HR := Lib.hid hR; clear hR
  have HK := Lib.hid hk; clear hk
  go_enter Tryz.func22, Tryz.ntmps22
  go_wp2_with (first | (go_at_call 40; refine (refRise_any _ _ _ _ (HK.out.below HBX.out)).mono ?_; rw [HR.out]; rintro e w1 ⟨rfl, hb1⟩; have HB1 := Lib.hid (HBX.out.trans (hb1.mono HBX.out.size)); have hq : w1.cell? ⟨w.heap.size, 3, none⟩ = some (.slice A v.items.length c) := (blk_cell (blk_below (blk_new w _) hb1) 3).trans rfl; clear hb1) | (go_at_call 15; refine (HA.out _ HB1.out).mono ?_; rw [HX.out]; rintro e w2 ⟨rfl, hb2⟩))
  go_ret
  exact ⟨rfl, HB1.out.trans (hb2.mono HB1.out.size)⟩
set_option maxHeartbeats 1000000 in
set_option maxRecDepth 100000 in
theorem rf_b1 (v : Val) (A B : Option Addr) (c d : Nat) (w : World) (ANS : Bool) (kd : Int) (k0 : kd < 0) (hF : ANS = false) :
    Calls Tryz.prog 22 #[.agg #[.int .i64 kd, .string v.num, .string v.text, .slice A v.items.length c, .slice B v.keys.length d]] w fun e w' => e = .returned (.bool ANS) ∧ Below w.heap.size w w' := by
  have HBX := Lib.hid ((Below.refl w.heap.size w).alloc (Nat.le_refl _) (.cells #[.int .i64 kd, .string v.num, .string v.text, .slice A v.items.length c, .slice B v.keys.length d] 25))
  have HF := Lib.hid hF; clear hF
  go_enter Tryz.func22, Tryz.ntmps22
  go_wp2_with fail
  go_ret
  exact ⟨ret_bool HF.out.symm, HBX.out⟩
set_option maxHeartbeats 1000000 in
set_option maxRecDepth 100000 in
theorem rf_b2 (v : Val) (A B : Option Addr) (c d : Nat) (w : World) (ANS : Bool) (kd : Int) (k0 : ¬ kd < 0) (k1 : 6 < kd) (hF : ANS = false) :
    Calls Tryz.prog 22 #[.agg #[.int .i64 kd, .string v.num, .string v.text, .slice A v.items.length c, .slice B v.keys.length d]] w fun e w' => e = .returned (.bool ANS) ∧ Below w.heap.size w w' := by
  have HBX := Lib.hid ((Below.refl w.heap.size w).alloc (Nat.le_refl _) (.cells #[.int .i64 kd, .string v.num, .string v.text, .slice A v.items.length c, .slice B v.keys.length d] 25))
  have HF := Lib.hid hF; clear hF
  go_enter Tryz.func22, Tryz.ntmps22
  go_wp2_with fail
  go_ret
  exact ⟨ret_bool HF.out.symm, HBX.out⟩

theorem refFormed_of (v : Val) (A B : Option Addr) (c d : Nat) (w : World) (hn : v.num.size ≤ 140737488355328) (ht : v.text.size ≤ 140737488355328) (hk : SSl All w v.keys B d) (ha : AllC w v.items A c) :
    Calls Tryz.prog 22 #[.agg #[.int .i64 v.kind, .string v.num, .string v.text, .slice A v.items.length c, .slice B v.keys.length d]] w fun e w' => e = .returned (.bool v.ok) ∧ Below w.heap.size w w' := by
  have emp : ∀ s : ByteArray, s.toList.isEmpty = true → s.toList = [] := fun s h => List.isEmpty_iff.1 h
  by_cases b1 : v.kind < 0
  · rw [ok_no (.inl b1)]; exact rf_b1 v A B c d w false _ b1 rfl
  by_cases b2 : 6 < v.kind
  · rw [ok_no (.inr b2)]; exact rf_b2 v A B c d w false _ b1 b2 rfl
  have nil_all : ¬ 0 < v.items.length → v.items.all Val.ok = true := fun h => by rw [List.eq_nil_of_length_eq_zero (l := v.items) (by omega)]; rfl
  have zi : 0 < v.items.length → (v.items.length == 0) = false := fun h => by rw [beq_eq_false_iff_ne]; omega
  have zq : 0 < v.keys.length → (v.keys.length == 0) = false := fun h => by rw [beq_eq_false_iff_ne]; omega
  have oi : ¬ 0 < v.items.length → (v.items.length == 0) = true := fun h => by rw [beq_iff_eq]; omega
  have oq : ¬ 0 < v.keys.length → (v.keys.length == 0) = true := fun h => by rw [beq_iff_eq]; omega
  by_cases l : v.kind < 3
  · have k3 : (v.kind == 3) = false := by rw [beq_eq_false_iff_ne]; omega
    have k4 : (v.kind == 4) = false := by rw [beq_eq_false_iff_ne]; omega
    have k6 : (v.kind == 6) = false := by rw [beq_eq_false_iff_ne]; omega
    have e := ok_low (v := v) (by omega)
    cases e1 : v.num.toList.isEmpty
    · rw [e, e1]; exact rf_l1 v A B c d w _ _ b1 b2 k3 k4 (by omega) (by omega) k6 (by omega) (by omega) (by omega) e1 rfl
    · cases e2 : v.text.toList.isEmpty
      · rw [e, e1, e2]; exact rf_l2 v A B c d w _ _ b1 b2 k3 k4 (by omega) (by omega) k6 (by omega) (by omega) (by omega) (emp _ e1) e2 rfl
      · by_cases i : 0 < v.items.length
        · exact rf_l3 v A B c d w _ _ b1 b2 k3 k4 (by omega) (by omega) k6 (by omega) (by omega) (by omega) (emp _ e1) (emp _ e2) i (by rw [e, zi i]; simp)
        · by_cases q : 0 < v.keys.length
          · exact rf_l4 v A B c d w _ _ b1 b2 k3 k4 (by omega) (by omega) k6 (by omega) (by omega) (by omega) (emp _ e1) (emp _ e2) i q (by rw [e, zq q]; simp)
          · exact rf_l5 v A B c d w _ _ b1 b2 k3 k4 (by omega) (by omega) k6 (by omega) (by omega) (by omega) (emp _ e1) (emp _ e2) i q ha (by rw [e, e1, e2, nil_all i, oi i, oq q]; rfl)
  by_cases c3 : v.kind = 3
  · have e := ok_3 c3
    rw [c3]
    cases hN : numOk v.num
    · exact rf_n1 v A B c d w _ hn hN (by rw [e, hN]; simp)
    · cases e2 : v.text.toList.isEmpty
      · exact rf_n2 v A B c d w _ hn hN e2 (by rw [e, e2]; simp)
      · by_cases i : 0 < v.items.length
        · exact rf_n3 v A B c d w _ hn hN (emp _ e2) i (by rw [e, zi i]; simp)
        · by_cases q : 0 < v.keys.length
          · exact rf_n4 v A B c d w _ hn hN (emp _ e2) i q (by rw [e, zq q]; simp)
          · exact rf_n5 v A B c d w _ hn hN (emp _ e2) i q ha (by rw [e, e2, hN, nil_all i, oi i, oq q]; rfl)
  by_cases c4 : v.kind = 4
  · have e := ok_4 c4
    rw [c4]
    cases e1 : v.num.toList.isEmpty
    · exact rf_t1 v A B c d w _ e1 (by rw [e, e1]; simp)
    · cases hU : utfOk v.text
      · exact rf_t2 v A B c d w _ (emp _ e1) ht hU (by rw [e, hU]; simp)
      · by_cases i : 0 < v.items.length
        · exact rf_t3 v A B c d w _ (emp _ e1) ht hU i (by rw [e, zi i]; simp)
        · by_cases q : 0 < v.keys.length
          · exact rf_t4 v A B c d w _ (emp _ e1) ht hU i q (by rw [e, zq q]; simp)
          · exact rf_t5 v A B c d w _ (emp _ e1) ht hU i q ha (by rw [e, e1, hU, nil_all i, oi i, oq q]; rfl)
  by_cases c5 : v.kind = 5
  · have e := ok_5 c5
    rw [c5]
    cases e1 : v.num.toList.isEmpty
    · exact rf_a1 v A B c d w _ e1 (by rw [e, e1]; simp)
    · cases e2 : v.text.toList.isEmpty
      · exact rf_a2 v A B c d w _ (emp _ e1) e2 (by rw [e, e2]; simp)
      · by_cases q : 0 < v.keys.length
        · exact rf_a3 v A B c d w _ (emp _ e1) (emp _ e2) q (by rw [e, zq q]; simp)
        · have : (v.keys.length == 0) = true := by rw [beq_iff_eq]; omega
          exact rf_a4 v A B c d w _ (emp _ e1) (emp _ e2) q ha (by rw [e, e1, e2, this]; simp)
  have c6 : v.kind = 6 := by omega
  have e := ok_6 c6
  rw [c6]
  cases e1 : v.num.toList.isEmpty
  · exact rf_o1 v A B c d w _ e1 (by rw [e, e1]; simp)
  · cases e2 : v.text.toList.isEmpty
    · exact rf_o2 v A B c d w _ (emp _ e1) e2 (by rw [e, e2]; simp)
    · cases hl : (v.items.length == v.keys.length)
      · exact rf_o3 v A B c d w _ (emp _ e1) (emp _ e2) (by rw [beq_eq_false_iff_ne] at hl ⊢; omega) (by rw [beq_eq_false_iff_ne] at hl; rw [bne_iff_ne]; omega) (by rw [e, hl]; simp)
      · have hl' : ((v.keys.length : Int) == ↑v.items.length) = true := by rw [beq_iff_eq] at hl ⊢; omega
        have hm' : ((v.keys.length : Int) != ↑v.items.length) = false := by rw [bne, hl']; rfl
        cases hR : riseOk v.keys
        · exact rf_o4 v A B c d w _ (emp _ e1) (emp _ e2) hl' hm' hk hR (by rw [e, hR]; simp)
        · exact rf_o5 v A B c d w _ (emp _ e1) (emp _ e2) hl' hm' hk hR ha (by rw [e, e1, e2, hl, hR]; simp)

set_option maxHeartbeats 1000000 in
set_option maxRecDepth 100000 in
theorem refAll_of (is : List Val) (A : Option Addr) (c : Nat) (w : World) (h : VSl All w is A c)
    (hf : ∀ x ∈ is, ∀ cs W, Rep All W x cs → Calls Tryz.prog 22 #[.agg cs.toArray] W fun e W' => e = .returned (.bool x.ok) ∧ Below W.heap.size W W') :
    Calls Tryz.prog 15 #[.slice A is.length c] w fun e w' => e = .returned (.bool (is.all Val.ok)) ∧ Below w.heap.size w w' := by
  have hl : is.length ≤ 9223372036854775807 := by have := h.2.2.1; omega
  have H := Lib.hid h; clear h
  have HF := Lib.hid hf; clear hf
  generalize hA : is.all Val.ok = ANS
  have HA := Lib.hid hA; clear hA
  go_enter Tryz.func15, Tryz.ntmps15
  go_wp2_with fail
  go_loopw [3] (fun i W => ∃ k : Nat, k ≤ is.length ∧ i = .int .i64 k ∧ Hid ((is.drop k).all Val.ok = ANS) ∧ Hid (Below w.heap.size w W)) (fun i _ => is.length - (intOf i).toNat)
  case atStart => exact ⟨0, Nat.zero_le _, rfl, HA, Lib.hid (Below.refl _ _)⟩
  case round =>
    clear HA
    obtain ⟨k, hk, rfl, HK, HB⟩ := hrel
    by_cases hlt : k < is.length
    · obtain ⟨g, o, A', c', B', d', rfl, _, h0, h1, h2, h3, h4, hr⟩ := (H.out.below HB.out).at_ hlt
      have Hr := Lib.hid hr; clear hr
      have hR := HK.out
      rw [drop_cons is k hlt, List.all_cons] at hR
      have HM := Lib.hid (List.getElem_mem hlt)
      clear HK
      cases hp : (is[k]).ok
      · rw [hp] at hR
        have HP := Lib.hid hp; clear hp
        have HR := Lib.hid hR; clear hR
        go_wp2_with fail
        refine (HF.out _ HM.out _ _ Hr.out).mono ?_
        rw [HP.out]
        rintro e w1 ⟨rfl, hb1⟩
        clear h0 h1 h2 h3 h4
        go_wp2_with fail
        go_ret
        exact ⟨ret_bool HR.out, HB.out.trans (hb1.mono HB.out.size)⟩
      · rw [hp] at hR
        have HP := Lib.hid hp; clear hp
        have HR := Lib.hid hR; clear hR
        go_wp2_with fail
        refine (HF.out _ HM.out _ _ Hr.out).mono ?_
        rw [HP.out]
        rintro e w1 ⟨rfl, hb1⟩
        clear h0 h1 h2 h3 h4
        have HB1 := Lib.hid (HB.out.trans (hb1.mono HB.out.size)); clear hb1
        go_wp2_with fail
        go_roundw
        case rel => exact ⟨k + 1, by omega, by go_num, Lib.hid (by simpa using HR.out), HB1⟩
        case measure => simp [intOf]; omega
    · obtain rfl : k = is.length := by omega
      go_wp2_with fail
      go_ret
      exact ⟨ret_bool (by have := HK.out; rw [List.drop_length] at this; exact this), HB.out⟩

theorem refFormed_all (m : Nat) : ∀ (v : Val) (cs : List Value) (w : World), v.sz ≤ m → Rep All w v cs →
    Calls Tryz.prog 22 #[.agg cs.toArray] w fun e w' => e = .returned (.bool v.ok) ∧ Below w.heap.size w w' := by
  induction m with
  | zero => intro v cs w hv; cases v; simp [Val.sz] at hv
  | succ m ih =>
  intro v cs w hv h
  obtain ⟨A, c, B, d, rfl, hn, ht, hi, hk⟩ := h.open_
  refine refFormed_of v A B c d w hn ht hk (fun W hW => refAll_of v.items A c W (hi.below hW) fun x hx cs W' hr => ih x cs W' (by have := Val.sz_item hx; omega) hr)
theorem refFormed_any (v : Val) (cs : List Value) (w : World) (h : Rep All w v cs) :
    Calls Tryz.prog 22 #[.agg cs.toArray] w fun e w' => e = .returned (.bool v.ok) ∧ Below w.heap.size w w' := refFormed_all v.sz v cs w (Nat.le_refl _) h
theorem refAll_any (is : List Val) (A : Option Addr) (c : Nat) (w : World) (h : VSl All w is A c) :
    Calls Tryz.prog 15 #[.slice A is.length c] w fun e w' => e = .returned (.bool (is.all Val.ok)) ∧ Below w.heap.size w w' :=
  refAll_of is A c w h fun x _ cs W hr => refFormed_any x cs W hr
end Go.Proofs.YtojkmemkmcnlnaaGreatDoor
