/- value.Weight computes the weight. -/
import Derived.Test.YtojkmemkmcnlnaaGreatDoorProg
import Derived.Test.YtojkmemkmcnlnaaGreatDoorUtfValid
import Derived.KernelRfl
import Derived.Deep.LoopGhost
import Derived.Deep.QuietTactic
import Derived.BigQuiet
namespace Go.Proofs.YtojkmemkmcnlnaaGreatDoor
open Go.RowKit

set_option maxHeartbeats 400000 in
theorem weight_all
    (m : Nat) : ∀ (v : Val) (cs : List Value) (w : World), v.sz ≤ m → Rep All w v cs → v.weight < 4611686018427387904 →
    Calls Tryz.prog 36 #[.agg cs.toArray] w fun e w' => e = .returned (.int .i64 v.weight) ∧ Below w.heap.size w w' := by
  induction m with
  | zero => intro v cs w hv; cases v; simp [Val.sz] at hv
  | succ m ih =>
  intro v cs w hv h hw
  obtain ⟨A, c, B, d, rfl, hn, ht, hi, hk⟩ := h.open_
  have IH := Lib.hid ih; clear ih
  rw [weight_eq] at hw ⊢
  have l1 : v.items.length ≤ 9223372036854775807 := by have := hi.2.2.1; omega
  have l2 : v.keys.length ≤ 9223372036854775807 := by have := hk.2.2.1; omega
  have Hi := Lib.hid hi; clear hi
  have Hk := Lib.hid hk; clear hk
  have HW := Lib.hid hw; clear hw
  have HV := Lib.hid hv; clear hv
  clear h
  have htm : (trimMinus v.num).size ≤ 140737488355328 := Nat.le_trans (trimMinus_le _) hn
  go_enter Tryz.func36, Tryz.ntmps36
  go_wp2_with fail
  go_quiet ((go_at_call 93; exact quiet_left (trimMinus_any _ _)))
  go_wp2_with fail
  go_loopw [3, 20] (fun s i W => ∃ k : Nat, k ≤ v.keys.length ∧ i = .int .i64 k ∧ s = .int .i64 ((1 + digs v.num + v.text.size + keysW (v.keys.take k) : Nat) : Int) ∧ Below w.heap.size w W ∧ W.heap[w.heap.size]? = some (.cells #[.int .i64 v.kind, .string v.num, .string v.text, .slice A v.items.length c, .slice B v.keys.length d] 25 (0,0))) (fun _ i _ => v.keys.length - (intOf i).toNat)
  case atStart => exact ⟨0, Nat.zero_le _, rfl, int_eq (by simp [digs, keysW]), below_drewN ((Below.refl _ _).alloc (Nat.le_refl _) _) _, blk_drewN (blk_new _ _) _⟩
  case round =>
    obtain ⟨k, hk, rfl, rfl, hb, hbox⟩ := hrel
    have Hb := Lib.hid hb; clear hb
    have Hbox := Lib.hid hbox; clear hbox
    by_cases hlt : k < v.keys.length
    · obtain ⟨g, o, rfl, _, hc, hsz⟩ := Hk.out.at_ hlt
      have hc' : wr.cell? ⟨g, o + k, none⟩ = some (.string v.keys[k]) := (Hb.out.cell (World.block_lt_of_cell? w _ hc)).trans hc
      clear hc
      go_wp2_with fail
      have e1 := keysW_take v.keys k hlt
      have e2 := keysW_take_le v.keys (k + 1)
      have e3 := HW.out
      refine ⟨⟨k + 1, by omega, by go_num, int_eq ?_, Hb.out, Hbox.out⟩, by simp [intOf]; omega⟩
      rw [wrap_int _ (by omega), e1]; omega
    · have hk' : k = v.keys.length := by omega
      subst hk'
      have c3 := (blk_cell Hbox.out 3).trans rfl
      rw [List.take_length]
      have hlen : 1 + digs v.num + v.text.size + keysW v.keys ≤ 4611686018427387904 := by have := HW.out; omega
      generalize hS : 1 + digs v.num + v.text.size + keysW v.keys = S0 at *
      have HS := Lib.hid hS; clear hS
      go_wp2_with fail
      clear c3
      go_loopw [3, 7, 33] (fun s _ i W => ∃ k : Nat, k ≤ v.items.length ∧ i = .int .i64 k ∧ s = .int .i64 ((S0 + Val.weights (v.items.take k) : Nat) : Int) ∧ Below w.heap.size w W) (fun _ _ i _ => v.items.length - (intOf i).toNat)
      case atStart => exact ⟨0, Nat.zero_le _, rfl, int_eq (by simp [Val.weights]), Hb.out⟩
      case round =>
        clear Hbox Hb
        obtain ⟨k, hk, rfl, rfl, hb⟩ := hrel
        have Hb := Lib.hid hb; clear hb
        by_cases hlt : k < v.items.length
        · obtain ⟨g, o, A', c', B', d', rfl, _, h0, h1, h2, h3, h4, hr⟩ := (Hi.out.below Hb.out).at_ hlt
          have Hr := Lib.hid hr; clear hr
          have e1 := weights_take v.items k hlt
          have e2 := weights_take_le v.items (k + 1)
          have E1 := Lib.hid e1; clear e1
          have E2 := Lib.hid e2; clear e2
          go_wp2_with (go_at_call 36; refine (IH.out _ _ _ ?_ (Hr.out.below ((Below.refl _ _).alloc (Nat.le_refl _) _)) ?_).mono ?_)
          · have := Val.sz_item (v := v) (x := v.items[k]) (List.getElem_mem hlt); have := HV.out; omega
          · have := E1.out; have := E2.out; have := HW.out; omega
          · rintro e w1 ⟨rfl, hb1⟩
            have HB1 := Lib.hid hb1; clear hb1
            clear h0 h1 h2 h3 h4
            have hsum : S0 + Val.weights (List.take k v.items) + v.items[k].weight ≤ 4611686018427387904 := by have := E1.out; have := E2.out; have := HW.out; omega
            go_wp2_with fail
            go_round
            case rel => exact ⟨k + 1, by omega, by go_num, int_eq (by rw [E1.out]; omega), (Hb.out.alloc (by have := Hb.out.size; omega) _).trans (HB1.out.mono (by have := Hb.out.size; simp; omega))⟩
            case measure => simp [intOf]; omega
        · obtain rfl : k = v.items.length := by omega
          rw [List.take_length]
          go_wp2_with fail
          go_ret
          exact ⟨ret_int (by rw [HS.out]), Hb.out⟩
theorem weight_any (v : Val) (cs : List Value) (w : World) (h : Rep All w v cs) (hw : v.weight < 4611686018427387904) :
    Calls Tryz.prog 36 #[.agg cs.toArray] w fun e w' => e = .returned (.int .i64 v.weight) ∧ Below w.heap.size w w' := weight_all v.sz v cs w (Nat.le_refl _) h hw
end Go.Proofs.YtojkmemkmcnlnaaGreatDoor
