/- hallmarkref03.Like: are two values the same? -/
import Derived.Test.YtojkmemkmcnlnaaGreatDoorBlk
import Derived.Test.YtojkmemkmcnlnaaGreatDoorProg
import Derived.Deep.LoopGhost
import Derived.Deep.QuietTactic
import Derived.BigQuiet
import Derived.Deep.DeepCutAuto
import Derived.Deep.CutBlock
import Derived.Lib.SlicesS
import Derived.Lib.Walk
import Derived.WalkSpells
import Derived.WalkLawsBesides
import Derived.StillTailTactics
namespace Go.Proofs.YtojkmemkmcnlnaaGreatDoor
open Go.RowKit

mutual
def Val.like : Val → Val → Bool
  | .mk k n t is ks, .mk k' n' t' is' ks' => decide (k = k') && decide (n = n') && decide (t = t') && decide (ks = ks') && likes is is'
def likes : List Val → List Val → Bool
  | [], [] => true
  | x :: xs, y :: ys => Val.like x y && likes xs ys
  | _, _ => false
end
mutual
theorem Val.like_iff : ∀ {a b : Val}, a.like b = true ↔ a = b
  | .mk k n t is ks, .mk k' n' t' is' ks' => by
    simp only [Val.like, Bool.and_eq_true, decide_eq_true_eq, Val.mk.injEq, likes_iff]
    constructor
    · rintro ⟨⟨⟨⟨h1, h2⟩, h3⟩, h4⟩, h5⟩; exact ⟨h1, h2, h3, h5, h4⟩
    · rintro ⟨h1, h2, h3, h5, h4⟩; exact ⟨⟨⟨⟨h1, h2⟩, h3⟩, h4⟩, h5⟩
theorem likes_iff : ∀ {a b : List Val}, likes a b = true ↔ a = b
  | [], [] => by simp [likes]
  | x :: xs, y :: ys => by simp only [likes, Bool.and_eq_true, List.cons.injEq, Val.like_iff, likes_iff]
  | [], _ :: _ => by simp [likes]
  | _ :: _, [] => by simp [likes]
end
theorem Val.like_self (a : Val) : a.like a = true := Val.like_iff.2 rfl
theorem likes_len : ∀ {a b : List Val}, a.length ≠ b.length → likes a b = false
  | [], [], h => absurd rfl h
  | x :: xs, y :: ys, h => by simp only [likes, likes_len (a := xs) (b := ys) (by simpa using h), Bool.and_false]
  | [], _ :: _, _ => rfl
  | _ :: _, [], _ => rfl
theorem likes_drop {a b : List Val} (hl : a.length = b.length) {k : Nat} (hk : k < a.length) : likes (a.drop k) (b.drop k) = ((a[k]).like (b[k]'(by omega)) && likes (a.drop (k + 1)) (b.drop (k + 1))) := by
  rw [List.drop_eq_getElem_cons hk, List.drop_eq_getElem_cons (show k < b.length by omega)]
  simp only [likes]
theorem keys_drop {ks ls : List ByteArray} (hl : ks.length = ls.length) {k : Nat} (hk : k < ks.length) : decide (ks.drop k = ls.drop k) = (decide (ks[k] = ls[k]'(by omega)) && decide (ks.drop (k + 1) = ls.drop (k + 1))) := by
  rw [List.drop_eq_getElem_cons hk, List.drop_eq_getElem_cons (show k < ls.length by omega), Bool.eq_iff_iff]
  simp only [decide_eq_true_eq, Bool.and_eq_true, List.cons.injEq]

/-- The two boxes of Like. -/
structure LkR (w W : World) (X Y : Array Value) : Prop where
  below : Below w.heap.size w W
  b0 : W.heap[w.heap.size]? = some (.cells X 25 (0, 0))
  b1 : W.heap[w.heap.size + 1]? = some (.cells Y 25 (0, 0))
theorem LkR.start (w : World) (X Y : Array Value) : LkR w ((w.alloc (.cells X 25)).alloc (.cells Y 25)) X Y := ⟨((Below.refl _ _).alloc (Nat.le_refl _) _).alloc (by simp) _, blk_alloc (blk_new w _) _, blk_new2 w _ _⟩
theorem LkR.next {w W W' : World} {X Y : Array Value} (h : LkR w W X Y) (hb : Below W.heap.size W W') : LkR w W' X Y := ⟨h.below.trans (hb.mono h.below.size), blk_below h.b0 hb, blk_below h.b1 hb⟩
theorem LkR.drewN {w W : World} {X Y : Array Value} (h : LkR w W X Y) (n : Nat) : LkR w (W.drewN n) X Y := ⟨below_drewN h.below n, h.b0, h.b1⟩

set_option maxHeartbeats 2000000 in
set_option maxRecDepth 100000 in
theorem like_all (m : Nat) : ∀ (a b : Val) (ca cb : List Value) (w : World), a.sz ≤ m → Rep All w a ca → Rep All w b cb →
    Calls Tryz.prog 13 #[.agg ca.toArray, .agg cb.toArray] w fun e w' => e = .returned (.bool (a.like b)) ∧ Below w.heap.size w w' := by
  induction m with
  | zero => intro a b ca cb w hv; cases a; simp [Val.sz] at hv
  | succ m ih =>
  intro a b ca cb w hv ha hb
  obtain ⟨A, c, B, d, rfl, an, at_, ai, ak⟩ := ha.open_
  obtain ⟨A', c', B', d', rfl, bn, bt, bi, bk⟩ := hb.open_
  have IH := Lib.hid ih; clear ih
  have HV := Lib.hid hv; clear hv
  have l1 : a.items.length ≤ 9223372036854775807 := by have := ai.2.2.1; omega
  have l2 : b.items.length ≤ 9223372036854775807 := by have := bi.2.2.1; omega
  have l3 : a.keys.length ≤ 9223372036854775807 := by have := ak.2.2.1; omega
  have l4 : b.keys.length ≤ 9223372036854775807 := by have := bk.2.2.1; omega
  have AI := Lib.hid ai; clear ai
  have AK := Lib.hid ak; clear ak
  have BI := Lib.hid bi; clear bi
  have BK := Lib.hid bk; clear bk ha hb
  have HA : Hid (a.like b = (decide (a.kind = b.kind) && decide (a.num = b.num) && decide (a.text = b.text) && decide (a.keys = b.keys) && likes a.items b.items)) := Lib.hid (by cases a; cases b; rfl)
  generalize a.like b = ANS at *
  generalize a.kind = ka at *
  generalize b.kind = kb at *
  generalize a.num = na at *
  generalize b.num = nb at *
  generalize a.text = ta at *
  generalize b.text = tb at *
  by_cases h1 : ka = kb
  · subst h1
    by_cases h2 : na = nb
    · subst h2
      by_cases h3 : ta = tb
      · subst h3
        by_cases h4 : a.keys.length = b.keys.length
        · by_cases h5 : a.items.length = b.items.length
          · have HK : Hid ((decide (a.keys = b.keys) && likes a.items b.items) = ANS) := Lib.hid (by rw [HA.out]; simp)
            clear HA
            rw [← h4, ← h5]
            have H4 := Lib.hid h4; clear h4
            have H5 := Lib.hid h5; clear h5 l2 l4
            go_enter Tryz.func13, Tryz.ntmps13
            go_wp2_with fail
            have hL := LkR.start w #[.int .i64 ka, .string na, .string ta, .slice A a.items.length c, .slice B a.keys.length d] #[.int .i64 ka, .string na, .string ta, .slice A' a.items.length c', .slice B' a.keys.length d']
            have HL := Lib.hid hL; clear hL
            generalize (w.alloc (.cells #[.int .i64 ka, .string na, .string ta, .slice A a.items.length c, .slice B a.keys.length d] 25)).alloc (.cells #[.int .i64 ka, .string na, .string ta, .slice A' a.items.length c', .slice B' a.keys.length d'] 25) = W0 at *
            go_loopw [5] (fun i W => ∃ k : Nat, k ≤ a.keys.length ∧ i = .int .i64 k ∧ Hid ((decide (a.keys.drop k = b.keys.drop k) && likes a.items b.items) = ANS) ∧ Hid (LkR w W #[.int .i64 ka, .string na, .string ta, .slice A a.items.length c, .slice B a.keys.length d] #[.int .i64 ka, .string na, .string ta, .slice A' a.items.length c', .slice B' a.keys.length d'])) (fun i _ => a.keys.length - (intOf i).toNat)
            case atStart => exact ⟨0, by omega, rfl, by simpa using HK, HL⟩
            case round =>
              clear HL HK
              obtain ⟨k, hk, rfl, HK, HL⟩ := hrel
              have q4 : wr.cell? ⟨w.heap.size, 4, none⟩ = some (.slice B a.keys.length d) := (blk_cell HL.out.b0 4).trans rfl
              have u4 : wr.cell? ⟨w.heap.size + 1, 4, none⟩ = some (.slice B' a.keys.length d') := (blk_cell HL.out.b1 4).trans rfl
              by_cases hlt : k < a.keys.length
              · obtain ⟨g, o, rfl, _, hc, _⟩ := (AK.out.below HL.out.below).at_ (i := k) hlt
                obtain ⟨g', o', rfl, _, hc', _⟩ := (BK.out.below HL.out.below).at_ (i := k) (by have := H4.out; omega)
                have hR := HK.out
                rw [keys_drop H4.out hlt] at hR
                clear HK
                generalize a.keys[k] = X at hc hR
                generalize b.keys[k]'(by have := H4.out; omega) = Y at hc' hR
                have HR := Lib.hid hR; clear hR
                have i0 : (0 : Int) ≤ ↑k := by omega
                have i1 : (k : Int) < ↑a.keys.length := by omega
                by_cases he : X = Y
                · subst he
                  go_wp2_with fail
                  go_quiet (fail)
                  have HL2 := Lib.hid (HL.out.drewN nq)
                  go_wp2_with fail
                  go_roundw
                  case rel => exact ⟨k + 1, by omega, by go_num, Lib.hid (by have := HR.out; simpa using this), HL2⟩
                  case measure => simp [intOf]; omega
                · have he' : (X.toList == Y.toList) = false := (Lib.bytes_beq_false_iff X Y).2 he
                  go_wp2_with fail
                  go_quiet (fail)
                  have HL2 := Lib.hid (HL.out.drewN nq)
                  go_wp2_with fail
                  go_ret
                  exact ⟨ret_bool (by have := HR.out; simpa [he] using this), HL2.out.below⟩
              · obtain rfl : k = a.keys.length := by omega
                have hR := HK.out
                rw [List.drop_of_length_le (Nat.le_refl _), List.drop_of_length_le (by have := H4.out; omega)] at hR
                have HK2 : Hid (likes a.items b.items = ANS) := Lib.hid (by simpa using hR)
                clear hR HK
                go_wp2_with fail
                clear q4 u4
                go_loopw [6] (fun i W => ∃ k : Nat, k ≤ a.items.length ∧ i = .int .i64 k ∧ Hid (likes (a.items.drop k) (b.items.drop k) = ANS) ∧ Hid (LkR w W #[.int .i64 ka, .string na, .string ta, .slice A a.items.length c, .slice B a.keys.length d] #[.int .i64 ka, .string na, .string ta, .slice A' a.items.length c', .slice B' a.keys.length d'])) (fun i _ => a.items.length - (intOf i).toNat)
                case atStart => exact ⟨0, by omega, rfl, by simpa using HK2, HL⟩
                case round =>
                  clear HL HK2 hk hlt
                  obtain ⟨k, hk, rfl, HK, HL⟩ := hrel
                  have q3 : wr.cell? ⟨w.heap.size, 3, none⟩ = some (.slice A a.items.length c) := (blk_cell HL.out.b0 3).trans rfl
                  have u3 : wr.cell? ⟨w.heap.size + 1, 3, none⟩ = some (.slice A' a.items.length c') := (blk_cell HL.out.b1 3).trans rfl
                  by_cases hlt : k < a.items.length
                  · obtain ⟨g, o, A1, c1, B1, d1, rfl, _, x0, x1, x2, x3, x4, hr⟩ := (AI.out.below HL.out.below).at_ (i := k) hlt
                    obtain ⟨g', o', A2, c2, B2, d2, rfl, _, y0, y1, y2, y3, y4, hr'⟩ := (BI.out.below HL.out.below).at_ (i := k) (by have := H5.out; omega)
                    have hR := HK.out
                    rw [likes_drop H5.out hlt] at hR
                    have HR := Lib.hid hR; clear hR HK
                    have hszV : (a.items[k]).sz ≤ m := by have h1 := Val.sz_item (List.getElem_mem hlt); have h2 := HV.out; omega
                    have HSZ := Lib.hid hszV; clear hszV
                    have HRA := Lib.hid hr.drew; clear hr
                    have HRB := Lib.hid hr'.drew; clear hr'
                    have i0 : (0 : Int) ≤ ↑k := by omega
                    have i1 : (k : Int) < ↑a.items.length := by omega
                    go_wp2_with fail
                    go_still_tail 10, (by kernel_rfl)
                    change wpList _ _ _ _ _ wr.drew
                    go_wp2_with fail
                    refine (IH.out _ _ _ _ wr.drew HSZ.out HRA.out HRB.out).mono ?_
                    rintro e w1 ⟨rfl, hb1⟩
                    have HL2 := Lib.hid (HL.out.next (W' := w1) ⟨hb1.os, hb1.tape, hb1.output, hb1.size, hb1.block⟩)
                    clear hb1 x0 x1 x2 x3 x4 y0 y1 y2 y3 y4 q3 u3 HL
                    cases hq : (a.items[k]).like (b.items[k]'(by have := H5.out; omega))
                    · have HQ := Lib.hid hq; clear hq
                      go_wp2_with fail
                      go_ret
                      exact ⟨ret_bool (by have := HR.out; rw [HQ.out] at this; simpa using this), HL2.out.below⟩
                    · have HQ := Lib.hid hq; clear hq
                      go_wp2_with fail
                      go_roundw
                      case rel => exact ⟨k + 1, hlt, by go_num, Lib.hid (by have := HR.out; rw [HQ.out] at this; simpa using this), HL2⟩
                      case measure => simp [intOf]; omega
                  · obtain rfl : k = a.items.length := by omega
                    have hR := HK.out
                    rw [List.drop_of_length_le (Nat.le_refl _), List.drop_of_length_le (by have := H5.out; omega)] at hR
                    go_wp2_with fail
                    go_ret
                    exact ⟨ret_bool (by simpa [likes] using hR), HL.out.below⟩
          · have HF : Hid (ANS = false) := Lib.hid (by rw [HA.out, likes_len h5]; simp)
            have h5' : ¬ (a.items.length : Int) = ↑b.items.length := by omega
            rw [← h4]
            clear h4 l4
            go_enter Tryz.func13, Tryz.ntmps13
            go_wp2_with fail
            go_ret
            exact ⟨ret_bool HF.out.symm, ((Below.refl _ _).alloc (Nat.le_refl _) _).alloc (by simp) _⟩
        · have HF : Hid (ANS = false) := Lib.hid (by rw [HA.out]; have : a.keys ≠ b.keys := fun e => h4 (by rw [e]); simp [this])
          have h4' : ¬ (a.keys.length : Int) = ↑b.keys.length := by omega
          go_enter Tryz.func13, Tryz.ntmps13
          go_wp2_with fail
          go_ret
          exact ⟨ret_bool HF.out.symm, ((Below.refl _ _).alloc (Nat.le_refl _) _).alloc (by simp) _⟩
      · have HF : Hid (ANS = false) := Lib.hid (by rw [HA.out]; simp [h3])
        have h3' : (ta.toList == tb.toList) = false := (Lib.bytes_beq_false_iff ta tb).2 h3
        go_enter Tryz.func13, Tryz.ntmps13
        go_wp2_with fail
        go_ret
        exact ⟨ret_bool HF.out.symm, ((Below.refl _ _).alloc (Nat.le_refl _) _).alloc (by simp) _⟩
    · have HF : Hid (ANS = false) := Lib.hid (by rw [HA.out]; simp [h2])
      have h2' : (na.toList == nb.toList) = false := (Lib.bytes_beq_false_iff na nb).2 h2
      go_enter Tryz.func13, Tryz.ntmps13
      go_wp2_with fail
      go_ret
      exact ⟨ret_bool HF.out.symm, ((Below.refl _ _).alloc (Nat.le_refl _) _).alloc (by simp) _⟩
  · have HF : Hid (ANS = false) := Lib.hid (by rw [HA.out]; simp [h1])
    go_enter Tryz.func13, Tryz.ntmps13
    go_wp2_with fail
    go_ret
    exact ⟨ret_bool HF.out.symm, ((Below.refl _ _).alloc (Nat.le_refl _) _).alloc (by simp) _⟩
theorem like_any (a b : Val) (ca cb : List Value) (w : World) (ha : Rep All w a ca) (hb : Rep All w b cb) :
    Calls Tryz.prog 13 #[.agg ca.toArray, .agg cb.toArray] w fun e w' => e = .returned (.bool (a.like b)) ∧ Below w.heap.size w w' := like_all a.sz a b ca cb w (Nat.le_refl _) ha hb
end Go.Proofs.YtojkmemkmcnlnaaGreatDoor
