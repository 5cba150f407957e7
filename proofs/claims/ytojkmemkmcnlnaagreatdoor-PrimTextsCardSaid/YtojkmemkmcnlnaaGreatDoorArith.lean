/- The arithmetic package's plumbing: answers, their telling, arith.Do over the contract of one operation. -/
import Derived.Test.YtojkmemkmcnlnaaGreatDoorArithAt
import Derived.Test.YtojkmemkmcnlnaaGreatDoorBlk
namespace Go.Proofs.YtojkmemkmcnlnaaGreatDoor
open Go.RowKit

theorem formed2 (w : World) : Calls Tryz.prog 87 #[.string b2] w fun e w' => e = .returned (.bool true) ∧ w = w' := by
  have h := tensFormed_any b2 w (by decide)
  rwa [show numOk b2 = true from by decide +kernel] at h
theorem formed5 (w : World) : Calls Tryz.prog 87 #[.string b5] w fun e w' => e = .returned (.bool true) ∧ w = w' := by
  have h := tensFormed_any b5 w (by decide)
  rwa [show numOk b5 = true from by decide +kernel] at h
set_option maxHeartbeats 1000000 in
set_option maxRecDepth 100000 in
theorem add25 (w : World) : Calls Tryz.prog 289 #[.string b2, .string b5] w fun e w' => e = .returned (.tuple #[.string b7, .int .i64 0]) ∧ Below w.heap.size w w' := by
  have F2 := Lib.hid formed2
  have F5 := Lib.hid formed5
  have P25 := Lib.hid plus25
  have S7 := Lib.hid signed7
  have S2 := Lib.hid split2
  have S5 := Lib.hid split5
  generalize b2 = B2 at *
  generalize b5 = B5 at *
  generalize b7 = B7 at *
  go_enter Tryz.func289, Tryz.ntmps289
  go_wp2_with fail
  refine (F2.out _).mono ?_
  rintro e w1 ⟨rfl, rfl⟩
  go_wp2_with fail
  refine (F5.out _).mono ?_
  rintro e w1 ⟨rfl, rfl⟩
  go_wp2_with fail
  refine (S2.out _).mono ?_
  rintro e w1 ⟨rfl, rfl⟩
  go_wp2_with fail
  refine (S5.out _).mono ?_
  rintro e w1 ⟨rfl, rfl⟩
  go_wp2_with fail
  refine (P25.out _).mono ?_
  rintro e w1 ⟨rfl, hb⟩
  go_wp2_with fail
  refine (S7.out _).mono ?_
  rintro e w2 ⟨rfl, rfl⟩
  go_wp2_with fail
  go_ret2
  exact ⟨rfl, hb⟩

set_option maxHeartbeats 1000000 in
set_option maxRecDepth 100000 in
theorem good_any (k : Int) (n t : ByteArray) (A B : Option Addr) (i c j d : Nat) (w : World) : Calls Tryz.prog 287 #[.agg #[.int .i64 k, .string n, .string t, .slice A i c, .slice B j d]] w fun e w' =>
    e = .returned (.agg #[.int .i64 k, .string n, .string t, .slice A i c, .slice B j d, .int .i64 0, .string ⟨#[]⟩, .string ⟨#[]⟩, .slice none 0 0, .slice none 0 0, .bool true]) ∧ Below w.heap.size w w' := by
  go_enter Tryz.func287, Tryz.ntmps287
  go_wp2_with fail
  have hb : Below w.heap.size w ((w.alloc (.cells #[.int .i64 k, .string n, .string t, .slice A i c, .slice B j d] 25)).alloc (.cells #[.int .i64 k, .string n, .string t, .slice A i c, .slice B j d, .int .i64 0, .string ⟨#[]⟩, .string ⟨#[]⟩, .slice none 0 0, .slice none 0 0, .bool true] 180)) :=
    ((Below.refl _ _).alloc (Nat.le_refl _) _).alloc (by simp) _
  refine bodyPost_ret (v := .agg #[.int .i64 k, .string n, .string t, .slice A i c, .slice B j d, .int .i64 0, .string ⟨#[]⟩, .string ⟨#[]⟩, .slice none 0 0, .slice none 0 0, .bool true]) ?_ rfl ⟨rfl, hb⟩
  simp only [results, Tryz.f287]
  go_simp

set_option maxHeartbeats 1000000 in
set_option maxRecDepth 100000 in
theorem number7 (w : World) : Calls Tryz.prog 290 #[.string b7] w fun e w' =>
    e = .returned (.agg #[.int .i64 3, .string b7, .string ⟨#[]⟩, .slice none 0 0, .slice none 0 0, .int .i64 0, .string ⟨#[]⟩, .string ⟨#[]⟩, .slice none 0 0, .slice none 0 0, .bool true]) ∧ Below w.heap.size w w' := by
  generalize b7 = B7
  go_enter Tryz.func290, Tryz.ntmps290
  go_wp2_with fail
  refine (good_any _ _ _ _ _ _ _ _ _ _).mono ?_
  rintro e w1 ⟨rfl, hb⟩
  have h0 := blk_below (blk_new w _) hb
  have hb1 : Below w.heap.size w w1 := ((Below.refl _ _).alloc (Nat.le_refl _) _).trans (hb.mono (by simp))
  go_wp2_with (refine wpList_store_blk rfl 180 _ _ rfl w.heap.size _ _ _ rfl rfl h0 rfl (by kernel_rfl) (by simp [Value.oneCell']) ?_)
  intro w2 h2 ho
  have hb2 := ho.from hb1 (Nat.le_refl _)
  clear h0 hb hb1 ho
  go_wp2_with fail
  exact bodyPost_ret (results_cell_row rfl _ _ w.heap.size _ _ _ _ rfl h2 Tryz.underlying180 rfl (by kernel_rfl)) rfl ⟨rfl, hb2⟩
set_option maxHeartbeats 1000000 in
set_option maxRecDepth 100000 in
theorem both_any (k k' q : Int) (n t n' t' : ByteArray) (A B A' B' : Option Addr) (i c j d i' c' j' d' : Nat) (w : World) :
    Calls Tryz.prog 288 #[.agg #[.int .i64 k, .string n, .string t, .slice A i c, .slice B j d, .int .i64 k', .string n', .string t', .slice A' i' c', .slice B' j' d'], .int .i64 q] w fun e w' =>
      e = .returned (.bool (decide (k = q) && decide (k' = q))) ∧ Below w.heap.size w w' := by
  by_cases h1 : k = q
  · subst h1
    by_cases h2 : k' = k
    · subst h2
      go_enter Tryz.func288, Tryz.ntmps288
      go_wp2_with fail
      go_ret
      exact ⟨by simp, (Below.refl _ _).alloc (Nat.le_refl _) _⟩
    · go_enter Tryz.func288, Tryz.ntmps288
      go_wp2_with fail
      go_ret
      exact ⟨by simp [h2], (Below.refl _ _).alloc (Nat.le_refl _) _⟩
  · go_enter Tryz.func288, Tryz.ntmps288
    go_wp2_with fail
    go_ret
    exact ⟨by simp [h1], (Below.refl _ _).alloc (Nat.le_refl _) _⟩

/-- The ten cells of a pair of values. -/
abbrev five (k : Int) (n t : ByteArray) (A : Option Addr) (i c : Nat) (B : Option Addr) (j d : Nat) : List Value := [.int .i64 k, .string n, .string t, .slice A i c, .slice B j d]
abbrev zero5 : List Value := five 0 ⟨#[]⟩ ⟨#[]⟩ none 0 0 none 0 0
set_option maxHeartbeats 1000000 in
set_option maxRecDepth 100000 in
theorem pairAdd_null (n t n' t' : ByteArray) (k' : Int) (A B A' B' : Option Addr) (i c j d i' c' j' d' : Nat) (w : World) :
    Calls Tryz.prog 242 #[.agg #[.int .i64 0, .string n, .string t, .slice A i c, .slice B j d, .int .i64 k', .string n', .string t', .slice A' i' c', .slice B' j' d']] w fun e w' =>
      e = .returned (.agg #[.int .i64 k', .string n', .string t', .slice A' i' c', .slice B' j' d', .int .i64 0, .string ⟨#[]⟩, .string ⟨#[]⟩, .slice none 0 0, .slice none 0 0, .bool true]) ∧ Below w.heap.size w w' := by
  go_enter Tryz.func242, Tryz.ntmps242
  go_wp2_with fail
  refine (good_any _ _ _ _ _ _ _ _ _ _).mono ?_
  rintro e w1 ⟨rfl, hb⟩
  have h0 := blk_below (heap_alloc2_new w _ _) hb
  have hb1 : Below w.heap.size w w1 := (((Below.refl _ _).alloc (Nat.le_refl _) _).alloc (by simp) _).trans (hb.mono (by simp; omega))
  go_wp2_with (refine wpList_store_blk rfl 180 _ _ rfl (w.heap.size + 1) _ _ _ rfl rfl h0 rfl (by kernel_rfl) (by simp [Value.oneCell']) ?_)
  intro w2 h2 ho
  have hb2 := ho.from hb1 (by omega)
  clear h0 hb hb1 ho
  go_wp2_with fail
  exact bodyPost_ret (results_cell_row rfl _ _ (w.heap.size + 1) _ _ _ _ rfl h2 Tryz.underlying180 rfl (by kernel_rfl)) rfl ⟨rfl, hb2⟩
set_option maxHeartbeats 1000000 in
set_option maxRecDepth 100000 in
theorem pairAdd25 (A B A' B' : Option Addr) (c d c' d' : Nat) (w : World) :
    Calls Tryz.prog 242 #[.agg #[.int .i64 3, .string b2, .string ⟨#[]⟩, .slice A 0 c, .slice B 0 d, .int .i64 3, .string b5, .string ⟨#[]⟩, .slice A' 0 c', .slice B' 0 d']] w fun e w' =>
      e = .returned (.agg #[.int .i64 3, .string b7, .string ⟨#[]⟩, .slice none 0 0, .slice none 0 0, .int .i64 0, .string ⟨#[]⟩, .string ⟨#[]⟩, .slice none 0 0, .slice none 0 0, .bool true]) ∧ Below w.heap.size w w' := by
  have A25 := Lib.hid add25
  have N7 := Lib.hid number7
  generalize b2 = B2 at *
  generalize b5 = B5 at *
  generalize b7 = B7 at *
  go_enter Tryz.func242, Tryz.ntmps242
  go_wp2_with fail
  refine (both_any _ _ _ _ _ _ _ _ _ _ _ _ _ _ _ _ _ _ _ _).mono ?_
  rintro e w1 ⟨rfl, hb⟩
  have h0 := blk_below (heap_alloc2_new w _ _) hb
  have g0 := blk_below (heap_alloc2_old w _ _) hb
  have hb1 : Below w.heap.size w w1 := (((Below.refl _ _).alloc (Nat.le_refl _) _).alloc (by simp) _).trans (hb.mono (by simp; omega))
  clear hb
  have q1 : w1.cell? ⟨w.heap.size, 1, none⟩ = some (.string B2) := (blk_cell g0 1).trans rfl
  have q6 : w1.cell? ⟨w.heap.size, 6, none⟩ = some (.string B5) := (blk_cell g0 6).trans rfl
  clear g0
  have H0 := Lib.hid h0; clear h0
  go_wp2_with fail
  refine (A25.out _).mono ?_
  rintro e w2 ⟨rfl, hb⟩
  have H1 := Lib.hid (blk_below H0.out hb); clear H0
  have hb2 := hb1.trans (hb.mono hb1.size)
  clear hb1 hb q1 q6
  go_wp2_with fail
  refine (N7.out _).mono ?_
  rintro e w3 ⟨rfl, hb⟩
  have h0 := blk_below H1.out hb; clear H1
  have hb3 := hb2.trans (hb.mono hb2.size)
  clear hb2 hb
  go_wp2_with (refine wpList_store_blk rfl 180 _ _ rfl (w.heap.size + 1) _ _ _ rfl rfl h0 rfl (by kernel_rfl) (by simp [Value.oneCell']) ?_)
  intro w2 h2 ho
  have hb2 := ho.from hb3 (by omega)
  clear h0 hb3 ho
  go_wp2_with fail
  exact bodyPost_ret (results_cell_row rfl _ _ (w.heap.size + 1) _ _ _ _ rfl h2 Tryz.underlying180 rfl (by kernel_rfl)) rfl ⟨rfl, hb2⟩
end Go.Proofs.YtojkmemkmcnlnaaGreatDoor
