/- "2" + "5" by the program's own addition: each function at these values alone. -/
import Derived.Test.YtojkmemkmcnlnaaGreatDoorTwin
import Derived.Test.YtojkmemkmcnlnaaGreatDoorFormed
import Derived.Laws.IdiomCopy
import Derived.Laws.IdiomStrings
import Derived.Room.AppendFits
import Derived.Deep.RegionLaw
namespace Go.Proofs.YtojkmemkmcnlnaaGreatDoor
open Go.RowKit

def b2 : ByteArray := ⟨#[50]⟩
def b5 : ByteArray := ⟨#[53]⟩
def b7 : ByteArray := ⟨#[55]⟩

set_option maxHeartbeats 1000000 in
set_option maxRecDepth 100000 in
theorem split2 (w : World) : Calls Tryz.prog 267 #[.string b2] w fun e w' => e = .returned (.tuple #[.bool false, .string b2]) ∧ w = w' := by
  unfold b2
  go_enter Tryz.func267, Tryz.ntmps267
  go_wp2_with fail
  go_ret2
  exact ⟨rfl, rfl⟩
set_option maxHeartbeats 1000000 in
set_option maxRecDepth 100000 in
theorem split5 (w : World) : Calls Tryz.prog 267 #[.string b5] w fun e w' => e = .returned (.tuple #[.bool false, .string b5]) ∧ w = w' := by
  unfold b5
  go_enter Tryz.func267, Tryz.ntmps267
  go_wp2_with fail
  go_ret2
  exact ⟨rfl, rfl⟩
set_option maxHeartbeats 1000000 in
set_option maxRecDepth 100000 in
theorem signed7 (w : World) : Calls Tryz.prog 332 #[.bool false, .string b7] w fun e w' => e = .returned (.string b7) ∧ w = w' := by
  unfold b7
  go_enter Tryz.func332, Tryz.ntmps332
  go_wp2_with fail
  go_ret
  exact ⟨rfl, rfl⟩
set_option maxHeartbeats 1000000 in
set_option maxRecDepth 100000 in
theorem text07 (g : Nat) (w : World) (h0 : w.cell? ⟨g, 0, none⟩ = some (.int .u8 48)) (h1 : w.cell? ⟨g, 1, none⟩ = some (.int .u8 55)) : Calls Tryz.prog 355 #[.slice (some ⟨g, 0, none⟩) 2 2] w fun e w' => e = .returned (.string b7) ∧ w = w' := by
  unfold b7
  go_enter Tryz.func355, Tryz.ntmps355
  go_wp2_with fail
  go_loopw [3] (fun i W => (i = .int .i64 0 ∨ i = .int .i64 1) ∧ W = w) (fun i _ => 2 - (intOf i).toNat)
  case atStart => exact ⟨.inl rfl, rfl⟩
  case round =>
    obtain ⟨rfl | rfl, rfl⟩ := hrel
    · go_wp2_with fail
      go_roundw
      case rel => exact ⟨.inr rfl, trivial⟩
      case measure => simp [intOf]
    · have hcv : (convert 115 9 (.slice (some ⟨g, 1, none⟩) 1 1)).run Tryz.prog wr = .ok (.string ⟨#[55]⟩) wr :=
        run_convert_bytes_back wr 115 9 5 ⟨g, 1, none⟩ 1 [55] Tryz.underlying115 Tryz.underlying5 Tryz.underlying9 (by
          intro j hj
          obtain rfl : j = 0 := by simpa using hj
          exact h1)
      go_wp2_with fail
      go_ret
      exact ⟨rfl, rfl⟩
theorem infoB : (Tryz.prog.info? 5).map (fun i => (i.zero, i.size, i.bytes)) = some (some (.int .u8 0), 1, 1) := by kernel_rfl
set_option maxHeartbeats 1000000 in
set_option maxRecDepth 100000 in
theorem plus25 (w : World) : Calls Tryz.prog 333 #[.string b2, .string b5] w fun e w' => e = .returned (.string b7) ∧ Below w.heap.size w w' := by
  unfold b2 b5 b7
  obtain ⟨i0, hi, hz0, hz1, hz2⟩ := info_parts infoB
  go_enter Tryz.func333, Tryz.ntmps333
  go_wp2_with (at_make; refine wpList_make_own _ rfl _ _ 115 rfl w.heap.size 5 i0 _ 1 Tryz.underlying115 hi hz0 hz1 _ _ _ 2 rfl rfl rfl (by rw [hz2]; decide) (by decide) (Nat.le_refl _) ?_)
  intro w1 hown hg
  have HB := (Below.refl _ w).grown hg (Nat.le_refl _) (by simp)
  have HS := hg.size
  have hc1 : ∀ j u, ([Value.int .u8 48] : List Value)[j]? = some u → (w1.alloc (Obj.cells #[Value.int IntKind.u8 48] 5)).cell? ((⟨w1.heap.size, 0, none⟩ : Addr).add j) = some u := by
    intro j u hj
    rw [Addr.add_lit, blk_cell (blk_new w1 _)]
    simpa using hj
  have hown1 := hown.alloc (Obj.cells #[Value.int IntKind.u8 48] 5)
  go_wp2_with (at_builtin; refine wpList_append_fits _ rfl _ _ 115 rfl w.heap.size 5 i0 1 Tryz.underlying115 hi hz1 w.heap.size 0 2 [] rfl hown1 ⟨w1.heap.size, 0, none⟩ 1 1 [.int .u8 48] rfl rfl hc1 (by simp [Value.oneCell']) (by decide) ?_)
  intro w2 hown2 hg2
  have HB2 := (HB.alloc HS (Obj.cells #[Value.int IntKind.u8 48] 5)).grown hg2 (by simp; omega) (by simp)
  have HS2 := hg2.size
  simp only [World.size_alloc] at HS2
  clear hown hown1 hc1 HB hg
  go_wp2_with (at_builtin; refine Lib.wpList_append_fits_string _ rfl _ _ 115 9 rfl w.heap.size 5 i0 Tryz.underlying115 Tryz.underlying9 hi hz1 _ 1 2 _ rfl hown2 ⟨#[50]⟩ rfl (by decide) (by decide) ?_)
  intro w3 hown3 hg3
  have HB3 := HB2.grown hg3 HB2.size (by simp [Value.ownBlock])
  have q0 : w3.cell? ⟨w.heap.size, 0, none⟩ = some (.int .u8 48) := (hown3.cellAt 0 (by decide)).trans (by rfl)
  have q1 : w3.cell? ⟨w.heap.size, 1, none⟩ = some (.int .u8 50) := (hown3.cellAt 1 (by decide)).trans (by rfl)
  have f0 : w3.frozen? ⟨w.heap.size, 0, none⟩ = false := hown3.frozenAt 0
  have f1 : w3.frozen? ⟨w.heap.size, 1, none⟩ = false := hown3.frozenAt 1
  clear hown2 hg2 hown3 hg3 HB2
  have HB4 := Lib.hid HB3; clear HB3
  go_wp2_with fail
  go_loopw [6, 7] (fun c i W => c = .int .u8 0 ∧ W.cell? ⟨w.heap.size, 0, none⟩ = some (.int .u8 48) ∧ W.frozen? ⟨w.heap.size, 0, none⟩ = false ∧ W.frozen? ⟨w.heap.size, 1, none⟩ = false ∧ Hid (Below w.heap.size w W) ∧ ((i = .int .i64 1 ∧ W.cell? ⟨w.heap.size, 1, none⟩ = some (.int .u8 50)) ∨ (i = .int .i64 2 ∧ W.cell? ⟨w.heap.size, 1, none⟩ = some (.int .u8 55)))) (fun _ i _ => 3 - (intOf i).toNat)
  case atStart => exact ⟨rfl, q0, f0, f1, HB4, .inl ⟨rfl, q1⟩⟩
  case round =>
    clear q0 q1 f0 f1 HB4
    obtain ⟨rfl, q0, f0, f1, HB, ⟨rfl, q1⟩ | ⟨rfl, q1⟩⟩ := hrel
    · go_wp2_with fail
      have w0 : IntKind.i64.wrap 0 = 0 := by decide
      have w1 : IntKind.u8.wrap 5 = 5 := by decide
      have w2 : IntKind.u8.wrap 55 = 55 := by decide
      go_region_law (fail)
      all_goals
        go_wp2_with fail
        go_roundw
        case rel =>
          refine ⟨rfl, ?_, ?_, ?_, Lib.hid ?_, .inr ⟨rfl, ?_⟩⟩
          · exact (World.cell?_setCell_other _ _ _ _ (by simp)).trans ((World.cell?_setCell_other _ _ _ _ (by simp)).trans q0)
          · exact (World.frozen?_setCell _ _ _ _).trans ((World.frozen?_setCell _ _ _ _).trans f0)
          · exact (World.frozen?_setCell _ _ _ _).trans ((World.frozen?_setCell _ _ _ _).trans f1)
          · exact ((HB.out.setCell (p := ⟨w.heap.size, 1, none⟩) (Nat.le_refl _) _).setCell (p := ⟨w.heap.size, 1, none⟩) (Nat.le_refl _) _).drew
          · exact (World.cell?_setCell_same _ _ _ (World.cell?_setCell_same _ _ _ q1)).trans (congrArg some (int_eq (by decide)))
        case measure => simp [intOf]
    · have HBs := HB.out.setCell (p := ⟨w.heap.size, 0, none⟩) (Nat.le_refl _) (.int .u8 48)
      have e0 : (wr.setCell ⟨w.heap.size, 0, none⟩ (.int .u8 48)).cell? ⟨w.heap.size, 0, none⟩ = some (.int .u8 48) := World.cell?_setCell_same _ _ _ q0
      have e1 : (wr.setCell ⟨w.heap.size, 0, none⟩ (.int .u8 48)).cell? ⟨w.heap.size, 1, none⟩ = some (.int .u8 55) := (World.cell?_setCell_other _ _ _ _ (by simp)).trans q1
      have HB2 := Lib.hid HBs; clear HBs
      go_wp2_with fail
      refine (text07 w.heap.size _ e0 e1).mono ?_
      rintro e w2 ⟨rfl, rfl⟩
      clear e0 e1
      go_wp2_with fail
      go_ret
      exact ⟨rfl, HB2.out⟩
end Go.Proofs.YtojkmemkmcnlnaaGreatDoor
