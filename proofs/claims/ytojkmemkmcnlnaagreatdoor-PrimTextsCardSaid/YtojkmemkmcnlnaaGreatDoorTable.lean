/- prim.table: forty names and what each does; prim.key. -/
import Derived.Test.YtojkmemkmcnlnaaGreatDoorMp
import Derived.Test.YtojkmemkmcnlnaaGreatDoorShelf
import Derived.Lib.Walk
import Derived.WalkSpells
import Derived.WalkLawsBesides
import Derived.Carry
namespace Go.Proofs.YtojkmemkmcnlnaaGreatDoor
open Go.RowKit

def tabL : List (ByteArray × Value) := [
  (⟨#[108, 101, 110, 103, 116, 104, 47, 48]⟩, .func (.func 45) #[] #[]),
  (⟨#[117, 116, 102, 56, 98, 121, 116, 101, 108, 101, 110, 103, 116, 104, 47, 48]⟩, .func (.func 46) #[] #[]),
  (⟨#[110, 111, 116, 47, 48]⟩, .func (.func 47) #[] #[]),
  (⟨#[107, 101, 121, 115, 47, 48]⟩, .func (.func 48) #[] #[]),
  (⟨#[104, 97, 115, 47, 49]⟩, .func (.func 49) #[] #[]),
  (⟨#[99, 111, 110, 116, 97, 105, 110, 115, 47, 49]⟩, .func (.func 50) #[] #[]),
  (⟨#[116, 121, 112, 101, 47, 48]⟩, .func (.func 51) #[] #[]),
  (⟨#[116, 111, 115, 116, 114, 105, 110, 103, 47, 48]⟩, .func (.func 52) #[] #[]),
  (⟨#[116, 111, 110, 117, 109, 98, 101, 114, 47, 48]⟩, .func (.func 53) #[] #[]),
  (⟨#[116, 111, 106, 115, 111, 110, 47, 48]⟩, .func (.func 54) #[] #[]),
  (⟨#[102, 114, 111, 109, 106, 115, 111, 110, 47, 48]⟩, .func (.func 55) #[] #[]),
  (⟨#[97, 115, 99, 105, 105, 95, 100, 111, 119, 110, 99, 97, 115, 101, 47, 48]⟩, .func (.func 56) #[] #[]),
  (⟨#[97, 115, 99, 105, 105, 95, 117, 112, 99, 97, 115, 101, 47, 48]⟩, .func (.func 57) #[] #[]),
  (⟨#[101, 120, 112, 108, 111, 100, 101, 47, 48]⟩, .func (.func 58) #[] #[]),
  (⟨#[105, 109, 112, 108, 111, 100, 101, 47, 48]⟩, .func (.func 59) #[] #[]),
  (⟨#[115, 116, 97, 114, 116, 115, 119, 105, 116, 104, 47, 49]⟩, .func (.func 60) #[] #[]),
  (⟨#[101, 110, 100, 115, 119, 105, 116, 104, 47, 49]⟩, .func (.func 61) #[] #[]),
  (⟨#[108, 116, 114, 105, 109, 115, 116, 114, 47, 49]⟩, .func (.func 62) #[] #[]),
  (⟨#[114, 116, 114, 105, 109, 115, 116, 114, 47, 49]⟩, .func (.func 63) #[] #[]),
  (⟨#[115, 112, 108, 105, 116, 47, 49]⟩, .func (.func 64) #[] #[]),
  (⟨#[106, 111, 105, 110, 47, 49]⟩, .func (.func 65) #[] #[]),
  (⟨#[105, 110, 100, 105, 99, 101, 115, 47, 49]⟩, .func (.func 66) #[] #[]),
  (⟨#[114, 101, 118, 101, 114, 115, 101, 47, 48]⟩, .func (.func 67) #[] #[]),
  (⟨#[115, 111, 114, 116, 47, 48]⟩, .func (.func 68) #[] #[]),
  (⟨#[95, 115, 111, 114, 116, 95, 98, 121, 47, 49]⟩, .func (.func 69) #[] #[]),
  (⟨#[95, 103, 114, 111, 117, 112, 95, 98, 121, 47, 49]⟩, .func (.func 70) #[] #[]),
  (⟨#[95, 117, 110, 105, 113, 117, 101, 95, 98, 121, 47, 49]⟩, .func (.func 71) #[] #[]),
  (⟨#[95, 109, 105, 110, 95, 98, 121, 47, 49]⟩, .func (.func 72) #[] #[]),
  (⟨#[95, 109, 97, 120, 95, 98, 121, 47, 49]⟩, .func (.func 73) #[] #[]),
  (⟨#[109, 105, 110, 47, 48]⟩, .func (.func 74) #[] #[]),
  (⟨#[109, 97, 120, 47, 48]⟩, .func (.func 75) #[] #[]),
  (⟨#[117, 110, 105, 113, 117, 101, 47, 48]⟩, .func (.func 76) #[] #[]),
  (⟨#[97, 100, 100, 47, 48]⟩, .func (.func 77) #[] #[]),
  (⟨#[102, 108, 97, 116, 116, 101, 110, 47, 48]⟩, .func (.func 78) #[] #[]),
  (⟨#[116, 114, 97, 110, 115, 112, 111, 115, 101, 47, 48]⟩, .func (.func 79) #[] #[]),
  (⟨#[103, 101, 116, 112, 97, 116, 104, 47, 49]⟩, .func (.func 80) #[] #[]),
  (⟨#[115, 101, 116, 112, 97, 116, 104, 47, 50]⟩, .func (.func 81) #[] #[]),
  (⟨#[100, 101, 108, 112, 97, 116, 104, 115, 47, 49]⟩, .func (.func 82) #[] #[]),
  (⟨#[97, 98, 115, 47, 48]⟩, .func (.func 83) #[] #[]),
  (⟨#[116, 111, 97, 114, 114, 97, 121, 47, 48]⟩, .func (.func 84) #[] #[])]

set_option maxHeartbeats 1000000 in
set_option maxRecDepth 100000 in
theorem table_any (w : World) : Calls Tryz.prog 28 #[] w fun e w' => ∃ r, e = .returned (.map (some r)) ∧ w'.heap[r]? = some (mobj tabL) ∧ w.heap.size ≤ r ∧ Below w.heap.size w w' := by
  go_enter Tryz.func28, Tryz.ntmps28
  go_wp2_with (refine wpList_literal rfl 46 1 rfl 9 48 Tryz.underlying46 Tryz.underlying9 tabL rfl (by kernel_rfl) (by kernel_rfl) ?_
               intro w1 hh hb
               change wpList _ _ _ [_, _] _ _)
  go_ret
  exact ⟨_, rfl, hh, Nat.le_refl _, hb⟩
end Go.Proofs.YtojkmemkmcnlnaaGreatDoor
