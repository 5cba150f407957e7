/- hallmarklaw21.PrimNames: the walk. -/
import Derived.Test.YtojkmemkmcnlnaaGreatDoorLives
namespace Go.Proofs.YtojkmemkmcnlnaaGreatDoor
open Go.RowKit Go.Shelf

def bHas : ByteArray := ⟨#[104, 97, 115]⟩
theorem isHas : (kget tabL (keyB bHas 1)).isSome = true := by kernel_rfl
set_option maxHeartbeats 2000000 in
set_option maxRecDepth 100000 in
theorem primNames_any (name : ByteArray) (n : Int) (w : World) (hs : name.size ≤ 140737488355328) (h0 : -9223372036854775808 ≤ n) (h1 : n ≤ 9223372036854775807) (hT : Tabs w) :
    Calls Tryz.prog 6 #[.string name, .int .i64 n] w fun e w' => e = .returned (.bool true) ∧ Below w.heap.size w w' := by
  have HT := Lib.hid hT; clear hT
  have IH := Lib.hid isHas
  go_enter Tryz.func6, Tryz.ntmps6
  go_wp2_with fail
  refine (lives_any w HT.out).mono ?_
  rintro e W1 ⟨rfl, hb1⟩
  go_wp2_with fail
  refine (names_any W1).mono ?_
  rintro e W2 ⟨A, c, rfl, hS, hb2⟩
  have HS := Lib.hid hS; clear hS
  have hbA := hb1.trans (hb2.mono hb1.size)
  clear hb1 hb2
  go_wp2_with fail
  refine (refNames_any W2).mono ?_
  rintro e W3 ⟨A', c', rfl, hS', hb3⟩
  have HS2 := Lib.hid (HS.out.below hb3); clear HS
  have HS3 := Lib.hid hS'; clear hS'
  have hbB := hbA.trans (hb3.mono hbA.size)
  clear hbA hb3
  go_wp2_with fail
  have hsame := sameStrings_any refL refL A A' c c' W3 HS2.out HS3.out
  rw [show refL.length = 40 from rfl] at hsame
  refine hsame.mono ?_
  clear hsame HS2 HS3
  rintro e W4 ⟨rfl, hb4⟩
  rw [decide_eq_true rfl]
  have hbC := hbB.trans (hb4.mono hbB.size)
  clear hbB hb4
  go_wp2_with fail
  refine (is_any bHas 1 W4 (by decide) (by decide) (by decide) (HT.out.below hbC)).mono ?_
  rw [IH.out]
  rintro e W5 ⟨rfl, hb5⟩
  have hbD := hbC.trans (hb5.mono hbC.size)
  clear hbC hb5
  go_wp2_with fail
  refine (is_any name n W5 hs h0 h1 (HT.out.below hbD)).mono ?_
  rw [tab_ref]
  rintro e W6 ⟨rfl, hb6⟩
  have hbE := hbD.trans (hb6.mono hbD.size)
  clear hbD hb6
  go_wp2_with fail
  refine (refIs_any name n W6 hs h0 h1 (HT.out.below hbE)).mono ?_
  rintro e W7 ⟨rfl, hb7⟩
  have hbF := hbE.trans (hb7.mono hbE.size)
  clear hbE hb7
  generalize (refL.any fun x => decide (x = keyB name n)) = q
  cases q
  · go_wp2_with fail
    go_ret
    exact ⟨rfl, hbF⟩
  · go_wp2_with fail
    go_ret
    exact ⟨rfl, hbF⟩
end Go.Proofs.YtojkmemkmcnlnaaGreatDoor
