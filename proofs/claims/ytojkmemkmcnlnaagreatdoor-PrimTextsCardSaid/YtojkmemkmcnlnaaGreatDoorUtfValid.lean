/- utf.Valid says whether a text is UTF-8; strings.TrimPrefix at the sign. -/
import Derived.Test.YtojkmemkmcnlnaaGreatDoorTabs
import Derived.Test.YtojkmemkmcnlnaaGreatDoorShelf
import Derived.Shelf.Unicode.ValidAny
namespace Go.Proofs.YtojkmemkmcnlnaaGreatDoor
open Go.RowKit
theorem utf8Valid_any (s : ByteArray) (w : World) (hs : s.size ≤ 140737488355328) (hT : Tabs w) :
    Calls Tryz.prog 150 #[.string s] w fun e w' => e = .returned (.bool (utfOk s)) ∧ Below w.heap.size w w' :=
  Any.utf8_ValidString Tryz.laysValid s w (by omega) hT.utf
theorem utfValid_any (s : ByteArray) (w : World) (hs : s.size ≤ 140737488355328) (hT : Tabs w) :
    Calls Tryz.prog 88 #[.string s] w fun e w' => e = .returned (.bool (utfOk s)) ∧ Below w.heap.size w w' := by
  have H := Lib.hid (utf8Valid_any s w hs hT)
  clear hT
  go_enter Tryz.func88, Tryz.ntmps88
  go_wp2_with (go_at_call 150; refine H.out.mono ?_; rintro e w1 ⟨rfl, hb⟩)
  go_ret
  exact ⟨rfl, hb⟩
theorem trimMinus_any (s : ByteArray) (w : World) : Calls Tryz.prog 93 #[.string s, .string ⟨#[45]⟩] w fun e w' => e = .returned (.string (trimMinus s)) ∧ w = w' := by
  exact (Tryz.strings_TrimPrefix s ⟨#[45]⟩ w).mono fun e w' ⟨he, hw⟩ => ⟨he, hw.symm⟩
end Go.Proofs.YtojkmemkmcnlnaaGreatDoor
