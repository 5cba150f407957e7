/- Three more closed facts of PrimNames' card. -/
import Derived.Test.YtojkmemkmcnlnaaGreatDoorCards
import Derived.Test.YtojkmemkmcnlnaaGreatDoorTie
import Derived.KernelRfl
namespace Go.Proofs.YtojkmemkmcnlnaaGreatDoor.primNames
open Go
theorem t_wf : Rows.primNamesRow.wfByText (OpenSpec.ofChange Rows.primNamesSpec) = true := by kernel_rfl
theorem t_main : Tryz.pinned.checked.prog.mainIs = some (true, ("b2e51c96cb2d4dcbc2b7ce4ce3044b2dd20c1a94ffe04a2f886cef81e6ce0e58" : String).toList) := by kernel_rfl
theorem t_goes : false = Rows.primNamesRow.goesBy Tryz.pinned.checked.prog := by kernel_rfl
end Go.Proofs.YtojkmemkmcnlnaaGreatDoor.primNames
