/-
  DERIVED. GIVEN WITH THE SEED: THE CARDS: each row of YtojkmemkmcnlnaaGreatDoorRows.lean that lists a variable, with what it lists TIED to the program's text (the seventh form; the later family's looks); each row that meets fmt, with fmt's text TOLD by the authors' own Lean function (tested against real Go, not proved from fmt's source: count such statements apart). THE CARD IS WHAT COUNTS. Prove the row's statement (the work); the ties are given (YtojkmemkmcnlnaaGreatDoorTie.lean); close each card by the builder's one call (the guide's Derived/Test/ToyasCard.lean, 'card_holds'). Laid BY PROGRAM, IN A SANDBOX (cutbox-door.mjs). By AI agents, Wed Nov 11 2026. No macro, syntax, notation, axiom, sorry.
-/
import Derived.Test.YtojkmemkmcnlnaaGreatDoorRows
import GoSem.ClaimSeven
namespace Go.Proofs.YtojkmemkmcnlnaaGreatDoor
namespace Rows

/-- THE TIED CARD OF 'hallmarklaw21.PrimBack'. -/
def primBackCard : Claim7 := { stood := { row := primBackRow, standIns := [], harness := (true, "b2e51c96cb2d4dcbc2b7ce4ce3044b2dd20c1a94ffe04a2f886cef81e6ce0e58"), looks := true }, kinds := [], alts := [], laidByText := true, laidKinds := [.data, .data, .data, .data, .sentinel, .sentinel, .pinned], laidTests := true, laidLooks := .later }
def PrimBackCardSaid : Prop := Claim7.holds Tryz.pinned (.plain (OpenSpec.ofChange primBackSpec)) primBackCard

/-- THE TIED CARD OF 'hallmarklaw21.PrimTexts'. -/
def primTextsCard : Claim7 := { stood := { row := primTextsRow, standIns := [], harness := (true, "b2e51c96cb2d4dcbc2b7ce4ce3044b2dd20c1a94ffe04a2f886cef81e6ce0e58"), looks := true }, kinds := [], alts := [], laidByText := true, laidKinds := [.data, .data, .data, .data, .sentinel, .sentinel, .pinned], laidTests := true, laidLooks := .later }
def PrimTextsCardSaid : Prop := Claim7.holds Tryz.pinned (.plain (OpenSpec.ofChange primTextsSpec)) primTextsCard

/-- THE TIED CARD OF 'hallmarklaw21.PrimPaths'. -/
def primPathsCard : Claim7 := { stood := { row := primPathsRow, standIns := [], harness := (true, "b2e51c96cb2d4dcbc2b7ce4ce3044b2dd20c1a94ffe04a2f886cef81e6ce0e58"), looks := true }, kinds := [], alts := [], laidByText := true, laidKinds := [.data, .data, .data, .data, .sentinel, .sentinel, .pinned], laidTests := true, laidLooks := .later }
def PrimPathsCardSaid : Prop := Claim7.holds Tryz.pinned (.plain (OpenSpec.ofChange primPathsSpec)) primPathsCard

/-- THE TIED CARD OF 'hallmarklaw21.PrimNames'. -/
def primNamesCard : Claim7 := { stood := { row := primNamesRow, standIns := [], harness := (true, "b2e51c96cb2d4dcbc2b7ce4ce3044b2dd20c1a94ffe04a2f886cef81e6ce0e58"), looks := true }, kinds := [], alts := [], laidByText := true, laidKinds := [.data, .data, .data, .data, .sentinel, .sentinel, .pinned], laidTests := true, laidLooks := .later }
def PrimNamesCardSaid : Prop := Claim7.holds Tryz.pinned (.plain (OpenSpec.ofChange primNamesSpec)) primNamesCard

/-- THE SECOND FORM's CARD OF 'hallmarklaw21.PrimBack'. -/
def primBackUptoCard : Claim7 := { stood := { row := primBackUptoRow, standIns := [], harness := (true, "b2e51c96cb2d4dcbc2b7ce4ce3044b2dd20c1a94ffe04a2f886cef81e6ce0e58"), looks := true }, kinds := [], alts := [], laidByText := true, laidKinds := [.data, .data, .data, .data, .sentinel, .sentinel, .pinned], laidTests := true, laidLooks := .later }
def PrimBackUptoCardSaid : Prop := Claim7.holds Tryz.pinned (.plain (OpenSpec.upto primBackSpec)) primBackUptoCard

/-- THE SECOND FORM's CARD OF 'hallmarklaw21.PrimTexts'. -/
def primTextsUptoCard : Claim7 := { stood := { row := primTextsUptoRow, standIns := [], harness := (true, "b2e51c96cb2d4dcbc2b7ce4ce3044b2dd20c1a94ffe04a2f886cef81e6ce0e58"), looks := true }, kinds := [], alts := [], laidByText := true, laidKinds := [.data, .data, .data, .data, .sentinel, .sentinel, .pinned], laidTests := true, laidLooks := .later }
def PrimTextsUptoCardSaid : Prop := Claim7.holds Tryz.pinned (.plain (OpenSpec.upto primTextsSpec)) primTextsUptoCard

/-- THE SECOND FORM's CARD OF 'hallmarklaw21.PrimPaths'. -/
def primPathsUptoCard : Claim7 := { stood := { row := primPathsUptoRow, standIns := [], harness := (true, "b2e51c96cb2d4dcbc2b7ce4ce3044b2dd20c1a94ffe04a2f886cef81e6ce0e58"), looks := true }, kinds := [], alts := [], laidByText := true, laidKinds := [.data, .data, .data, .data, .sentinel, .sentinel, .pinned], laidTests := true, laidLooks := .later }
def PrimPathsUptoCardSaid : Prop := Claim7.holds Tryz.pinned (.plain (OpenSpec.upto primPathsSpec)) primPathsUptoCard

/-- THE SECOND FORM's CARD OF 'hallmarklaw21.PrimNames'. -/
def primNamesUptoCard : Claim7 := { stood := { row := primNamesUptoRow, standIns := [], harness := (true, "b2e51c96cb2d4dcbc2b7ce4ce3044b2dd20c1a94ffe04a2f886cef81e6ce0e58"), looks := true }, kinds := [], alts := [], laidByText := true, laidKinds := [.data, .data, .data, .data, .sentinel, .sentinel, .pinned], laidTests := true, laidLooks := .later }
def PrimNamesUptoCardSaid : Prop := Claim7.holds Tryz.pinned (.plain (OpenSpec.upto primNamesSpec)) primNamesUptoCard
end Rows
end Go.Proofs.YtojkmemkmcnlnaaGreatDoor
