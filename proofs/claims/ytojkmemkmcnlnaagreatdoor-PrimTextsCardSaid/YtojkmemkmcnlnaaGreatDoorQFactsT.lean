/- The closed facts that the builder asks of PrimTexts' row: one by one, each for the kernel. -/
import Derived.Test.YtojkmemkmcnlnaaGreatDoorCards
import Derived.Test.YtojkmemkmcnlnaaGreatDoorTie
import Derived.JoinedCond
import Derived.KernelRfl
namespace Go.Proofs.YtojkmemkmcnlnaaGreatDoor.primTexts
open Go
theorem both_ {a b : Bool} (ha : a = true) (hb : b = true) : (a && b) = true := by rw [ha, hb]; rfl
theorem k0 : (Rows.primTextsRow.wf (OpenSpec.ofChange (OpenSpec.ofChange Rows.primTextsSpec).bare)) = true := by kernel_rfl
theorem k1 : (laidOutB Tryz.pinned.checked.prog) = true := by kernel_rfl
theorem k2 : (mapsRowed Tryz.pinned.checked.prog) = true := by kernel_rfl
theorem k3 : (Tryz.f4.params.all (Tryz.pinned.checked.prog.readableRec ·)) = true := by kernel_rfl
theorem k4 : (namedTie Tryz.pinned.checked.prog Rows.primTextsRow.named (OpenSpec.ofChange Rows.primTextsSpec).bare.vars) = true := by kernel_rfl
theorem k5 : ((Rows.primTextsRow.stops == [])) = true := by kernel_rfl
theorem k6 : ((Tryz.pinned.checked.prog.stops == [])) = true := by kernel_rfl
theorem k7 : ((Rows.primTextsRow.knobs == [])) = true := by kernel_rfl
theorem k8 : ((Tryz.pinned.checked.prog.stopKnobs == [])) = true := by kernel_rfl
theorem k9 : ((Rows.primTextsRow.inPlace == Tryz.pinned.checked.prog.inPlace 4)) = true := by kernel_rfl
theorem k10 : ((Rows.primTextsRow.unfollowed == Tryz.pinned.checked.prog.unfollowed 4)) = true := by kernel_rfl
theorem k11 : ((Rows.primTextsRow.recurses == Tryz.pinned.checked.prog.recurses 4)) = true := by kernel_rfl
theorem k12 : ((Rows.primTextsRow.named == Tryz.pinned.checked.prog.varsNamed 4)) = true := by kernel_rfl
theorem k13 : ((Rows.primTextsRow.maps == (Tryz.f4.params.toList ++ (OpenSpec.ofChange Rows.primTextsSpec).bare.plain.varTypes Tryz.pinned.checked.prog).any (Tryz.pinned.checked.prog.mapsRec ·))) = true := by kernel_rfl
theorem k14 : ((Rows.primTextsRow.ifaces == (Tryz.f4.params.toList ++ (OpenSpec.ofChange Rows.primTextsSpec).bare.plain.varTypes Tryz.pinned.checked.prog).any (Tryz.pinned.checked.prog.ifacesRec ·))) = true := by kernel_rfl
theorem k15 : ((Rows.primTextsRow.mapsOut == Tryz.pinned.checked.prog.mapsAmong Tryz.f4.resultTypes.toList)) = true := by kernel_rfl
theorem k16 : ((Rows.primTextsRow.loops == (Tryz.f4.params.toList ++ (OpenSpec.ofChange Rows.primTextsSpec).bare.plain.varTypes Tryz.pinned.checked.prog).any (Tryz.pinned.checked.prog.loopsFrom ·))) = true := by kernel_rfl
theorem k17 : ((Rows.primTextsRow.wideKeys == (Tryz.f4.params.toList ++ (OpenSpec.ofChange Rows.primTextsSpec).bare.plain.varTypes Tryz.pinned.checked.prog ++ Tryz.f4.resultTypes.toList).any (Tryz.pinned.checked.prog.wideKeysFrom ·))) = true := by kernel_rfl
theorem k18 : ((OpenSpec.ofChange Rows.primTextsSpec).bare.vars.all (Tryz.pinned.checked.prog.varReadable ·)) = true := by kernel_rfl
theorem k19 : (Tryz.f4.resultTypes.all (fun t => Tryz.pinned.checked.prog.readableRec t && decide (t < Tryz.pinned.checked.prog.types.size))) = true := by kernel_rfl
theorem k20 : ((Rows.primTextsRow.ifacesOut == Tryz.f4.resultTypes.toList.any (Tryz.pinned.checked.prog.ifacesRec ·))) = true := by kernel_rfl
theorem k21 : ((Rows.primTextsRow.loopsOut == Tryz.f4.resultTypes.toList.any (Tryz.pinned.checked.prog.loopsFrom ·))) = true := by kernel_rfl
theorem k22 : ((Rows.primTextsRow.plainKeys == Tryz.pinned.checked.prog.plainKeys)) = true := by kernel_rfl
theorem k23 : (Rows.primTextsRow.shortTexts.isNone) = true := by kernel_rfl
theorem k24 : (Tryz.pinned.checked.prog.stopsHeard) = true := by kernel_rfl
theorem k25 : (Tryz.pinned.checked.prog.mayEnter) = true := by kernel_rfl
theorem k26 : ((Rows.primTextsRow.lifted == Tryz.pinned.checked.prog.liftsFinal)) = true := by kernel_rfl
theorem k27 : ((Tryz.pinned.checked.prog.make == some Rows.primTextsRow.make)) = true := by kernel_rfl
theorem k28 : ((Rows.primTextsRow.kinds == (if Rows.primTextsRow.domain.isEmpty then [] else Tryz.f4.params.toList.map fun t => match Tryz.pinned.checked.prog.underlying t with | some (.int k) => some k | _ => none))) = true := by kernel_rfl
theorem k29 : ((Rows.primTextsRow.pinned == Rows.primTextsRow.pinnedBy)) = true := by kernel_rfl
theorem k30 : ((Rows.primTextsRow.veiled == (Tryz.f4.params.toList ++ (OpenSpec.ofChange Rows.primTextsSpec).bare.plain.varTypes Tryz.pinned.checked.prog ++ Tryz.f4.resultTypes.toList).any (Tryz.pinned.checked.prog.veiledRec ·))) = true := by kernel_rfl
theorem k31 : (Rows.primTextsRow.veiledFits Tryz.pinned.checked.prog Tryz.f4.params.toList (Tryz.f4.params.toList ++ (OpenSpec.ofChange Rows.primTextsSpec).bare.plain.varTypes Tryz.pinned.checked.prog ++ Tryz.f4.resultTypes.toList)) = true := by kernel_rfl
set_option maxRecDepth 100000 in
theorem closed : joinedFacts Tryz.pinned.checked.prog 4 Tryz.f4 (OpenSpec.ofChange Rows.primTextsSpec).bare Rows.primTextsRow = true := (both_ (both_ (both_ (both_ (both_ (both_ (both_ (both_ (both_ (both_ (both_ (both_ (both_ (both_ (both_ (both_ (both_ (both_ (both_ (both_ (both_ (both_ (both_ (both_ (both_ (both_ (both_ (both_ (both_ (both_ (both_ k0 k1) k2) k3) k4) k5) k6) k7) k8) k9) k10) k11) k12) k13) k14) k15) k16) k17) k18) k19) k20) k21) k22) k23) k24) k25) k26) k27) k28) k29) k30) k31)
theorem t_wf : Rows.primTextsRow.wfByText (OpenSpec.ofChange Rows.primTextsSpec) = true := by kernel_rfl
theorem t_main : Tryz.pinned.checked.prog.mainIs = some (true, ("b2e51c96cb2d4dcbc2b7ce4ce3044b2dd20c1a94ffe04a2f886cef81e6ce0e58" : String).toList) := by kernel_rfl
theorem t_goes : false = Rows.primTextsRow.goesBy Tryz.pinned.checked.prog := by kernel_rfl
end Go.Proofs.YtojkmemkmcnlnaaGreatDoor.primTexts
