/- THE STATEMENT: hallmarklaw21.PrimTexts answers true, whatever the two texts. Its conditions: the row's list of laid variables of Go's library (unicode/utf8, internal/strconv, strconv), as the row has it. -/
import Derived.Test.YtojkmemkmcnlnaaGreatDoorCards
import Derived.Test.YtojkmemkmcnlnaaGreatDoorTie
import Derived.Test.YtojkmemkmcnlnaaGreatDoorLaid
import Derived.Test.YtojkmemkmcnlnaaGreatDoorQFactsT
import Derived.Test.YtojkmemkmcnlnaaGreatDoorPTexts2
import Derived.WalkKit
import Derived.ProofKit
import Derived.OpenShut
import Derived.Deep.DeepHandedRow
import Derived.Lay
import Derived.SevenTiedAt
import Derived.Stop.Joined
import Derived.MakeChecks
namespace Go.Proofs.YtojkmemkmcnlnaaGreatDoor.primTexts
open Go.ChangeShapes Go.WideShapes Go.ChangeAt Go.RowKit

theorem own : ownKnob Tryz.prog.godebug = none := by kernel_rfl
theorem range_is : Rows.laid_strconv_ErrRange (H := Unit) = .iface "*errors.errorString" (.ptr (.agg [.lit (.string [118, 97, 108, 117, 101, 32, 111, 117, 116, 32, 111, 102, 32, 114, 97, 110, 103, 101])])) := rfl
theorem tabs_laid {W : World} (h : laidMetH Tryz.prog Rows.primTextsRow.laid W) (hsh : W.ShapedOpen Tryz.prog) : Tabs W := by
  have h1 := (laidMetH_iff.1 h).1
  refine tabs_of ?_ ?_ ?_ (Lib.laidMet.reads h1 (d := Rows.laid_strconv_ErrRange) (List.mem_filter.2 ⟨List.mem_of_getElem? (i := 4) rfl, by kernel_rfl⟩)) hsh
  · rw [← first_is]; exact Lib.laidMet.reads h1 (List.mem_filter.2 ⟨List.mem_of_getElem? (i := 6) rfl, by kernel_rfl⟩)
  · rw [← accept_is]; exact Lib.laidMet.reads h1 (List.mem_filter.2 ⟨List.mem_of_getElem? (i := 3) rfl, by kernel_rfl⟩)
  · rw [← pow_is]; exact Lib.laidMet.reads h1 (List.mem_filter.2 ⟨List.mem_of_getElem? (i := 2) rfl, by kernel_rfl⟩)
set_option maxRecDepth 100000 in
theorem contract (H : Type) (enc : TypeId × Value → H) (W : World) (base : Nat) (args : Array Value) (ds gs : List (DataW H)) (before : List MemPlace)
    (hval : ∀ (j : Nat) t v, Tryz.f4.params[j]? = some t → args[j]? = some v → Value.okWide Tryz.prog W .any base t v)
    (hW : DataW.Whole enc Tryz.prog Tryz.f4.params.toList Rows.primTextsSpec.vars false W args.toList ds gs before)
    (hB : (DataW.weightsEach Tryz.prog (Tryz.f4.params.toList ++ (OpenSpec.ofChange Rows.primTextsSpec).bare.plain.varTypes Tryz.prog) (ds ++ gs)).all (· ≤ reachBytes) = true) (hL : laidMetH Tryz.prog Rows.primTextsRow.laid W) (hsh : W.ShapedOpen Tryz.prog) :
    Calls Tryz.prog 4 args W fun e W' => ∃ v, e = .returned v ∧ Rows.primTextsSpec.post enc Tryz.prog Tryz.f4 false true false false W args v W' := by
  have hW' := hW
  obtain ⟨p, q, hA0, hV, rfl, hfz, hnd⟩ := hW
  have hA : DataW.TrodAll enc Tryz.prog W 0 (fun _ => true) true Tryz.f4.params.toList args.toList ds p := hA0
  rw [Tryz.params4] at hA hval
  obtain ⟨v0, vs0, d0, ds0, p0, q0, hargs, rfl, rfl, h0, r0⟩ := trodAll_cons hA
  obtain ⟨v1, vs1, d1, ds1, p1, q1, rfl, rfl, rfl, h1, r1⟩ := trodAll_cons r0
  obtain ⟨rfl, rfl, rfl⟩ := trodAll_nil r1
  obtain rfl : args = #[v0, v1] := by cases args; simp_all
  obtain ⟨rfl, rfl⟩ := trodVars_none hV
  obtain ⟨s, rfl, rfl, rfl, hs⟩ := ChangeMaps.open_string Tryz.underlying9 (hval 0 9 v0 rfl rfl) h0
  obtain ⟨b, rfl, rfl, rfl, hb⟩ := ChangeMaps.open_string Tryz.underlying9 (hval 1 9 v1 rfl rfl) h1
  have h4 : reachBytes ≤ 140737488355328 := by decide
  have hsz : s.size ≤ 140737488355328 := by
    have h2 := List.all_eq_true.1 hB s.data.toList.length (by rw [Tryz.params4]; simp [DataW.weightsEach, DataW.weights])
    simp only [decide_eq_true_eq] at h2
    have h3 : s.size = s.data.toList.length := by simp
    omega
  have hbz : b.size ≤ 140737488355328 := by
    have h2 := List.all_eq_true.1 hB b.data.toList.length (by rw [Tryz.params4]; simp [DataW.weightsEach, DataW.weights])
    simp only [decide_eq_true_eq] at h2
    have h3 : b.size = b.data.toList.length := by simp
    omega
  clear hA0
  simp only [List.append_nil] at hW'
  refine (primTexts_any s b W hsz hbz (tabs_laid hL hsh)).mono fun e W' ⟨he, hbb⟩ => ?_
  subst he
  exact ⟨_, rfl, post_plain (pa := []) (pv := []) hW' (fun _ _ _ => trodAll_cons_mk (shut_bool Tryz.underlying4 _) trodAll_mk0) (fun _ _ => trodAll_cons_mk (ChangeMaps.shut_string Tryz.underlying9 hs) (trodAll_cons_mk (ChangeMaps.shut_string Tryz.underlying9 hb) trodAll_mk0)) (fun _ _ => rfl) rfl hbb⟩

theorem reads (os : Os) {H : Type} (enc : TypeId × Value → H) : ∃ places, DataW.whole enc Tryz.prog ((World.laidAll Tryz.prog os Rows.primTextsRow.laid).forCall (fun _ _ => 0) ⟨#[], #[.string ⟨#[]⟩, .string ⟨#[]⟩], []⟩).memory Tryz.f4.params.toList Rows.primTextsSpec.vars false #[Value.string ⟨#[]⟩, Value.string ⟨#[]⟩].toList 8 = some ([.lit (.string []), .lit (.string [])], [], places) :=
  ⟨[], by kernel_rfl⟩
theorem laid_met (os : Os) : laidMetH Tryz.prog Rows.primTextsRow.laid ((World.laidAll Tryz.prog os Rows.primTextsRow.laid).forCall (fun _ _ => 0) ⟨#[], #[.string ⟨#[]⟩, .string ⟨#[]⟩], []⟩).memory := by
  rw [MakeChecks.laidMetH_plain _ _ _ (by kernel_rfl)]
  exact laidMet_laidAll _ (by kernel_rfl) (by kernel_rfl)

set_option maxRecDepth 100000 in
theorem lifted (os : Os) (started : os.Started) (H : Type) (enc : TypeId × Value → H) (F : Stop.Interp) :
    ReturnsInHanded {} Tryz.checked os 4 .any ((OpenSpec.ofChange Rows.primTextsSpec).preRow enc Tryz.prog Tryz.f4 Rows.primTextsRow.domain false Rows.primTextsRow.laid) (((OpenSpec.ofChange Rows.primTextsSpec).at F).post enc Tryz.prog Tryz.f4 false true false false) := by
  obtain ⟨places, hx⟩ := reads os enc
  refine returnsInHanded_of_row (C := Tryz.checked) (s := OpenSpec.ofChange Rows.primTextsSpec) own started (by kernel_rfl) Tryz.func4
    (witness_row_at (enc := enc) (C := Tryz.checked) false (World.laidAll Tryz.prog os Rows.primTextsRow.laid) #[.string ⟨#[]⟩, .string ⟨#[]⟩] (World.laidAll_os _ _ _) (by kernel_rfl) (by kernel_rfl) (by kernel_rfl)
      (OpenSpec.preRow_of_cond 8 hx (by kernel_rfl) (fun k hk => by cases hk) (by kernel_rfl) (laid_met os))) ?_
  intro W base args ds gs before hval hW _ _ hB hL hsh _
  exact contract H enc W base args ds gs before hval hW hB hL hsh

theorem said : Rows.PrimTextsSaid :=
  OpenClaim.holds_of_cond 4 Tryz.f4 rfl rfl rfl rfl rfl rfl rfl ⟨rfl, rfl, rfl, rfl, rfl⟩ rfl rfl rfl rfl rfl (by kernel_rfl) Tryz.func4 closed
    (of_decide_eq_true (by kernel_rfl)) (by unfold Func.isWrapper; first | (rw [if_pos (by decide +kernel)]; kernel_rfl) | (rw [if_neg (by decide +kernel)]; exact ⟨rfl, rfl⟩))
    (fun os started H enc _ F => by rw [OpenClaim.pre_eq_preRow]; exact lifted os started H enc F)

theorem plain (f : FuncId) (fn : Func) (hf : Tryz.pinned.checked.prog.funcNamed "hallmark/hallmarklaw21.PrimTexts" = some f) (hfn : Tryz.pinned.checked.prog.funcs[f]? = some fn) :
    true = Tryz.pinned.checked.prog.looks [] ∧ ∀ (j : Nat) t, fn.params[j]? = some t → Tryz.pinned.checked.prog.wantsStandIn t = false := by
  obtain rfl : f = 4 := Option.some.inj ((show Tryz.prog.funcNamed "hallmark/hallmarklaw21.PrimTexts" = some 4 by kernel_rfl).symm.trans hf) |>.symm
  obtain rfl : fn = Tryz.f4 := (Option.some.inj (Tryz.func4.symm.trans hfn)).symm
  refine ⟨by kernel_rfl, fun j t ht => ?_⟩
  rw [Tryz.params4] at ht
  have hm : t ∈ [9] := by simpa using Array.mem_of_getElem? ht
  have hall : ([9].all fun u => !Tryz.prog.wantsStandIn u) = true := by kernel_rfl
  exact (show Tryz.prog.wantsStandIn t = false by simpa using List.all_eq_true.1 hall t hm)

theorem card : Rows.PrimTextsCardSaid :=
  Claim7.holds_tied_plain_at .later [] _ _ _ _ said (fun _ h => by cases h) t_wf (fun _ h => by cases h) primTexts_row_tie rfl ⟨rfl, rfl⟩ t_main rfl plain t_goes
end Go.Proofs.YtojkmemkmcnlnaaGreatDoor.primTexts
