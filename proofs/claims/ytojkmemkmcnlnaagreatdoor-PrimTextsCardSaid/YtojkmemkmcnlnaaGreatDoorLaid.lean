/- What the rows' list of laid variables gives: the library's tables stand in memory. -/
import Derived.Test.YtojkmemkmcnlnaaGreatDoorRows
import Derived.Test.YtojkmemkmcnlnaaGreatDoorTabs
import Derived.Test.YtojkmemkmcnlnaaGreatDoorShelf
import Derived.LaidSub
import Derived.Lib.LaidU8T
import Derived.KernelRfl
import Derived.Below
import Derived.ChangeSame
import Derived.LaidLaws
import Derived.Shelf.Vars
namespace Go.Proofs.YtojkmemkmcnlnaaGreatDoor
open Go.RowKit Go.Shelf Go.Lib Go.WideShapes Go.ChangeShapes

theorem u8types : U8Types Tryz.prog Tryz.laysValid_ren := U8Types.of196 Tryz.laysValid
theorem u8extra : U8Extra Tryz.prog Tryz.laysValid_ren := { n3 := by kernel_rfl, n4 := by kernel_rfl, y3 := by kernel_rfl, y4 := by kernel_rfl, c5 := by kernel_rfl, c119 := by kernel_rfl, c138 := by kernel_rfl }
theorem first_is : Rows.laid_unicode_utf8_first = Lib.firstData := by kernel_rfl
theorem accept_is : (Rows.laid_unicode_utf8_acceptRanges : DataW Unit) = Lib.acceptData := by kernel_rfl
theorem pow_is : (Rows.laid_internal_strconv_uint64pow10 : DataW Unit) = Lib.tabData .u64 Lib.pow10Tab := by kernel_rfl

theorem powType : (Tryz.prog.globals[2]?).map (·.type) = some 241 := by kernel_rfl
theorem cellsPow : Tryz.prog.cellsOf 241 = 20 := by kernel_rfl
theorem cellsU64 : Tryz.prog.cellsOf 143 = 1 := by kernel_rfl
theorem pow_of_reads {w : World} (h : VarReads Tryz.prog w "internal/strconv.uint64pow10" (tabData .u64 pow10Tab)) : TabIs Tryz.prog w "internal/strconv.uint64pow10" .u64 pow10Tab := by
  obtain ⟨g, t, cs, fuel, p, h1, h2, h3, h4⟩ := h
  obtain rfl := Option.some.inj (gPow.symm.trans h1)
  obtain rfl := Option.some.inj (powType.symm.trans h2)
  unfold TabIs
  rw [h3, ← cells_of_tab Tryz.underlying241 Tryz.underlying143 cellsU64 cellsPow h4]
theorem gRange : Tryz.prog.globalNamed "strconv.ErrRange" = some 7 := by kernel_rfl
theorem rangeType : (Tryz.prog.globals[7]?).map (·.type) = some 119 := by kernel_rfl
theorem rng_of_reads {w : World} {nm : String} {d : DataW Unit} (h : VarReads Tryz.prog w "strconv.ErrRange" (.iface nm d)) : ∃ ev : Value, w.cell? ⟨7, 0, none⟩ = some ev ∧ (ev = .nilIface ∨ ∃ te pe, ev = .iface te pe) := by
  obtain ⟨g, t, cs, fuel, p, h1, h2, h3, h4⟩ := h
  obtain rfl := Option.some.inj (gRange.symm.trans h1)
  obtain rfl := Option.some.inj (rangeType.symm.trans h2)
  obtain ⟨f, u, v, e, _⟩ := iface_of_trod Tryz.underlying119 h4
  have h5 := World.var?_cell gRange h3 0
  rw [← Array.getElem?_toList, e] at h5
  exact ⟨_, h5, .inr ⟨u, v, rfl⟩⟩
theorem maxl_of_shape {w : World} (h : w.ShapedOpen Tryz.prog) : ∃ m : Int, w.cell? ⟨3, 0, none⟩ = some (.int .i64 m) :=
  cell_of_shapedOpen_int (t := 3) (zero := #[.int .i64 0]) h (of_decide_eq_true (by kernel_rfl)) (by kernel_rfl) rfl (by kernel_rfl) (by kernel_rfl) Tryz.underlying3
theorem tabs_of {w : World} {nm : String} {d : DataW Unit} (h3 : VarReads Tryz.prog w "unicode/utf8.first" firstData) (h4 : VarReads Tryz.prog w "unicode/utf8.acceptRanges" acceptData) (h2 : VarReads Tryz.prog w "internal/strconv.uint64pow10" (tabData .u64 pow10Tab)) (h5 : VarReads Tryz.prog w "strconv.ErrRange" (.iface nm d)) (hsh : w.ShapedOpen Tryz.prog) : Tabs w :=
  ⟨utf8Tabs_of_readsT u8types u8extra h3 h4, pow_of_reads h2, maxl_of_shape hsh, rng_of_reads h5⟩
/-- A row's last step where nothing is handed on and all that was there stays. -/
theorem post_plain {H : Type} {enc : TypeId × Value → H} {P : Program} {f : Func} {s : ChangeSpec} {apart fresh handsOn : Bool} {W W' : World} {args : Array Value} {v : Value} {ds gs : List (DataW H)} {before pa pv : List MemPlace}
    (hW : DataW.Whole enc P f.params.toList s.vars apart W args.toList ds gs before)
    (hr : ∀ b sp hd, DataW.TrodAll enc P W' b sp hd f.resultTypes.toList (v.resultList f.resultTypes.size) (s.fn H (ds ++ gs)).results [])
    (ha : ∀ sp : Nat → Bool, (∀ p ∈ before, sp p.block = true) → DataW.TrodAll enc P W' 0 sp true f.params.toList args.toList (s.fn H (ds ++ gs)).args pa)
    (hv : ∀ sp : Nat → Bool, (∀ p ∈ before, sp p.block = true) → DataW.TrodVars enc P W' sp s.vars (s.fn H (ds ++ gs)).vars pv) (he : before = pa ++ pv) (hb : Below W.heap.size W W') :
    s.post enc P f apart fresh handsOn false W args v W' := by
  have hl : ∀ p ∈ before, (fun b => decide (b < W.heap.size)) p.block = true := fun p hp => decide_eq_true (hW.lt p hp)
  refine ⟨ds, gs, before, [], pa, pv, hW, hr _ _ _, ha _ hl, hv _ hl, World.keptBut_mono (fun p hp => ⟨hp, .inr ?_⟩) (hb.frame fun p => p ∈ before), fun h => by cases h⟩
  rwa [he, List.mem_append] at hp
end Go.Proofs.YtojkmemkmcnlnaaGreatDoor
