/- hallmarklaw21.PrimTexts: the walk of the statement itself. -/
import Derived.Test.YtojkmemkmcnlnaaGreatDoorPTexts
set_option linter.unusedVariables false
namespace Go.Proofs.YtojkmemkmcnlnaaGreatDoor
open Go.RowKit Go.Shelf

set_option maxHeartbeats 4000000 in
set_option maxRecDepth 100000 in
theorem primTexts_any (s by_ : ByteArray) (w : World) (hs : s.size ≤ 140737488355328) (hb : by_.size ≤ 140737488355328) (hT : Tabs w) :
    Calls Tryz.prog 4 #[.string s, .string by_] w fun e w' => e = .returned (.bool true) ∧ Below w.heap.size w w' := by
  have HT := Lib.hid hT; clear hT
  go_enter Tryz.func4, Tryz.ntmps4
  go_wp2_with fail
  refine (lives_any w HT.out).mono ?_
  rintro e W1 ⟨rfl, hb1⟩
  have HB1 := Lib.hid hb1; clear hb1
  go_wp2_with fail
  generalize hX : Obj.cells #[.int .i64 4, .string ⟨#[]⟩, .string s, .slice none 0 0, .slice none 0 0] 25 = X
  generalize hY : Obj.cells #[.int .i64 4, .string ⟨#[]⟩, .string by_, .slice none 0 0, .slice none 0 0] 25 = Y
  have HX := Lib.hid (heap_alloc2_old W1 X Y)
  have HY := Lib.hid (blk_new2 W1 X Y)
  have HB := Lib.hid ((HB1.out.alloc HB1.out.size X).alloc (by have := HB1.out.size; simp; omega) Y)
  generalize (W1.alloc X).alloc Y = W2 at *
  subst hX hY
  refine (light_text s W2 hs).mono ?_
  rintro e W3 ⟨b, rfl, hbw, hb1⟩
  have HX3 := Lib.hid (blk_below HX.out hb1)
  have HY3 := Lib.hid (blk_below HY.out hb1)
  have HB3 := Lib.hid (HB.out.trans (hb1.mono HB.out.size))
  clear hb1 HX HY HB HB1
  have HL := Lib.hid hbw; clear hbw
  cases b
  · go_wp2_with fail
    go_ret
    exact ⟨rfl, HB3.out⟩
  have HL1 := Lib.hid (HL.out rfl); clear HL
  have z0 : World.cell? (W3) ⟨W1.heap.size + 1, 0, none⟩ = some (.int .i64 4) := (blk_cell HY3.out 0).trans rfl
  have z1 : World.cell? (W3) ⟨W1.heap.size + 1, 1, none⟩ = some (.string ⟨#[]⟩) := (blk_cell HY3.out 1).trans rfl
  have z2 : World.cell? (W3) ⟨W1.heap.size + 1, 2, none⟩ = some (.string by_) := (blk_cell HY3.out 2).trans rfl
  have z3 : World.cell? (W3) ⟨W1.heap.size + 1, 3, none⟩ = some (.slice none 0 0) := (blk_cell HY3.out 3).trans rfl
  have z4 : World.cell? (W3) ⟨W1.heap.size + 1, 4, none⟩ = some (.slice none 0 0) := (blk_cell HY3.out 4).trans rfl
  go_wp2_with fail
  refine (light_text by_ W3 hb).mono ?_
  rintro e W4 ⟨b, rfl, hbw, hb1⟩
  have HX4 := Lib.hid (blk_below HX3.out hb1)
  have HY4 := Lib.hid (blk_below HY3.out hb1)
  have HB4 := Lib.hid (HB3.out.trans (hb1.mono HB3.out.size))
  clear hb1 HX3 HY3 HB3 z0 z1 z2 z3 z4
  have HL := Lib.hid hbw; clear hbw
  cases b
  · go_wp2_with fail
    go_ret
    exact ⟨rfl, HB4.out⟩
  have HL2 := Lib.hid (HL.out rfl); clear HL
  have q0 : World.cell? (W4) ⟨W1.heap.size, 0, none⟩ = some (.int .i64 4) := (blk_cell HX4.out 0).trans rfl
  have q1 : World.cell? (W4) ⟨W1.heap.size, 1, none⟩ = some (.string ⟨#[]⟩) := (blk_cell HX4.out 1).trans rfl
  have q2 : World.cell? (W4) ⟨W1.heap.size, 2, none⟩ = some (.string s) := (blk_cell HX4.out 2).trans rfl
  have q3 : World.cell? (W4) ⟨W1.heap.size, 3, none⟩ = some (.slice none 0 0) := (blk_cell HX4.out 3).trans rfl
  have q4 : World.cell? (W4) ⟨W1.heap.size, 4, none⟩ = some (.slice none 0 0) := (blk_cell HX4.out 4).trans rfl
  go_wp2_with fail
  refine (twice_exp HL1.out.1 HL1.out.2 W4 (HT.out.below HB4.out)).mono ?_
  rintro e W5 ⟨rfl, hb1⟩
  have HX5 := Lib.hid (blk_below HX4.out hb1)
  have HY5 := Lib.hid (blk_below HY4.out hb1)
  have HB5 := Lib.hid (HB4.out.trans (hb1.mono HB4.out.size))
  clear hb1 HX4 HY4 HB4 q0 q1 q2 q3 q4
  have q0 : World.cell? (W5) ⟨W1.heap.size, 0, none⟩ = some (.int .i64 4) := (blk_cell HX5.out 0).trans rfl
  have q1 : World.cell? (W5) ⟨W1.heap.size, 1, none⟩ = some (.string ⟨#[]⟩) := (blk_cell HX5.out 1).trans rfl
  have q2 : World.cell? (W5) ⟨W1.heap.size, 2, none⟩ = some (.string s) := (blk_cell HX5.out 2).trans rfl
  have q3 : World.cell? (W5) ⟨W1.heap.size, 3, none⟩ = some (.slice none 0 0) := (blk_cell HX5.out 3).trans rfl
  have q4 : World.cell? (W5) ⟨W1.heap.size, 4, none⟩ = some (.slice none 0 0) := (blk_cell HX5.out 4).trans rfl
  go_wp2_with fail
  refine (twice_rev HL1.out.1 HL1.out.2 W5 (HT.out.below HB5.out)).mono ?_
  rintro e W6 ⟨rfl, hb1⟩
  have HX6 := Lib.hid (blk_below HX5.out hb1)
  have HY6 := Lib.hid (blk_below HY5.out hb1)
  have HB6 := Lib.hid (HB5.out.trans (hb1.mono HB5.out.size))
  clear hb1 HX5 HY5 HB5 q0 q1 q2 q3 q4
  by_cases h0 : by_.size = 0
  · have e0 := toList_nil h0
    clear h0
    go_wp2_with fail
    go_ret
    exact ⟨rfl, HB6.out⟩
  have e0 : by_.toList.isEmpty = false := toList_ne (by omega)
  have hby : 1 ≤ by_.size := by omega
  have hs3 : s.size < 30000 := by have := HL1.out.2; rw [weight_text] at this; omega
  have hb3 : by_.size < 30000 := by have := HL2.out.2; rw [weight_text] at this; omega
  have hus : utfOk s = true := by rw [← textV_ok]; exact HL1.out.1
  have hub : utfOk by_ = true := by rw [← textV_ok]; exact HL2.out.1
  have HPT := Lib.hid (pieces_tot (s := s) hby)
  have HPU := Lib.hid (pieces_utf hus hub hby)
  have HPJ := Lib.hid (fun h => pieces_join (s := s) (by_ := by_) h)
  have HUS := Lib.hid hus; clear hus
  have HUB := Lib.hid hub; clear hub
  clear h0
  have q0 : World.cell? (W6) ⟨W1.heap.size, 0, none⟩ = some (.int .i64 4) := (blk_cell HX6.out 0).trans rfl
  have q1 : World.cell? (W6) ⟨W1.heap.size, 1, none⟩ = some (.string ⟨#[]⟩) := (blk_cell HX6.out 1).trans rfl
  have q2 : World.cell? (W6) ⟨W1.heap.size, 2, none⟩ = some (.string s) := (blk_cell HX6.out 2).trans rfl
  have q3 : World.cell? (W6) ⟨W1.heap.size, 3, none⟩ = some (.slice none 0 0) := (blk_cell HX6.out 3).trans rfl
  have q4 : World.cell? (W6) ⟨W1.heap.size, 4, none⟩ = some (.slice none 0 0) := (blk_cell HX6.out 4).trans rfl
  have z0 : World.cell? (W6) ⟨W1.heap.size + 1, 0, none⟩ = some (.int .i64 4) := (blk_cell HY6.out 0).trans rfl
  have z1 : World.cell? (W6) ⟨W1.heap.size + 1, 1, none⟩ = some (.string ⟨#[]⟩) := (blk_cell HY6.out 1).trans rfl
  have z2 : World.cell? (W6) ⟨W1.heap.size + 1, 2, none⟩ = some (.string by_) := (blk_cell HY6.out 2).trans rfl
  have z3 : World.cell? (W6) ⟨W1.heap.size + 1, 3, none⟩ = some (.slice none 0 0) := (blk_cell HY6.out 3).trans rfl
  have z4 : World.cell? (W6) ⟨W1.heap.size + 1, 4, none⟩ = some (.slice none 0 0) := (blk_cell HY6.out 4).trans rfl
  go_wp2_with fail
  generalize hY : Obj.cells #[.int .i64 4, .string ⟨#[]⟩, .string by_, .slice none 0 0, .slice none 0 0] 25 = Y
  have B7 := blk_new W6 Y
  have HX7 := Lib.hid (blk_alloc HX6.out Y)
  have HY7 := Lib.hid (blk_alloc HY6.out Y)
  have HB7 := Lib.hid (HB6.out.alloc HB6.out.size Y)
  generalize W6.alloc Y = W7 at *
  subst hY
  clear q0 q1 q2 q3 q4 z0 z1 z2 z3 z4 HX6 HY6 HB6
  have hV : VSl All W7 [textV by_] (some ⟨W6.heap.size, 0, none⟩) 1 := VSl.of_blk (is := [textV by_]) (css := [textCs by_]) B7 rfl (C5.one_ (text_rep All W7 by_ (by omega))) trivial (show (1 : Nat) * 88 ≤ 140737488355328 by decide)
  clear B7
  refine (made_good (args := [textV by_]) isSplit (split_makes s by_ (by omega) hby) (by rw [textV_ok]; exact HUS.out) (by simp [textV_ok, HUB.out]) (by
    rw [weight_pieces]; have := HPT.out.2.2; omega) (textCs s) (some ⟨W6.heap.size, 0, none⟩) 1 W7 (text_rep All W7 s (by omega)) hV (HT.out.below HB7.out)).mono ?_
  rintro e W8 ⟨ds, rfl, hr, hb1⟩
  clear hV
  have HX8 := Lib.hid (blk_below HX7.out hb1)
  have HY8 := Lib.hid (blk_below HY7.out hb1)
  have HB8 := Lib.hid (HB7.out.trans (hb1.mono HB7.out.size))
  clear hb1 HX7 HY7 HB7
  generalize hps : pieces s by_ = ps at *
  have hpv : (listV (ps.map textV)).ok = true := by rw [listV_ok]; exact all_map_ok _ _ fun p hp => by rw [textV_ok]; exact HPU.out p hp
  have HPV := Lib.hid hpv; clear hpv
  have HMK := Lib.hid (join_makes ps by_ HPU.out (by have := HPT.out.2.2; omega) (by have := HPT.out.1; omega) (by have := HPT.out.2.1; omega))
  generalize hpl : listV (ps.map textV) = pl at *
  clear hpl
  obtain ⟨Aq, cq, Bq, dq, rfl, _⟩ := hr.open_
  have HR8 := Lib.hid hr.all; clear hr
  go_upto_region 12 with fail
  generalize hX : Obj.cells #[.int .i64 pl.kind, .string pl.num, .string pl.text, .slice Aq pl.items.length cq, .slice Bq pl.keys.length dq] 25 = X
  have B9 := blk_new W8 X
  have HX9 := Lib.hid (blk_alloc HX8.out X)
  have HY9 := Lib.hid (blk_alloc HY8.out X)
  have HB9 := Lib.hid (HB8.out.alloc HB8.out.size X)
  have HR9 := Lib.hid (HR8.out.below ((Below.refl W8.heap.size W8).alloc (Nat.le_refl _) X))
  generalize W8.alloc X = W9 at *
  subst hX
  clear HX8 HY8 HB8 HR8
  have p0 : World.cell? (W9) ⟨W8.heap.size, 0, none⟩ = some (.int .i64 pl.kind) := (blk_cell B9 0).trans rfl
  have p1 : World.cell? (W9) ⟨W8.heap.size, 1, none⟩ = some (.string pl.num) := (blk_cell B9 1).trans rfl
  have p2 : World.cell? (W9) ⟨W8.heap.size, 2, none⟩ = some (.string pl.text) := (blk_cell B9 2).trans rfl
  have p3 : World.cell? (W9) ⟨W8.heap.size, 3, none⟩ = some (.slice Aq pl.items.length cq) := (blk_cell B9 3).trans rfl
  have p4 : World.cell? (W9) ⟨W8.heap.size, 4, none⟩ = some (.slice Bq pl.keys.length dq) := (blk_cell B9 4).trans rfl
  have z0 : World.cell? (W9) ⟨W1.heap.size + 1, 0, none⟩ = some (.int .i64 4) := (blk_cell HY9.out 0).trans rfl
  have z1 : World.cell? (W9) ⟨W1.heap.size + 1, 1, none⟩ = some (.string ⟨#[]⟩) := (blk_cell HY9.out 1).trans rfl
  have z2 : World.cell? (W9) ⟨W1.heap.size + 1, 2, none⟩ = some (.string by_) := (blk_cell HY9.out 2).trans rfl
  have z3 : World.cell? (W9) ⟨W1.heap.size + 1, 3, none⟩ = some (.slice none 0 0) := (blk_cell HY9.out 3).trans rfl
  have z4 : World.cell? (W9) ⟨W1.heap.size + 1, 4, none⟩ = some (.slice none 0 0) := (blk_cell HY9.out 4).trans rfl
  clear B9
  go_wp2_with fail
  generalize hY : Obj.cells #[.int .i64 4, .string ⟨#[]⟩, .string by_, .slice none 0 0, .slice none 0 0] 25 = Y
  have B10 := blk_new W9 Y
  have HX10 := Lib.hid (blk_alloc HX9.out Y)
  have HB10 := Lib.hid (HB9.out.alloc HB9.out.size Y)
  have HR10 := Lib.hid (HR9.out.below ((Below.refl W9.heap.size W9).alloc (Nat.le_refl _) Y))
  generalize W9.alloc Y = W10 at *
  subst hY
  clear p0 p1 p2 p3 p4 z0 z1 z2 z3 z4 HX9 HY9 HB9 HR9
  have hV : VSl All W10 [textV by_] (some ⟨W9.heap.size, 0, none⟩) 1 := VSl.of_blk (is := [textV by_]) (css := [textCs by_]) B10 rfl (C5.one_ (text_rep All W10 by_ (by omega))) trivial (show (1 : Nat) * 88 ≤ 140737488355328 by decide)
  clear B10
  refine (made_good (args := [textV by_]) isJoin HMK.out HPV.out (by simp [textV_ok, HUB.out]) (by
    rw [weight_text, bs_size]; have := HPT.out.2.1; omega) _ (some ⟨W9.heap.size, 0, none⟩) 1 W10 HR10.out hV (HT.out.below HB10.out)).mono ?_
  rintro e W11 ⟨ds, rfl, hr, hb1⟩
  clear hV
  have HX11 := Lib.hid (blk_below HX10.out hb1)
  have HB11 := Lib.hid (HB10.out.trans (hb1.mono HB10.out.size))
  clear hb1 HX10 HB10 HR10 HMK HPV
  have HJE : Hid (s.size ≠ 0 → (textV (bs (Lib.join (ps.map (·.data.toList)) by_.data.toList))).like (textV s) = true) := Lib.hid fun h => by
    rw [HPJ.out h, bs_data]; exact Val.like_self _
  generalize textV (bs (Lib.join (ps.map (·.data.toList)) by_.data.toList)) = jv at *
  obtain ⟨Aj, cj, Bj, dj, rfl, _⟩ := hr.open_
  have HR11 := Lib.hid hr.all; clear hr
  go_upto_region 13 with fail
  generalize hX : Obj.cells #[.int .i64 jv.kind, .string jv.num, .string jv.text, .slice Aj jv.items.length cj, .slice Bj jv.keys.length dj] 25 = X
  have B12 := blk_new W11 X
  have HX12 := Lib.hid (blk_alloc HX11.out X)
  have HB12 := Lib.hid (HB11.out.alloc HB11.out.size X)
  have HR12 := Lib.hid (HR11.out.below ((Below.refl W11.heap.size W11).alloc (Nat.le_refl _) X))
  generalize W11.alloc X = W12 at *
  subst hX
  clear HX11 HB11 HR11
  by_cases h0 : s.size = 0
  · have e1 := toList_nil h0
    clear h0 B12
    go_wp2_with fail
    go_ret
    exact ⟨rfl, HB12.out⟩
  · have e1 : s.toList.isEmpty = false := toList_ne (by omega)
    have HJ1 := Lib.hid (HJE.out h0)
    have p0 : World.cell? (W12) ⟨W11.heap.size, 0, none⟩ = some (.int .i64 jv.kind) := (blk_cell B12 0).trans rfl
    have p1 : World.cell? (W12) ⟨W11.heap.size, 1, none⟩ = some (.string jv.num) := (blk_cell B12 1).trans rfl
    have p2 : World.cell? (W12) ⟨W11.heap.size, 2, none⟩ = some (.string jv.text) := (blk_cell B12 2).trans rfl
    have p3 : World.cell? (W12) ⟨W11.heap.size, 3, none⟩ = some (.slice Aj jv.items.length cj) := (blk_cell B12 3).trans rfl
    have p4 : World.cell? (W12) ⟨W11.heap.size, 4, none⟩ = some (.slice Bj jv.keys.length dj) := (blk_cell B12 4).trans rfl
    have q0 : World.cell? (W12) ⟨W1.heap.size, 0, none⟩ = some (.int .i64 4) := (blk_cell HX12.out 0).trans rfl
    have q1 : World.cell? (W12) ⟨W1.heap.size, 1, none⟩ = some (.string ⟨#[]⟩) := (blk_cell HX12.out 1).trans rfl
    have q2 : World.cell? (W12) ⟨W1.heap.size, 2, none⟩ = some (.string s) := (blk_cell HX12.out 2).trans rfl
    have q3 : World.cell? (W12) ⟨W1.heap.size, 3, none⟩ = some (.slice none 0 0) := (blk_cell HX12.out 3).trans rfl
    have q4 : World.cell? (W12) ⟨W1.heap.size, 4, none⟩ = some (.slice none 0 0) := (blk_cell HX12.out 4).trans rfl
    clear h0 B12
    go_wp2_with fail
    refine (like_any jv (textV s) _ (textCs s) W12 HR12.out (text_rep All W12 s (by omega))).mono ?_
    rw [HJ1.out]
    rintro e W13 ⟨rfl, hb1⟩
    have hbx := HB12.out.trans (hb1.mono HB12.out.size)
    clear hb1 p0 p1 p2 p3 p4 q0 q1 q2 q3 q4
    go_wp2_with fail
    go_ret
    exact ⟨rfl, hbx⟩
end Go.Proofs.YtojkmemkmcnlnaaGreatDoor
