/- prim.String at a text; prim's join of texts. -/
import Derived.Test.YtojkmemkmcnlnaaGreatDoorPrimSplit
import Derived.WalkLawsBesides
set_option linter.unusedVariables false
namespace Go.Proofs.YtojkmemkmcnlnaaGreatDoor
open Go.RowKit Go.Shelf Go.Sort

set_option maxHeartbeats 1000000 in
set_option maxRecDepth 100000 in
theorem string_text (s : ByteArray) (cs : List Value) (w : World) (h : Rep All w (textV s) cs) (hu : utfOk s = true) (hT : Tabs w) :
    Calls Tryz.prog 114 #[.agg cs.toArray] w fun e w' => e = .returned (.string s) ∧ Below w.heap.size w w' := by
  obtain ⟨A, c, B, d, rfl, _⟩ := h.open_
  have HF := Lib.hid (formed_any (textV s) _ (w.alloc (.cells #[.int .i64 4, .string ⟨#[]⟩, .string s, .slice A 0 c, .slice B 0 d] 25)) (h.below ((Below.refl _ _).alloc (Nat.le_refl _) _)) (hT.alloc _))
  rw [textV_ok, hu] at HF
  clear h hT hu
  simp only [textV, Val.kind, Val.num, Val.text, Val.items, Val.keys, List.length_nil] at HF ⊢
  go_enter Tryz.func114, Tryz.ntmps114
  go_wp2_with fail
  generalize hX : Obj.cells #[.int .i64 4, .string ⟨#[]⟩, .string s, .slice A 0 c, .slice B 0 d] 25 = X at *
  have B0 := blk_new w X
  have hb0 : Below w.heap.size w (w.alloc X) := (Below.refl _ _).alloc (Nat.le_refl _) _
  generalize w.alloc X = W0 at *
  subst hX
  refine HF.out.mono ?_
  rintro e w1 ⟨rfl, hb1⟩
  have B1 := blk_below B0 hb1
  have q2 : w1.cell? ⟨w.heap.size, 2, none⟩ = some (.string s) := (blk_cell B1 2).trans rfl
  have HB := Lib.hid (hb0.trans (hb1.mono hb0.size))
  clear hb1 hb0 B1 B0 HF
  go_wp2_with fail
  go_ret
  exact ⟨rfl, HB.out⟩

def sizes (ps : List ByteArray) : Nat := (ps.map (·.size)).sum
theorem sizes_take (ps : List ByteArray) (k : Nat) (h : k < ps.length) : sizes (ps.take (k + 1)) = sizes (ps.take k) + ps[k].size := by
  unfold sizes; rw [List.take_succ_eq_append_getElem h, List.map_append, List.sum_append]; simp
theorem sizes_take_le (ps : List ByteArray) (k : Nat) : sizes (ps.take k) ≤ sizes ps := by
  induction ps generalizing k with
  | nil => simp [sizes]
  | cons s ss ih =>
    cases k with
    | zero => simp [sizes]
    | succ k => have := ih k; simp [sizes] at *; omega
theorem sizes_lens (ps : List ByteArray) : sizes ps = Lib.lens (ps.map (·.data.toList)) := by
  simp [sizes, Lib.lens, Function.comp_def]
theorem infoS' : (Tryz.prog.info? 9).map (fun i => (i.zero, i.size, i.bytes)) = some (some (.string ⟨#[]⟩), 1, 16) := infoS

set_option maxHeartbeats 4000000 in
set_option maxRecDepth 100000 in
theorem join_ok (ps : List ByteArray) (by_ n t : ByteArray) (A B C : Option Addr) (c lk d ca : Nat) (w : World) (hV : VSl All w (ps.map textV) A c) (hC : VSl All w [textV by_] C ca) (hu : ∀ p ∈ ps, utfOk p = true) (hT : Tabs w)
    (hlen : ps.length ≤ 1000000) (htot : (ps.length - 1) * by_.size + sizes ps ≤ 1000000) :
    Calls Tryz.prog 65 #[.agg #[.int .i64 5, .string n, .string t, .slice A ps.length c, .slice B lk d, .slice C 1 ca]] w fun e w' => e = .returned (.tuple #[.agg (textCs ⟨(Lib.join (ps.map (·.data.toList)) by_.data.toList).toArray⟩).toArray, .bool true]) ∧ Below w.heap.size w w' := by
  obtain ⟨i0, hi, hz0, hz1, hz2⟩ := info_parts infoS'
  have HT := Lib.hid hT; clear hT
  have HCC := Lib.hid hC; clear hC
  have HV := Lib.hid hV; clear hV
  have HU := Lib.hid hu; clear hu
  have HTOT := Lib.hid htot
  go_enter Tryz.func65, Tryz.ntmps65
  go_wp2_with fail
  generalize hX : Obj.cells #[.int .i64 5, .string n, .string t, .slice A ps.length c, .slice B lk d, .slice C 1 ca] 55 = X
  generalize hZ : Obj.cells #[.int .i64 0, .string ⟨#[]⟩, .string ⟨#[]⟩, .slice none 0 0, .slice none 0 0] 25 = Z
  have B0 : ((w.alloc X).alloc Z).heap[w.heap.size]? = some X := heap_alloc2_old w X Z
  have B1 : ((w.alloc X).alloc Z).heap[w.heap.size + 1]? = some Z := heap_alloc2_new w X Z
  have hb0 : Below w.heap.size w ((w.alloc X).alloc Z) := ((Below.refl _ _).alloc (Nat.le_refl _) _).alloc (by simp) _
  have hs0 : ((w.alloc X).alloc Z).heap.size = w.heap.size + 2 := by simp
  generalize (w.alloc X).alloc Z = W0 at *
  subst hX hZ
  refine (is_yes 5 4 n t A B C ps.length c lk d ca [textV by_] W0 (HCC.out.below hb0) (show 0 < 1 by decide) rfl).mono ?_
  rintro e W1 ⟨rfl, hb1⟩
  have HX1 := Lib.hid (blk_below B0 hb1)
  have HZ1 := Lib.hid (blk_below B1 hb1)
  have HB1 := Lib.hid (hb0.trans (hb1.mono hb0.size))
  have HSZ1 : Hid (w.heap.size + 2 ≤ W1.heap.size) := Lib.hid (by have := hb1.size; omega)
  clear hb1 hb0 hs0 B0 B1
  go_wp2_with fail
  obtain ⟨gc, oc, A', c', B', d', rfl, _, z0, z1, z2, z3, z4, _⟩ := (HCC.out.below HB1.out).at_ (i := 0) (show 0 < 1 by decide)
  clear z0 z1 z3 z4
  have z2' : W1.cell? ⟨gc, oc + 2, none⟩ = some (.string by_) := by simpa [textV, Val.text] using z2
  clear z2
  have q3 : W1.cell? ⟨w.heap.size, 3, none⟩ = some (.slice A ps.length c) := (blk_cell HX1.out 3).trans rfl
  have q5 : W1.cell? ⟨w.heap.size, 5, none⟩ = some (.slice (some ⟨gc, oc, none⟩) 1 ca) := (blk_cell HX1.out 5).trans rfl
  obtain ⟨q, hq⟩ : ∃ q, q = ps.length - 1 := ⟨_, rfl⟩
  obtain ⟨T, hTT⟩ : ∃ T, T = q * by_.size := ⟨_, rfl⟩
  have hTle : T ≤ 1000000 := by rw [hTT, hq]; omega
  have f1 : IntKind.i64.wrap ((ps.length : Int) - 1) = ↑ps.length - 1 := IntWalk.i64_in _ (by omega)
  have f2 : max ((ps.length : Int) - 1) 0 = (q : Int) := by omega
  have f3 : (q : Int) * (by_.size : Int) = (T : Int) := by rw [hTT]; simp
  have f4 : IntKind.i64.wrap (T : Int) = (T : Int) := IntWalk.i64_in _ (by omega)
  have f5 : IntKind.i64.wrap (1 + (T : Int)) = 1 + (T : Int) := IntWalk.i64_in _ (by omega)
  have HQ := Lib.hid hq
  have HTE := Lib.hid hTT
  clear hTT hq
  go_quiet (fail)
  clear f1 f2 f3 f4 f5 q3 q5
  have HX2 : Hid ((W1.drewN nq).heap[w.heap.size]? = _) := Lib.hid (blk_drewN HX1.out nq)
  have HZ2 : Hid ((W1.drewN nq).heap[w.heap.size + 1]? = _) := Lib.hid (blk_drewN HZ1.out nq)
  have HB2 := Lib.hid (below_drewN HB1.out nq)
  have HSZ2 : Hid (w.heap.size + 2 ≤ (W1.drewN nq).heap.size) := Lib.hid HSZ1.out
  have HZC : Hid ((W1.drewN nq).cell? ⟨gc, oc + 2, none⟩ = some (.string by_)) := Lib.hid z2'
  clear z2' HX1 HZ1 HB1 HSZ1
  generalize W1.drewN nq = W2 at *
  have q3 : (W2.alloc (.cells #[] 9)).cell? ⟨w.heap.size, 3, none⟩ = some (.slice A ps.length c) := Lib.cell?_alloc_some _ ((blk_cell HX2.out 3).trans rfl)
  go_wp2_with fail
  clear q3
  have HO : Hid ((W2.alloc (.cells #[] 9)).ownsRow (w.heap.size + 2) 9 1 (.slice (some ⟨W2.heap.size, 0, none⟩) 0 0) 0 []) := Lib.hid (World.ownsRow_made (base := w.heap.size + 2) (e := 9) (size := 1) W2 #[] 0 HSZ2.out (Nat.zero_le _) (by simp))
  have HX := Lib.hid (blk_alloc HX2.out (.cells #[] 9))
  have HZ := Lib.hid (blk_alloc HZ2.out (.cells #[] 9))
  have HB := Lib.hid (HB2.out.alloc HB2.out.size (.cells #[] 9))
  have HSZ0 : Hid (w.heap.size + 2 ≤ (W2.alloc (.cells #[] 9)).heap.size) := Lib.hid (by have := HSZ2.out; simp; omega)
  have HZ0 := Lib.hid (Lib.cell?_alloc_some (.cells #[] 9) HZC.out)
  generalize W2.alloc (.cells #[] 9) = W3 at *
  clear HX2 HZ2 HB2 HSZ2 HZC
  go_loopw [4, 5, 7, 8, 32, 40, 44] (fun s v _ _ i _ _ W => ∃ k : Nat, k ≤ ps.length ∧ i = .int .i64 k ∧ s = .int .i64 ((1 + T + sizes (ps.take k) : Nat) : Int) ∧ Hid (W.ownsRow (w.heap.size + 2) 9 1 v k ((ps.map Value.string).take k)) ∧ Hid (Below w.heap.size w W) ∧ Hid (W.heap[w.heap.size]? = some (Obj.cells #[.int .i64 5, .string n, .string t, .slice A ps.length c, .slice B lk d, .slice (some ⟨gc, oc, none⟩) 1 ca] 55 (0, 0))) ∧ Hid (W.heap[w.heap.size + 1]? = some (Obj.cells #[.int .i64 0, .string ⟨#[]⟩, .string ⟨#[]⟩, .slice none 0 0, .slice none 0 0] 25 (0, 0))) ∧ Hid (w.heap.size + 2 ≤ W.heap.size)) (fun _ _ _ _ i _ _ _ => ps.length - (intOf i).toNat)
  case atStart => exact ⟨0, Nat.zero_le _, rfl, int_eq (by simp [sizes]), HO, HB, HX, HZ, HSZ0⟩
  case round =>
    clear HO HB HX HZ HSZ0
    obtain ⟨k, hk, rfl, rfl, HO, HB, HX, HZ, HSZ⟩ := hrel
    by_cases hlt : k < ps.length
    · obtain ⟨g, o, A1, c1, B1, d1, rfl, _, h0, h1, h2, h3, h4, hr⟩ := (HV.out.below HB.out).at_ (i := k) (by rw [List.length_map]; exact hlt)
      have hke : (ps.map textV)[k]'(by rw [List.length_map]; exact hlt) = textV ps[k] := by simp
      rw [hke] at h0 h1 h2 h3 h4 hr
      clear hke
      have hok := HU.out _ (List.getElem_mem hlt)
      have hE : (ps.map Value.string).take (k + 1) = (ps.map Value.string).take k ++ [.string ps[k]] := by rw [List.take_succ_eq_append_getElem (by simpa using hlt)]; simp
      have hSZ := sizes_take ps k hlt
      have hSL := sizes_take_le ps (k + 1)
      generalize ps[k] = r at *
      have HE := Lib.hid hE; clear hE
      have HOK := Lib.hid hok; clear hok
      have hsum : 1 + T + sizes (ps.take k) + r.size ≤ 2000001 := by omega
      have HS := Lib.hid hSZ; clear hSZ
      have HSL := Lib.hid hSL; clear hSL
      have HR := Lib.hid hr; clear hr
      simp only [textV, Val.kind, Val.num, Val.text, Val.items, Val.keys, List.length_nil] at h0 h1 h2 h3 h4
      have i0' : (0 : Int) ≤ ↑k := by omega
      have i1' : (k : Int) < ↑ps.length := by omega
      go_wp2_with fail
      generalize hY : Obj.cells #[.int .i64 4, .string ⟨#[]⟩, .string r, .slice A1 0 c1, .slice B1 0 d1] 25 = Y
      have HO1 := Lib.hid (HO.out.alloc Y)
      have HB1 := Lib.hid (HB.out.alloc HB.out.size Y)
      have HX1 := Lib.hid (blk_alloc HX.out Y)
      have HZ1 := Lib.hid (blk_alloc HZ.out Y)
      have HR1 := Lib.hid (HR.out.below ((Below.refl wr.heap.size wr).alloc (Nat.le_refl _) Y))
      have HSZ1 : Hid (w.heap.size + 2 ≤ (wr.alloc Y).heap.size) := Lib.hid (by have := HSZ.out; simp; omega)
      clear h0 h1 h2 h3 h4 HO HB HX HZ HSZ HR
      generalize wr.alloc Y = W1 at *
      clear hY
      refine (string_text r _ W1 HR1.out HOK.out (HT.out.below HB1.out)).mono ?_
      rintro e w1 ⟨rfl, hb1⟩
      have HO2 := Lib.hid (own_below HO1.out hb1)
      have HB2 := Lib.hid (HB1.out.trans (hb1.mono HB1.out.size))
      have HX2 := Lib.hid (blk_below HX1.out hb1)
      have HZ2 := Lib.hid (blk_below HZ1.out hb1)
      have HSZ2 : Hid (w.heap.size + 2 ≤ w1.heap.size) := Lib.hid (Nat.le_trans HSZ1.out hb1.size)
      clear hb1 HO1 HB1 HX1 HZ1 HSZ1 HR1
      go_wp2_with (at_builtin; refine wpList_append_own _ rfl _ _ 23 rfl (w.heap.size + 2) 9 i0 _ 1 16 Tryz.underlying23 hi hz0 hz1 hz2 rfl (by decide) _ _ _ rfl (HO2.out.alloc _) ⟨w1.heap.size, 0, none⟩ 1 1 [.string r] rfl ?qc1 ?qc2 ?qc3 ?qc4 ?qc5 ?qc6 ?_)
      case qc1 => rfl
      case qc2 => exact new_cells w1 [.string r] 9
      case qc3 => intro u hu; simp at hu; subst hu; rfl
      case qc4 => simp only [maxLen]; omega
      case qc5 => omega
      case qc6 => have := HSZ2.out; simp; omega
      intro v' w2 hown hgrow _
      have hsz := HSZ2.out
      have HO3 : Hid (w2.ownsRow (w.heap.size + 2) 9 1 v' (k + 1) ((ps.map Value.string).take (k + 1))) := Lib.hid (by rw [HE.out]; exact hown)
      have HB3 := Lib.hid ((HB2.out.alloc HB2.out.size _).grown hgrow (by simp; omega) (fun q hq => by have := (HO2.out.lt q hq).1; omega))
      have HX3 := Lib.hid ((hgrow.block _ (by simp; omega) (own_lt_ne HO2.out (by omega))).trans (blk_alloc HX2.out _))
      have HZ3 := Lib.hid ((hgrow.block _ (by simp; omega) (own_lt_ne HO2.out (by omega))).trans (blk_alloc HZ2.out _))
      have HSZ3 : Hid (w.heap.size + 2 ≤ w2.heap.size) := Lib.hid (by have := hgrow.size; simp at this; omega)
      clear hown hgrow HO2 HB2 HX2 HZ2 HSZ2 hsz
      go_wp2_with fail
      go_roundw
      case rel => exact ⟨k + 1, hlt, by go_num, int_eq (by have := HS.out; omega), HO3, HB3, HX3, HZ3, HSZ3⟩
      case measure => simp [intOf]; omega
    · obtain rfl : k = ps.length := by omega
      rw [List.take_length]
      have hw1 : 1 + T + sizes ps ≤ 1000001 := by have := HTOT.out; have := HQ.out; have := HTE.out; subst this; subst q; omega
      have hw2 : ¬ (1048576 : Int) < ((1 + T + sizes ps : Nat) : Int) := by omega
      generalize 1 + T + sizes ps = TT at *
      have q5 : wr.cell? ⟨w.heap.size, 5, none⟩ = some (.slice (some ⟨gc, oc, none⟩) 1 ca) := (blk_cell HX.out 5).trans rfl
      have z2 : wr.cell? ⟨gc, oc + 2, none⟩ = some (.string by_) := by
        obtain ⟨gx, ox, A', c', B', d', e, _, z0, z1, z2, _⟩ := (HCC.out.below HB.out).at_ (i := 0) (show 0 < 1 by decide)
        simp only [Option.some.injEq, Addr.mk.injEq, and_true] at e
        obtain ⟨rfl, rfl⟩ := e
        simpa [textV, Val.text] using z2
      have hown := HO.out
      rw [List.take_of_length_le (by simp)] at hown
      obtain ⟨Ax, cx, rfl⟩ := own_shape hown
      have hjl : (Lib.join (ps.map (·.data.toList)) by_.data.toList).length ≤ 140737488355328 := by
        cases hps : ps with
        | nil => simp [Lib.join]
        | cons x xs =>
          have h1 := Lib.join_length x.data.toList (xs.map (·.data.toList)) by_.data.toList
          have h2 := sizes_lens ps
          have h3 := HTOT.out
          rw [hps] at h2 h3
          simp only [List.map_cons] at h1 h2 ⊢
          rw [h1, List.length_map, ← h2]
          have h4 : by_.data.toList.length = by_.size := by simp
          rw [h4, Nat.mul_comm]
          simp only [List.length_cons, Nat.add_sub_cancel] at h3
          omega
      have HJ : Hid (Calls Tryz.prog 126 #[.slice Ax ps.length cx, .string by_] wr fun e w' => e = .returned (.string ⟨(Lib.join (ps.map (·.data.toList)) by_.data.toList).toArray⟩) ∧ Below wr.heap.size wr w') := Lib.hid (by
        cases Ax with
        | none =>
          have h0 : ps.length = 0 := by
            rcases hown.2 with ⟨_, h0⟩ | ⟨g, cap, cur, e, _⟩
            · exact h0
            · cases e
          obtain rfl : ps = [] := List.eq_nil_of_length_eq_zero h0
          exact (Any.strings_Join_none Tryz.lays156 Tryz.Builder_Extra_156 none cx by_ wr).mono fun e w' ⟨he, hw⟩ => ⟨he, by subst hw; exact Below.refl _ _⟩
        | some ad =>
          rcases hown.2 with ⟨e, _⟩ | ⟨g, cap, cur, e, hbg, hh, hnc, _⟩
          · cases e
          · simp only [Value.slice.injEq, Option.some.injEq] at e
            obtain ⟨rfl, _, rfl⟩ := e
            exact Tryz.strings_Join g 0 _ ps by_ wr (fun j x hj => by
              rw [Nat.zero_add, hown.cellAt j (by have := (List.getElem?_eq_some_iff.1 hj).1; omega), List.getElem?_map, hj]; rfl) (blk_lt hh) (by omega) hnc hjl)
      generalize hjn : (⟨(Lib.join (ps.map (·.data.toList)) by_.data.toList).toArray⟩ : ByteArray) = jn at *
      have HJN := Lib.hid hjn; clear hjn hjl hown
      go_wp2_with fail
      refine HJ.out.mono ?_
      rintro e w1 ⟨rfl, hb⟩
      have HZ1 := Lib.hid (blk_below HZ.out hb)
      have HBB := Lib.hid (HB.out.trans (hb.mono HB.out.size))
      clear hb q5 z2
      go_wp2_with fail
      refine (primText_any jn w1).mono ?_
      rintro e w2 ⟨rfl, hb⟩
      rw [textCs_arr]
      have HZ2 := Lib.hid (blk_below HZ1.out hb)
      have HB2 := Lib.hid (HBB.out.trans (hb.mono HBB.out.size))
      clear hb
      have r0 : World.cell? (w2) ⟨w.heap.size + 1, 0, none⟩ = some (.int .i64 0) := (blk_cell HZ2.out 0).trans rfl
      have r1 : World.cell? (w2) ⟨w.heap.size + 1, 1, none⟩ = some (.string ⟨#[]⟩) := (blk_cell HZ2.out 1).trans rfl
      have r2 : World.cell? (w2) ⟨w.heap.size + 1, 2, none⟩ = some (.string ⟨#[]⟩) := (blk_cell HZ2.out 2).trans rfl
      have r3 : World.cell? (w2) ⟨w.heap.size + 1, 3, none⟩ = some (.slice none 0 0) := (blk_cell HZ2.out 3).trans rfl
      have r4 : World.cell? (w2) ⟨w.heap.size + 1, 4, none⟩ = some (.slice none 0 0) := (blk_cell HZ2.out 4).trans rfl
      have fr0 := blk_frozen HZ2.out 0
      have fr1 := blk_frozen HZ2.out 1
      have fr2 := blk_frozen HZ2.out 2
      have fr3 := blk_frozen HZ2.out 3
      have fr4 := blk_frozen HZ2.out 4
      go_wp2_with fail
      clear r0 r1 r2 r3 r4 fr0 fr1 fr2 fr3 fr4
      obtain ⟨e1, o1⟩ := set5_blk HZ2.out rfl (.int .i64 4) (.string ⟨#[]⟩) (.string jn) (.slice none 0 0) (.slice none 0 0)
      change bodyPost _ _ _ _ _ (set5 w2 (w.heap.size + 1) 0 _ _ _ _ _)
      exact bodyPost_ret (results_ct rfl _ _ (w.heap.size + 1) _ _ _ rfl e1 Tryz.underlying25 rfl (by kernel_rfl)) rfl ⟨by rw [HJN.out]; rfl, o1.from HB2.out (by omega)⟩
end Go.Proofs.YtojkmemkmcnlnaaGreatDoor
