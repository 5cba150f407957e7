/- prim.runeOf and implode where all are runes. -/
import Derived.Test.YtojkmemkmcnlnaaGreatDoorPrimExp
set_option linter.unusedVariables false
namespace Go.Proofs.YtojkmemkmcnlnaaGreatDoor
open Go.RowKit Go.Shelf Go.Sort

theorem foldl_dig_lt : ∀ (l : List UInt8) (a : Nat), l.all digB = true → l.foldl (fun n c => 10 * n + (c.toNat - 48)) a < (a + 1) * 10 ^ l.length
  | [], a, _ => by simp
  | c :: l, a, h => by
    rw [List.all_cons, Bool.and_eq_true] at h
    have h2 := h.1
    simp only [digB, Bool.and_eq_true, decide_eq_true_eq] at h2
    have ih := foldl_dig_lt l (10 * a + (c.toNat - 48)) h.2
    rw [List.foldl_cons, List.length_cons, Nat.pow_succ]
    refine Nat.lt_of_lt_of_le ih ?_
    rw [Nat.mul_comm (10 ^ l.length) 10, ← Nat.mul_assoc]
    exact Nat.mul_le_mul_right _ (by omega)
theorem digitsVal_lt (l : List UInt8) (h : l.all digB = true) : digitsVal l < 10 ^ l.length := by
  have := foldl_dig_lt l 0 h
  simpa [digitsVal] using this
set_option maxHeartbeats 2000000 in
set_option maxRecDepth 100000 in
theorem runeOf_ok (u : Nat) (t : ByteArray) (A B : Option Addr) (li c lk d : Nat) (w : World) (hu : runeOk u) :
    Calls Tryz.prog 120 #[.agg #[.int .i64 3, .string (numB u), .string t, .slice A li c, .slice B lk d]] w fun e w' => e = .returned (.tuple #[.int .i32 u, .bool true]) ∧ Below w.heap.size w w' := by
  have hub : u ≤ 1114111 := by unfold runeOk at hu; omega
  have hsz := dec_len u (by omega)
  rw [← numB_size] at hsz
  have hp : 0 < (numB u).size := by
    rw [numB_size]
    exact List.length_pos_iff.2 (dec_ne u)
  have h45 : (((numB u)[0]'hp).toNat == 45) = false := by
    have := dec_no_minus u
    rw [← numB_data, head_of _ hp] at this
    rw [beq_eq_false_iff_ne]
    intro h
    exact this (congrArg some (by rw [← UInt8.toNat_inj]; exact h))
  have h45' : ((((numB u)[0]'hp).toNat : Int) == 45) = false := by
    rw [beq_eq_false_iff_ne] at h45 ⊢; omega
  have hall : (numB u).data.toList.all digB = true := by rw [numB_data]; exact dec_all u
  have hval : digitsVal (numB u).data.toList = u := by rw [numB_data]; exact val_dec u
  generalize numB u = b at *
  have HALL := Lib.hid hall; clear hall
  have HVAL := Lib.hid hval; clear hval
  have HU := Lib.hid hu; clear hu
  have h7 : ¬ 7 < b.size := by omega
  clear h45
  have kc := fun (W : World) => Lib.run_convert_string_bytes (P := Tryz.prog) W 9 115 5 b Tryz.underlying9 Tryz.underlying115 Tryz.underlying5
  go_enter Tryz.func120, Tryz.ntmps120
  go_upto_block 0 with fail
  generalize hX : Obj.cells #[.int .i64 3, .string b, .string t, .slice A li c, .slice B lk d] 25 = X
  have hcell : ∀ j, j < b.size → (Lib.bytesWorld (w.alloc X) 5 b).cell? ⟨w.heap.size + 1, j, none⟩ = some (.int .u8 (b.data.toList.getD j 0).toNat) := fun j hj => by
    have := Lib.bytesWorld_cell (w.alloc X) 5 b j hj
    simpa using this
  have hbw : Below w.heap.size w (Lib.bytesWorld (w.alloc X) 5 b) := ((Below.refl w.heap.size w).alloc (Nat.le_refl _) X).trans ⟨rfl, rfl, rfl, by rw [Lib.bytesWorld_size]; omega, fun i hi => Lib.bytesWorld_at_old _ _ _ _ (by simp; omega)⟩
  generalize Lib.bytesWorld (w.alloc X) 5 b = W1 at *
  generalize grownCap (w.alloc X) b.size 0 5 = gc at *
  have HC := Lib.hid hcell; clear hcell kc
  have HB := Lib.hid hbw; clear hbw h45' h7
  clear hX
  go_wp2_with fail
  go_loopw [4, 6, 26] (fun v _ i W => ∃ k : Nat, k ≤ b.size ∧ i = .int .i64 k ∧ v = .int .i64 (digitsVal (b.data.toList.take k) : Nat) ∧ W1 = W) (fun _ _ i _ => b.size - (intOf i).toNat)
  case atStart => exact ⟨0, Nat.zero_le _, rfl, rfl, rfl⟩
  case round =>
    obtain ⟨k, hk, rfl, rfl, rfl⟩ := hrel
    by_cases hlt : k < b.size
    · have hcell := HC.out k hlt
      have hl : k < b.data.toList.length := by simpa using hlt
      have hg : b.data.toList.getD k 0 = b.data.toList[k] := by rw [List.getD_eq_getElem?_getD, List.getElem?_eq_getElem hl]; rfl
      have hdig : digB b.data.toList[k] = true := List.all_eq_true.1 HALL.out _ (List.getElem_mem hl)
      have hnext : digitsVal (b.data.toList.take (k + 1)) = 10 * digitsVal (b.data.toList.take k) + (b.data.toList[k].toNat - 48) := by
        rw [List.take_succ_eq_append_getElem hl, digitsVal_snoc]
      have hbd : digitsVal (b.data.toList.take k) < 10000000 := by
        have h1 := digitsVal_lt (b.data.toList.take k) (by rw [List.all_eq_true]; exact fun x hx => List.all_eq_true.1 HALL.out x (List.mem_of_mem_take hx))
        have h2 : 10 ^ (b.data.toList.take k).length ≤ 10 ^ 7 := Nat.pow_le_pow_right (by decide) (by rw [List.length_take]; omega)
        exact Nat.lt_of_lt_of_le h1 h2
      rw [hg] at hcell
      generalize b.data.toList[k] = ch at *
      generalize digitsVal (b.data.toList.take k) = dv at *
      simp only [digB, Bool.and_eq_true, decide_eq_true_eq] at hdig
      obtain ⟨d1, d2⟩ := hdig
      have hbd2 : (dv : Int) ≤ 9999999 := by omega
      have HN := Lib.hid hnext; clear hnext hg hbd
      go_wp2_with fail
      go_roundw
      case rel => exact ⟨k + 1, hlt, by go_num, int_eq (by have := HN.out; omega), by trivial⟩
      case measure => simp [intOf]; omega
    · obtain rfl : k = b.size := by omega
      rw [List.take_of_length_le (by simp), HVAL.out]
      have hub2 : (u : Int) ≤ 1114111 := by omega
      by_cases h1 : u < 55296
      · have h1' : (u : Int) < 55296 := by omega
        go_wp2_with fail
        go_ret2
        exact ⟨rfl, HB.out⟩
      · have h1' : ¬ (u : Int) < 55296 := by omega
        have h2' : (57343 : Int) < u := by have := HU.out; unfold runeOk at this; omega
        go_wp2_with fail
        go_ret2
        exact ⟨rfl, HB.out⟩

set_option maxHeartbeats 4000000 in
set_option maxRecDepth 100000 in
theorem implode_ok (rs : List Nat) (t n : ByteArray) (A B C : Option Addr) (c lk d ia ca : Nat) (w : World) (h : VSl All w (rs.map numV) A c) (hr : ∀ r ∈ rs, runeOk r) (hl : rs.length ≤ 1000000) :
    Calls Tryz.prog 59 #[.agg #[.int .i64 5, .string n, .string t, .slice A rs.length c, .slice B lk d, .slice C ia ca]] w fun e w' => e = .returned (.tuple #[.agg (textCs ⟨(encs rs).toArray⟩).toArray, .bool true]) ∧ Below w.heap.size w w' := by
  obtain ⟨i0, hi, hz0, hz1, hz2⟩ := info_parts infoR
  have HV := Lib.hid h; clear h
  have HRK := Lib.hid hr; clear hr
  go_enter Tryz.func59, Tryz.ntmps59
  go_wp2_with fail
  generalize hX : Obj.cells #[.int .i64 5, .string n, .string t, .slice A rs.length c, .slice B lk d, .slice C ia ca] 55 = X
  generalize hZ : Obj.cells #[.int .i64 0, .string ⟨#[]⟩, .string ⟨#[]⟩, .slice none 0 0, .slice none 0 0] 25 = Z
  have B0 : (((w.alloc X).alloc Z).alloc (.cells #[] 21)).heap[w.heap.size]? = some X := blk_alloc (heap_alloc2_old w X Z) _
  have B1 : (((w.alloc X).alloc Z).alloc (.cells #[] 21)).heap[w.heap.size + 1]? = some Z := blk_alloc (heap_alloc2_new w X Z) _
  have hb0 : Below w.heap.size w (((w.alloc X).alloc Z).alloc (.cells #[] 21)) := (((Below.refl _ _).alloc (Nat.le_refl _) _).alloc (by simp) _).alloc (by simp; omega) _
  have hs0 : w.heap.size + 3 ≤ (((w.alloc X).alloc Z).alloc (.cells #[] 21)).heap.size := by simp
  have ho0 : (((w.alloc X).alloc Z).alloc (.cells #[] 21)).ownsRow (w.heap.size + 2) 21 1 (.slice (some ⟨w.heap.size + 1 + 1, 0, none⟩) 0 0) 0 [] := by
    have := World.ownsRow_made (base := w.heap.size + 2) (e := 21) (size := 1) ((w.alloc X).alloc Z) #[] 0 (by simp) (Nat.zero_le _) (by simp)
    simpa using this
  generalize ((w.alloc X).alloc Z).alloc (.cells #[] 21) = W0 at *
  subst hX hZ
  have HO := Lib.hid ho0; clear ho0
  have HX := Lib.hid B0; clear B0
  have HZ := Lib.hid B1; clear B1
  have HB := Lib.hid hb0; clear hb0
  have HSZ0 := Lib.hid hs0; clear hs0
  go_loopw [4, 6, 7, 8, 14] (fun v _ _ _ i W => ∃ k : Nat, k ≤ rs.length ∧ i = .int .i64 k ∧ Hid (W.ownsRow (w.heap.size + 2) 21 1 v k (runeCs (rs.take k))) ∧ Hid (Below w.heap.size w W) ∧ Hid (W.heap[w.heap.size]? = some (Obj.cells #[.int .i64 5, .string n, .string t, .slice A rs.length c, .slice B lk d, .slice C ia ca] 55 (0, 0))) ∧ Hid (W.heap[w.heap.size + 1]? = some (Obj.cells #[.int .i64 0, .string ⟨#[]⟩, .string ⟨#[]⟩, .slice none 0 0, .slice none 0 0] 25 (0, 0))) ∧ Hid (w.heap.size + 3 ≤ W.heap.size)) (fun _ _ _ _ i _ => rs.length - (intOf i).toNat)
  case atStart => exact ⟨0, Nat.zero_le _, rfl, HO, HB, HX, HZ, HSZ0⟩
  case round =>
    clear HO HB HX HZ HSZ0
    obtain ⟨k, hk, rfl, HO, HB, HX, HZ, HSZ⟩ := hrel
    by_cases hlt : k < rs.length
    · obtain ⟨g, o, A', c', B', d', rfl, _, h0, h1, h2, h3, h4, hr⟩ := (HV.out.below HB.out).at_ (i := k) (by rw [List.length_map]; exact hlt)
      have hke : (rs.map numV)[k]'(by rw [List.length_map]; exact hlt) = numV rs[k] := by simp
      rw [hke] at h0 h1 h2 h3 h4
      clear hke hr
      have hok := HRK.out _ (List.getElem_mem hlt)
      have hE : runeCs (rs.take (k + 1)) = runeCs (rs.take k) ++ [.int .i32 (rs[k] : Int)] := by rw [List.take_succ_eq_append_getElem hlt, runeCs_snoc]
      generalize rs[k] = r at *
      have HE := Lib.hid hE; clear hE
      have HOK := Lib.hid hok; clear hok
      simp only [numV, Val.kind, Val.num, Val.text, Val.items, Val.keys, List.length_nil] at h0 h1 h2 h3 h4
      have i0' : (0 : Int) ≤ ↑k := by omega
      have i1' : (k : Int) < ↑rs.length := by omega
      go_wp2_with fail
      generalize hY : Obj.cells #[.int .i64 3, .string (numB r), .string ⟨#[]⟩, .slice A' 0 c', .slice B' 0 d'] 25 = Y
      have HO1 := Lib.hid (HO.out.alloc Y)
      have HB1 := Lib.hid (HB.out.alloc HB.out.size Y)
      have HX1 := Lib.hid (blk_alloc HX.out Y)
      have HZ1 := Lib.hid (blk_alloc HZ.out Y)
      have HSZ1 : Hid (w.heap.size + 3 ≤ (wr.alloc Y).heap.size) := Lib.hid (by have := HSZ.out; simp; omega)
      clear h0 h1 h2 h3 h4 HO HB HX HZ HSZ
      generalize wr.alloc Y = W1 at *
      clear hY
      refine (runeOf_ok r _ _ _ _ _ _ _ W1 HOK.out).mono ?_
      rintro e w1 ⟨rfl, hb1⟩
      have HO2 := Lib.hid (own_below HO1.out hb1)
      have HB2 := Lib.hid (HB1.out.trans (hb1.mono HB1.out.size))
      have HX2 := Lib.hid (blk_below HX1.out hb1)
      have HZ2 := Lib.hid (blk_below HZ1.out hb1)
      have HSZ2 : Hid (w.heap.size + 3 ≤ w1.heap.size) := Lib.hid (Nat.le_trans HSZ1.out hb1.size)
      clear hb1 HO1 HB1 HX1 HZ1 HSZ1
      go_wp2_with (at_builtin; refine wpList_append_own _ rfl _ _ 89 rfl (w.heap.size + 2) 21 i0 _ 1 4 Tryz.underlying89 hi hz0 hz1 hz2 rfl (by decide) _ _ _ rfl (HO2.out.alloc _) ⟨w1.heap.size, 0, none⟩ 1 1 [.int .i32 (r : Int)] rfl ?qc1 ?qc2 ?qc3 ?qc4 ?qc5 ?qc6 ?_)
      case qc1 => rfl
      case qc2 => exact new_cells w1 [.int .i32 (r : Int)] 21
      case qc3 => intro u hu; simp at hu; subst hu; rfl
      case qc4 => simp only [maxLen]; omega
      case qc5 => omega
      case qc6 => have := HSZ2.out; simp; omega
      intro v' w2 hown hgrow _
      have hsz := HSZ2.out
      have HO3 : Hid (w2.ownsRow (w.heap.size + 2) 21 1 v' (k + 1) (runeCs (rs.take (k + 1)))) := Lib.hid (by rw [HE.out]; exact hown)
      have HB3 := Lib.hid ((HB2.out.alloc HB2.out.size _).grown hgrow (by simp; omega) (fun q hq => by have := (HO2.out.lt q hq).1; omega))
      have HX3 := Lib.hid ((hgrow.block _ (by simp; omega) (own_lt_ne HO2.out (by omega))).trans (blk_alloc HX2.out _))
      have HZ3 := Lib.hid ((hgrow.block _ (by simp; omega) (own_lt_ne HO2.out (by omega))).trans (blk_alloc HZ2.out _))
      have HSZ3 : Hid (w.heap.size + 3 ≤ w2.heap.size) := Lib.hid (by have := hgrow.size; simp at this; omega)
      clear hown hgrow HO2 HB2 HX2 HZ2 HSZ2 hsz
      go_wp2_with fail
      go_roundw
      case rel => exact ⟨k + 1, hlt, by go_num, HO3, HB3, HX3, HZ3, HSZ3⟩
      case measure => simp [intOf]; omega
    · obtain rfl : k = rs.length := by omega
      rw [List.take_length] at HO
      have HOd : Hid (wr.drew.ownsRow (w.heap.size + 2) 21 1 _ rs.length (runeCs rs)) := Lib.hid HO.out
      have q0 : wr.cell? ⟨w.heap.size, 0, none⟩ = some (.int .i64 5) := (blk_cell HX.out 0).trans rfl
      have n1 : w.heap.size + 1 ≠ w.heap.size := by omega
      generalize htx : (⟨(encs rs).toArray⟩ : ByteArray) = tx
      have HTX := Lib.hid htx; clear htx
      go_wp2_with fail
      go_region_held3 (fun w' => w'.cell? ⟨w.heap.size, 0, none⟩ = some (.int .i64 5)) (first | (simp only [World.cell?_setCell_far, n1, ne_eq, not_false_eq_true, p1]; done) | with_reducible exact p1 | with_reducible exact p0 | exact q0)
        (first
          | (go_at_call 121
             refine (utfText_any rs _ _ _ HOd.out HRK.out (by omega)).mono ?_
             rintro e w1 ⟨rfl, hb⟩
             rw [HTX.out]
             have hb' : Below wr.heap.size wr w1 := ⟨hb.os, hb.tape, hb.output, hb.size, hb.block⟩
             have p0 : w1.cell? ⟨w.heap.size, 0, none⟩ = some (.int .i64 5) := (blk_cell (blk_below HX.out hb') 0).trans rfl
             have HBA := Lib.hid hb'
             clear hb hb')
          | (go_at_call 92
             refine (primText_any tx _).mono ?_
             rintro e w2 ⟨rfl, hb⟩
             rw [textCs_arr]
             have hb' : Below w1.heap.size w1 w2 := ⟨hb.os, hb.tape, hb.output, hb.size, hb.block⟩
             have HBB := Lib.hid (HBA.out.trans (hb'.mono HBA.out.size))
             have p1 : w2.cell? ⟨w.heap.size, 0, none⟩ = some (.int .i64 5) := (blk_cell (blk_below HX.out HBB.out) 0).trans rfl
             have HZ1 := Lib.hid (blk_below HZ.out HBB.out)
             have r0 : World.cell? (w2) ⟨w.heap.size + 1, 0, none⟩ = some (.int .i64 0) := (blk_cell HZ1.out 0).trans rfl
             have r1 : World.cell? (w2) ⟨w.heap.size + 1, 1, none⟩ = some (.string ⟨#[]⟩) := (blk_cell HZ1.out 1).trans rfl
             have r2 : World.cell? (w2) ⟨w.heap.size + 1, 2, none⟩ = some (.string ⟨#[]⟩) := (blk_cell HZ1.out 2).trans rfl
             have r3 : World.cell? (w2) ⟨w.heap.size + 1, 3, none⟩ = some (.slice none 0 0) := (blk_cell HZ1.out 3).trans rfl
             have r4 : World.cell? (w2) ⟨w.heap.size + 1, 4, none⟩ = some (.slice none 0 0) := (blk_cell HZ1.out 4).trans rfl
             have fr0 := blk_frozen HZ1.out 0
             have fr1 := blk_frozen HZ1.out 1
             have fr2 := blk_frozen HZ1.out 2
             have fr3 := blk_frozen HZ1.out 3
             have fr4 := blk_frozen HZ1.out 4
             clear hb hb'))
      clear p0 p1 q0 r0 r1 r2 r3 r4 fr0 fr1 fr2 fr3 fr4
      obtain ⟨e1, o1⟩ := set5_blk HZ1.out rfl (.int .i64 4) (.string ⟨#[]⟩) (.string tx) (.slice none 0 0) (.slice none 0 0)
      have HF := Lib.hid (o1.from (HB.out.trans (HBB.out.mono HB.out.size)) (by omega))
      clear o1
      change Exit.then _ _ _ _ (set5 w2 (w.heap.size + 1) 0 _ _ _ _ _)
      generalize set5 w2 (w.heap.size + 1) 0 (.int .i64 4) (.string ⟨#[]⟩) (.string tx) (.slice none 0 0) (.slice none 0 0) = W2 at *
      go_wp2_with fail
      exact bodyPost_ret (results_ct rfl _ _ (w.heap.size + 1) _ _ _ rfl e1 Tryz.underlying25 rfl (by kernel_rfl)) rfl ⟨by rw [HTX.out]; rfl, HF.out⟩
end Go.Proofs.YtojkmemkmcnlnaaGreatDoor
