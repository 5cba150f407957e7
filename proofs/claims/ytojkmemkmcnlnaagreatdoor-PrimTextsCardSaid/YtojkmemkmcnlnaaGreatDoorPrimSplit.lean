/- prim's input.is, utf.Split, prim's split. -/
import Derived.Test.YtojkmemkmcnlnaaGreatDoorPrimExp
import Derived.Lib.SplitLaws
set_option linter.unusedVariables false
namespace Go.Proofs.YtojkmemkmcnlnaaGreatDoor
open Go.RowKit Go.Shelf Go.Sort

set_option maxHeartbeats 1000000 in
set_option maxRecDepth 100000 in
/-- The kinds of the input and of the first argument. -/
theorem is_yes (k q : Int) (n t : ByteArray) (A B C : Option Addr) (li c lk d ca : Nat) (args : List Val) (w : World) (h : VSl All w args C ca) (h0 : 0 < args.length) (hk : (args[0]).kind = q) :
    Calls Tryz.prog 109 #[.agg #[.int .i64 k, .string n, .string t, .slice A li c, .slice B lk d, .slice C args.length ca], .int .i64 k, .int .i64 q] w fun e w' => e = .returned (.bool true) ∧ Below w.heap.size w w' := by
  have hb0 : Below w.heap.size w (w.alloc (Obj.cells #[.int .i64 k, .string n, .string t, .slice A li c, .slice B lk d, .slice C args.length ca] 55)) := (Below.refl _ _).alloc (Nat.le_refl _) _
  obtain ⟨g, o, A', c', B', d', rfl, _, z0, z1, z2, z3, z4, _⟩ := (h.below hb0).at_ h0
  rw [hk] at z0
  simp only [Nat.zero_mul, Nat.add_zero] at z0
  clear hk z1 z2 z3 z4 h
  have h0' : (0 : Int) < ↑args.length := by omega
  go_enter Tryz.func109, Tryz.ntmps109
  go_wp2_with fail
  go_ret
  exact ⟨rfl, hb0⟩

/-- What utf.Split gives. -/
def pieces (s by_ : ByteArray) : List ByteArray := if s.size = 0 then [] else Lib.splitB by_ 0 (Lib.countB s by_) s
theorem str_row (w : World) (ps : List ByteArray) (hm : ps.length ≤ maxLen) : (w.alloc (.cells (ps.map Value.string).toArray 9)).ownsRow w.heap.size 9 1 (.slice (some ⟨w.heap.size, 0, none⟩) ps.length ps.length) ps.length (ps.map Value.string) :=
  ⟨by simp, .inr ⟨w.heap.size, ps.length, _, rfl, Nat.le_refl _, heap_alloc_new w _, Nat.le_refl _, hm, by simp, by rw [List.toList_toArray, List.take_of_length_le (by simp)]⟩⟩
set_option maxHeartbeats 1000000 in
set_option maxRecDepth 100000 in
theorem utfSplit_any (s by_ : ByteArray) (w : World) (hs : s.size < 4294967281) (hb : 1 ≤ by_.size) (hT : Tabs w) :
    Calls Tryz.prog 125 #[.string s, .string by_] w fun e w' => ∃ v', e = .returned v' ∧ w'.ownsRow w.heap.size 9 1 v' (pieces s by_).length ((pieces s by_).map Value.string) ∧ Below w.heap.size w w' := by
  obtain ⟨m, hm⟩ := hT.maxl
  clear hT
  by_cases h0 : s.size = 0
  · have e0 := toList_nil h0
    have hp : pieces s by_ = [] := by rw [pieces, if_pos h0]
    rw [hp]
    clear hp h0
    go_enter Tryz.func125, Tryz.ntmps125
    go_wp2_with fail
    go_ret
    exact ⟨_, rfl, World.ownsRow_made w #[] 0 (Nat.le_refl _) (Nat.zero_le _) (by simp), (Below.refl _ _).alloc (Nat.le_refl _) _⟩
  · have e0 : s.toList.isEmpty = false := toList_ne (by omega)
    have hp : pieces s by_ = Lib.splitB by_ 0 (Lib.countB s by_) s := by rw [pieces, if_neg h0]
    have hl := Lib.splitB_all by_ hb 0 (Lib.countB s by_) s rfl
    have hl2 := Lib.splitB_length_le by_ 0 (Lib.countB s by_) s
    have hcl := Lib.countB_le by_ hb s.size s (Nat.le_refl _)
    rw [hp]
    have HS := Lib.hid (Tryz.strings_Split s by_ m w hs hm hb)
    have HL := Lib.hid hl
    have HC := Lib.hid hcl
    clear hp h0 hl hl2 hcl hm
    go_enter Tryz.func125, Tryz.ntmps125
    go_wp2_with fail
    refine HS.out.mono ?_
    rintro e w1 ⟨rfl, rfl⟩
    go_wp2_with fail
    go_ret
    refine ⟨_, rfl, ?_, (Below.refl _ _).alloc (Nat.le_refl _) _⟩
    have := str_row w (Lib.splitB by_ 0 (Lib.countB s by_) s) (by rw [HL.out]; have := HC.out; simp only [maxLen]; omega)
    rw [HL.out] at this ⊢
    exact this

theorem le_sum_mem : ∀ {l : List Nat} {x : Nat}, x ∈ l → x ≤ l.sum
  | y :: l, x, h => by
    rcases List.mem_cons.1 h with rfl | h
    · simp
    · have := le_sum_mem h; simp; omega
theorem pieces_len (s by_ : ByteArray) (hby : 1 ≤ by_.size) : (pieces s by_).length ≤ s.size + 1 ∧ ∀ p ∈ pieces s by_, p.size ≤ s.size := by
  have hne : by_.data.toList ≠ [] := by
    intro h0
    have h1 : by_.size = 0 := by have := congrArg List.length h0; simpa using this
    omega
  unfold pieces
  split
  · simp
  · have e := Lib.splitB_data by_ 0 (Lib.countB s by_) s
    have h := lens_splitK by_.data.toList hne (Lib.countB s by_) s.data.toList
    rw [← e] at h
    simp only [Lib.lens, List.map_map, List.length_map, Array.length_toList, ByteArray.size_data] at h
    refine ⟨by omega, fun p hp => ?_⟩
    have hm : p.size ∈ (Lib.splitB by_ 0 (Lib.countB s by_) s).map ((fun x : List UInt8 => x.length) ∘ fun x : ByteArray => x.data.toList) := List.mem_map.2 ⟨p, hp, by simp⟩
    have := le_sum_mem hm
    have hl : 0 < (Lib.splitB by_ 0 (Lib.countB s by_) s).length := List.length_pos_of_mem hp
    omega
set_option maxHeartbeats 4000000 in
set_option maxRecDepth 100000 in
theorem split_ok (s by_ n : ByteArray) (A B C : Option Addr) (li c lk d ca : Nat) (w : World) (hs : s.size ≤ 1000000) (hby : 1 ≤ by_.size) (hC : VSl All w [textV by_] C ca) (hT : Tabs w) :
    Calls Tryz.prog 64 #[.agg #[.int .i64 4, .string n, .string s, .slice A li c, .slice B lk d, .slice C 1 ca]] w fun e w' => ∃ ds, e = .returned (.tuple #[.agg ds.toArray, .bool true]) ∧ Rep (From w.heap.size) w' (listV ((pieces s by_).map textV)) ds ∧ Below w.heap.size w w' := by
  obtain ⟨i0, hi, hz0, hz1, hz2⟩ := info_parts infoV
  have HT := Lib.hid hT; clear hT
  go_enter Tryz.func64, Tryz.ntmps64
  have HCC := Lib.hid hC; clear hC
  go_wp2_with fail
  generalize hX : Obj.cells #[.int .i64 4, .string n, .string s, .slice A li c, .slice B lk d, .slice C 1 ca] 55 = X
  generalize hZ : Obj.cells #[.int .i64 0, .string ⟨#[]⟩, .string ⟨#[]⟩, .slice none 0 0, .slice none 0 0] 25 = Z
  have B0 : ((w.alloc X).alloc Z).heap[w.heap.size]? = some X := heap_alloc2_old w X Z
  have B1 : ((w.alloc X).alloc Z).heap[w.heap.size + 1]? = some Z := heap_alloc2_new w X Z
  have hb0 : Below w.heap.size w ((w.alloc X).alloc Z) := ((Below.refl _ _).alloc (Nat.le_refl _) _).alloc (by simp) _
  have hs0 : ((w.alloc X).alloc Z).heap.size = w.heap.size + 2 := by simp
  generalize (w.alloc X).alloc Z = W0 at *
  subst hX hZ
  refine (is_yes 4 4 n s A B C li c lk d ca [textV by_] W0 (HCC.out.below hb0) (show 0 < 1 by decide) rfl).mono ?_
  rintro e W1 ⟨rfl, hb1⟩
  have HX1 := Lib.hid (blk_below B0 hb1)
  have HZ1 := Lib.hid (blk_below B1 hb1)
  have HB1 := Lib.hid (hb0.trans (hb1.mono hb0.size))
  have HSZ1 : Hid (w.heap.size + 2 ≤ W1.heap.size) := Lib.hid (by have := hb1.size; omega)
  clear hb1 hb0 hs0 B0 B1
  go_upto_region 4 with fail
  have ho0 : (W1.alloc (.cells #[] 25)).ownsRow (w.heap.size + 2) 25 5 (.slice (some ⟨W1.heap.size, 0, none⟩) 0 0) 0 [] := World.ownsRow_made (base := w.heap.size + 2) (e := 25) (size := 5) W1 #[] 0 HSZ1.out (Nat.zero_le _) (by simp)
  have HX2 := Lib.hid (blk_alloc HX1.out (.cells #[] 25))
  have HZ2 := Lib.hid (blk_alloc HZ1.out (.cells #[] 25))
  have HB2 := Lib.hid (HB1.out.alloc HB1.out.size (.cells #[] 25))
  have HSZ2 : Hid (w.heap.size + 3 ≤ (W1.alloc (.cells #[] 25)).heap.size) := Lib.hid (by have := HSZ1.out; simp; omega)
  have hsi : w.heap.size + 2 ≤ W1.heap.size := HSZ1.out
  generalize W1.alloc (.cells #[] 25) = W2 at *
  clear HX1 HZ1 HB1 HSZ1
  obtain ⟨gc, oc, A', c', B', d', rfl, _, z0, z1, z2, z3, z4, _⟩ := (HCC.out.below HB2.out).at_ (i := 0) (show 0 < 1 by decide)
  clear z0 z1 z3 z4
  have z2' : W2.cell? ⟨gc, oc + 2, none⟩ = some (.string by_) := by simpa [textV, Val.text] using z2
  clear z2
  have q2 : W2.cell? ⟨w.heap.size, 2, none⟩ = some (.string s) := (blk_cell HX2.out 2).trans rfl
  have q5 : W2.cell? ⟨w.heap.size, 5, none⟩ = some (.slice (some ⟨gc, oc, none⟩) 1 ca) := (blk_cell HX2.out 5).trans rfl
  go_region_held3 (fun w' => w'.cell? ⟨w.heap.size, 2, none⟩ = some (.string s) ∧ w'.cell? ⟨w.heap.size, 5, none⟩ = some (.slice (some ⟨gc, oc, none⟩) 1 ca) ∧ w'.cell? ⟨gc, oc + 2, none⟩ = some (.string by_)) (first | (with_reducible exact ⟨p2, p5, p6⟩) | exact ⟨q2, q5, z2'⟩)
    (first
      | (go_at_call 125
         refine (utfSplit_any s by_ _ (by omega) hby (HT.out.below (below_drewN HB2.out 1))).mono ?_
         rintro e W3 ⟨rv, rfl, hro, hb⟩
         have hb' : Below W2.heap.size W2 W3 := ⟨hb.os, hb.tape, hb.output, hb.size, hb.block⟩
         have p2 : W3.cell? ⟨w.heap.size, 2, none⟩ = some (.string s) := (blk_cell (blk_below HX2.out hb') 2).trans rfl
         have p5 : W3.cell? ⟨w.heap.size, 5, none⟩ = some (.slice (some ⟨gc, oc, none⟩) 1 ca) := (blk_cell (blk_below HX2.out hb') 5).trans rfl
         have p6 : W3.cell? ⟨gc, oc + 2, none⟩ = some (.string by_) := cell_keep z2' hb'
         have hlen := pieces_len s by_ hby
         generalize hps : pieces s by_ = ps at *
         have HPS := Lib.hid hps; clear hps
         obtain ⟨A1, c1, rfl⟩ := own_shape hro
         have hro2 : W3.ownsRow W2.heap.size 9 1 (.slice A1 ps.length c1) ps.length (ps.map Value.string) := hro
         have HRO := Lib.hid (own_mono hro2 (base' := w.heap.size + 3) HSZ2.out)
         have HO := Lib.hid (own_below ho0 hb')
         have HX := Lib.hid (blk_below HX2.out hb')
         have HZ := Lib.hid (blk_below HZ2.out hb')
         have HB := Lib.hid (HB2.out.trans (hb'.mono HB2.out.size))
         have HSZ0 : Hid (w.heap.size + 3 ≤ W3.heap.size) := Lib.hid (Nat.le_trans HSZ2.out hb'.size)
         clear hro hro2 hb hb'))
  clear p2 p5 p6 q2 q5 z2' HX2 HZ2 HB2 HSZ2 ho0
  go_wp2_with fail
  go_loopw [4, 6, 22] (fun v _ i W => ∃ k : Nat, k ≤ ps.length ∧ i = .int .i64 k ∧ Hid (W.ownsRow (w.heap.size + 2) 25 5 v k ((ps.map textCs).take k).flatten) ∧ Hid (Below w.heap.size w W) ∧ Hid (W.heap[w.heap.size]? = some (Obj.cells #[.int .i64 4, .string n, .string s, .slice A li c, .slice B lk d, .slice (some ⟨gc, oc, none⟩) 1 ca] 55 (0, 0))) ∧ Hid (W.heap[w.heap.size + 1]? = some (Obj.cells #[.int .i64 0, .string ⟨#[]⟩, .string ⟨#[]⟩, .slice none 0 0, .slice none 0 0] 25 (0, 0))) ∧ Hid (W.ownsRow (w.heap.size + 3) 9 1 (.slice A1 ps.length c1) ps.length (ps.map Value.string)) ∧ Hid (w.heap.size + 3 ≤ W.heap.size)) (fun _ _ i _ => ps.length - (intOf i).toNat)
  case atStart => exact ⟨0, Nat.zero_le _, rfl, HO, HB, HX, HZ, HRO, HSZ0⟩
  case round =>
    clear HO HB HX HZ HRO HSZ0
    obtain ⟨k, hk, rfl, HO, HB, HX, HZ, HRO, HSZ⟩ := hrel
    by_cases hlt : k < ps.length
    · obtain ⟨g, cap, e, hc⟩ := own_at HRO.out hlt
      simp only [Value.slice.injEq] at e
      obtain ⟨rfl, _, rfl⟩ := e
      have hc' : wr.cell? ⟨g, k, none⟩ = some (.string ps[k]) := by rw [hc]; simp [hlt]
      clear hc
      have hE := flat_snoc textCs ps k hlt
      generalize ps[k] = r at *
      have HE := Lib.hid hE; clear hE
      go_wp2_with fail
      refine (primText_any r wr).mono ?_
      rintro e w1 ⟨rfl, hb1⟩
      have HO1 := Lib.hid (own_below HO.out hb1)
      have HB1 := Lib.hid (HB.out.trans (hb1.mono HB.out.size))
      have HX1 := Lib.hid (blk_below HX.out hb1)
      have HZ1 := Lib.hid (blk_below HZ.out hb1)
      have HRO1 := Lib.hid (own_below HRO.out hb1)
      have HSZ1 : Hid (w.heap.size + 3 ≤ w1.heap.size) := Lib.hid (Nat.le_trans HSZ.out hb1.size)
      clear hb1 hc'
      rw [textCs_arr]
      go_wp2_with (at_builtin; refine wpList_append_own _ rfl _ _ 22 rfl (w.heap.size + 2) 25 i0 _ 5 88 Tryz.underlying22 hi hz0 hz1 hz2 rfl (by decide) _ _ _ rfl (HO1.out.alloc _) ⟨w1.heap.size, 0, none⟩ 1 1 (textCs r) rfl ?qc1 ?qc2 ?qc3 ?qc4 ?qc5 ?qc6 ?_)
      case qc1 => rfl
      case qc2 => exact new_cells w1 (textCs r) 25
      case qc3 => intro u hu; simp [textCs] at hu; rcases hu with rfl | rfl | rfl | rfl | rfl <;> rfl
      case qc4 => have := hlen.1; simp only [maxLen]; omega
      case qc5 => have := hlen.1; omega
      case qc6 => have := HSZ1.out; simp; omega
      intro v' w2 hown hgrow _
      have hsz := HSZ1.out
      have HO2 : Hid (w2.ownsRow (w.heap.size + 2) 25 5 v' (k + 1) ((ps.map textCs).take (k + 1)).flatten) := Lib.hid (by rw [HE.out]; exact hown)
      have HB2 := Lib.hid ((HB1.out.alloc HB1.out.size _).grown hgrow (by simp; omega) (fun q hq => by have := (HO1.out.lt q hq).1; omega))
      have HX2 := Lib.hid ((hgrow.block _ (by simp; omega) (own_lt_ne HO1.out (by omega))).trans (blk_alloc HX1.out _))
      have HZ2 := Lib.hid ((hgrow.block _ (by simp; omega) (own_lt_ne HO1.out (by omega))).trans (blk_alloc HZ1.out _))
      have HRO2 := Lib.hid ((HRO1.out.alloc _).kept hgrow (own_ne_own HRO1.out HO1.out (by decide)))
      have HSZ2 : Hid (w.heap.size + 3 ≤ w2.heap.size) := Lib.hid (by have := hgrow.size; simp at this; omega)
      clear hown hgrow HO1 HB1 HX1 HZ1 HRO1 HSZ1 hsz
      go_wp2_with fail
      go_roundw
      case rel => exact ⟨k + 1, hlt, by go_num, HO2, HB2, HX2, HZ2, HRO2, HSZ2⟩
      case measure => simp [intOf]; omega
    · obtain rfl : k = ps.length := by omega
      have hC : C5 (From (w.heap.size + 2)) wr (ps.map textV) (ps.map textCs) := C5.flat textV textCs ps fun u hu => text_rep _ _ u (by
        have := hlen.2 u hu; omega)
      have hO2 := HO.out
      have hl2 : ps.length = (ps.map textV).length := by simp
      rw [List.take_of_length_le (by simp), hl2] at hO2
      clear hl2
      obtain ⟨A2, c2, rfl, hV⟩ := own_VSl (S' := From (w.heap.size + 2)) hO2 hC (by rw [List.length_map]; have := hlen.1; omega) (fun _ h => h) (fun q hq => (HO.out.lt q hq).1)
      have HV := Lib.hid hV; clear hV hC hO2 HO
      generalize his : ps.map textV = is at *
      have HIS := Lib.hid his; clear his
      go_wp2_with fail
      refine (primList_any A2 is.length c2 wr).mono ?_
      rintro e w1 ⟨rfl, hb⟩
      rw [listCs_arr]
      have HZ1 := Lib.hid (blk_below HZ.out hb)
      have HBB := Lib.hid hb
      clear hb
      have r0 : World.cell? (w1) ⟨w.heap.size + 1, 0, none⟩ = some (.int .i64 0) := (blk_cell HZ1.out 0).trans rfl
      have r1 : World.cell? (w1) ⟨w.heap.size + 1, 1, none⟩ = some (.string ⟨#[]⟩) := (blk_cell HZ1.out 1).trans rfl
      have r2 : World.cell? (w1) ⟨w.heap.size + 1, 2, none⟩ = some (.string ⟨#[]⟩) := (blk_cell HZ1.out 2).trans rfl
      have r3 : World.cell? (w1) ⟨w.heap.size + 1, 3, none⟩ = some (.slice none 0 0) := (blk_cell HZ1.out 3).trans rfl
      have r4 : World.cell? (w1) ⟨w.heap.size + 1, 4, none⟩ = some (.slice none 0 0) := (blk_cell HZ1.out 4).trans rfl
      have fr0 := blk_frozen HZ1.out 0
      have fr1 := blk_frozen HZ1.out 1
      have fr2 := blk_frozen HZ1.out 2
      have fr3 := blk_frozen HZ1.out 3
      have fr4 := blk_frozen HZ1.out 4
      go_wp2_with fail
      clear r0 r1 r2 r3 r4 fr0 fr1 fr2 fr3 fr4
      obtain ⟨e1, o1⟩ := set5_blk HZ1.out rfl (.int .i64 5) (.string ⟨#[]⟩) (.string ⟨#[]⟩) (.slice A2 is.length c2) (.slice none 0 0)
      have hV1 := (HV.out.below HBB.out).keep (S' := From w.heap.size) (fun g hg => by have : w.heap.size + 2 ≤ g := hg; show w.heap.size ≤ g; omega) (fun g hg => o1.rest g (by have : w.heap.size + 2 ≤ g := hg; omega))
      have HV1 := Lib.hid hV1
      have HF := Lib.hid (o1.from (HB.out.trans (HBB.out.mono HB.out.size)) (by omega))
      clear hV1 o1
      change bodyPost _ _ _ _ _ (set5 w1 (w.heap.size + 1) 0 _ _ _ _ _)
      exact bodyPost_ret (results_ct rfl _ _ (w.heap.size + 1) _ _ _ rfl e1 Tryz.underlying25 rfl (by kernel_rfl)) rfl ⟨listCs A2 is.length c2, rfl, by rw [HPS.out, HIS.out]; exact list_rep HV1.out, HF.out⟩
end Go.Proofs.YtojkmemkmcnlnaaGreatDoor
