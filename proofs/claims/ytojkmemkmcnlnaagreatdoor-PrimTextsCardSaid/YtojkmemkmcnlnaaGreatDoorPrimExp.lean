/- prim's explode: the runes of a text as numbers. -/
import Derived.Test.YtojkmemkmcnlnaaGreatDoorRunes1
import Derived.Test.YtojkmemkmcnlnaaGreatDoorMade
import Derived.Deep.RegionHeld3
set_option linter.unusedVariables false
namespace Go.Proofs.YtojkmemkmcnlnaaGreatDoor
open Go.RowKit Go.Shelf Go.Sort

theorem numCs_arr (u : Nat) : (numCs u).toArray = #[.int .i64 3, .string (numB u), .string ⟨#[]⟩, .slice none 0 0, .slice none 0 0] := rfl
theorem textCs_arr (s : ByteArray) : (textCs s).toArray = #[.int .i64 4, .string ⟨#[]⟩, .string s, .slice none 0 0, .slice none 0 0] := rfl
theorem listCs_arr (A : Option Addr) (n c : Nat) : (listCs A n c).toArray = #[.int .i64 5, .string ⟨#[]⟩, .string ⟨#[]⟩, .slice A n c, .slice none 0 0] := rfl
theorem new_cells (w : World) (cs : List Value) (t : TypeId) : ∀ (j : Nat) u, cs[j]? = some u → (w.alloc (.cells cs.toArray t)).cell? ((⟨w.heap.size, 0, none⟩ : Addr).add j) = some u := fun j u hj => by
  rw [Addr.add_lit, Nat.zero_add, blk_cell (blk_new w _)]
  simpa using hj
theorem own_ne_own {w : World} {b b' e e' s s' n n' : Nat} {v v' : Value} {xs xs' : List Value} (h : w.ownsRow b e s v n xs) (h' : w.ownsRow b' e' s' v' n' xs') (hne : e ≠ e') : v.ownBlock = none ∨ v.ownBlock ≠ v'.ownBlock := by
  rcases h.2 with ⟨rfl, _⟩ | ⟨g, cap, cur, rfl, _, hg, _⟩
  · exact .inl (by simp [Value.ownBlock])
  · rcases h'.2 with ⟨rfl, _⟩ | ⟨g', cap', cur', rfl, _, hg', _⟩
    · exact .inr (by simp [Value.ownBlock])
    · refine .inr ?_
      simp only [Value.ownBlock, ne_eq, Option.some.injEq]
      rintro rfl
      rw [hg] at hg'
      simp only [Option.some.injEq, Obj.cells.injEq] at hg'
      exact hne hg'.2.1
theorem own_lt_ne {w : World} {b e s n g : Nat} {v : Value} {xs : List Value} (h : w.ownsRow b e s v n xs) (hg : g < b) : some g ≠ v.ownBlock := by
  intro e
  have := (h.lt g e.symm).1
  omega
theorem C5.flat {S : Nat → Prop} {w : World} {α : Type} (f : α → Val) (g : α → List Value) (l : List α) (h : ∀ x ∈ l, Rep S w (f x) (g x)) : C5 S w (l.map f) (l.map g) := by
  refine ⟨by simp, fun i y hi => ?_⟩
  rw [List.getElem?_map, Option.map_eq_some_iff] at hi
  obtain ⟨x, hx, rfl⟩ := hi
  exact ⟨g x, by rw [List.getElem?_map, hx]; rfl, h x (List.mem_of_getElem? hx)⟩
/-- A row to which one more item is put. -/
theorem flat_snoc {α : Type} (g : α → List Value) (l : List α) (k : Nat) (h : k < l.length) : ((l.map g).take (k + 1)).flatten = ((l.map g).take k).flatten ++ g l[k] := by
  rw [List.take_succ_eq_append_getElem (by simpa using h)]; simp

set_option maxHeartbeats 4000000 in
set_option maxRecDepth 100000 in
theorem explode_any (s n : ByteArray) (A B C : Option Addr) (li c lk d ia ca : Nat) (w : World) (hs : s.size ≤ 1000000) (hT : Tabs w) :
    Calls Tryz.prog 58 #[.agg #[.int .i64 4, .string n, .string s, .slice A li c, .slice B lk d, .slice C ia ca]] w fun e w' => ∃ ds, e = .returned (.tuple #[.agg ds.toArray, .bool true]) ∧ Rep (From w.heap.size) w' (listV ((runes s.data.toList).map numV)) ds ∧ Below w.heap.size w w' := by
  obtain ⟨i0, hi, hz0, hz1, hz2⟩ := info_parts infoV
  have HT := Lib.hid hT; clear hT
  go_enter Tryz.func58, Tryz.ntmps58
  go_wp2_with fail
  generalize hX : Obj.cells #[.int .i64 4, .string n, .string s, .slice A li c, .slice B lk d, .slice C ia ca] 55 = X
  generalize hZ : Obj.cells #[.int .i64 0, .string ⟨#[]⟩, .string ⟨#[]⟩, .slice none 0 0, .slice none 0 0] 25 = Z
  have B0 : (((w.alloc X).alloc Z).alloc (.cells #[] 25)).heap[w.heap.size]? = some X := blk_alloc (heap_alloc2_old w X Z) _
  have B1 : (((w.alloc X).alloc Z).alloc (.cells #[] 25)).heap[w.heap.size + 1]? = some Z := blk_alloc (heap_alloc2_new w X Z) _
  have hb0 : Below w.heap.size w (((w.alloc X).alloc Z).alloc (.cells #[] 25)) := (((Below.refl _ _).alloc (Nat.le_refl _) _).alloc (by simp) _).alloc (by simp; omega) _
  have hs0 : (((w.alloc X).alloc Z).alloc (.cells #[] 25)).heap.size = w.heap.size + 3 := by simp
  have ho0 : (((w.alloc X).alloc Z).alloc (.cells #[] 25)).ownsRow (w.heap.size + 2) 25 5 (.slice (some ⟨w.heap.size + 1 + 1, 0, none⟩) 0 0) 0 [] := by
    have := World.ownsRow_made (base := w.heap.size + 2) (e := 25) (size := 5) ((w.alloc X).alloc Z) #[] 0 (by simp) (Nat.zero_le _) (by simp)
    simpa using this
  generalize ((w.alloc X).alloc Z).alloc (.cells #[] 25) = W0 at *
  subst hX hZ
  refine (runes_any s W0 (by omega)).mono ?_
  rintro e W1 ⟨rv, rfl, hro, hb1⟩
  have hrl := runes_len s.data.toList
  have hrk := runes_ok s.data.toList
  have hsl : s.data.toList.length = s.size := by simp
  rw [hsl] at hrl
  clear hsl
  generalize hrs : runes s.data.toList = rs at *
  have HRS := Lib.hid hrs; clear hrs
  obtain ⟨A1, c1, rfl⟩ := own_shape hro
  have HRK := Lib.hid hrk; clear hrk
  have HRO := Lib.hid (own_mono hro (base' := w.heap.size + 3) (by omega)); clear hro
  have HO := Lib.hid (own_below ho0 hb1); clear ho0
  have HX := Lib.hid (blk_below B0 hb1); clear B0
  have HZ := Lib.hid (blk_below B1 hb1); clear B1
  have HB := Lib.hid (hb0.trans (hb1.mono hb0.size))
  have HSZ0 : Hid (w.heap.size + 3 ≤ W1.heap.size) := Lib.hid (by have := hb1.size; omega)
  clear hb1 hb0 hs0
  go_wp2_with fail
  go_loopw [4, 6, 13] (fun v _ i W => ∃ k : Nat, k ≤ rs.length ∧ i = .int .i64 k ∧ Hid (W.ownsRow (w.heap.size + 2) 25 5 v k ((rs.map numCs).take k).flatten) ∧ Hid (Below w.heap.size w W) ∧ Hid (W.heap[w.heap.size]? = some (Obj.cells #[.int .i64 4, .string n, .string s, .slice A li c, .slice B lk d, .slice C ia ca] 55 (0, 0))) ∧ Hid (W.heap[w.heap.size + 1]? = some (Obj.cells #[.int .i64 0, .string ⟨#[]⟩, .string ⟨#[]⟩, .slice none 0 0, .slice none 0 0] 25 (0, 0))) ∧ Hid (W.ownsRow (w.heap.size + 3) 21 1 (.slice A1 rs.length c1) rs.length (runeCs rs)) ∧ Hid (w.heap.size + 3 ≤ W.heap.size)) (fun _ _ i _ => rs.length - (intOf i).toNat)
  case atStart => exact ⟨0, Nat.zero_le _, rfl, HO, HB, HX, HZ, HRO, HSZ0⟩
  case round =>
    clear HO HB HX HZ HRO HSZ0
    obtain ⟨k, hk, rfl, HO, HB, HX, HZ, HRO, HSZ⟩ := hrel
    by_cases hlt : k < rs.length
    · obtain ⟨g, cap, e, hc⟩ := own_at HRO.out hlt
      simp only [Value.slice.injEq] at e
      obtain ⟨rfl, _, rfl⟩ := e
      have hc' : wr.cell? ⟨g, k, none⟩ = some (.int .i32 (rs[k] : Int)) := by rw [hc]; simp [runeCs, hlt]
      clear hc
      have hok := HRK.out _ (List.getElem_mem hlt)
      have hE := flat_snoc numCs rs k hlt
      generalize rs[k] = r at *
      have HE := Lib.hid hE; clear hE
      have hrb : (r : Int) ≤ 1114111 := by unfold runeOk at hok; omega
      clear hok
      go_wp2_with fail
      refine (number_any r wr (by omega) (HT.out.below HB.out)).mono ?_
      rintro e w1 ⟨rfl, hb1⟩
      have HO1 := Lib.hid (own_below HO.out hb1)
      have HB1 := Lib.hid (HB.out.trans (hb1.mono HB.out.size))
      have HX1 := Lib.hid (blk_below HX.out hb1)
      have HZ1 := Lib.hid (blk_below HZ.out hb1)
      have HRO1 := Lib.hid (own_below HRO.out hb1)
      have HSZ1 : Hid (w.heap.size + 3 ≤ w1.heap.size) := Lib.hid (Nat.le_trans HSZ.out hb1.size)
      clear hb1 hc'
      rw [numCs_arr]
      go_wp2_with (at_builtin; refine wpList_append_own _ rfl _ _ 22 rfl (w.heap.size + 2) 25 i0 _ 5 88 Tryz.underlying22 hi hz0 hz1 hz2 rfl (by decide) _ _ _ rfl (HO1.out.alloc _) ⟨w1.heap.size, 0, none⟩ 1 1 (numCs r) rfl ?qc1 ?qc2 ?qc3 ?qc4 ?qc5 ?qc6 ?_)
      case qc1 => rfl
      case qc2 => exact new_cells w1 (numCs r) 25
      case qc3 => intro u hu; simp [numCs] at hu; rcases hu with rfl | rfl | rfl | rfl | rfl <;> rfl
      case qc4 => simp only [maxLen]; omega
      case qc5 => omega
      case qc6 => have := HSZ1.out; simp; omega
      intro v' w2 hown hgrow _
      have hsz := HSZ1.out
      have HO2 : Hid (w2.ownsRow (w.heap.size + 2) 25 5 v' (k + 1) ((rs.map numCs).take (k + 1)).flatten) := Lib.hid (by rw [HE.out]; exact hown)
      have HB2 := Lib.hid ((HB1.out.alloc HB1.out.size _).grown hgrow (by simp; omega) (fun q hq => by have := (HO1.out.lt q hq).1; omega))
      have HX2 := Lib.hid ((hgrow.block _ (by simp; omega) (own_lt_ne HO1.out (by omega))).trans (blk_alloc HX1.out _))
      have HZ2 := Lib.hid ((hgrow.block _ (by simp; omega) (own_lt_ne HO1.out (by omega))).trans (blk_alloc HZ1.out _))
      have HRO2 := Lib.hid ((HRO1.out.alloc _).kept hgrow (own_ne_own HRO1.out HO1.out (by decide)))
      have HSZ2 : Hid (w.heap.size + 3 ≤ w2.heap.size) := Lib.hid (by have := hgrow.size; simp at this; omega)
      clear hown hgrow HO1 HB1 HX1 HZ1 HRO1 HSZ1 hsz
      go_wp2_with fail
      go_roundw
      case rel => exact ⟨k + 1, hlt, by go_num, HO2, HB2, HX2, HZ2, HRO2, HSZ2⟩
      case measure => simp [intOf]; omega
    · obtain rfl : k = rs.length := by omega
      have hC : C5 (From (w.heap.size + 2)) wr (rs.map numV) (rs.map numCs) := C5.flat numV numCs rs fun u hu => num_rep _ _ u (by
        have := HRK.out u hu
        have h2 := dec_len u (by unfold runeOk at this; omega)
        rw [numB_size]; omega)
      have hO2 := HO.out
      have hl2 : rs.length = (rs.map numV).length := by simp
      rw [List.take_of_length_le (by simp), hl2] at hO2
      clear hl2
      obtain ⟨A2, c2, rfl, hV⟩ := own_VSl (S' := From (w.heap.size + 2)) hO2 hC (by rw [List.length_map]; omega) (fun _ h => h) (fun q hq => (HO.out.lt q hq).1)
      have HV := Lib.hid hV; clear hV hC hO2 HO
      have q0 : wr.cell? ⟨w.heap.size, 0, none⟩ = some (.int .i64 4) := (blk_cell HX.out 0).trans rfl
      have n1 : w.heap.size + 1 ≠ w.heap.size := by omega
      have HLS : Hid ((rs.map numV).length * 88 ≤ 140737488355328) := Lib.hid (by rw [List.length_map]; omega)
      generalize his : rs.map numV = is at *
      have HIS := Lib.hid his; clear his
      go_wp2_with fail
      go_region_held3 (fun w' => w'.cell? ⟨w.heap.size, 0, none⟩ = some (.int .i64 4)) (first | (simp only [World.cell?_setCell_far, n1, ne_eq, not_false_eq_true, p0]; done) | exact q0)
        (first
          | (go_at_call 108
             refine (primList_any _ _ _ _).mono ?_
             rintro e w1 ⟨rfl, hb⟩
             rw [listCs_arr]
             have hb' : Below wr.heap.size wr w1 := ⟨hb.os, hb.tape, hb.output, hb.size, hb.block⟩
             have p0 : w1.cell? ⟨w.heap.size, 0, none⟩ = some (.int .i64 4) := (blk_cell (blk_below HX.out hb') 0).trans rfl
             have HZ1 := Lib.hid (blk_below HZ.out hb')
             have r0 : World.cell? (w1) ⟨w.heap.size + 1, 0, none⟩ = some (.int .i64 0) := (blk_cell HZ1.out 0).trans rfl
             have r1 : World.cell? (w1) ⟨w.heap.size + 1, 1, none⟩ = some (.string ⟨#[]⟩) := (blk_cell HZ1.out 1).trans rfl
             have r2 : World.cell? (w1) ⟨w.heap.size + 1, 2, none⟩ = some (.string ⟨#[]⟩) := (blk_cell HZ1.out 2).trans rfl
             have r3 : World.cell? (w1) ⟨w.heap.size + 1, 3, none⟩ = some (.slice none 0 0) := (blk_cell HZ1.out 3).trans rfl
             have r4 : World.cell? (w1) ⟨w.heap.size + 1, 4, none⟩ = some (.slice none 0 0) := (blk_cell HZ1.out 4).trans rfl
             have fr0 := blk_frozen HZ1.out 0
             have fr1 := blk_frozen HZ1.out 1
             have fr2 := blk_frozen HZ1.out 2
             have fr3 := blk_frozen HZ1.out 3
             have fr4 := blk_frozen HZ1.out 4
             have HBB := Lib.hid hb'
             clear hb hb'))
      clear p0 q0 r0 r1 r2 r3 r4 fr0 fr1 fr2 fr3 fr4
      obtain ⟨e1, o1⟩ := set5_blk HZ1.out rfl (.int .i64 5) (.string ⟨#[]⟩) (.string ⟨#[]⟩) (.slice A2 is.length c2) (.slice none 0 0)
      have hV1 := (HV.out.below HBB.out).keep (S' := From w.heap.size) (fun g hg => by have : w.heap.size + 2 ≤ g := hg; show w.heap.size ≤ g; omega) (fun g hg => o1.rest g (by have : w.heap.size + 2 ≤ g := hg; omega))
      have HV1 := Lib.hid hV1
      have HF := Lib.hid (o1.from (HB.out.trans (HBB.out.mono HB.out.size)) (by omega))
      clear hV1 o1
      change Exit.then _ _ _ _ (set5 w1 (w.heap.size + 1) 0 _ _ _ _ _)
      generalize set5 w1 (w.heap.size + 1) 0 (.int .i64 5) (.string ⟨#[]⟩) (.string ⟨#[]⟩) (.slice A2 is.length c2) (.slice none 0 0) = W2 at *
      go_wp2_with fail
      exact bodyPost_ret (results_ct rfl _ _ (w.heap.size + 1) _ _ _ rfl e1 Tryz.underlying25 rfl (by kernel_rfl)) rfl ⟨listCs A2 is.length c2, rfl, by rw [HRS.out, HIS.out]; exact list_rep HV1.out, HF.out⟩
end Go.Proofs.YtojkmemkmcnlnaaGreatDoor
