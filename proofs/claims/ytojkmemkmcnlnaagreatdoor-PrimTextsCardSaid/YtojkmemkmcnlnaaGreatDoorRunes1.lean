/- prim.number, text, list; utf.Runes, proper, Text; prim.runeOf: what they answer. -/
import Derived.Test.YtojkmemkmcnlnaaGreatDoorShelfB
import Derived.Test.YtojkmemkmcnlnaaGreatDoorShelf
import Derived.Test.YtojkmemkmcnlnaaGreatDoorUtf
import Derived.Test.YtojkmemkmcnlnaaGreatDoorNums
import Derived.Test.YtojkmemkmcnlnaaGreatDoorNames
import Derived.Test.YtojkmemkmcnlnaaGreatDoorTwin
import Derived.Test.YtojkmemkmcnlnaaGreatDoorBlk
import Derived.Lib.OthersKept
import Derived.Lib.ConvBytes
import Derived.Lib.Small
set_option linter.unusedVariables false
namespace Go.Proofs.YtojkmemkmcnlnaaGreatDoor
open Go.RowKit Go.Shelf Go.Sort

def numCs (u : Nat) : List Value := [.int .i64 3, .string (numB u), .string ⟨#[]⟩, .slice none 0 0, .slice none 0 0]
def textCs (s : ByteArray) : List Value := [.int .i64 4, .string ⟨#[]⟩, .string s, .slice none 0 0, .slice none 0 0]
def listCs (A : Option Addr) (n c : Nat) : List Value := [.int .i64 5, .string ⟨#[]⟩, .string ⟨#[]⟩, .slice A n c, .slice none 0 0]
theorem num_rep (S : Nat → Prop) (w : World) (u : Nat) (h : (numB u).size ≤ 140737488355328) : Rep S w (numV u) (numCs u) := Rep.flat S w 3 (numB u) ⟨#[]⟩ h (by decide)
theorem text_rep (S : Nat → Prop) (w : World) (s : ByteArray) (h : s.size ≤ 140737488355328) : Rep S w (textV s) (textCs s) := Rep.flat S w 4 ⟨#[]⟩ s (by decide) h
theorem list_rep {S : Nat → Prop} {w : World} {is : List Val} {A : Option Addr} {c : Nat} (h : VSl S w is A c) : Rep S w (listV is) (listCs A is.length c) :=
  Rep.mk_ (v := listV is) (show (0 : Nat) ≤ 140737488355328 by decide) (show (0 : Nat) ≤ 140737488355328 by decide) h (SSl.nil S w none 0 (by omega))

set_option maxHeartbeats 1000000 in
set_option maxRecDepth 100000 in
theorem number_any (n : Nat) (w : World) (hn : n ≤ 9223372036854775807) (hT : Tabs w) :
    Calls Tryz.prog 104 #[.int .i64 n] w fun e w' => e = .returned (.agg (numCs n).toArray) ∧ Below w.heap.size w w' := by
  have HT := Lib.hid hT; clear hT
  go_enter Tryz.func104, Tryz.ntmps104
  go_wp2_with fail
  generalize hZ : Obj.cells #[.int .i64 0, .string ⟨#[]⟩, .string ⟨#[]⟩, .slice none 0 0, .slice none 0 0] 25 = Z
  have B0 := blk_new w Z
  have hb0 : Below w.heap.size w (w.alloc Z) := (Below.refl _ _).alloc (Nat.le_refl _) _
  have hs0 : w.heap.size + 1 ≤ (w.alloc Z).heap.size := by simp
  generalize w.alloc Z = W0 at *
  subst hZ
  refine (Tryz.strconv_Itoa n (by omega) (by omega) W0 (HT.out.below hb0).pow).mono ?_
  rintro e w1 ⟨rfl, k, os, rfl⟩
  have hb : Below W0.heap.size W0 (grow (W0.drewN k) os) := below_grew W0 k os
  rw [numB_itoa n]
  generalize grow (W0.drewN k) os = w1 at hb ⊢
  have B1 := blk_below B0 hb
  have hb1 := hb0.trans (hb.mono hb0.size)
  clear hb B0
  have z0 : w1.cell? ⟨w.heap.size, 0, none⟩ = some (.int .i64 0) := (blk_cell B1 0).trans rfl
  have z1 : w1.cell? ⟨w.heap.size, 1, none⟩ = some (.string ⟨#[]⟩) := (blk_cell B1 1).trans rfl
  have z2 : w1.cell? ⟨w.heap.size, 2, none⟩ = some (.string ⟨#[]⟩) := (blk_cell B1 2).trans rfl
  have z3 : w1.cell? ⟨w.heap.size, 3, none⟩ = some (.slice none 0 0) := (blk_cell B1 3).trans rfl
  have z4 : w1.cell? ⟨w.heap.size, 4, none⟩ = some (.slice none 0 0) := (blk_cell B1 4).trans rfl
  have y0 := blk_frozen B1 0
  have y1 := blk_frozen B1 1
  have y2 := blk_frozen B1 2
  have y3 := blk_frozen B1 3
  have y4 := blk_frozen B1 4
  have HB1 := Lib.hid B1; clear B1
  have HBB := Lib.hid hb1; clear hb1
  go_wp2_with fail
  clear z0 z1 z2 z3 z4 y0 y1 y2 y3 y4
  change bodyPost _ _ _ _ _ (set5 w1 w.heap.size 0 _ _ _ _ _)
  obtain ⟨e2, ho⟩ := set5_blk HB1.out rfl (.int .i64 3) (.string (numB n)) (.string ⟨#[]⟩) (.slice none 0 0) (.slice none 0 0)
  exact bodyPost_ret (results_cell_row rfl _ _ w.heap.size _ _ _ _ rfl e2 Tryz.underlying25 rfl (by kernel_rfl)) rfl ⟨rfl, ho.from HBB.out (Nat.le_refl _)⟩

set_option maxHeartbeats 1000000 in
set_option maxRecDepth 100000 in
theorem primText_any (s : ByteArray) (w : World) :
    Calls Tryz.prog 92 #[.string s] w fun e w' => e = .returned (.agg (textCs s).toArray) ∧ Below w.heap.size w w' := by
  go_enter Tryz.func92, Tryz.ntmps92
  go_wp2_with fail
  have B0 := blk_new w (.cells #[.int .i64 4, .string ⟨#[]⟩, .string s, .slice none 0 0, .slice none 0 0] 25)
  exact bodyPost_ret (results_cell_row rfl _ _ w.heap.size _ _ _ _ rfl B0 Tryz.underlying25 rfl (by kernel_rfl)) rfl ⟨rfl, (Below.refl _ _).alloc (Nat.le_refl _) _⟩
set_option maxHeartbeats 1000000 in
set_option maxRecDepth 100000 in
theorem primList_any (A : Option Addr) (n c : Nat) (w : World) :
    Calls Tryz.prog 108 #[.slice A n c] w fun e w' => e = .returned (.agg (listCs A n c).toArray) ∧ Below w.heap.size w w' := by
  go_enter Tryz.func108, Tryz.ntmps108
  go_wp2_with fail
  have B0 := blk_new w (.cells #[.int .i64 5, .string ⟨#[]⟩, .string ⟨#[]⟩, .slice A n c, .slice none 0 0] 25)
  exact bodyPost_ret (results_cell_row rfl _ _ w.heap.size _ _ _ _ rfl B0 Tryz.underlying25 rfl (by kernel_rfl)) rfl ⟨rfl, (Below.refl _ _).alloc (Nat.le_refl _) _⟩

theorem own_iterAt {w : World} {base e size n : Nat} {v : Value} {xs : List Value} (h : w.ownsRow base e size v n xs) {k : Nat} {s : ByteArray} {pos : Nat} (hk : w.heap[k]? = some (.stringIter s pos)) (pos' : Nat) : (w.iterAt k s pos').ownsRow base e size v n xs := by
  refine ⟨h.1, ?_⟩
  rcases h.2 with h0 | ⟨g, cap, cur, e, h1, h2, h3⟩
  · exact .inl h0
  · refine .inr ⟨g, cap, cur, e, h1, ?_, h3⟩
    rw [Lib.iterAt_other _ _ _ _ _ (by rintro rfl; rw [h2] at hk; cases hk)]
    exact h2
theorem own_ne_iter {w : World} {base e size n : Nat} {v : Value} {xs : List Value} (h : w.ownsRow base e size v n xs) {k : Nat} {s : ByteArray} {pos : Nat} (hk : w.heap[k]? = some (.stringIter s pos)) : some k ≠ v.ownBlock := by
  rcases h.2 with ⟨rfl, _⟩ | ⟨g, cap, cur, rfl, h1, h2, h3⟩
  · simp [Value.ownBlock]
  · intro hc
    have : k = g := by simpa [Value.ownBlock] using hc
    subst this
    rw [h2] at hk; cases hk
def runeCs (rs : List Nat) : List Value := rs.map fun r : Nat => Value.int .i32 (r : Int)
theorem runeCs_snoc (rs : List Nat) (r : Nat) : runeCs (rs ++ [r]) = runeCs rs ++ [.int .i32 (r : Int)] := by simp [runeCs]
theorem infoR : (Tryz.prog.info? 21).map (fun i => (i.zero, i.size, i.bytes)) = some (some (.int .i32 0), 1, 4) := by kernel_rfl

set_option maxHeartbeats 2000000 in
set_option maxRecDepth 100000 in
theorem runes_any (s : ByteArray) (w : World) (hs : s.size ≤ 17592186044416) :
    Calls Tryz.prog 119 #[.string s] w fun e w' => ∃ v', e = .returned v' ∧ w'.ownsRow w.heap.size 21 1 v' (runes s.data.toList).length (runeCs (runes s.data.toList)) ∧ Below w.heap.size w w' := by
  obtain ⟨i0, hi, hz0, hz1, hz2⟩ := info_parts infoR
  go_enter Tryz.func119, Tryz.ntmps119
  go_wp2_with fail
  go_loopw [3, 5] (fun v _ W => ∃ (pos : Nat) (done : List Nat), Hid (done ++ runes (s.data.toList.drop pos) = runes s.data.toList) ∧ done.length ≤ pos ∧ pos ≤ s.size ∧ Hid (W.ownsRow w.heap.size 21 1 v done.length (runeCs done)) ∧ Hid (W.heap[w.heap.size + 1]? = some (.stringIter s pos)) ∧ Hid (Below w.heap.size w W)) (fun _ _ W => s.size - W.iterPos (w.heap.size + 1))
  case atStart =>
    refine ⟨0, [], Lib.hid (by simp), Nat.le_refl _, Nat.zero_le _, Lib.hid ((World.ownsRow_made w #[] 0 (Nat.le_refl _) (Nat.zero_le _) (by simp)).alloc (.stringIter s 0)), Lib.hid ?_, Lib.hid (((Below.refl _ w).alloc (Nat.le_refl _) _).alloc (by simp) (.stringIter s 0))⟩
    have := World.iter_heap (w.alloc (.cells #[] 21)) s 0
    simpa using this
  case round =>
    obtain ⟨pos, done, HD, hdl, hps, HO, HI, HB⟩ := hrel
    have hit := HI.out
    by_cases hp : pos < s.size
    · have hnx : ∀ ty, (Instr.next (.pointer (some ⟨w.heap.size + 1, 0, none⟩)) true ty).run Tryz.prog wr = _ := fun ty => Lib.run_next_any_at wr (w.heap.size + 1) s pos ty hit hp
      have hne : s.data.toList.drop pos ≠ [] := by
        intro h0
        have := congrArg List.length h0
        simp at this; omega
      have hst := runes_step _ hne
      have hle := Lib.decodeL_le _ hne
      have hwd := Lib.decodeL_width (s.data.toList.drop pos)
      rw [Lib.decodeL_drop] at hst hle hwd
      rw [List.length_drop] at hle
      have hsl : s.data.toList.length = s.size := by simp
      rw [hsl] at hle
      obtain ⟨R, hR⟩ : ∃ R, (Utf8.decode s pos).1 = R := ⟨_, rfl⟩
      obtain ⟨K, hK⟩ : ∃ K, (Utf8.decode s pos).2 = K := ⟨_, rfl⟩
      rw [hR, hK] at hnx hst
      rw [hK] at hwd hle
      have HD2 : Hid ((done ++ [R]) ++ runes (s.data.toList.drop (pos + K)) = runes s.data.toList) := Lib.hid (by rw [← HD.out, hst, List.drop_drop]; simp)
      have HI2 := Lib.hid (Lib.iterAt_heap wr (w.heap.size + 1) s pos (pos + K) hit)
      have HO2 := Lib.hid (own_iterAt HO.out hit (pos + K))
      have HB2 := Lib.hid (Lib.below_iterAt HB.out (k := w.heap.size + 1) (by omega) s (pos + K))
      have HIP : Hid (wr.iterPos (w.heap.size + 1) = pos) := Lib.hid (by simp only [World.iterPos, hit])
      obtain ⟨W, hWd⟩ : ∃ W, wr.iterAt (w.heap.size + 1) s (pos + K) = W := ⟨_, rfl⟩
      rw [hWd] at hnx HI2 HO2 HB2
      have hWs : w.heap.size ≤ W.heap.size := HB2.out.size
      clear hst hR hK hit hne hWd hsl
      go_wp2_with (at_builtin; refine wpList_append_own _ rfl _ _ 89 rfl w.heap.size 21 i0 _ 1 4 Tryz.underlying89 hi hz0 hz1 hz2 rfl (by decide) _ _ _ rfl (HO2.out.alloc _) ⟨W.heap.size, 0, none⟩ 1 1 [.int .i32 (R : Int)] rfl ?qc1 ?qc2 ?qc3 ?qc4 ?qc5 ?qc6 ?_)
      case qc1 => rfl
      case qc2 =>
        intro j u hj
        match j, hj with
        | 0, hj => simp at hj; subst hj; simp [Addr.add]
        | (j + 1), hj => simp at hj
      case qc3 => intro u hu; simp at hu; subst hu; rfl
      case qc4 => simp only [maxLen]; omega
      case qc5 => omega
      case qc6 => simp; omega
      intro v' w1 hown hgrow _
      have HO3 : Hid (w1.ownsRow w.heap.size 21 1 v' (done ++ [R]).length (runeCs (done ++ [R]))) := Lib.hid (by rw [runeCs_snoc, List.length_append]; exact hown)
      have hI3 : w1.heap[w.heap.size + 1]? = some (.stringIter s (pos + K)) := by
        have hlt := blk_lt HI2.out
        rw [hgrow.block _ (by simp; omega) (own_ne_iter HO2.out HI2.out), Below.heap_alloc _ _ _ hlt]
        exact HI2.out
      have HI3 := Lib.hid hI3
      have HB3 := Lib.hid ((HB2.out.alloc hWs _).grown hgrow (by simp; omega) (fun k hk => (HO2.out.lt k hk).1))
      have HIQ : Hid (w1.iterPos (w.heap.size + 1) = pos + K) := Lib.hid (by simp only [World.iterPos, hI3])
      clear hown hgrow hI3 hnx
      go_wp2_with fail
      go_roundw
      case rel => exact ⟨pos + K, done ++ [R], HD2, by simp; omega, by omega, HO3, HI3, HB3⟩
      case measure => rw [HIP.out, HIQ.out]; omega
    · have hnx : ∀ ty, (Instr.next (.pointer (some ⟨w.heap.size + 1, 0, none⟩)) true ty).run Tryz.prog wr = _ := fun ty => Lib.run_next_end_at wr (w.heap.size + 1) s pos ty hit hp
      have hd := HD.out
      rw [List.drop_eq_nil_of_le (by simp; omega), runes_nil, List.append_nil] at hd
      subst hd
      clear HD
      go_wp2_with fail
      go_ret
      exact ⟨_, rfl, HO.out, HB.out⟩

set_option maxHeartbeats 1000000 in
theorem proper_ok (r : Nat) (w : World) (h : runeOk r) :
    Calls Tryz.prog 186 #[.int .i32 r] w fun e w' => e = .returned (.int .i32 r) ∧ w = w' := by
  have hv : Lib.validRune (r : Int) = true := by
    unfold runeOk at h
    simp only [Lib.validRune, decide_eq_true_eq]; omega
  have H := Lib.hid hv; clear hv h
  go_enter Tryz.func186, Tryz.ntmps186
  go_wp2_with (go_at_call 234; refine (Tryz.utf8_ValidRune _ _).mono ?_; rw [H.out]; rintro e w' ⟨rfl, rfl⟩)
  go_ret
  exact ⟨rfl, rfl⟩
theorem encs_take (rs : List Nat) (k : Nat) (h : k < rs.length) : encs (rs.take (k + 1)) = encs (rs.take k) ++ Lib.encodeRune (rs[k] : Int) := by
  rw [List.take_succ_eq_append_getElem h, encs_append]; simp [encs]
theorem own_at {w : World} {base e n : Nat} {v : Value} {xs : List Value} (h : w.ownsRow base e 1 v n xs) {k : Nat} (hk : k < n) : ∃ g cap, v = .slice (some ⟨g, 0, none⟩) n cap ∧ w.cell? ⟨g, k, none⟩ = xs[k]? := by
  rcases h.2 with ⟨_, h0⟩ | ⟨g, cap, cur, rfl, _⟩
  · omega
  · exact ⟨g, cap, rfl, h.cellAt k (by omega)⟩
set_option maxHeartbeats 2000000 in
set_option maxRecDepth 100000 in
theorem utfText_any (rs : List Nat) (base : Nat) (v : Value) (w : World) (h : w.ownsRow base 21 1 v rs.length (runeCs rs)) (hr : ∀ r ∈ rs, runeOk r) (hl : rs.length ≤ 17592186044416) :
    Calls Tryz.prog 121 #[v] w fun e w' => e = .returned (.string ⟨(encs rs).toArray⟩) ∧ Below w.heap.size w w' := by
  obtain ⟨A, c, rfl⟩ := own_shape h
  have H := Lib.hid h; clear h
  have HR := Lib.hid hr; clear hr
  go_enter Tryz.func121, Tryz.ntmps121
  go_wp2_with fail
  go_loopw [5, 9] (fun _ i W => ∃ k : Nat, k ≤ rs.length ∧ i = .int .i64 k ∧ Hid (Lib.IsBuilderF 117 5 w.heap.size w.heap.size (Lib.byteCells (encs (rs.take k))) W) ∧ Hid (Below w.heap.size w W)) (fun _ i _ => rs.length - (intOf i).toNat)
  case atStart => exact ⟨0, Nat.zero_le _, rfl, Lib.hid (Lib.IsBuilderF.of (Lib.fresh_isBuilder 117 5 w)), Lib.hid ((Below.refl _ _).alloc (Nat.le_refl _) _)⟩
  case round =>
    obtain ⟨k, hk, rfl, HI, HB⟩ := hrel
    have hsz := HB.out.size
    by_cases hlt : k < rs.length
    · obtain ⟨g, cap, e, hc⟩ := own_at (own_below H.out HB.out) hlt
      simp only [Value.slice.injEq] at e
      obtain ⟨rfl, _, rfl⟩ := e
      have hc' : wr.cell? ⟨g, k, none⟩ = some (.int .i32 (rs[k] : Int)) := by rw [hc]; simp [runeCs, hlt]
      clear hc
      have hok := HR.out _ (List.getElem_mem hlt)
      have hE := encs_take rs k hlt
      have hL : (encs (rs.take k)).length ≤ 4 * k := by
        have := encs_len (rs.take k) fun r hr' => HR.out r (List.mem_of_mem_take hr')
        rw [List.length_take] at this; omega
      generalize rs[k] = r at *
      have HE := Lib.hid hE; clear hE
      have HOK := Lib.hid hok
      have hrb : (r : Int) ≤ 1114111 := by unfold runeOk at hok; omega
      clear hok
      go_wp2_with fail
      refine (proper_ok r wr HOK.out).mono ?_
      rintro e w' ⟨rfl, rfl⟩
      go_wp2_with fail
      refine (Any.Builder_WriteRune_k Tryz.blays168 Tryz.bextra w.heap.size w.heap.size _ (r : Int) (by omega) (by omega) wr HI.out (by rw [Lib.byteCells_length]; omega) hsz).mono ?_
      rintro e w1 ⟨rfl, h1, b1, _⟩
      have HI1 : Hid (Lib.IsBuilderF 117 5 w.heap.size w.heap.size (Lib.byteCells (encs (rs.take (k + 1)))) w1) := Lib.hid (by rw [HE.out, Lib.byteCells_append, Lib.byteCells_encodeRune]; exact Or.inr h1)
      have HB1 := Lib.hid (HB.out.trans b1)
      clear h1 b1 hc'
      go_wp2_with fail
      go_roundw
      case rel => exact ⟨k + 1, hlt, by go_num, HI1, HB1⟩
      case measure => simp [intOf]; omega
    · obtain rfl : k = rs.length := by omega
      rw [List.take_length] at HI
      go_wp2_with fail
      refine (Any.Builder_String_any_k Tryz.blays169 Tryz.bextra w.heap.size w.heap.size (encs rs) wr HI.out hsz).mono ?_
      rintro e w1 ⟨rfl, _, b1, _⟩
      go_wp2_with fail
      go_ret
      exact ⟨rfl, HB.out.trans b1⟩
end Go.Proofs.YtojkmemkmcnlnaaGreatDoor
