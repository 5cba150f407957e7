/- slices.Reverse at runes; prim's reverse of a text. -/
import Derived.Test.YtojkmemkmcnlnaaGreatDoorPrimExp
import Derived.Lib.OwnBridge
import Derived.Sort.WalkB12
import Derived.Lib.SlicesMore
import Derived.BigRegion
set_option linter.unusedVariables false
namespace Go.Proofs.YtojkmemkmcnlnaaGreatDoor
open Go.RowKit Go.Shelf Go.Sort Go.Lib

abbrev encR : Nat → Value := fun r => Value.int .i32 (r : Int)
theorem runeCs_enc (rs : List Nat) : runeCs rs = rs.map encR := rfl
set_option maxHeartbeats 1600000 in
set_option maxRecDepth 1000000 in
theorem revRunes_arr (blk cap : Nat) (d : Array Nat) (w : World) (hH : Holds encR w blk 0 d) (hsz : d.size ≤ 9223372036854775807) :
    Calls Tryz.prog 130 #[.slice (some ⟨blk, 0, none⟩) d.size cap] w fun e w' => e = .returned (.tuple #[]) ∧ ∃ n, w' = putRow encR (Sort.ahead w n) blk 0 d.reverse := by
  go_enter Tryz.func130, Tryz.ntmps130
  go_wp2_with fail
  go_loopg [2, 3] d.size (fun k s2 s3 wr => ∃ (i jn : Nat) (jz : Int) (dk : Array Nat) (n : Nat), s2 = .int .i64 i ∧ s3 = .int .i64 jz ∧ ((i : Int) < jz → jz = jn ∧ jn < d.size) ∧ (¬ (i : Int) < jz → ¬ i < jn) ∧ jn - i ≤ k ∧
    dk.size = d.size ∧ wr = putRow encR (Sort.ahead w n) blk 0 dk ∧ reverseLoop i jn dk = reverseLoop 0 (d.size - 1) d)
  case atStart => exact ⟨0, d.size - 1, (d.size : Int) - 1, d, 0, rfl, rfl, fun h => ⟨by omega, by omega⟩, fun h => by omega, by omega, rfl, (putRow_self encR w blk 0 d hH).symm, rfl⟩
  case round =>
    obtain ⟨i, jn, jz, dk, n, rfl, rfl, h1, h2, hk, hds, hwr, heq⟩ := hrel
    by_cases hlt : (i : Int) < jz
    · obtain ⟨rfl, hjn⟩ := h1 hlt
      have hij : i < jn := by omega
      have hHk : Holds encR wr blk 0 dk := by rw [hwr]; exact holds_putRow encR _ blk 0 d dk (holds_ahead encR w n blk 0 d hH) hds
      obtain ⟨ci, fi⟩ := hHk i (by omega)
      obtain ⟨cj, fj⟩ := hHk jn (by omega)
      rw [Nat.zero_add] at ci fi cj fj
      have HW := Lib.hid hwr; clear hwr
      have HQ := Lib.hid heq; clear heq
      have HDS := Lib.hid hds
      generalize hdi : dk[i]! = di at ci
      generalize hdj : dk[jn]! = dj at cj
      have HDI := Lib.hid hdi; clear hdi
      have HDJ := Lib.hid hdj; clear hdj
      clear hHk hH h1 h2 hds
      go_wp2_with fail
      go_region
      all_goals
        go_wp2_with fail
        go_roundg (jn - 1 - (i + 1))
        case measure => omega
        case rel =>
          have heq := HQ.out
          rw [reverseLoop, if_pos hij] at heq
          have hds := HDS.out
          refine ⟨i + 1, jn - 1, (jn : Int) - 1, swp dk i jn, n + 1, by simp, rfl, fun h => ⟨by omega, by omega⟩, fun h => by omega, Nat.le_refl _, by rw [size_swp]; exact hds, ?_, heq⟩
          have hsw := swap_world (off := 0) (dk := dk) (i := i) (j := jn) encR (by omega) (by omega) HW.out (x := .int .i32 (dj : Int)) (y := .int .i32 (di : Int)) (by rw [HDJ.out]) (by rw [HDI.out])
          rw [Nat.zero_add, Nat.zero_add] at hsw
          exact hsw
    · have hnot := h2 hlt
      go_wp2_with fail
      go_end0
      refine ⟨rfl, n, ?_⟩
      rw [reverseLoop, if_neg hnot] at heq
      rw [← Lib.reverseLoop_reverse, ← heq]
set_option maxHeartbeats 1000000 in
theorem revRunes_nil (w : World) :
    Calls Tryz.prog 130 #[.slice none 0 0] w fun e w' => e = .returned (.tuple #[]) ∧ w' = w := by
  go_enter Tryz.func130, Tryz.ntmps130
  go_wp2
  go_loopg [2, 3] 0 (fun _ s2 s3 wr => s2 = .int .i64 0 ∧ s3 = .int .i64 (-1) ∧ wr = w)
  case atStart => exact ⟨rfl, rfl, rfl⟩
  case round =>
    obtain ⟨rfl, rfl, rfl⟩ := hrel
    go_wp2
    go_end0
    exact ⟨rfl, rfl⟩
theorem revRunes_any (rs : List Nat) (base : Nat) (v : Value) (w : World) (h : w.ownsRow base 21 1 v rs.length (runeCs rs)) (hl : rs.length ≤ 9223372036854775807) :
    Calls Tryz.prog 130 #[v] w fun e w' => e = .returned (.tuple #[]) ∧ w'.ownsRow base 21 1 v rs.length (runeCs rs.reverse) ∧ Below base w w' := by
  by_cases hv : v = .slice none 0 0
  · subst hv
    have h0 : rs = [] := by
      rcases h.2 with ⟨_, h0⟩ | ⟨g, cap, cur, e, _⟩
      · exact List.eq_nil_of_length_eq_zero h0
      · cases e
    subst h0
    exact (revRunes_nil w).mono fun e w' ⟨he, hw⟩ => ⟨he, by subst hw; exact h, by subst hw; exact Below.refl _ _⟩
  · rw [runeCs_enc] at h
    obtain ⟨g, cap, rfl, hb, hlt, hn, hm, _, hH⟩ := holds_of_ownsRow h hv
    have hc := revRunes_arr g cap rs.toArray w hH (by simpa using hl)
    rw [List.size_toArray] at hc
    refine hc.mono ?_
    rintro e w' ⟨he, q, rfl⟩
    have h2 := ownsRow_putRow (q := q) (k := rs.length) (ys := rs.reverse) h (by simp) (Nat.le_refl _)
    rw [List.take_of_length_le (by simp)] at h2
    rw [List.reverse_toArray]
    exact ⟨he, by rw [runeCs_enc]; exact h2, below_putRow (Below.refl _ _) hb⟩

set_option maxHeartbeats 4000000 in
set_option maxRecDepth 100000 in
theorem reverse_text (s n : ByteArray) (A B C : Option Addr) (li c lk d ia ca : Nat) (w : World) (hs : s.size ≤ 1000000) :
    Calls Tryz.prog 67 #[.agg #[.int .i64 4, .string n, .string s, .slice A li c, .slice B lk d, .slice C ia ca]] w fun e w' => e = .returned (.tuple #[.agg (textCs ⟨(turned s.data.toList).toArray⟩).toArray, .bool true]) ∧ Below w.heap.size w w' := by
  go_enter Tryz.func67, Tryz.ntmps67
  go_wp2_with fail
  generalize hX : Obj.cells #[.int .i64 4, .string n, .string s, .slice A li c, .slice B lk d, .slice C ia ca] 55 = X
  generalize hZ : Obj.cells #[.int .i64 0, .string ⟨#[]⟩, .string ⟨#[]⟩, .slice none 0 0, .slice none 0 0] 25 = Z
  have B1 := blk_new2 w X Z
  have hb0 : Below w.heap.size w ((w.alloc X).alloc Z) := ((Below.refl _ _).alloc (Nat.le_refl _) _).alloc (by simp) _
  have hs0 : ((w.alloc X).alloc Z).heap.size = w.heap.size + 2 := by simp
  generalize (w.alloc X).alloc Z = W0 at *
  subst hZ
  clear hX
  refine (runes_any s W0 (by omega)).mono ?_
  rintro e W1 ⟨rv, rfl, hro, hb1⟩
  have hrl := runes_len s.data.toList
  have hrk := runes_rev_ok s.data.toList
  have hsl : s.data.toList.length = s.size := by simp
  rw [hsl] at hrl
  clear hsl
  have HTU : Hid (turned s.data.toList = encs (runes s.data.toList).reverse) := Lib.hid rfl
  generalize runes s.data.toList = rs at *
  have HB := Lib.hid (hb0.trans (hb1.mono hb0.size))
  have HZ := Lib.hid (blk_below B1 hb1)
  have HRO := Lib.hid hro
  have hbase : w.heap.size + 2 = W0.heap.size := hs0.symm
  have HBS := Lib.hid hbase
  clear hro hb1 hb0 B1 hs0 hbase
  go_wp2_with fail
  refine (revRunes_any rs _ rv W1 HRO.out (by omega)).mono ?_
  rintro e W2 ⟨rfl, hro2, hb2⟩
  have HRO2 : Hid (W2.ownsRow W0.heap.size 21 1 rv rs.reverse.length (runeCs rs.reverse)) := Lib.hid (by rw [List.length_reverse]; exact hro2)
  have HB2 := Lib.hid (HB.out.trans (hb2.mono (by have := HBS.out; omega)))
  have HZ2 := Lib.hid ((hb2.block (w.heap.size + 1) (by have := HBS.out; omega)).trans HZ.out)
  have hsz2 : w.heap.size ≤ W2.heap.size := HB2.out.size
  clear hro2 hb2 HRO HB HZ
  go_wp2_with fail
  refine (utfText_any rs.reverse _ rv W2 HRO2.out hrk (by rw [List.length_reverse]; omega)).mono ?_
  rintro e W3 ⟨rfl, hb3⟩
  have HB3 := Lib.hid (HB2.out.trans (hb3.mono HB2.out.size))
  have HZ3 := Lib.hid (blk_below HZ2.out hb3)
  clear hb3 HRO2 HB2 HZ2 hrk
  generalize htx : (⟨(encs rs.reverse).toArray⟩ : ByteArray) = tx
  have HTX := Lib.hid htx; clear htx
  go_wp2_with fail
  refine (primText_any tx W3).mono ?_
  rintro e W4 ⟨rfl, hb4⟩
  have HB4 := Lib.hid (HB3.out.trans (hb4.mono HB3.out.size))
  have HZ4 := Lib.hid (blk_below HZ3.out hb4)
  clear hb4 HB3 HZ3
  rw [textCs_arr]
  have z0 : World.cell? (W4) ⟨w.heap.size + 1, 0, none⟩ = some (.int .i64 0) := (blk_cell HZ4.out 0).trans rfl
  have z1 : World.cell? (W4) ⟨w.heap.size + 1, 1, none⟩ = some (.string ⟨#[]⟩) := (blk_cell HZ4.out 1).trans rfl
  have z2 : World.cell? (W4) ⟨w.heap.size + 1, 2, none⟩ = some (.string ⟨#[]⟩) := (blk_cell HZ4.out 2).trans rfl
  have z3 : World.cell? (W4) ⟨w.heap.size + 1, 3, none⟩ = some (.slice none 0 0) := (blk_cell HZ4.out 3).trans rfl
  have z4 : World.cell? (W4) ⟨w.heap.size + 1, 4, none⟩ = some (.slice none 0 0) := (blk_cell HZ4.out 4).trans rfl
  have y0 := blk_frozen HZ4.out 0
  have y1 := blk_frozen HZ4.out 1
  have y2 := blk_frozen HZ4.out 2
  have y3 := blk_frozen HZ4.out 3
  have y4 := blk_frozen HZ4.out 4
  go_wp2_with fail
  clear z0 z1 z2 z3 z4 y0 y1 y2 y3 y4
  obtain ⟨e2, ho⟩ := set5_blk HZ4.out rfl (.int .i64 4) (.string ⟨#[]⟩) (.string tx) (.slice none 0 0) (.slice none 0 0)
  change bodyPost _ _ _ _ _ (set5 W4 (w.heap.size + 1) 0 _ _ _ _ _)
  exact bodyPost_ret (results_ct rfl _ _ (w.heap.size + 1) _ _ _ rfl e2 Tryz.underlying25 rfl (by kernel_rfl)) rfl ⟨by rw [HTU.out, HTX.out]; rfl, ho.from HB4.out (by omega)⟩
end Go.Proofs.YtojkmemkmcnlnaaGreatDoor
