/- prim.Names, hallmarkref21.Names, prim.Is, hallmarkref21.Is, hallmarkkit.SameStrings: the forty names. -/
import Derived.Test.YtojkmemkmcnlnaaGreatDoorTable
import Derived.Test.YtojkmemkmcnlnaaGreatDoorTabs
import Derived.Test.YtojkmemkmcnlnaaGreatDoorOwn
import Derived.Test.YtojkmemkmcnlnaaGreatDoorShelf
import Derived.Test.YtojkmemkmcnlnaaGreatDoorShelfI
import Derived.Shelf.Slices.In.SortNone
import Derived.Deep.QuietTactic
import Derived.BigQuiet
import Derived.Lib.ItoaLen
import Derived.Lib.SlicesS
namespace Go.Proofs.YtojkmemkmcnlnaaGreatDoor
open Go.RowKit Go.Maps Go.Sort Go.Shelf

/-- The names, rising. -/
def refL : List ByteArray := [
  ⟨#[95, 103, 114, 111, 117, 112, 95, 98, 121, 47, 49]⟩,
  ⟨#[95, 109, 97, 120, 95, 98, 121, 47, 49]⟩,
  ⟨#[95, 109, 105, 110, 95, 98, 121, 47, 49]⟩,
  ⟨#[95, 115, 111, 114, 116, 95, 98, 121, 47, 49]⟩,
  ⟨#[95, 117, 110, 105, 113, 117, 101, 95, 98, 121, 47, 49]⟩,
  ⟨#[97, 98, 115, 47, 48]⟩,
  ⟨#[97, 100, 100, 47, 48]⟩,
  ⟨#[97, 115, 99, 105, 105, 95, 100, 111, 119, 110, 99, 97, 115, 101, 47, 48]⟩,
  ⟨#[97, 115, 99, 105, 105, 95, 117, 112, 99, 97, 115, 101, 47, 48]⟩,
  ⟨#[99, 111, 110, 116, 97, 105, 110, 115, 47, 49]⟩,
  ⟨#[100, 101, 108, 112, 97, 116, 104, 115, 47, 49]⟩,
  ⟨#[101, 110, 100, 115, 119, 105, 116, 104, 47, 49]⟩,
  ⟨#[101, 120, 112, 108, 111, 100, 101, 47, 48]⟩,
  ⟨#[102, 108, 97, 116, 116, 101, 110, 47, 48]⟩,
  ⟨#[102, 114, 111, 109, 106, 115, 111, 110, 47, 48]⟩,
  ⟨#[103, 101, 116, 112, 97, 116, 104, 47, 49]⟩,
  ⟨#[104, 97, 115, 47, 49]⟩,
  ⟨#[105, 109, 112, 108, 111, 100, 101, 47, 48]⟩,
  ⟨#[105, 110, 100, 105, 99, 101, 115, 47, 49]⟩,
  ⟨#[106, 111, 105, 110, 47, 49]⟩,
  ⟨#[107, 101, 121, 115, 47, 48]⟩,
  ⟨#[108, 101, 110, 103, 116, 104, 47, 48]⟩,
  ⟨#[108, 116, 114, 105, 109, 115, 116, 114, 47, 49]⟩,
  ⟨#[109, 97, 120, 47, 48]⟩,
  ⟨#[109, 105, 110, 47, 48]⟩,
  ⟨#[110, 111, 116, 47, 48]⟩,
  ⟨#[114, 101, 118, 101, 114, 115, 101, 47, 48]⟩,
  ⟨#[114, 116, 114, 105, 109, 115, 116, 114, 47, 49]⟩,
  ⟨#[115, 101, 116, 112, 97, 116, 104, 47, 50]⟩,
  ⟨#[115, 111, 114, 116, 47, 48]⟩,
  ⟨#[115, 112, 108, 105, 116, 47, 49]⟩,
  ⟨#[115, 116, 97, 114, 116, 115, 119, 105, 116, 104, 47, 49]⟩,
  ⟨#[116, 111, 97, 114, 114, 97, 121, 47, 48]⟩,
  ⟨#[116, 111, 106, 115, 111, 110, 47, 48]⟩,
  ⟨#[116, 111, 110, 117, 109, 98, 101, 114, 47, 48]⟩,
  ⟨#[116, 111, 115, 116, 114, 105, 110, 103, 47, 48]⟩,
  ⟨#[116, 114, 97, 110, 115, 112, 111, 115, 101, 47, 48]⟩,
  ⟨#[116, 121, 112, 101, 47, 48]⟩,
  ⟨#[117, 110, 105, 113, 117, 101, 47, 48]⟩,
  ⟨#[117, 116, 102, 56, 98, 121, 116, 101, 108, 101, 110, 103, 116, 104, 47, 48]⟩]

/-- Whatever stands in the map counts for nothing. -/
def rAny : Value → Option (DataW Unit × List MemPlace) := fun _ => some (.nil, [])
theorem ents_mem {x : MapEntry} : ∀ {l : List (ByteArray × Value)} {i : Nat}, x ∈ ents i l → i ≤ x.born ∧ x.born < i + l.length ∧ ∃ p ∈ l, x.key = .string p.1
  | (k, v) :: l, i, h => by
    simp only [ents, List.mem_cons] at h
    rcases h with rfl | h
    · exact ⟨Nat.le_refl _, by simp, (k, v), by simp, rfl⟩
    · obtain ⟨h1, h2, p, hp, e⟩ := ents_mem h
      exact ⟨by omega, by simp; omega, p, by simp [hp], e⟩
theorem ents_born : ∀ (l : List (ByteArray × Value)) (i : Nat), ((ents i l).map (·.born)).Nodup
  | [], _ => by simp [ents]
  | (k, v) :: l, i => by
    simp only [ents, List.map_cons, List.nodup_cons]
    refine ⟨fun h => ?_, ents_born l (i + 1)⟩
    obtain ⟨x, hx, e⟩ := List.mem_map.1 h
    have := (ents_mem hx).1
    omega
theorem ents_keys : ∀ (l : List (ByteArray × Value)) (i : Nat), (ents i l).map (·.key) = l.map fun p => .string p.1
  | [], _ => rfl
  | (k, v) :: l, i => by simp [ents, ents_keys l]
theorem fit_mobj {l : List (ByteArray × Value)} (hl : l.length ≤ maxLen) (hs : ∀ p ∈ l, p.1.size ≤ maxLen) (hd : (l.map (·.1)).Nodup) : WideElems.Fit Tryz.prog 9 rAny (ents 0 l).toArray l.length := by
  refine ⟨by simpa [ents_length] using hl, ⟨?_, ?_, ?_⟩, ?_⟩
  · intro x hx
    have := ents_mem (l := l) (by simpa using hx)
    omega
  · simpa using ents_born l 0
  · have e : (ents 0 l).map (·.key) = (l.map (·.1)).map Value.string := by rw [ents_keys]; simp
    simp only [e]
    exact hd.map _ fun a b hab h => hab (by simpa using h)
  · intro x hx
    obtain ⟨_, _, p, hp, e⟩ := ents_mem (l := l) (by simpa using hx)
    exact ⟨(.string p.1.data.toList, .nil), by simp [WideElems.rd, e, WideMaps.keyOf_string_mk Tryz.underlying9 (hs p hp), rAny]⟩
theorem rg_ents : ∀ (l : List (ByteArray × Value)) (i : Nat), (∀ p ∈ l, p.1.size ≤ maxLen) → (ents i l).map (WideElems.rg Tryz.prog 9 rAny) = l.map fun p => (.string p.1.data.toList, .nil)
  | [], _, _ => rfl
  | (k, v) :: l, i, h => by
    simp only [ents, List.map_cons, rg_ents l (i + 1) (fun p hp => h p (by simp [hp]))]
    simp [WideElems.rg, WideElems.rd, WideMaps.keyOf_string_mk Tryz.underlying9 (h (k, v) (by simp)), rAny]
def datum (l : List (ByteArray × Value)) : DataW Unit := .map ((l.map fun p => ((.string p.1.data.toList : Lit), (.nil : DataW Unit))).foldr DataW.insert [])
theorem keys_datum (l : List (ByteArray × Value)) : (strKeys (datum l)).Perm (l.map (·.1.data.toList)) := by
  unfold datum strKeys
  refine ((WideShapes.sorted_perm _).map _).trans (List.Perm.of_eq ?_)
  simp [strOf]
theorem owns_mobj {w : World} {r : Nat} {l : List (ByteArray × Value)} (hr : w.heap[r]? = some (mobj l)) (hl : l.length ≤ maxLen) (hs : ∀ p ∈ l, p.1.size ≤ maxLen) (hd : (l.map (·.1)).Nodup) :
    w.ownsMap Tryz.prog 9 rAny r l.length (datum l) :=
  ⟨(ents 0 l).toArray, l.length, hr, fit_mobj hl hs hd, by simp [ents_length], by simp only [datum, ← rg_ents l 0 hs]⟩
theorem sorts_any (m : Nat) : AnyZ.SortsIn Tryz.prog Tryz.sorted26_ren Fence.wide m :=
  ⟨fun blk off cap ss W hH hblk hsz => callsIn_wide.2 (Any.slices_Sort_string Tryz.lays190 blk off cap ss W hH hblk hsz),
   fun p cap W => callsIn_wide.2 (Any.slices_Sort_string_none Tryz.lays190 p cap W)⟩

theorem tab_nodup : (tabL.map (·.1)).Nodup := by decide +kernel
theorem tab_size : ∀ p ∈ tabL, p.1.size ≤ maxLen := by decide +kernel
theorem tab_len : tabL.length = 40 := by decide +kernel
theorem ref_perm : (tabL.map (·.1.data.toList)).Perm (refL.map (·.data.toList)) := by decide +kernel
theorem ref_sorted : (refL.map (·.data.toList)).Pairwise (fun x y => (decide (x ≤ y) : Bool) = true) := by decide +kernel

theorem sorted_names {ss : List (List UInt8)} (h : ss.Perm (strKeys (datum tabL))) : ss.mergeSort (fun x y => decide (x ≤ y)) = refL.map (·.data.toList) := by
  have hp : (ss.mergeSort (fun x y => decide (x ≤ y))).Perm (refL.map (·.data.toList)) := ((List.mergeSort_perm _ _).trans h).trans ((keys_datum tabL).trans ref_perm)
  refine List.Perm.eq_of_pairwise (le := fun x y => (decide (x ≤ y) : Bool) = true) ?_ (List.pairwise_mergeSort ?_ ?_ _) ref_sorted hp
  · intro a b _ _ h1 h2
    exact List.le_antisymm (by simpa using h1) (by simpa using h2)
  · intro a b c h1 h2
    simp only [decide_eq_true_eq] at *
    exact List.le_trans h1 h2
  · intro a b
    simp only [Bool.or_eq_true, decide_eq_true_eq]
    exact List.le_total a b

set_option maxHeartbeats 1000000 in
theorem sorted_keys {H : Type} (b nn : Nat) (D0 : DataW H) (R : Value → Option (DataW H × List MemPlace)) (w : World) (hown : w.ownsMap Tryz.prog 9 R b nn D0) (hmax : Maps.size D0 ≤ maxLen) (hbytes : Maps.size D0 * 16 ≤ 140737488355328) :
    CallsIn Fence.wide 5 Tryz.prog 26 #[.func (.func 44) #[] #[.pointer (some ⟨w.heap.size, 0, none⟩)]] (w.alloc (.cells #[.map (some b)] 46)) fun e w' => ∃ (v : Value) (ss : List (List UInt8)), e = .returned v ∧ ss.Perm (strKeys D0) ∧
      w'.ownsRow (w.alloc (.cells #[.map (some b)] 46)).heap.size 9 1 v ss.length ((ss.mergeSort (fun x y => decide (x ≤ y))).map encStr) ∧ (v = .slice none 0 0 ↔ ss = []) ∧ Below (w.alloc (.cells #[.map (some b)] 46)).heap.size (w.alloc (.cells #[.map (some b)] 46)) w' := by
  have hbl := hown.lt
  have hseq : SeqGives Fence.wide 2 Tryz.prog 44 #[.pointer (some ⟨w.heap.size, 0, none⟩)] encStr (fun ss => ss.Perm (strKeys D0)) (Maps.size D0) (w.alloc (.cells #[.map (some b)] 46)) :=
    AnyZ.keys_gives (ρ := Tryz.keys27_ren) { Tryz.keys27 with } Fence.wide _ trivial rfl (by omega) w.heap.size b nn D0 _ (by simp) (by simp) (by
      obtain ⟨es, clock, hb, Ft, hs, hD⟩ := hown
      exact ⟨es, clock, (Below.heap_alloc _ _ b hbl).trans hb, Ft, hs, hD⟩)
  exact AnyZ.sorted_in Tryz.sorted26 Fence.wide 5 trivial trivial trivial trivial rfl (by omega) (sorts_any _) (enters_of Tryz.func43 (by kernel_rfl) rfl) 44 #[.pointer (some ⟨w.heap.size, 0, none⟩)] trivial (enters_of Tryz.func44 (by kernel_rfl) rfl) _ _ hmax hbytes _ hseq

set_option maxHeartbeats 1000000 in
set_option maxRecDepth 100000 in
theorem names_any (w : World) : Calls Tryz.prog 17 #[] w fun e w' => ∃ A c, e = .returned (.slice A 40 c) ∧ SSl (From w.heap.size) w' refL A c ∧ Below w.heap.size w w' := by
  go_enter Tryz.func17, Tryz.ntmps17
  go_wp2_with fail
  refine (table_any w).mono ?_
  rintro e w1 ⟨r, rfl, hr, hge, hb⟩
  have HR := Lib.hid hr; clear hr
  have HB := Lib.hid hb; clear hb
  go_wp2_with fail
  refine (callsIn_wide.1 (AnyZ.keys_in Tryz.keys27 Fence.wide 5 trivial rfl (some r) w1)).mono ?_
  rintro e w2 ⟨rfl, rfl⟩
  go_wp2_with fail
  have hsz : Maps.size (datum tabL) = 40 := by unfold datum; exact (DataW.length_sorted _).trans (by simp [tab_len])
  refine (callsIn_wide.1 (sorted_keys r 40 (datum tabL) rAny w1 (by have := owns_mobj HR.out (by rw [tab_len]; decide) tab_size tab_nodup; rwa [tab_len] at this) (by rw [hsz]; decide) (by rw [hsz]; decide))).mono ?_
  rintro e w2 ⟨v, ss, rfl, hp, hrow, _, hb2⟩
  rw [sorted_names hp] at hrow
  have hl : ss.length = 40 := by
    have h1 := hp.length_eq
    have h2 := (keys_datum tabL).length_eq
    rw [h1, h2, List.length_map, tab_len]
  have hsz2 : (w1.alloc (.cells #[.map (some r)] 46)).heap.size = w1.heap.size + 1 := by simp
  obtain ⟨A, c, rfl, hS⟩ := own_SSl (S := From w.heap.size) (ks := refL) (w := w2) (v := v) (base := (w1.alloc (.cells #[.map (some r)] 46)).heap.size) (e := 9) (by
    have e1 : (refL.map (·.data.toList)).map encStr = refL.map Value.string := by simp [encStr]
    rw [e1, hl] at hrow
    exact hrow) (by decide) (by decide +kernel) (fun g hg => by
      have h1 := (hrow.lt g hg).1
      have h2 := HB.out.size
      rw [hsz2] at h1
      show w.heap.size ≤ g
      omega)
  have HS := Lib.hid hS; clear hS
  have hb3 : Below w.heap.size w w2 := (HB.out.alloc HB.out.size _).trans (hb2.mono (by have := HB.out.size; rw [hsz2]; omega))
  have HB3 := Lib.hid hb3; clear hb3 hb2 hrow
  go_wp2_with fail
  go_ret
  exact ⟨A, c, rfl, HS.out, HB3.out⟩

theorem SSl.lit {S : Nat → Prop} (w : World) (ks : List ByteArray) (t : TypeId) (hS : S w.heap.size) (hl : ks.length * 16 ≤ 140737488355328) (hs : ∀ s ∈ ks, s.size ≤ 140737488355328) :
    SSl S (w.alloc (.cells (ks.map Value.string).toArray t)) ks (some ⟨w.heap.size, 0, none⟩) ks.length := by
  refine ⟨Nat.le_refl _, by omega, hl, hs, fun _ => ⟨w.heap.size, 0, rfl, hS, fun i s hi => ?_⟩⟩
  rw [blk_cell (blk_new w _)]
  simp [hi]
set_option maxHeartbeats 1000000 in
set_option maxRecDepth 100000 in
theorem refNames_any (w : World) : Calls Tryz.prog 18 #[] w fun e w' => ∃ A c, e = .returned (.slice A 40 c) ∧ SSl (From w.heap.size) w' refL A c ∧ Below w.heap.size w w' := by
  go_enter Tryz.func18, Tryz.ntmps18
  go_wp2_with fail
  change bodyPost _ _ _ _ _ (w.alloc (.cells (refL.map Value.string).toArray 9))
  have h1 : SSl (From w.heap.size) (w.alloc (.cells (refL.map Value.string).toArray 9)) refL (some ⟨w.heap.size, 0, none⟩) 40 := SSl.lit w refL 9 (Nat.le_refl _) (by decide) (by decide +kernel)
  have h2 : Below w.heap.size w (w.alloc (.cells (refL.map Value.string).toArray 9)) := (Below.refl _ _).alloc (Nat.le_refl _) _
  generalize w.alloc (.cells (refL.map Value.string).toArray 9) = w1 at h1 h2 ⊢
  go_ret
  exact ⟨_, _, rfl, h1, h2⟩
theorem below_grew (w : World) (k : Nat) (os : Array Obj) : Below w.heap.size w (grow (w.drewN k) os) :=
  ⟨rfl, rfl, rfl, by simp [grow, World.drewN], fun i hi => by simp only [grow]; exact Array.getElem?_append_left hi⟩
/-- name + "/" + arity. -/
def keyB (name : ByteArray) (n : Int) : ByteArray := name ++ ⟨#[47]⟩ ++ ⟨(Lib.itoa n).toArray⟩
set_option maxHeartbeats 1000000 in
set_option maxRecDepth 100000 in
theorem key_any (name : ByteArray) (n : Int) (w : World) (hs : name.size ≤ 140737488355328) (h0 : -9223372036854775808 ≤ n) (h1 : n ≤ 9223372036854775807) (ht : Tabs w) :
    Calls Tryz.prog 29 #[.string name, .int .i64 n] w fun e w' => e = .returned (.string (keyB name n)) ∧ Below w.heap.size w w' := by
  have hl := Lib.itoa_length_le n h0 h1
  go_enter Tryz.func29, Tryz.ntmps29
  go_wp2_with fail
  refine (Tryz.strconv_Itoa n h0 h1 w ht.pow).mono ?_
  rintro e w1 ⟨rfl, k, os, rfl⟩
  have hb : Below w.heap.size w (grow (w.drewN k) os) := below_grew w k os
  generalize grow (w.drewN k) os = w1 at hb ⊢
  go_wp2_with fail
  go_ret
  exact ⟨rfl, hb⟩

theorem kget_some (l : List (ByteArray × Value)) (k : ByteArray) : (kget l k).isSome = (l.map (·.1)).any (fun x => decide (x = k)) := by
  unfold kget
  induction l with
  | nil => rfl
  | cons p l ih =>
    simp only [List.find?_cons, List.map_cons, List.any_cons]
    by_cases h : p.1 = k
    · simp [h]
    · simpa [h] using ih
theorem tab_ref (k : ByteArray) : (kget tabL k).isSome = refL.any (fun x => decide (x = k)) := by
  have h1 : ∀ x ∈ tabL.map (·.1), x ∈ refL := fun x hx => by
    have h : (tabL.map (·.1)).all (fun x => refL.any fun y => decide (y = x)) = true := by decide +kernel
    obtain ⟨y, hy, e⟩ := List.any_eq_true.1 (List.all_eq_true.1 h x hx)
    rwa [← of_decide_eq_true e]
  have h2 : ∀ x ∈ refL, x ∈ tabL.map (·.1) := fun x hx => by
    have h : refL.all (fun x => (tabL.map (·.1)).any fun y => decide (y = x)) = true := by decide +kernel
    obtain ⟨y, hy, e⟩ := List.any_eq_true.1 (List.all_eq_true.1 h x hx)
    rwa [← of_decide_eq_true e]
  rw [kget_some, Bool.eq_iff_iff, List.any_eq_true, List.any_eq_true]
  constructor
  · rintro ⟨x, hx, e⟩; exact ⟨x, h1 x hx, e⟩
  · rintro ⟨x, hx, e⟩; exact ⟨x, h2 x hx, e⟩
theorem zeroDoes (w : World) : (zeroValue 48).run Tryz.prog w = .ok .nilFunc w := by kernel_rfl
theorem look_tab (w : World) (r : Nat) (hr : w.heap[r]? = some (mobj tabL)) (k : ByteArray) :
    (Instr.lookup 46 (.map (some r)) (.string k) true).run Tryz.prog w = .ok (.tuple #[(kget tabL k).getD .nilFunc, .bool (kget tabL k).isSome]) w :=
  run_lookup 46 9 48 Tryz.underlying46 Tryz.underlying9 .nilFunc w (zeroDoes w) r tabL hr k

set_option maxHeartbeats 1000000 in
set_option maxRecDepth 100000 in
theorem is_any (name : ByteArray) (n : Int) (w : World) (hs : name.size ≤ 140737488355328) (h0 : -9223372036854775808 ≤ n) (h1 : n ≤ 9223372036854775807) (ht : Tabs w) :
    Calls Tryz.prog 19 #[.string name, .int .i64 n] w fun e w' => e = .returned (.bool (kget tabL (keyB name n)).isSome) ∧ Below w.heap.size w w' := by
  go_enter Tryz.func19, Tryz.ntmps19
  go_wp2_with fail
  refine (table_any w).mono ?_
  rintro e w1 ⟨r, rfl, hr, hge, hb⟩
  have HR := Lib.hid hr; clear hr
  have HB := Lib.hid hb; clear hb
  go_wp2_with fail
  refine (key_any name n w1 hs h0 h1 (ht.below HB.out)).mono ?_
  rintro e w2 ⟨rfl, hb2⟩
  have hl := look_tab w2 r (blk_below HR.out hb2) (keyB name n)
  have hb3 := HB.out.trans (hb2.mono HB.out.size)
  clear HB hb2
  go_wp2_with fail
  go_ret
  exact ⟨rfl, hb3⟩
set_option maxHeartbeats 1000000 in
set_option maxRecDepth 100000 in
theorem refIs_any (name : ByteArray) (n : Int) (w : World) (hs : name.size ≤ 140737488355328) (h0 : -9223372036854775808 ≤ n) (h1 : n ≤ 9223372036854775807) (ht : Tabs w) :
    Calls Tryz.prog 20 #[.string name, .int .i64 n] w fun e w' => e = .returned (.bool (refL.any (fun x => decide (x = keyB name n)))) ∧ Below w.heap.size w w' := by
  have hl := Lib.itoa_length_le n h0 h1
  generalize hA : refL.any (fun x => decide (x = keyB name n)) = ANS
  have HA := Lib.hid hA; clear hA
  go_enter Tryz.func20, Tryz.ntmps20
  go_wp2_with fail
  refine (refNames_any w).mono ?_
  rintro e w1 ⟨A, c, rfl, hS, hb⟩
  have HS := Lib.hid hS; clear hS
  have HB := Lib.hid hb; clear hb
  go_wp2_with fail
  refine (Tryz.strconv_Itoa n h0 h1 w1 (ht.below HB.out).pow).mono ?_
  rintro e w2 ⟨rfl, k, os, rfl⟩
  have hb2 := below_grew w1 k os
  generalize grow (w1.drewN k) os = w2 at hb2 ⊢
  have HS2 := Lib.hid (HS.out.below hb2)
  have HB2 := Lib.hid (HB.out.trans (hb2.mono HB.out.size))
  clear hb2 HS HB
  go_wp2_with fail
  have HA' : Hid (refL.any (fun x => decide (x = name ++ ⟨#[47]⟩ ++ ⟨(Lib.itoa n).toArray⟩)) = ANS) := HA
  clear HA
  generalize name ++ ⟨#[47]⟩ ++ ⟨(Lib.itoa n).toArray⟩ = K at HA' ⊢
  go_loopw [7] (fun i W => ∃ k : Nat, k ≤ 40 ∧ i = .int .i64 k ∧ Hid ((refL.drop k).any (fun x => decide (x = K)) = ANS) ∧ W = w2) (fun i _ => 40 - (intOf i).toNat)
  case atStart => exact ⟨0, by omega, rfl, HA', rfl⟩
  case round =>
    clear HA'
    obtain ⟨k, hk, rfl, HR, rfl⟩ := hrel
    by_cases hlt : k < 40
    · obtain ⟨g, o, rfl, _, hc, hsz⟩ := HS2.out.at_ (i := k) (show k < refL.length from hlt)
      have hR := HR.out
      rw [List.drop_eq_getElem_cons (show k < refL.length from hlt), List.any_cons] at hR
      clear HR
      generalize refL[k] = X at hc hR
      have HR := Lib.hid hR; clear hR hsz
      by_cases he : X = K
      · subst he
        go_wp2_with fail
        go_ret
        exact ⟨ret_bool (by have := HR.out; simpa using this), HB2.out⟩
      · have he' : (X.toList == K.toList) = false := (Lib.bytes_beq_false_iff X K).2 he
        go_wp2_with fail
        go_roundw
        case rel => exact ⟨k + 1, by omega, by go_num, Lib.hid (by have := HR.out; simpa [he] using this), trivial⟩
        case measure => simp [intOf]; omega
    · obtain rfl : k = 40 := by omega
      have hR := HR.out
      rw [List.drop_of_length_le (show refL.length ≤ 40 from Nat.le_refl _)] at hR
      go_wp2_with fail
      go_ret
      exact ⟨ret_bool (by simpa using hR), HB2.out⟩

theorem eq_from {ks ls : List ByteArray} (hl : ks.length = ls.length) {k : Nat} (hk : k < ks.length) : decide (ks.drop k = ls.drop k) = (decide (ks[k] = ls[k]'(by omega)) && decide (ks.drop (k + 1) = ls.drop (k + 1))) := by
  rw [List.drop_eq_getElem_cons hk, List.drop_eq_getElem_cons (show k < ls.length by omega), Bool.eq_iff_iff]
  simp only [decide_eq_true_eq, Bool.and_eq_true, List.cons.injEq]
set_option maxHeartbeats 1000000 in
set_option maxRecDepth 100000 in
theorem sameStrings_any {S S' : Nat → Prop} (ks ls : List ByteArray) (A B : Option Addr) (c d : Nat) (w : World) (h : SSl S w ks A c) (h' : SSl S' w ls B d) :
    Calls Tryz.prog 16 #[.slice A ks.length c, .slice B ls.length d] w fun e w' => e = .returned (.bool (decide (ks = ls))) ∧ Below w.heap.size w w' := by
  have l1 : ks.length ≤ 9223372036854775807 := by have := h.2.2.1; omega
  have l2 : ls.length ≤ 9223372036854775807 := by have := h'.2.2.1; omega
  have H := Lib.hid h; clear h
  have H' := Lib.hid h'; clear h'
  by_cases hl : ks.length = ls.length
  · generalize hA : decide (ks = ls) = ANS
    have HA := Lib.hid hA; clear hA
    rw [← hl]
    have HL := Lib.hid hl; clear hl l2
    go_enter Tryz.func16, Tryz.ntmps16
    go_wp2_with fail
    go_loopw [5] (fun i W => ∃ k : Nat, k ≤ ks.length ∧ i = .int .i64 k ∧ Hid (decide (ks.drop k = ls.drop k) = ANS) ∧ Hid (Below w.heap.size w W)) (fun i _ => ks.length - (intOf i).toNat)
    case atStart => exact ⟨0, by omega, rfl, by simpa using HA, Lib.hid (Below.refl _ _)⟩
    case round =>
      clear HA
      obtain ⟨k, hk, rfl, HR, HB⟩ := hrel
      by_cases hlt : k < ks.length
      · obtain ⟨g, o, rfl, _, hc, hsz⟩ := (H.out.below HB.out).at_ (i := k) hlt
        obtain ⟨g', o', rfl, _, hc', hsz'⟩ := (H'.out.below HB.out).at_ (i := k) (by have := HL.out; omega)
        have hR := HR.out
        rw [eq_from HL.out hlt] at hR
        clear HR hsz hsz'
        generalize ks[k] = X at hc hR
        generalize ls[k]'(by have := HL.out; omega) = Y at hc' hR
        have HR := Lib.hid hR; clear hR
        have i0 : (0 : Int) ≤ ↑k := by omega
        have i1 : (k : Int) < ↑ks.length := by omega
        by_cases he : X = Y
        · subst he
          go_wp2_with fail
          go_quiet (fail)
          have HB2 := Lib.hid (below_drewN HB.out nq)
          go_wp2_with fail
          go_roundw
          case rel => exact ⟨k + 1, by omega, by go_num, Lib.hid (by have := HR.out; simpa using this), HB2⟩
          case measure => simp [intOf]; omega
        · have he' : (X.toList == Y.toList) = false := (Lib.bytes_beq_false_iff X Y).2 he
          go_wp2_with fail
          go_quiet (fail)
          have HB2 := Lib.hid (below_drewN HB.out nq)
          go_wp2_with fail
          go_ret
          exact ⟨ret_bool (by have := HR.out; simpa [he] using this), HB2.out⟩
      · obtain rfl : k = ks.length := by omega
        have hR := HR.out
        rw [List.drop_of_length_le (Nat.le_refl _), List.drop_of_length_le (by have := HL.out; omega)] at hR
        go_wp2_with fail
        go_ret
        exact ⟨ret_bool (by simpa using hR), HB.out⟩
  · have hne : decide (ks = ls) = false := decide_eq_false fun e => hl (by rw [e])
    have hl' : ¬ (ks.length : Int) = ↑ls.length := by omega
    rw [hne]
    go_enter Tryz.func16, Tryz.ntmps16
    go_wp2_with fail
    go_ret
    exact ⟨rfl, Below.refl _ _⟩
end Go.Proofs.YtojkmemkmcnlnaaGreatDoor
