/- prim's add, over the contract of each sum on its way. -/
import Derived.Test.YtojkmemkmcnlnaaGreatDoorArithDo
import Derived.Test.YtojkmemkmcnlnaaGreatDoorWeight
namespace Go.Proofs.YtojkmemkmcnlnaaGreatDoor
open Go.RowKit Go.Shelf

set_option maxHeartbeats 1000000 in
set_option maxRecDepth 100000 in
theorem all1_any (k : Int) (g : Nat) (v : Val) (cs : List Value) (w : World) (h : Rep All w v cs) (hg : w.cell? ⟨g, 0, none⟩ = some (.int .i64 k)) :
    Calls Tryz.prog 199 #[.agg cs.toArray, .pointer (some ⟨g, 0, none⟩)] w fun e w' => e = .returned (.bool (!decide (v.kind = k))) ∧ Below w.heap.size w w' := by
  obtain ⟨A, c, B, d, rfl, _⟩ := h.open_
  clear h
  go_enter Tryz.func199, Tryz.ntmps199
  have hg' : (w.alloc (Obj.cells #[.int .i64 v.kind, .string v.num, .string v.text, .slice A v.items.length c, .slice B v.keys.length d] 25)).cell? ⟨g, 0, none⟩ = some (.int .i64 k) := Lib.cell?_alloc_some _ hg
  by_cases hk : v.kind = k
  · subst hk
    go_wp2_with fail
    go_ret
    exact ⟨ret_bool (by simp), (Below.refl _ _).alloc (Nat.le_refl _) _⟩
  · go_wp2_with fail
    go_ret
    exact ⟨ret_bool (by simp [hk]), (Below.refl _ _).alloc (Nat.le_refl _) _⟩
set_option maxHeartbeats 1000000 in
set_option maxRecDepth 100000 in
theorem all_any (k q : Int) (n t : ByteArray) (is : List Val) (A B C : Option Addr) (c j d i' c' : Nat) (w : World) (h : VSl All w is A c) :
    Calls Tryz.prog 141 #[.agg #[.int .i64 q, .string n, .string t, .slice A is.length c, .slice B j d, .slice C i' c'], .int .i64 k] w fun e w' => e = .returned (.bool (is.all fun v => decide (v.kind = k))) ∧ Below w.heap.size w w' := by
  have H := Lib.hid h; clear h
  go_enter Tryz.func141, Tryz.ntmps141
  go_wp2_with fail
  generalize hX : Obj.cells #[.int .i64 q, .string n, .string t, .slice A is.length c, .slice B j d, .slice C i' c'] 55 = X
  have B1 := blk_new2 w X (Obj.cells #[.int .i64 k] 3)
  have hb0 : Below w.heap.size w ((w.alloc X).alloc (Obj.cells #[.int .i64 k] 3)) := ((Below.refl _ _).alloc (Nat.le_refl _) _).alloc (by simp) _
  generalize (w.alloc X).alloc (Obj.cells #[.int .i64 k] 3) = W at *
  clear hX
  refine (containsFunc_any 199 #[.pointer (some ⟨w.heap.size + 1, 0, none⟩)] (enters_of Tryz.func199 (by kernel_rfl) rfl) (fun v => !decide (v.kind = k)) is A c W (H.out.below hb0) (fun x _ cs W' hb hr => ?_)).mono ?_
  · have hq : W'.cell? ⟨w.heap.size + 1, 0, none⟩ = some (.int .i64 k) := (blk_cell (blk_below B1 hb) 0).trans rfl
    simpa using all1_any k (w.heap.size + 1) x cs W' hr hq
  · rintro e w1 ⟨rfl, hb⟩
    have hb1 := hb0.trans (hb.mono hb0.size)
    go_wp2_with fail
    go_ret
    exact ⟨ret_bool (by simp [List.all_eq_not_any_not]), hb1⟩

set_option maxHeartbeats 2000000 in
set_option maxRecDepth 100000 in
/-- add over an array of values that are neither all texts nor all arrays, where each sum on the way is known and light. -/
theorem add_any (vals : Nat → Val) (n t : ByteArray) (is : List Val) (A B C : Option Addr) (c j d i' c' : Nat) (w : World) (h : VSl All w is A c) (hT : Tabs w) (hn : 0 < is.length)
    (h4 : (is.all fun v => decide (v.kind = 4)) = false) (h5 : (is.all fun v => decide (v.kind = 5)) = false) (h0 : vals 0 = Val.zero)
    (hD : ∀ k (hk : k < is.length), ∀ W ca cb, Tabs W → Rep All W (vals k) ca → Rep All W is[k] cb → Calls Tryz.prog 144 #[.int .i64 14, .agg ca.toArray, .agg cb.toArray] W fun e W' => ∃ cs' ds, e = .returned (.tuple #[.agg cs'.toArray, .agg ds.toArray, .bool true]) ∧ Rep (From W.heap.size) W' (vals (k + 1)) cs' ∧ Rep All W' Val.zero ds ∧ Below W.heap.size W W')
    (hw : ∀ k, k ≤ is.length → (vals k).weight ≤ 1048576) :
    Calls Tryz.prog 77 #[.agg #[.int .i64 5, .string n, .string t, .slice A is.length c, .slice B j d, .slice C i' c']] w fun e w' => ∃ cs, e = .returned (.tuple #[.agg cs.toArray, .bool true]) ∧ Rep (From w.heap.size) w' (vals is.length) cs ∧ Below w.heap.size w w' := by
  have hl : is.length ≤ 9223372036854775807 := by have := h.2.2.1; omega
  have H := Lib.hid h; clear h
  have HT := Lib.hid hT; clear hT
  have H4 := Lib.hid h4; clear h4
  have H5 := Lib.hid h5; clear h5
  have HD := Lib.hid hD; clear hD
  have HW := Lib.hid hw; clear hw
  have hn' : (0 : Int) < ↑is.length := by omega
  go_enter Tryz.func77, Tryz.ntmps77
  go_wp2_with fail
  generalize hX : Obj.cells #[.int .i64 5, .string n, .string t, .slice A is.length c, .slice B j d, .slice C i' c'] 55 = X
  generalize hZ : Obj.cells #[.int .i64 0, .string ⟨#[]⟩, .string ⟨#[]⟩, .slice none 0 0, .slice none 0 0] 25 = Z
  have B0 : ((w.alloc X).alloc Z).heap[w.heap.size]? = some X := heap_alloc2_old w X Z
  have B1 : ((w.alloc X).alloc Z).heap[w.heap.size + 1]? = some Z := heap_alloc2_new w X Z
  have hb0 : Below w.heap.size w ((w.alloc X).alloc Z) := ((Below.refl _ _).alloc (Nat.le_refl _) _).alloc (by simp) _
  have hs0 : w.heap.size + 2 ≤ ((w.alloc X).alloc Z).heap.size := by simp
  generalize (w.alloc X).alloc Z = W0 at *
  subst hX hZ
  refine (all_any 4 5 n t is A B C c j d i' c' W0 (H.out.below hb0)).mono ?_
  rintro e W1 ⟨rfl, hb1⟩
  rw [H4.out]
  replace B0 := blk_below B0 hb1
  replace B1 := blk_below B1 hb1
  have hs1 : w.heap.size + 2 ≤ W1.heap.size := Nat.le_trans hs0 hb1.size
  replace hb0 := hb0.trans (hb1.mono hb0.size)
  clear hb1 hs0
  have q0 : W1.cell? ⟨w.heap.size, 0, none⟩ = some (.int .i64 5) := (blk_cell B0 0).trans rfl
  have q1 : W1.cell? ⟨w.heap.size, 1, none⟩ = some (.string n) := (blk_cell B0 1).trans rfl
  have q2 : W1.cell? ⟨w.heap.size, 2, none⟩ = some (.string t) := (blk_cell B0 2).trans rfl
  have q3 : W1.cell? ⟨w.heap.size, 3, none⟩ = some (.slice A is.length c) := (blk_cell B0 3).trans rfl
  have q4 : W1.cell? ⟨w.heap.size, 4, none⟩ = some (.slice B j d) := (blk_cell B0 4).trans rfl
  have q5 : W1.cell? ⟨w.heap.size, 5, none⟩ = some (.slice C i' c') := (blk_cell B0 5).trans rfl
  have HB0 := Lib.hid B0; clear B0
  have HB1 := Lib.hid B1; clear B1
  have HB := Lib.hid hb0; clear hb0
  go_wp2_with fail
  refine (all_any 5 5 n t is A B C c j d i' c' W1 (H.out.below HB.out)).mono ?_
  rintro e W2 ⟨rfl, hb1⟩
  rw [H5.out]
  have hs2 : w.heap.size + 2 ≤ W2.heap.size := Nat.le_trans hs1 hb1.size
  have B0 := blk_below HB0.out hb1
  have B1 := blk_below HB1.out hb1
  have hb2 := HB.out.trans (hb1.mono HB.out.size)
  clear HB0 HB1 HB hb1 hs1 q0 q1 q2 q3 q4 q5
  have q0 : W2.cell? ⟨w.heap.size, 0, none⟩ = some (.int .i64 5) := (blk_cell B0 0).trans rfl
  have q1 : W2.cell? ⟨w.heap.size, 1, none⟩ = some (.string n) := (blk_cell B0 1).trans rfl
  have q2 : W2.cell? ⟨w.heap.size, 2, none⟩ = some (.string t) := (blk_cell B0 2).trans rfl
  have q3 : W2.cell? ⟨w.heap.size, 3, none⟩ = some (.slice A is.length c) := (blk_cell B0 3).trans rfl
  have q4 : W2.cell? ⟨w.heap.size, 4, none⟩ = some (.slice B j d) := (blk_cell B0 4).trans rfl
  have q5 : W2.cell? ⟨w.heap.size, 5, none⟩ = some (.slice C i' c') := (blk_cell B0 5).trans rfl
  have HB0 := Lib.hid B0; clear B0
  have HB1 := Lib.hid B1; clear B1
  have HB := Lib.hid hb2; clear hb2
  have q3' := Lib.cell?_alloc_some (Obj.cells #[.int .i64 0, .string ⟨#[]⟩, .string ⟨#[]⟩, .slice none 0 0, .slice none 0 0] 25) q3
  go_wp2_with fail
  generalize hZ : Obj.cells #[.int .i64 0, .string ⟨#[]⟩, .string ⟨#[]⟩, .slice none 0 0, .slice none 0 0] 25 = Z
  have HS0 : Hid (∃ cs, Rep (From (W2.heap.size + 1)) (W2.alloc Z) (vals 0) cs ∧ (W2.alloc Z).heap[W2.heap.size]? = some (.cells cs.toArray 25 (0, 0))) := Lib.hid (by
    refine ⟨[.int .i64 0, .string ⟨#[]⟩, .string ⟨#[]⟩, .slice none 0 0, .slice none 0 0], ?_, ?_⟩
    · rw [h0]; exact Rep.zero _ _
    · subst hZ; exact blk_new W2 _)
  have HB1' := Lib.hid (blk_alloc HB1.out Z)
  have HBB := Lib.hid (HB.out.alloc HB.out.size Z)
  have hs3 : W2.heap.size + 1 ≤ (W2.alloc Z).heap.size := by simp
  generalize W2.alloc Z = W3 at *
  clear q0 q1 q2 q3 q4 q5 q3' HB0 HB1 HB hZ
  go_loopw [84] (fun i W => ∃ k : Nat, k ≤ is.length ∧ i = .int .i64 k ∧ Hid (∃ cs, Rep (From (W2.heap.size + 1)) W (vals k) cs ∧ W.heap[W2.heap.size]? = some (.cells cs.toArray 25 (0, 0))) ∧
    Hid (W.heap[w.heap.size + 1]? = some (.cells #[.int .i64 0, .string ⟨#[]⟩, .string ⟨#[]⟩, .slice none 0 0, .slice none 0 0] 25 (0, 0))) ∧ Hid (Below w.heap.size w W) ∧ Hid (W2.heap.size + 1 ≤ W.heap.size)) (fun i _ => is.length - (intOf i).toNat)
  case atStart => exact ⟨0, by omega, rfl, HS0, HB1', HBB, Lib.hid hs3⟩
  case round =>
    clear HS0 HB1' HBB hs3
    obtain ⟨k, hk, rfl, HS, HR, HB, HZ⟩ := hrel
    obtain ⟨ca, hra, hsum⟩ := HS.out
    obtain ⟨Aa, cca, Ba, da, rfl, _⟩ := hra.open_
    have s0 : wr.cell? ⟨W2.heap.size, 0, none⟩ = some (.int .i64 (vals k).kind) := (blk_cell hsum 0).trans rfl
    have s1 : wr.cell? ⟨W2.heap.size, 1, none⟩ = some (.string (vals k).num) := (blk_cell hsum 1).trans rfl
    have s2 : wr.cell? ⟨W2.heap.size, 2, none⟩ = some (.string (vals k).text) := (blk_cell hsum 2).trans rfl
    have s3 : wr.cell? ⟨W2.heap.size, 3, none⟩ = some (.slice Aa (vals k).items.length cca) := (blk_cell hsum 3).trans rfl
    have s4 : wr.cell? ⟨W2.heap.size, 4, none⟩ = some (.slice Ba (vals k).keys.length da) := (blk_cell hsum 4).trans rfl
    have HRA := Lib.hid hra; clear hra
    have HSM := Lib.hid hsum; clear hsum HS
    by_cases hlt : k < is.length
    · obtain ⟨g, o, Ab, cb, Bb, db, rfl, _, h0', h1, h2, h3, h4, hr⟩ := (H.out.below HB.out).at_ hlt
      have HRB := Lib.hid hr; clear hr
      have l2 : (0 : Int) ≤ ↑k := by omega
      have l3 : (k : Int) < ↑is.length := by omega
      generalize hY : Obj.cells #[.int .i64 (is[k]).kind, .string (is[k]).num, .string (is[k]).text, .slice Ab (is[k]).items.length cb, .slice Bb (is[k]).keys.length db] 25 = Y
      have t0 := Lib.cell?_alloc_some Y s0
      have t1 := Lib.cell?_alloc_some Y s1
      have t2 := Lib.cell?_alloc_some Y s2
      have t3 := Lib.cell?_alloc_some Y s3
      have t4 := Lib.cell?_alloc_some Y s4
      have HBA := Lib.hid ((Below.refl wr.heap.size wr).alloc (Nat.le_refl _) Y)
      subst hY
      clear s0 s1 s2 s3 s4
      go_wp2_with fail
      refine (HD.out k hlt _ _ _ (HT.out.below (HB.out.trans (HBA.out.mono HB.out.size))) (HRA.out.below HBA.out).all (HRB.out.below HBA.out)).mono ?_
      rintro e w4 ⟨cs', ds, rfl, hr1, hr2, hb4⟩
      obtain ⟨A1, c1, B1, d1, rfl, _⟩ := hr1.open_
      obtain ⟨A2, c2, B2, d2, rfl, _⟩ := hr2.open_
      have hwk := HW.out (k + 1) (by omega)
      have hwk2 : ((vals (k + 1)).weight : Int) ≤ 1048576 := by omega
      clear t0 t1 t2 t3 t4 h0' h1 h2 h3 h4
      have HR1 := Lib.hid hr1; clear hr1 hr2
      go_wp2_with fail
      generalize hX : Obj.cells #[.int .i64 (vals (k + 1)).kind, .string (vals (k + 1)).num, .string (vals (k + 1)).text, .slice A1 (vals (k + 1)).items.length c1, .slice B1 (vals (k + 1)).keys.length d1] 25 = X
      generalize hZ : Obj.cells #[.int .i64 Val.zero.kind, .string Val.zero.num, .string Val.zero.text, .slice A2 Val.zero.items.length c2, .slice B2 Val.zero.keys.length d2] 25 = Z
      have e13 := heap_alloc2_old w4 X Z
      have hb5 : Below w4.heap.size w4 ((w4.alloc X).alloc Z) := ((Below.refl _ _).alloc (Nat.le_refl _) _).alloc (by simp) _
      have hbW : Below wr.heap.size wr ((w4.alloc X).alloc Z) := (HBA.out.trans (hb4.mono HBA.out.size)).trans (hb5.mono (HBA.out.trans (hb4.mono HBA.out.size)).size)
      have hr5 := HR1.out.below hb5
      generalize (w4.alloc X).alloc Z = w5 at *
      subst hX
      clear hZ hb5
      refine (weight_any (vals (k + 1)) _ _ hr5.all (by omega)).mono ?_
      rintro e w6 ⟨rfl, hb6⟩
      have hr6 := hr5.below hb6
      replace e13 := blk_below e13 hb6
      have hbX := hbW.trans (hb6.mono hbW.size)
      clear hr5 hb6 hbW
      have x0 : w6.cell? ⟨w4.heap.size, 0, none⟩ = some (.int .i64 (vals (k + 1)).kind) := (blk_cell e13 0).trans rfl
      have x1 : w6.cell? ⟨w4.heap.size, 1, none⟩ = some (.string (vals (k + 1)).num) := (blk_cell e13 1).trans rfl
      have x2 : w6.cell? ⟨w4.heap.size, 2, none⟩ = some (.string (vals (k + 1)).text) := (blk_cell e13 2).trans rfl
      have x3 : w6.cell? ⟨w4.heap.size, 3, none⟩ = some (.slice A1 (vals (k + 1)).items.length c1) := (blk_cell e13 3).trans rfl
      have x4 : w6.cell? ⟨w4.heap.size, 4, none⟩ = some (.slice B1 (vals (k + 1)).keys.length d1) := (blk_cell e13 4).trans rfl
      have hsm := blk_below HSM.out hbX
      have HR6 := Lib.hid hr6; clear hr6 e13
      have HBX := Lib.hid hbX; clear hbX
      have hwrs := HZ.out
      have hw4 : wr.heap.size ≤ w4.heap.size := by have := (HBA.out.trans (hb4.mono HBA.out.size)).size; exact this
      clear hb4
      go_wp2_with (refine wpList_store_blk rfl 25 _ _ rfl W2.heap.size _ _ _ rfl rfl hsm rfl (by kernel_rfl) (by simp [Value.oneCell']) ?_)
      intro w7 e7 ho
      have hsy : (wr.alloc (Obj.cells #[.int .i64 (is[k]).kind, .string (is[k]).num, .string (is[k]).text, .slice Ab (is[k]).items.length cb, .slice Bb (is[k]).keys.length db] 25)).heap.size = wr.heap.size + 1 := by simp
      have hr7 := HR6.out.keep (S' := From (W2.heap.size + 1)) (fun g hg => by have h8 : (wr.alloc (Obj.cells #[.int .i64 (is[k]).kind, .string (is[k]).num, .string (is[k]).text, .slice Ab (is[k]).items.length cb, .slice Bb (is[k]).keys.length db] 25)).heap.size ≤ g := hg; show W2.heap.size + 1 ≤ g; omega)
        (fun g hg => ho.rest g (by have h8 : (wr.alloc (Obj.cells #[.int .i64 (is[k]).kind, .string (is[k]).num, .string (is[k]).text, .slice Ab (is[k]).items.length cb, .slice Bb (is[k]).keys.length db] 25)).heap.size ≤ g := hg; omega))
      have HS7 : Hid (∃ cs, Rep (From (W2.heap.size + 1)) w7 (vals (k + 1)) cs ∧ w7.heap[W2.heap.size]? = some (.cells cs.toArray 25 (0, 0))) := Lib.hid ⟨_, hr7, e7⟩
      have HR7 := Lib.hid ((ho.rest (w.heap.size + 1) (by omega)).trans (blk_below HR.out HBX.out))
      have HB7 := Lib.hid (ho.from (HB.out.trans (HBX.out.mono HB.out.size)) (by omega))
      have HZ7 : Hid (W2.heap.size + 1 ≤ w7.heap.size) := Lib.hid (by have h8 := HBX.out.size; rw [ho.size]; omega)
      clear hr7 e7 ho hsm x0 x1 x2 x3 x4 hsy
      go_wp2_with fail
      go_roundw
      case rel => exact ⟨k + 1, hlt, by go_num, HS7, HR7, HB7, HZ7⟩
      case measure => simp [intOf]; omega
    · obtain rfl : k = is.length := by omega
      have hr0 := HR.out
      go_wp2_with (refine wpList_store_blk rfl 25 _ _ rfl (w.heap.size + 1) _ _ _ rfl rfl hr0 rfl (by kernel_rfl) (by simp [Value.oneCell']) ?_)
      intro w5 e5 ho
      have hb5 := ho.from HB.out (by omega)
      have hrr := HRA.out.keep (S' := From w.heap.size) (fun g hg => by have : W2.heap.size + 1 ≤ g := hg; show w.heap.size ≤ g; omega) (fun g hg => ho.rest g (by have : W2.heap.size + 1 ≤ g := hg; omega))
      clear ho
      go_wp2_with fail
      exact bodyPost_ret (results_ct rfl _ _ (w.heap.size + 1) _ _ _ rfl e5 Tryz.underlying25 rfl (by kernel_rfl)) rfl ⟨_, rfl, hrr, hb5⟩
end Go.Proofs.YtojkmemkmcnlnaaGreatDoor
