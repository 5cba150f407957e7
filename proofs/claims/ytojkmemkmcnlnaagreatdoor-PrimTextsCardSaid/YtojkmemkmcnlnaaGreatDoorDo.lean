/- prim.Do over the contract of the primitive. -/
import Derived.Test.YtojkmemkmcnlnaaGreatDoorPrimAdd
import Derived.Test.YtojkmemkmcnlnaaGreatDoorNames
import Derived.Defers
import Derived.Recover
import Derived.Deep.CutBlock
namespace Go.Proofs.YtojkmemkmcnlnaaGreatDoor
open Go.RowKit Go.Shelf

set_option maxHeartbeats 1000000 in
set_option maxRecDepth 100000 in
theorem do2_idle (p q r : Value) (w : World) :
    CallsD Tryz.prog 34 #[p, q, r] .returning w fun e u' w' => e = .returned (.tuple #[]) ∧ u' = .returning ∧ w' = w := by
  refine callsD_of_wpS Tryz.func34 rfl fun c₀ cs hu => ?_
  apply wpS_seq
  apply wpS_region
  simp [wpOpsS, go_sem, recoverD, hu, Tryz.ntmps34, Exit.thenS]
  apply wpS_seq
  apply wpS_region
  simp [wpOpsS, go_sem, Exit.thenS]
  refine wpS_cond (t := false) (by simp [Act.eval, Array.replicate]) ?_
  simp only [Bool.false_eq_true, if_false]
  refine wpS_of_wp (wp_skip ?_)
  cases c₀
  simp_all [bodyPostS, results, Tryz.results34]

set_option maxHeartbeats 1000000 in
set_option maxRecDepth 100000 in
theorem do1_any (v : Val) (cs : List Value) (w : World) (h : Rep All w v cs) (hT : Tabs w) : Calls Tryz.prog 33 #[.agg cs.toArray] w fun e w' => e = .returned (.bool (!v.ok)) ∧ Below w.heap.size w w' := by
  obtain ⟨A, c, B, d, rfl, _⟩ := h.open_
  have H := Lib.hid h; clear h
  go_enter Tryz.func33, Tryz.ntmps33
  go_wp2_with fail
  refine (formed_any v _ _ (H.out.below ((Below.refl _ _).alloc (Nat.le_refl _) _)) (hT.alloc _)).mono ?_
  rintro e w1 ⟨rfl, hb⟩
  have hb1 : Below w.heap.size w w1 := ((Below.refl _ _).alloc (Nat.le_refl _) _).trans (hb.mono (by simp))
  go_wp2_with fail
  go_ret
  exact ⟨rfl, hb1⟩

/-- Older than a, or not older than b. -/
def Apart (a b : Nat) : Nat → Prop := fun g => g < a ∨ b ≤ g
/-- The four variables of prim.Do: its input, the two values of its answer, its word. -/
structure DoR (w W : World) (X Y Z : Array Value) (b : Bool) : Prop where
  below : Below w.heap.size w W
  size : w.heap.size + 4 ≤ W.heap.size
  b0 : W.heap[w.heap.size]? = some (.cells X 25 (0, 0))
  b1 : W.heap[w.heap.size + 1]? = some (.cells Y 25 (0, 0))
  b2 : W.heap[w.heap.size + 1 + 1]? = some (.cells Z 25 (0, 0))
  b3 : W.heap[w.heap.size + 1 + 1 + 1]? = some (.cells #[.bool b] 4 (0, 0))
theorem DoR.next {w W W' : World} {X Y Z : Array Value} {b : Bool} (h : DoR w W X Y Z b) (hb : Below W.heap.size W W') : DoR w W' X Y Z b :=
  ⟨h.below.trans (hb.mono h.below.size), Nat.le_trans h.size hb.size, blk_below h.b0 hb, blk_below h.b1 hb, blk_below h.b2 hb, blk_below h.b3 hb⟩
theorem DoR.start (w : World) (X Y Z : Array Value) (b : Bool) : DoR w ((((w.alloc (.cells X 25)).alloc (.cells Y 25)).alloc (.cells Z 25)).alloc (.cells #[.bool b] 4)) X Y Z b :=
  ⟨((((Below.refl _ _).alloc (Nat.le_refl _) _).alloc (by simp) _).alloc (by simp; omega) _).alloc (by simp; omega) _, by simp, blk_alloc (blk_alloc (blk_alloc (blk_new w _) _) _) _, blk_alloc (blk_alloc (blk_new2 w _ _) _) _, blk_alloc (blk_new3 w _ _ _) _, blk_new4 w _ _ _ _⟩
theorem DoR.store1 {w W W' : World} {X Y Z Y' : Array Value} {b : Bool} (h : DoR w W X Y Z b) (e : W'.heap[w.heap.size + 1]? = some (.cells Y' 25 (0, 0))) (ho : Only (w.heap.size + 1) W W') : DoR w W' X Y' Z b :=
  ⟨ho.from h.below (by omega), by rw [ho.size]; exact h.size, (ho.rest _ (by omega)).trans h.b0, e, (ho.rest _ (by omega)).trans h.b2, (ho.rest _ (by omega)).trans h.b3⟩
theorem DoR.store2 {w W W' : World} {X Y Z Z' : Array Value} {b : Bool} (h : DoR w W X Y Z b) (e : W'.heap[w.heap.size + 1 + 1]? = some (.cells Z' 25 (0, 0))) (ho : Only (w.heap.size + 1 + 1) W W') : DoR w W' X Y Z' b :=
  ⟨ho.from h.below (by omega), by rw [ho.size]; exact h.size, (ho.rest _ (by omega)).trans h.b0, (ho.rest _ (by omega)).trans h.b1, e, (ho.rest _ (by omega)).trans h.b3⟩
theorem DoR.store3 {w W : World} {X Y Z : Array Value} {b : Bool} (h : DoR w W X Y Z b) (b' : Bool) : DoR w (W.setCell ⟨w.heap.size + 1 + 1 + 1, 0, none⟩ (.bool b')) X Y Z b' :=
  have ho := only_setCell W (w.heap.size + 1 + 1 + 1) 0 (.bool b')
  ⟨ho.from h.below (by omega), by rw [ho.size]; exact h.size, (ho.rest _ (by omega)).trans h.b0, (ho.rest _ (by omega)).trans h.b1, (ho.rest _ (by omega)).trans h.b2, blk_set h.b3 0 _⟩
set_option maxHeartbeats 2000000 in
set_option maxRecDepth 100000 in
/-- prim.Do where the primitive makes a value that isn't too heavy. -/
theorem do_good (name : ByteArray) (v : Val) (cs : List Value) (args : List Val) (C : Option Addr) (c' : Nat) (w : World) (fid : FuncId) (h : Rep All w v cs) (hA : VSl All w args C c') (hT : Tabs w) (hs : name.size ≤ 140737488355328)
    (hk : kget tabL (keyB name args.length) = some (.func (.func fid) #[] #[])) (hok : v.ok = true) (hao : args.all Val.ok = true) (hent : ∀ (args : Array Value) (w : World), (callFunc fid args).run Tryz.prog w = .ok (.enter fid args) w) (rv : Val)
    (hm : ∀ W, Below w.heap.size w W → Calls Tryz.prog fid #[.agg (cs ++ [Value.slice C args.length c']).toArray] W fun e W' => ∃ ds, e = .returned (.tuple #[.agg ds.toArray, .bool true]) ∧ Rep (Apart w.heap.size W.heap.size) W' rv ds ∧ Below W.heap.size W W') (hw : rv.weight ≤ 1048576) :
    Calls Tryz.prog 21 #[.string name, .agg cs.toArray, .slice C args.length c'] w fun e w' => ∃ ds, e = .returned (.tuple #[.agg ds.toArray, .agg #[.int .i64 0, .string ⟨#[]⟩, .string ⟨#[]⟩, .slice none 0 0, .slice none 0 0], .bool true]) ∧ Rep (From w.heap.size) w' rv ds ∧ Below w.heap.size w w' := by
  obtain ⟨A, c, B, d, rfl, _⟩ := h.open_
  have hl : args.length ≤ 9223372036854775807 := by have := hA.2.2.1; omega
  have H := Lib.hid h; clear h
  have HA := Lib.hid hA; clear hA
  have HT := Lib.hid hT; clear hT
  have HK := Lib.hid hk; clear hk
  have HM := Lib.hid hm; clear hm
  have HN := Lib.hid hent; clear hent
  have hmf : ∀ (fn : Fn) (first cap : Array Value) (w : World), (Instr.makeFunc fn first cap).run Tryz.prog w = .ok (.func fn first cap) w := fun _ _ _ _ => rfl
  go_enter_defers Tryz.func21, Tryz.ntmps21
  go_wp2_with fail
  have hD := DoR.start w #[.int .i64 v.kind, .string v.num, .string v.text, .slice A v.items.length c, .slice B v.keys.length d] #[.int .i64 0, .string ⟨#[]⟩, .string ⟨#[]⟩, .slice none 0 0, .slice none 0 0] #[.int .i64 0, .string ⟨#[]⟩, .string ⟨#[]⟩, .slice none 0 0, .slice none 0 0] false
  have HD := Lib.hid hD; clear hD
  generalize (((w.alloc (.cells #[.int .i64 v.kind, .string v.num, .string v.text, .slice A v.items.length c, .slice B v.keys.length d] 25)).alloc (.cells #[.int .i64 0, .string ⟨#[]⟩, .string ⟨#[]⟩, .slice none 0 0, .slice none 0 0] 25)).alloc (.cells #[.int .i64 0, .string ⟨#[]⟩, .string ⟨#[]⟩, .slice none 0 0, .slice none 0 0] 25)).alloc (.cells #[.bool false] 4) = W0 at *
  refine (table_any W0).mono ?_
  rintro e W1 ⟨r, rfl, hr, _, hb1⟩
  have HD1 := Lib.hid (HD.out.next hb1); clear HD hb1
  have HR := Lib.hid hr; clear hr
  go_wp2_with fail
  refine (key_any name args.length W1 hs (by omega) (by omega) (HT.out.below HD1.out.below)).mono ?_
  rintro e W2 ⟨rfl, hb1⟩
  have hlk := look_tab W2 r (blk_below HR.out hb1) (keyB name args.length)
  rw [HK.out] at hlk
  have HD := Lib.hid (HD1.out.next hb1); clear HD1 hb1 HR
  simp only [Option.getD_some, Option.isSome_some] at hlk
  generalize keyB name args.length = K at hlk ⊢
  have q0 : W2.cell? ⟨w.heap.size, 0, none⟩ = some (.int .i64 v.kind) := (blk_cell HD.out.b0 0).trans rfl
  have q1 : W2.cell? ⟨w.heap.size, 1, none⟩ = some (.string v.num) := (blk_cell HD.out.b0 1).trans rfl
  have q2 : W2.cell? ⟨w.heap.size, 2, none⟩ = some (.string v.text) := (blk_cell HD.out.b0 2).trans rfl
  have q3 : W2.cell? ⟨w.heap.size, 3, none⟩ = some (.slice A v.items.length c) := (blk_cell HD.out.b0 3).trans rfl
  have q4 : W2.cell? ⟨w.heap.size, 4, none⟩ = some (.slice B v.keys.length d) := (blk_cell HD.out.b0 4).trans rfl
  go_wp2_with fail
  refine (formed_any v _ W2 (H.out.below HD.out.below) (HT.out.below HD.out.below)).mono ?_
  rw [hok]
  rintro e W3 ⟨rfl, hb1⟩
  have HD1 := Lib.hid (HD.out.next hb1); clear HD hb1 hlk q0 q1 q2 q3 q4
  go_wp2_with fail
  refine (containsFunc_any 33 #[] (enters_of Tryz.func33 (by kernel_rfl) rfl) (fun v => !v.ok) args C c' W3 (HA.out.below HD1.out.below) (fun x _ cs W hb hr => by simpa using do1_any x cs W hr (HT.out.below (HD1.out.next hb).below))).mono ?_
  have hany : (args.any fun v => !v.ok) = false := by rw [← Bool.not_eq_true]; intro h; obtain ⟨x, hx, h2⟩ := List.any_eq_true.1 h; have := List.all_eq_true.1 hao x hx; simp [this] at h2
  rw [hany]
  rintro e W4 ⟨rfl, hb1⟩
  have HD := Lib.hid (HD1.out.next hb1); clear HD1 hb1 hany
  have q0 : W4.cell? ⟨w.heap.size, 0, none⟩ = some (.int .i64 v.kind) := (blk_cell HD.out.b0 0).trans rfl
  have q1 : W4.cell? ⟨w.heap.size, 1, none⟩ = some (.string v.num) := (blk_cell HD.out.b0 1).trans rfl
  have q2 : W4.cell? ⟨w.heap.size, 2, none⟩ = some (.string v.text) := (blk_cell HD.out.b0 2).trans rfl
  have q3 : W4.cell? ⟨w.heap.size, 3, none⟩ = some (.slice A v.items.length c) := (blk_cell HD.out.b0 3).trans rfl
  have q4 : W4.cell? ⟨w.heap.size, 4, none⟩ = some (.slice B v.keys.length d) := (blk_cell HD.out.b0 4).trans rfl
  have hent := HN.out
  go_wp2_with fail
  refine (HM.out W4 HD.out.below).mono ?_
  rintro e W5 ⟨ds, rfl, hr, hb1⟩
  obtain ⟨A1, c1, B1, d1, rfl, _⟩ := hr.open_
  have hr1 : Rep (fun g => g < w.heap.size ∨ w.heap.size + 4 ≤ g) W5 rv _ := hr.wide fun g hg => hg.imp id fun h => Nat.le_trans HD.out.size h
  have HRV := Lib.hid hr1; clear hr hr1
  have HD1 := Lib.hid (HD.out.next hb1); clear HD hb1 q0 q1 q2 q3 q4 hent
  go_upto_region 6 with (refine wpList_store_blk rfl 25 _ _ rfl (w.heap.size + 1) _ _ _ rfl rfl HD1.out.b1 rfl (by kernel_rfl) (by simp [Value.oneCell']) ?_
                         intro W6 e6 ho
                         have HD2 := Lib.hid (HD1.out.store1 e6 ho)
                         have y0 : W6.cell? ⟨w.heap.size + 1 + 1 + 1, 0, none⟩ = some (.bool false) := (blk_cell HD2.out.b3 0).trans rfl
                         have y1 := blk_frozen HD2.out.b3 0
                         have HR6 : Hid (Rep (fun g => g < w.heap.size ∨ w.heap.size + 4 ≤ g) W6 rv [.int .i64 rv.kind, .string rv.num, .string rv.text, .slice A1 rv.items.length c1, .slice B1 rv.keys.length d1]) := Lib.hid (HRV.out.keep (fun _ h => h) fun g hg => ho.rest g (by omega))
                         clear e6 ho)
  clear y0 y1
  have HR7 := Lib.hid (HR6.out.keep (fun _ h => h) fun g hg => (only_setCell W6 (w.heap.size + 1 + 1 + 1) 0 (.bool true)).rest g (by omega))
  have HD3 := Lib.hid (HD2.out.store3 true)
  clear HD1 HD2 HRV HR6
  generalize W6.setCell ⟨w.heap.size + 1 + 1 + 1, 0, none⟩ (.bool true) = W7 at *
  have q0 : W7.cell? ⟨w.heap.size + 1, 0, none⟩ = some (.int .i64 rv.kind) := (blk_cell HD3.out.b1 0).trans rfl
  have q1 : W7.cell? ⟨w.heap.size + 1, 1, none⟩ = some (.string rv.num) := (blk_cell HD3.out.b1 1).trans rfl
  have q2 : W7.cell? ⟨w.heap.size + 1, 2, none⟩ = some (.string rv.text) := (blk_cell HD3.out.b1 2).trans rfl
  have q3 : W7.cell? ⟨w.heap.size + 1, 3, none⟩ = some (.slice A1 rv.items.length c1) := (blk_cell HD3.out.b1 3).trans rfl
  have q4 : W7.cell? ⟨w.heap.size + 1, 4, none⟩ = some (.slice B1 rv.keys.length d1) := (blk_cell HD3.out.b1 4).trans rfl
  have z0 : W7.cell? ⟨w.heap.size + 1 + 1 + 1, 0, none⟩ = some (.bool true) := (blk_cell HD3.out.b3 0).trans rfl
  go_wp2_with fail
  have hw2 : (rv.weight : Int) ≤ 1048576 := by omega
  refine (weight_any rv _ W7 HR7.out.all (by omega)).mono ?_
  rintro e W8 ⟨rfl, hb1⟩
  have HR8 := Lib.hid (HR7.out.below hb1)
  have HD := Lib.hid (HD3.out.next hb1)
  clear HD3 hb1 HR7 z0 q0 q1 q2 q3 q4
  have q0 : W8.cell? ⟨w.heap.size + 1, 0, none⟩ = some (.int .i64 rv.kind) := (blk_cell HD.out.b1 0).trans rfl
  have q1 : W8.cell? ⟨w.heap.size + 1, 1, none⟩ = some (.string rv.num) := (blk_cell HD.out.b1 1).trans rfl
  have q2 : W8.cell? ⟨w.heap.size + 1, 2, none⟩ = some (.string rv.text) := (blk_cell HD.out.b1 2).trans rfl
  have q3 : W8.cell? ⟨w.heap.size + 1, 3, none⟩ = some (.slice A1 rv.items.length c1) := (blk_cell HD.out.b1 3).trans rfl
  have q4 : W8.cell? ⟨w.heap.size + 1, 4, none⟩ = some (.slice B1 rv.keys.length d1) := (blk_cell HD.out.b1 4).trans rfl
  go_wp2_with fail
  refine (twin_any rv _ W8 HR8.out.all).mono ?_
  rintro e W9 ⟨cs', rfl, hr, hb1⟩
  obtain ⟨A2, c2, B2, d2, rfl, _⟩ := hr.open_
  have hsz := HD.out.size
  have hr9 : Rep (From (w.heap.size + 4)) W9 rv [.int .i64 rv.kind, .string rv.num, .string rv.text, .slice A2 rv.items.length c2, .slice B2 rv.keys.length d2] := hr.wide fun g hg => Nat.le_trans hsz hg
  have HR9 := Lib.hid hr9; clear hr hr9 hsz
  have HDa := Lib.hid (HD.out.next hb1); clear HD hb1 HR8 q0 q1 q2 q3 q4
  go_wp2_with (first
    | (refine wpList_store_blk rfl 25 _ _ rfl (w.heap.size + 1) _ _ _ rfl rfl HDa.out.b1 rfl (by kernel_rfl) (by simp [Value.oneCell']) ?_
       intro W10 e10 ho
       have HDb := Lib.hid (HDa.out.store1 e10 ho)
       have HR10 : Hid (Rep (From (w.heap.size + 4)) W10 rv [.int .i64 rv.kind, .string rv.num, .string rv.text, .slice A2 rv.items.length c2, .slice B2 rv.keys.length d2]) := Lib.hid (HR9.out.keep (fun _ h => h) fun g hg => ho.rest g (by have : w.heap.size + 4 ≤ g := hg; omega))
       clear e10 ho HDa HR9)
    | (refine wpList_store_blk rfl 25 _ _ rfl (w.heap.size + 1 + 1) _ _ _ rfl rfl HDb.out.b2 rfl (by kernel_rfl) (by simp [Value.oneCell']) ?_
       intro W11 e11 ho
       have HDc := Lib.hid (HDb.out.store2 e11 ho)
       have HR11 : Hid (Rep (From (w.heap.size + 4)) W11 rv [.int .i64 rv.kind, .string rv.num, .string rv.text, .slice A2 rv.items.length c2, .slice B2 rv.keys.length d2]) := Lib.hid (HR10.out.keep (fun _ h => h) fun g hg => ho.rest g (by have : w.heap.size + 4 ≤ g := hg; omega))
       have y0 : W11.cell? ⟨w.heap.size + 1 + 1 + 1, 0, none⟩ = some (.bool true) := (blk_cell HDc.out.b3 0).trans rfl
       have y1 := blk_frozen HDc.out.b3 0
       clear e11 ho HDb HR10))
  clear y0 y1
  have HR12 := Lib.hid (HR11.out.keep (S' := From w.heap.size) (fun g hg => by have : w.heap.size + 4 ≤ g := hg; show w.heap.size ≤ g; omega) fun g hg => (only_setCell W11 (w.heap.size + 1 + 1 + 1) 0 (.bool true)).rest g (by have : w.heap.size + 4 ≤ g := hg; omega))
  have HD12 := Lib.hid (HDc.out.store3 true)
  clear HDc HR11
  generalize W11.setCell ⟨w.heap.size + 1 + 1 + 1, 0, none⟩ (.bool true) = W12 at *
  have r0 : W12.cell? ⟨w.heap.size + 1, 0, none⟩ = some (.int .i64 rv.kind) := (blk_cell HD12.out.b1 0).trans rfl
  have r1 : W12.cell? ⟨w.heap.size + 1, 1, none⟩ = some (.string rv.num) := (blk_cell HD12.out.b1 1).trans rfl
  have r2 : W12.cell? ⟨w.heap.size + 1, 2, none⟩ = some (.string rv.text) := (blk_cell HD12.out.b1 2).trans rfl
  have r3 : W12.cell? ⟨w.heap.size + 1, 3, none⟩ = some (.slice A2 rv.items.length c2) := (blk_cell HD12.out.b1 3).trans rfl
  have r4 : W12.cell? ⟨w.heap.size + 1, 4, none⟩ = some (.slice B2 rv.keys.length d2) := (blk_cell HD12.out.b1 4).trans rfl
  have s0 : W12.cell? ⟨w.heap.size + 1 + 1, 0, none⟩ = some (.int .i64 0) := (blk_cell HD12.out.b2 0).trans rfl
  have s1 : W12.cell? ⟨w.heap.size + 1 + 1, 1, none⟩ = some (.string ⟨#[]⟩) := (blk_cell HD12.out.b2 1).trans rfl
  have s2 : W12.cell? ⟨w.heap.size + 1 + 1, 2, none⟩ = some (.string ⟨#[]⟩) := (blk_cell HD12.out.b2 2).trans rfl
  have s3 : W12.cell? ⟨w.heap.size + 1 + 1, 3, none⟩ = some (.slice none 0 0) := (blk_cell HD12.out.b2 3).trans rfl
  have s4 : W12.cell? ⟨w.heap.size + 1 + 1, 4, none⟩ = some (.slice none 0 0) := (blk_cell HD12.out.b2 4).trans rfl
  have t0 : W12.cell? ⟨w.heap.size + 1 + 1 + 1, 0, none⟩ = some (.bool true) := (blk_cell HD12.out.b3 0).trans rfl
  refine leaves_cons (f := 34) (args := #[.pointer (some ⟨w.heap.size + 1, 0, none⟩), .pointer (some ⟨w.heap.size + 1 + 1, 0, none⟩), .pointer (some ⟨w.heap.size + 1 + 1 + 1, 0, none⟩)]) (by simp) (by simp [go_sem]) ?_
  refine (do2_idle _ _ _ W12).mono ?_
  rintro e u' w'' ⟨rfl, rfl, rfl⟩
  refine ⟨_, ?_, _, rfl, HR12.out, HD12.out.below⟩
  simp only [results, Tryz.f21]
  go_simp
end Go.Proofs.YtojkmemkmcnlnaaGreatDoor
