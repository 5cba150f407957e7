/- arith.Do over the contract of one operation. -/
import Derived.Test.YtojkmemkmcnlnaaGreatDoorArith
import Derived.Test.YtojkmemkmcnlnaaGreatDoorTwin
import Derived.Deep.RegionLaw
import Derived.Shelf.Abstract
namespace Go.Proofs.YtojkmemkmcnlnaaGreatDoor
open Go.RowKit Go.Shelf

set_option maxHeartbeats 1000000 in
set_option maxRecDepth 100000 in
theorem right1_any (v : Val) (cs : List Value) (w : World) (h : Rep All w v cs) (hT : Tabs w) : Calls Tryz.prog 241 #[.agg cs.toArray] w fun e w' => e = .returned (.bool (!v.ok)) ∧ Below w.heap.size w w' := by
  obtain ⟨A, c, B, d, rfl, _⟩ := h.open_
  have H := Lib.hid h; clear h
  go_enter Tryz.func241, Tryz.ntmps241
  go_wp2_with fail
  refine (formed_any v _ _ (H.out.below ((Below.refl _ _).alloc (Nat.le_refl _) _)) (hT.alloc _)).mono ?_
  rintro e w1 ⟨rfl, hb⟩
  have hb1 : Below w.heap.size w w1 := ((Below.refl _ _).alloc (Nat.le_refl _) _).trans (hb.mono (by simp))
  go_wp2_with fail
  go_ret
  exact ⟨rfl, hb1⟩
set_option maxHeartbeats 1000000 in
set_option maxRecDepth 100000 in
theorem right_any (is : List Val) (A : Option Addr) (c : Nat) (w : World) (h : VSl All w is A c) (hT : Tabs w) : Calls Tryz.prog 201 #[.slice A is.length c] w fun e w' => e = .returned (.bool (is.all Val.ok)) ∧ Below w.heap.size w w' := by
  have H := Lib.hid (containsFunc_any 241 #[] (enters_of Tryz.func241 (by kernel_rfl) rfl) (fun v => !v.ok) is A c w h (fun x _ cs W hb hr => by simpa using right1_any x cs W hr (hT.below hb)))
  clear h
  go_enter Tryz.func201, Tryz.ntmps201
  go_wp2_with fail
  refine H.out.mono ?_
  rintro e w1 ⟨rfl, hb⟩
  go_wp2_with fail
  go_ret
  exact ⟨ret_bool (by simp [List.all_eq_not_any_not]), hb⟩
def opsV : List Value := [.func (.func 242) #[] #[], .func (.func 243) #[] #[], .func (.func 244) #[] #[], .func (.func 245) #[] #[], .func (.func 246) #[] #[], .func (.func 247) #[] #[],
  .func (.func 248) #[] #[], .func (.func 249) #[] #[], .func (.func 250) #[] #[], .func (.func 251) #[] #[], .func (.func 252) #[] #[]]
set_option maxHeartbeats 1000000 in
set_option maxRecDepth 100000 in
theorem operations_any (w : World) : Calls Tryz.prog 203 #[] w fun e w' => e = .returned (.agg opsV.toArray) ∧ Below w.heap.size w w' := by
  go_enter Tryz.func203, Tryz.ntmps203
  go_wp2_with (refine wpList_store_blk rfl 183 _ _ rfl w.heap.size _ _ _ rfl rfl (blk_new w _) rfl (by kernel_rfl) (by simp [Value.oneCell']) ?_)
  intro w2 h2 ho
  have hb2 := ho.from ((Below.refl _ w).alloc (Nat.le_refl _) _) (Nat.le_refl _)
  go_wp2_with fail
  exact bodyPost_ret (results_cell_row rfl _ _ w.heap.size _ _ _ _ rfl h2 Tryz.underlying183 rfl (by kernel_rfl)) rfl ⟨rfl, hb2⟩
set_option maxHeartbeats 1000000 in
set_option maxRecDepth 100000 in
theorem told_any (v fv : Val) (cs ds : List Value) (ok : Bool) (w : World) (h : Rep All w v cs) (h' : Rep All w fv ds) : Calls Tryz.prog 202 #[.agg (cs ++ ds ++ [Value.bool ok]).toArray] w fun e w' =>
    ∃ cs', e = .returned (.tuple #[.agg cs'.toArray, .agg ds.toArray, .bool ok]) ∧ Rep (From w.heap.size) w' v cs' ∧ Below w.heap.size w w' := by
  obtain ⟨A, c, B, d, rfl, _⟩ := h.open_
  obtain ⟨A', c', B', d', rfl, _⟩ := h'.open_
  have H := Lib.hid h; clear h
  clear h'
  go_enter Tryz.func202, Tryz.ntmps202
  go_wp2_with fail
  generalize hX : Obj.cells #[.int .i64 v.kind, .string v.num, .string v.text, .slice A v.items.length c, .slice B v.keys.length d, .int .i64 fv.kind, .string fv.num, .string fv.text, .slice A' fv.items.length c', .slice B' fv.keys.length d', .bool ok] 180 = X
  generalize hZ : Obj.cells #[.int .i64 0, .string ⟨#[]⟩, .string ⟨#[]⟩, .slice none 0 0, .slice none 0 0] 25 = Z
  have B0 : (((w.alloc X).alloc Z).alloc Z).heap[w.heap.size]? = some X := blk_alloc (heap_alloc2_old w X Z) Z
  have B1 : (((w.alloc X).alloc Z).alloc Z).heap[w.heap.size + 1]? = some Z := blk_alloc (heap_alloc2_new w X Z) Z
  have B2 : (((w.alloc X).alloc Z).alloc Z).heap[w.heap.size + 2]? = some Z := by have := blk_new ((w.alloc X).alloc Z) Z; simpa using this
  have hb0 : Below w.heap.size w (((w.alloc X).alloc Z).alloc Z) := (((Below.refl _ _).alloc (Nat.le_refl _) _).alloc (by simp) _).alloc (by simp; omega) _
  have hs0 : (((w.alloc X).alloc Z).alloc Z).heap.size = w.heap.size + 3 := by simp
  generalize ((w.alloc X).alloc Z).alloc Z = W at *
  subst hX hZ
  have q0 : W.cell? ⟨w.heap.size, 0, none⟩ = some (.int .i64 v.kind) := (blk_cell B0 0).trans rfl
  have q1 : W.cell? ⟨w.heap.size, 1, none⟩ = some (.string v.num) := (blk_cell B0 1).trans rfl
  have q2 : W.cell? ⟨w.heap.size, 2, none⟩ = some (.string v.text) := (blk_cell B0 2).trans rfl
  have q3 : W.cell? ⟨w.heap.size, 3, none⟩ = some (.slice A v.items.length c) := (blk_cell B0 3).trans rfl
  have q4 : W.cell? ⟨w.heap.size, 4, none⟩ = some (.slice B v.keys.length d) := (blk_cell B0 4).trans rfl
  have q5 : W.cell? ⟨w.heap.size, 5, none⟩ = some (.int .i64 fv.kind) := (blk_cell B0 5).trans rfl
  have q6 : W.cell? ⟨w.heap.size, 6, none⟩ = some (.string fv.num) := (blk_cell B0 6).trans rfl
  have q7 : W.cell? ⟨w.heap.size, 7, none⟩ = some (.string fv.text) := (blk_cell B0 7).trans rfl
  have q8 : W.cell? ⟨w.heap.size, 8, none⟩ = some (.slice A' fv.items.length c') := (blk_cell B0 8).trans rfl
  have q9 : W.cell? ⟨w.heap.size, 9, none⟩ = some (.slice B' fv.keys.length d') := (blk_cell B0 9).trans rfl
  have q10 : W.cell? ⟨w.heap.size, 10, none⟩ = some (.bool ok) := (blk_cell B0 10).trans rfl
  have HRP := Lib.hid (H.out.below hb0).drew
  have HB0 := Lib.hid B0; clear B0
  have HB1 := Lib.hid B1; clear B1
  have HB2 := Lib.hid B2; clear B2
  have HBW := Lib.hid hb0; clear hb0
  have n1 : w.heap.size + 1 ≠ w.heap.size := by omega
  have n2 : w.heap.size + 1 + 1 ≠ w.heap.size := by omega
  go_region_held3 (fun w' => w'.cell? ⟨w.heap.size, 0, none⟩ = some (.int .i64 v.kind) ∧ w'.cell? ⟨w.heap.size, 1, none⟩ = some (.string v.num) ∧ w'.cell? ⟨w.heap.size, 2, none⟩ = some (.string v.text) ∧ w'.cell? ⟨w.heap.size, 3, none⟩ = some (.slice A v.items.length c) ∧ w'.cell? ⟨w.heap.size, 4, none⟩ = some (.slice B v.keys.length d) ∧ w'.cell? ⟨w.heap.size, 5, none⟩ = some (.int .i64 fv.kind) ∧ w'.cell? ⟨w.heap.size, 6, none⟩ = some (.string fv.num) ∧ w'.cell? ⟨w.heap.size, 7, none⟩ = some (.string fv.text) ∧ w'.cell? ⟨w.heap.size, 8, none⟩ = some (.slice A' fv.items.length c') ∧ w'.cell? ⟨w.heap.size, 9, none⟩ = some (.slice B' fv.keys.length d') ∧ w'.cell? ⟨w.heap.size, 10, none⟩ = some (.bool ok)) (first | (simp only [World.cell?_setCell_far, n1, n2, ne_eq, not_false_eq_true, p0, p1, p2, p3, p4, p5, p6, p7, p8, p9, p10, and_self]; done) | exact ⟨q0, q1, q2, q3, q4, q5, q6, q7, q8, q9, q10⟩)
    (first
      | (go_at_call 37
         refine (twin_any v _ _ HRP.out).mono ?_
         rintro e w1 ⟨cs', rfl, hr, hb⟩
         obtain ⟨Ax, cx, Bx, dx, rfl, _⟩ := hr.open_
         have hb' : Below W.heap.size W w1 := ⟨hb.os, hb.tape, hb.output, hb.size, hb.block⟩
         have p0 : w1.cell? ⟨w.heap.size, 0, none⟩ = some (.int .i64 v.kind) := (blk_cell (blk_below HB0.out hb') 0).trans rfl
         have p1 : w1.cell? ⟨w.heap.size, 1, none⟩ = some (.string v.num) := (blk_cell (blk_below HB0.out hb') 1).trans rfl
         have p2 : w1.cell? ⟨w.heap.size, 2, none⟩ = some (.string v.text) := (blk_cell (blk_below HB0.out hb') 2).trans rfl
         have p3 : w1.cell? ⟨w.heap.size, 3, none⟩ = some (.slice A v.items.length c) := (blk_cell (blk_below HB0.out hb') 3).trans rfl
         have p4 : w1.cell? ⟨w.heap.size, 4, none⟩ = some (.slice B v.keys.length d) := (blk_cell (blk_below HB0.out hb') 4).trans rfl
         have p5 : w1.cell? ⟨w.heap.size, 5, none⟩ = some (.int .i64 fv.kind) := (blk_cell (blk_below HB0.out hb') 5).trans rfl
         have p6 : w1.cell? ⟨w.heap.size, 6, none⟩ = some (.string fv.num) := (blk_cell (blk_below HB0.out hb') 6).trans rfl
         have p7 : w1.cell? ⟨w.heap.size, 7, none⟩ = some (.string fv.text) := (blk_cell (blk_below HB0.out hb') 7).trans rfl
         have p8 : w1.cell? ⟨w.heap.size, 8, none⟩ = some (.slice A' fv.items.length c') := (blk_cell (blk_below HB0.out hb') 8).trans rfl
         have p9 : w1.cell? ⟨w.heap.size, 9, none⟩ = some (.slice B' fv.keys.length d') := (blk_cell (blk_below HB0.out hb') 9).trans rfl
         have p10 : w1.cell? ⟨w.heap.size, 10, none⟩ = some (.bool ok) := (blk_cell (blk_below HB0.out hb') 10).trans rfl
         have r0 : w1.cell? ⟨w.heap.size + 1, 0, none⟩ = some (.int .i64 0) := (blk_cell (blk_below HB1.out hb') 0).trans rfl
         have fr0 : w1.frozen? ⟨w.heap.size + 1, 0, none⟩ = false := blk_frozen (blk_below HB1.out hb') 0
         have r1 : w1.cell? ⟨w.heap.size + 1, 1, none⟩ = some (.string ⟨#[]⟩) := (blk_cell (blk_below HB1.out hb') 1).trans rfl
         have fr1 : w1.frozen? ⟨w.heap.size + 1, 1, none⟩ = false := blk_frozen (blk_below HB1.out hb') 1
         have r2 : w1.cell? ⟨w.heap.size + 1, 2, none⟩ = some (.string ⟨#[]⟩) := (blk_cell (blk_below HB1.out hb') 2).trans rfl
         have fr2 : w1.frozen? ⟨w.heap.size + 1, 2, none⟩ = false := blk_frozen (blk_below HB1.out hb') 2
         have r3 : w1.cell? ⟨w.heap.size + 1, 3, none⟩ = some (.slice none 0 0) := (blk_cell (blk_below HB1.out hb') 3).trans rfl
         have fr3 : w1.frozen? ⟨w.heap.size + 1, 3, none⟩ = false := blk_frozen (blk_below HB1.out hb') 3
         have r4 : w1.cell? ⟨w.heap.size + 1, 4, none⟩ = some (.slice none 0 0) := (blk_cell (blk_below HB1.out hb') 4).trans rfl
         have fr4 : w1.frozen? ⟨w.heap.size + 1, 4, none⟩ = false := blk_frozen (blk_below HB1.out hb') 4
         have s0 : w1.cell? ⟨w.heap.size + 1 + 1, 0, none⟩ = some (.int .i64 0) := (blk_cell (blk_below HB2.out hb') 0).trans rfl
         have fs0 : w1.frozen? ⟨w.heap.size + 1 + 1, 0, none⟩ = false := blk_frozen (blk_below HB2.out hb') 0
         have s1 : w1.cell? ⟨w.heap.size + 1 + 1, 1, none⟩ = some (.string ⟨#[]⟩) := (blk_cell (blk_below HB2.out hb') 1).trans rfl
         have fs1 : w1.frozen? ⟨w.heap.size + 1 + 1, 1, none⟩ = false := blk_frozen (blk_below HB2.out hb') 1
         have s2 : w1.cell? ⟨w.heap.size + 1 + 1, 2, none⟩ = some (.string ⟨#[]⟩) := (blk_cell (blk_below HB2.out hb') 2).trans rfl
         have fs2 : w1.frozen? ⟨w.heap.size + 1 + 1, 2, none⟩ = false := blk_frozen (blk_below HB2.out hb') 2
         have s3 : w1.cell? ⟨w.heap.size + 1 + 1, 3, none⟩ = some (.slice none 0 0) := (blk_cell (blk_below HB2.out hb') 3).trans rfl
         have fs3 : w1.frozen? ⟨w.heap.size + 1 + 1, 3, none⟩ = false := blk_frozen (blk_below HB2.out hb') 3
         have s4 : w1.cell? ⟨w.heap.size + 1 + 1, 4, none⟩ = some (.slice none 0 0) := (blk_cell (blk_below HB2.out hb') 4).trans rfl
         have fs4 : w1.frozen? ⟨w.heap.size + 1 + 1, 4, none⟩ = false := blk_frozen (blk_below HB2.out hb') 4
         have HRR := Lib.hid hr
         have HBB := Lib.hid hb'
         clear hr hb hb'))
  clear p0 p1 p2 p3 p4 p5 p6 p7 p8 p9 p10 q0 q1 q2 q3 q4 q5 q6 q7 q8 q9 q10
  clear r0 r1 r2 r3 r4 s0 s1 s2 s3 s4 fr0 fr1 fr2 fr3 fr4 fs0 fs1 fs2 fs3 fs4
  obtain ⟨e1, o1⟩ := set5_blk (blk_below HB1.out HBB.out) rfl (.int .i64 v.kind) (.string v.num) (.string v.text) (.slice Ax v.items.length cx) (.slice Bx v.keys.length dx)
  have e2 := (o1.rest (w.heap.size + 2) (by omega)).trans (blk_below HB2.out HBB.out)
  obtain ⟨e3, o2⟩ := set5_blk e2 rfl (.int .i64 fv.kind) (.string fv.num) (.string fv.text) (.slice A' fv.items.length c') (.slice B' fv.keys.length d')
  have e4 := (o2.rest (w.heap.size + 1) (by omega)).trans e1
  have hsz := HBB.out.size
  have hfin := o2.from (o1.from (HBW.out.trans (HBB.out.mono HBW.out.size)) (by omega)) (by omega)
  have hrr := (HRR.out.keep (S' := From w.heap.size) (fun g hg => Nat.le_trans HBW.out.size hg) (fun g hg => (o2.rest g (by have : W.heap.size ≤ g := hg; omega)).trans (o1.rest g (by have : W.heap.size ≤ g := hg; omega))))
  have HR2 := Lib.hid hrr
  have HF := Lib.hid hfin
  clear hrr hfin o1 o2 e2 e1
  change Exit.then _ _ _ _ (set5 (set5 w1 (w.heap.size + 1) 0 _ _ _ _ _) (w.heap.size + 2) 0 _ _ _ _ _)
  generalize set5 (set5 w1 (w.heap.size + 1) 0 (.int .i64 v.kind) (.string v.num) (.string v.text) (.slice Ax v.items.length cx) (.slice Bx v.keys.length dx)) (w.heap.size + 2) 0 (.int .i64 fv.kind) (.string fv.num) (.string fv.text) (.slice A' fv.items.length c') (.slice B' fv.keys.length d') = W2 at *
  go_wp2_with fail
  exact bodyPost_ret (results_cct rfl _ _ (w.heap.size + 1) (w.heap.size + 1 + 1) _ _ _ _ _ _ rfl rfl e4 e3 Tryz.underlying25 rfl (by kernel_rfl) Tryz.underlying25 rfl (by kernel_rfl)) rfl ⟨_, rfl, HR2.out, HF.out⟩


/-- The same, at cells that are written out. -/
theorem told_lit (v fv : Val) (A B A' B' : Option Addr) (c d c' d' : Nat) (ok : Bool) (w : World) (h : Rep All w v [.int .i64 v.kind, .string v.num, .string v.text, .slice A v.items.length c, .slice B v.keys.length d]) (h' : Rep All w fv [.int .i64 fv.kind, .string fv.num, .string fv.text, .slice A' fv.items.length c', .slice B' fv.keys.length d']) :
    Calls Tryz.prog 202 #[.agg #[.int .i64 v.kind, .string v.num, .string v.text, .slice A v.items.length c, .slice B v.keys.length d, .int .i64 fv.kind, .string fv.num, .string fv.text, .slice A' fv.items.length c', .slice B' fv.keys.length d', .bool ok]] w fun e w' =>
    ∃ Ax cx Bx dx, e = .returned (.tuple #[.agg #[.int .i64 v.kind, .string v.num, .string v.text, .slice Ax v.items.length cx, .slice Bx v.keys.length dx], .agg #[.int .i64 fv.kind, .string fv.num, .string fv.text, .slice A' fv.items.length c', .slice B' fv.keys.length d'], .bool ok]) ∧ Rep (From w.heap.size) w' v [.int .i64 v.kind, .string v.num, .string v.text, .slice Ax v.items.length cx, .slice Bx v.keys.length dx] ∧ Below w.heap.size w w' := by
  refine (told_any v fv _ _ ok w h h').mono ?_
  rintro e w' ⟨cs', rfl, hr, hb⟩
  obtain ⟨Ax, cx, Bx, dx, rfl, _⟩ := hr.open_
  exact ⟨Ax, cx, Bx, dx, rfl, hr, hb⟩
theorem index0 (w : World) : (Instr.index 183 (.agg opsV.toArray) (.int .i64 0)).run Tryz.prog w = .ok (.func (.func 242) #[] #[]) w := by kernel_rfl
set_option maxHeartbeats 2000000 in
set_option maxRecDepth 100000 in
theorem arithAdd_any (va vb : Val) (ca cb : List Value) (w : World) (ha : Rep All w va ca) (hb : Rep All w vb cb) (oka : va.ok = true) (okb : vb.ok = true) (hT : Tabs w) (rv fv : Val) (ok : Bool) (hfi : fv.items = []) (hfk : fv.keys = [])
    (hc : ∀ W, Below w.heap.size w W → Calls Tryz.prog 242 #[.agg (ca ++ cb).toArray] W fun e W' => ∃ cs ds, e = .returned (.agg (cs ++ ds ++ [Value.bool ok]).toArray) ∧ Rep All W' rv cs ∧ Rep All W' fv ds ∧ Below W.heap.size W W') :
    Calls Tryz.prog 144 #[.int .i64 14, .agg ca.toArray, .agg cb.toArray] w fun e w' => ∃ cs' ds, e = .returned (.tuple #[.agg cs'.toArray, .agg ds.toArray, .bool ok]) ∧ Rep (From w.heap.size) w' rv cs' ∧ Rep All w' fv ds ∧ Below w.heap.size w w' := by
  obtain ⟨A, c, B, d, rfl, _⟩ := ha.open_
  obtain ⟨A', c', B', d', rfl, _⟩ := hb.open_
  have HA := Lib.hid ha; clear ha
  have HB := Lib.hid hb; clear hb
  have hc2 : ∀ W, Below w.heap.size w W → Calls Tryz.prog 242 #[.agg #[.int .i64 va.kind, .string va.num, .string va.text, .slice A va.items.length c, .slice B va.keys.length d, .int .i64 vb.kind, .string vb.num, .string vb.text, .slice A' vb.items.length c', .slice B' vb.keys.length d']] W fun e W' => ∃ Ar cr Br dr Af cf Bf df, e = .returned (.agg #[.int .i64 rv.kind, .string rv.num, .string rv.text, .slice Ar rv.items.length cr, .slice Br rv.keys.length dr, .int .i64 fv.kind, .string fv.num, .string fv.text, .slice Af fv.items.length cf, .slice Bf fv.keys.length df, .bool ok]) ∧ Rep All W' rv [.int .i64 rv.kind, .string rv.num, .string rv.text, .slice Ar rv.items.length cr, .slice Br rv.keys.length dr] ∧ Rep All W' fv [.int .i64 fv.kind, .string fv.num, .string fv.text, .slice Af fv.items.length cf, .slice Bf fv.keys.length df] ∧ Below W.heap.size W W' := fun W hW => by
    refine (hc W hW).mono ?_
    rintro e w' ⟨cs, ds, rfl, h1, h2, hb⟩
    obtain ⟨Ar, cr, Br, dr, rfl, _⟩ := h1.open_
    obtain ⟨Af, cf, Bf, df, rfl, _⟩ := h2.open_
    exact ⟨Ar, cr, Br, dr, Af, cf, Bf, df, rfl, h1, h2, hb⟩
  have HC := Lib.hid hc2; clear hc hc2
  have HT := Lib.hid hT; clear hT
  have HFI := Lib.hid hfi; clear hfi
  have HFK := Lib.hid hfk; clear hfk
  go_enter Tryz.func144, Tryz.ntmps144
  go_wp2_with fail
  generalize hX : Obj.cells #[.int .i64 va.kind, .string va.num, .string va.text, .slice A va.items.length c, .slice B va.keys.length d] 25 = X
  generalize hY : Obj.cells #[.int .i64 vb.kind, .string vb.num, .string vb.text, .slice A' vb.items.length c', .slice B' vb.keys.length d'] 25 = Y
  generalize hZ : Obj.cells #[.int .i64 0, .string ⟨#[]⟩, .string ⟨#[]⟩, .slice none 0 0, .slice none 0 0] 25 = Z
  generalize hL : Obj.cells #[.int .i64 va.kind, .string va.num, .string va.text, .slice A va.items.length c, .slice B va.keys.length d, .int .i64 vb.kind, .string vb.num, .string vb.text, .slice A' vb.items.length c', .slice B' vb.keys.length d'] 25 = L
  have B0 : (((((w.alloc X).alloc Y).alloc Z).alloc Z).alloc L).heap[w.heap.size]? = some X := blk_alloc (blk_alloc (blk_alloc (blk_alloc (blk_new w X) Y) Z) Z) L
  have B1 : (((((w.alloc X).alloc Y).alloc Z).alloc Z).alloc L).heap[w.heap.size + 1]? = some Y := blk_alloc (blk_alloc (blk_alloc (blk_new2 w X Y) Z) Z) L
  have B2 : (((((w.alloc X).alloc Y).alloc Z).alloc Z).alloc L).heap[w.heap.size + 1 + 1]? = some Z := blk_alloc (blk_alloc (blk_new3 w X Y Z) Z) L
  have B3 : (((((w.alloc X).alloc Y).alloc Z).alloc Z).alloc L).heap[w.heap.size + 1 + 1 + 1]? = some Z := blk_alloc (blk_new4 w X Y Z Z) L
  have B4 : (((((w.alloc X).alloc Y).alloc Z).alloc Z).alloc L).heap[w.heap.size + 1 + 1 + 1 + 1]? = some L := blk_new5 w X Y Z Z L
  have hb0 : Below w.heap.size w (((((w.alloc X).alloc Y).alloc Z).alloc Z).alloc L) := (((((Below.refl _ _).alloc (Nat.le_refl _) _).alloc (by simp) _).alloc (by simp; omega) _).alloc (by simp; omega) _).alloc (by simp; omega) _
  have hs0 : (((((w.alloc X).alloc Y).alloc Z).alloc Z).alloc L).heap.size = w.heap.size + 5 := by simp
  generalize ((((w.alloc X).alloc Y).alloc Z).alloc Z).alloc L = W0 at *
  subst hX hY hZ hL
  have hV := VSl.of_blk (S := All) B4 (css := [[.int .i64 va.kind, .string va.num, .string va.text, .slice A va.items.length c, .slice B va.keys.length d], [.int .i64 vb.kind, .string vb.num, .string vb.text, .slice A' vb.items.length c', .slice B' vb.keys.length d']]) rfl (C5.two (HA.out.below hb0) (HB.out.below hb0)) trivial (by simp)
  refine (right_any [va, vb] _ _ W0 hV (HT.out.below hb0)).mono ?_
  rintro e W ⟨rfl, hb1⟩
  have eok : [va, vb].all Val.ok = true := by simp [oka, okb]
  rw [eok]
  clear B4 hV
  replace B0 := blk_below B0 hb1
  replace B1 := blk_below B1 hb1
  replace B2 := blk_below B2 hb1
  replace B3 := blk_below B3 hb1
  have hbW := hb0.trans (hb1.mono hb0.size)
  have hsW : w.heap.size + 5 ≤ W.heap.size := by have := hb1.size; omega
  clear hb0 hb1 hs0
  have q0 : W.cell? ⟨w.heap.size, 0, none⟩ = some (.int .i64 va.kind) := (blk_cell B0 0).trans rfl
  have q1 : W.cell? ⟨w.heap.size, 1, none⟩ = some (.string va.num) := (blk_cell B0 1).trans rfl
  have q2 : W.cell? ⟨w.heap.size, 2, none⟩ = some (.string va.text) := (blk_cell B0 2).trans rfl
  have q3 : W.cell? ⟨w.heap.size, 3, none⟩ = some (.slice A va.items.length c) := (blk_cell B0 3).trans rfl
  have q4 : W.cell? ⟨w.heap.size, 4, none⟩ = some (.slice B va.keys.length d) := (blk_cell B0 4).trans rfl
  have u0 : W.cell? ⟨w.heap.size + 1, 0, none⟩ = some (.int .i64 vb.kind) := (blk_cell B1 0).trans rfl
  have u1 : W.cell? ⟨w.heap.size + 1, 1, none⟩ = some (.string vb.num) := (blk_cell B1 1).trans rfl
  have u2 : W.cell? ⟨w.heap.size + 1, 2, none⟩ = some (.string vb.text) := (blk_cell B1 2).trans rfl
  have u3 : W.cell? ⟨w.heap.size + 1, 3, none⟩ = some (.slice A' vb.items.length c') := (blk_cell B1 3).trans rfl
  have u4 : W.cell? ⟨w.heap.size + 1, 4, none⟩ = some (.slice B' vb.keys.length d') := (blk_cell B1 4).trans rfl
  have HB2 := Lib.hid B2; clear B2
  have HB3 := Lib.hid B3; clear B3
  have HBW := Lib.hid hbW; clear hbW B0 B1
  have n0 : w.heap.size < W.heap.size := by omega
  have n1 : w.heap.size + 1 < W.heap.size := by omega
  go_wp2_with fail
  have w14 : IntKind.i64.wrap 0 = 0 := by decide
  have hidx := index0
  have m1 : w.heap.size + 1 + 1 ≠ w.heap.size := by omega
  have m2 : w.heap.size + 1 + 1 ≠ w.heap.size + 1 := by omega
  have m3 : w.heap.size + 1 + 1 + 1 ≠ w.heap.size := by omega
  have m4 : w.heap.size + 1 + 1 + 1 ≠ w.heap.size + 1 := by omega
  have QD : Hid (W.drew.cell? ⟨w.heap.size, 0, none⟩ = some (.int .i64 va.kind) ∧ W.drew.cell? ⟨w.heap.size, 1, none⟩ = some (.string va.num) ∧ W.drew.cell? ⟨w.heap.size, 2, none⟩ = some (.string va.text) ∧ W.drew.cell? ⟨w.heap.size, 3, none⟩ = some (.slice A va.items.length c) ∧ W.drew.cell? ⟨w.heap.size, 4, none⟩ = some (.slice B va.keys.length d) ∧ W.drew.cell? ⟨w.heap.size + 1, 0, none⟩ = some (.int .i64 vb.kind) ∧ W.drew.cell? ⟨w.heap.size + 1, 1, none⟩ = some (.string vb.num) ∧ W.drew.cell? ⟨w.heap.size + 1, 2, none⟩ = some (.string vb.text) ∧ W.drew.cell? ⟨w.heap.size + 1, 3, none⟩ = some (.slice A' vb.items.length c') ∧ W.drew.cell? ⟨w.heap.size + 1, 4, none⟩ = some (.slice B' vb.keys.length d')) := Lib.hid ⟨q0, q1, q2, q3, q4, u0, u1, u2, u3, u4⟩
  go_region_held3 (fun w' => w'.cell? ⟨w.heap.size, 0, none⟩ = some (.int .i64 va.kind) ∧ w'.cell? ⟨w.heap.size, 1, none⟩ = some (.string va.num) ∧ w'.cell? ⟨w.heap.size, 2, none⟩ = some (.string va.text) ∧ w'.cell? ⟨w.heap.size, 3, none⟩ = some (.slice A va.items.length c) ∧ w'.cell? ⟨w.heap.size, 4, none⟩ = some (.slice B va.keys.length d) ∧ w'.cell? ⟨w.heap.size + 1, 0, none⟩ = some (.int .i64 vb.kind) ∧ w'.cell? ⟨w.heap.size + 1, 1, none⟩ = some (.string vb.num) ∧ w'.cell? ⟨w.heap.size + 1, 2, none⟩ = some (.string vb.text) ∧ w'.cell? ⟨w.heap.size + 1, 3, none⟩ = some (.slice A' vb.items.length c') ∧ w'.cell? ⟨w.heap.size + 1, 4, none⟩ = some (.slice B' vb.keys.length d')) (first | with_reducible exact QD.out | with_reducible exact PA.out | with_reducible exact PB.out | with_reducible exact PC.out | (simp only [World.cell?_setCell_far, m1, m2, m3, m4, ne_eq, not_false_eq_true]; with_reducible exact PC.out) | (simp only [World.cell?_setCell_far, m1, m2, ne_eq, not_false_eq_true]; with_reducible exact PC.out))
    (first
      | (go_at_call 203
         refine (operations_any _).mono ?_
         rintro e w1 ⟨rfl, hb⟩
         have hba : Below W.heap.size W w1 := ⟨hb.os, hb.tape, hb.output, hb.size, hb.block⟩
         have pA0 := fun o => (bcell hba).1 w.heap.size o n0
         have pA1 := fun o => (bcell hba).1 (w.heap.size + 1) o n1
         have PA : Hid (w1.cell? ⟨w.heap.size, 0, none⟩ = some (.int .i64 va.kind) ∧ w1.cell? ⟨w.heap.size, 1, none⟩ = some (.string va.num) ∧ w1.cell? ⟨w.heap.size, 2, none⟩ = some (.string va.text) ∧ w1.cell? ⟨w.heap.size, 3, none⟩ = some (.slice A va.items.length c) ∧ w1.cell? ⟨w.heap.size, 4, none⟩ = some (.slice B va.keys.length d) ∧ w1.cell? ⟨w.heap.size + 1, 0, none⟩ = some (.int .i64 vb.kind) ∧ w1.cell? ⟨w.heap.size + 1, 1, none⟩ = some (.string vb.num) ∧ w1.cell? ⟨w.heap.size + 1, 2, none⟩ = some (.string vb.text) ∧ w1.cell? ⟨w.heap.size + 1, 3, none⟩ = some (.slice A' vb.items.length c') ∧ w1.cell? ⟨w.heap.size + 1, 4, none⟩ = some (.slice B' vb.keys.length d')) := Lib.hid ⟨(pA0 0).trans q0, (pA0 1).trans q1, (pA0 2).trans q2, (pA0 3).trans q3, (pA0 4).trans q4, (pA1 0).trans u0, (pA1 1).trans u1, (pA1 2).trans u2, (pA1 3).trans u3, (pA1 4).trans u4⟩
         have HBA := Lib.hid hba
         clear hb hba pA0 pA1)
      | (go_at_call 242
         refine (HC.out w1 (HBW.out.trans (HBA.out.mono HBW.out.size))).mono ?_
         rintro e w2 ⟨Ar, cr, Br, dr, Af, cf, Bf, df, rfl, hr1, hr2, hb⟩
         have hbb := HBA.out.trans (hb.mono HBA.out.size)
         have pB0 := fun o => (bcell hbb).1 w.heap.size o n0
         have pB1 := fun o => (bcell hbb).1 (w.heap.size + 1) o n1
         have HR1 := Lib.hid hr1
         have HR2 := Lib.hid hr2
         have PB : Hid (w2.cell? ⟨w.heap.size, 0, none⟩ = some (.int .i64 va.kind) ∧ w2.cell? ⟨w.heap.size, 1, none⟩ = some (.string va.num) ∧ w2.cell? ⟨w.heap.size, 2, none⟩ = some (.string va.text) ∧ w2.cell? ⟨w.heap.size, 3, none⟩ = some (.slice A va.items.length c) ∧ w2.cell? ⟨w.heap.size, 4, none⟩ = some (.slice B va.keys.length d) ∧ w2.cell? ⟨w.heap.size + 1, 0, none⟩ = some (.int .i64 vb.kind) ∧ w2.cell? ⟨w.heap.size + 1, 1, none⟩ = some (.string vb.num) ∧ w2.cell? ⟨w.heap.size + 1, 2, none⟩ = some (.string vb.text) ∧ w2.cell? ⟨w.heap.size + 1, 3, none⟩ = some (.slice A' vb.items.length c') ∧ w2.cell? ⟨w.heap.size + 1, 4, none⟩ = some (.slice B' vb.keys.length d')) := Lib.hid ⟨(pB0 0).trans q0, (pB0 1).trans q1, (pB0 2).trans q2, (pB0 3).trans q3, (pB0 4).trans q4, (pB1 0).trans u0, (pB1 1).trans u1, (pB1 2).trans u2, (pB1 3).trans u3, (pB1 4).trans u4⟩
         have HBB := Lib.hid hbb
         clear hb hbb pB0 pB1 hr1 hr2)
      | (go_at_call 202
         refine (told_lit rv fv Ar Br Af Bf cr dr cf df ok w2 HR1.out HR2.out).mono ?_
         rintro e w3 ⟨Ax, cx, Bx, dx, rfl, hr, hb⟩
         have hbc := HBB.out.trans (hb.mono HBB.out.size)
         have pC0 := fun o => (bcell hbc).1 w.heap.size o n0
         have pC1 := fun o => (bcell hbc).1 (w.heap.size + 1) o n1
         have hf := HR2.out.below hb
         have r0 : w3.cell? ⟨w.heap.size + 1 + 1, 0, none⟩ = some (.int .i64 0) := (blk_cell (blk_below HB2.out hbc) 0).trans rfl
         have fr0 : w3.frozen? ⟨w.heap.size + 1 + 1, 0, none⟩ = false := blk_frozen (blk_below HB2.out hbc) 0
         have r1 : w3.cell? ⟨w.heap.size + 1 + 1, 1, none⟩ = some (.string ⟨#[]⟩) := (blk_cell (blk_below HB2.out hbc) 1).trans rfl
         have fr1 : w3.frozen? ⟨w.heap.size + 1 + 1, 1, none⟩ = false := blk_frozen (blk_below HB2.out hbc) 1
         have r2 : w3.cell? ⟨w.heap.size + 1 + 1, 2, none⟩ = some (.string ⟨#[]⟩) := (blk_cell (blk_below HB2.out hbc) 2).trans rfl
         have fr2 : w3.frozen? ⟨w.heap.size + 1 + 1, 2, none⟩ = false := blk_frozen (blk_below HB2.out hbc) 2
         have r3 : w3.cell? ⟨w.heap.size + 1 + 1, 3, none⟩ = some (.slice none 0 0) := (blk_cell (blk_below HB2.out hbc) 3).trans rfl
         have fr3 : w3.frozen? ⟨w.heap.size + 1 + 1, 3, none⟩ = false := blk_frozen (blk_below HB2.out hbc) 3
         have r4 : w3.cell? ⟨w.heap.size + 1 + 1, 4, none⟩ = some (.slice none 0 0) := (blk_cell (blk_below HB2.out hbc) 4).trans rfl
         have fr4 : w3.frozen? ⟨w.heap.size + 1 + 1, 4, none⟩ = false := blk_frozen (blk_below HB2.out hbc) 4
         have s0 : w3.cell? ⟨w.heap.size + 1 + 1 + 1, 0, none⟩ = some (.int .i64 0) := (blk_cell (blk_below HB3.out hbc) 0).trans rfl
         have fs0 : w3.frozen? ⟨w.heap.size + 1 + 1 + 1, 0, none⟩ = false := blk_frozen (blk_below HB3.out hbc) 0
         have s1 : w3.cell? ⟨w.heap.size + 1 + 1 + 1, 1, none⟩ = some (.string ⟨#[]⟩) := (blk_cell (blk_below HB3.out hbc) 1).trans rfl
         have fs1 : w3.frozen? ⟨w.heap.size + 1 + 1 + 1, 1, none⟩ = false := blk_frozen (blk_below HB3.out hbc) 1
         have s2 : w3.cell? ⟨w.heap.size + 1 + 1 + 1, 2, none⟩ = some (.string ⟨#[]⟩) := (blk_cell (blk_below HB3.out hbc) 2).trans rfl
         have fs2 : w3.frozen? ⟨w.heap.size + 1 + 1 + 1, 2, none⟩ = false := blk_frozen (blk_below HB3.out hbc) 2
         have s3 : w3.cell? ⟨w.heap.size + 1 + 1 + 1, 3, none⟩ = some (.slice none 0 0) := (blk_cell (blk_below HB3.out hbc) 3).trans rfl
         have fs3 : w3.frozen? ⟨w.heap.size + 1 + 1 + 1, 3, none⟩ = false := blk_frozen (blk_below HB3.out hbc) 3
         have s4 : w3.cell? ⟨w.heap.size + 1 + 1 + 1, 4, none⟩ = some (.slice none 0 0) := (blk_cell (blk_below HB3.out hbc) 4).trans rfl
         have fs4 : w3.frozen? ⟨w.heap.size + 1 + 1 + 1, 4, none⟩ = false := blk_frozen (blk_below HB3.out hbc) 4
         have HR3 := Lib.hid hr
         have HR4 := Lib.hid hf
         have PC : Hid (w3.cell? ⟨w.heap.size, 0, none⟩ = some (.int .i64 va.kind) ∧ w3.cell? ⟨w.heap.size, 1, none⟩ = some (.string va.num) ∧ w3.cell? ⟨w.heap.size, 2, none⟩ = some (.string va.text) ∧ w3.cell? ⟨w.heap.size, 3, none⟩ = some (.slice A va.items.length c) ∧ w3.cell? ⟨w.heap.size, 4, none⟩ = some (.slice B va.keys.length d) ∧ w3.cell? ⟨w.heap.size + 1, 0, none⟩ = some (.int .i64 vb.kind) ∧ w3.cell? ⟨w.heap.size + 1, 1, none⟩ = some (.string vb.num) ∧ w3.cell? ⟨w.heap.size + 1, 2, none⟩ = some (.string vb.text) ∧ w3.cell? ⟨w.heap.size + 1, 3, none⟩ = some (.slice A' vb.items.length c') ∧ w3.cell? ⟨w.heap.size + 1, 4, none⟩ = some (.slice B' vb.keys.length d')) := Lib.hid ⟨(pC0 0).trans q0, (pC0 1).trans q1, (pC0 2).trans q2, (pC0 3).trans q3, (pC0 4).trans q4, (pC1 0).trans u0, (pC1 1).trans u1, (pC1 2).trans u2, (pC1 3).trans u3, (pC1 4).trans u4⟩
         have HBC := Lib.hid hbc
         clear hb hbc pC0 pC1 hr hf))
  clear q0 q1 q2 q3 q4 u0 u1 u2 u3 u4 QD PA PB PC
  clear r0 r1 r2 r3 r4 s0 s1 s2 s3 s4 fr0 fr1 fr2 fr3 fr4 fs0 fs1 fs2 fs3 fs4
  obtain ⟨e1, o1⟩ := set5_blk (blk_below HB2.out HBC.out) rfl (.int .i64 rv.kind) (.string rv.num) (.string rv.text) (.slice Ax rv.items.length cx) (.slice Bx rv.keys.length dx)
  have e2 := (o1.rest (w.heap.size + 1 + 1 + 1) (by omega)).trans (blk_below HB3.out HBC.out)
  obtain ⟨e3, o2⟩ := set5_blk e2 rfl (.int .i64 fv.kind) (.string fv.num) (.string fv.text) (.slice Af fv.items.length cf) (.slice Bf fv.keys.length df)
  have e4 := (o2.rest (w.heap.size + 1 + 1) (by omega)).trans e1
  have hsz := HBC.out.size
  have hfin := o2.from (o1.from (HBW.out.trans (HBC.out.mono HBW.out.size)) (by omega)) (by omega)
  have hrr := (HR3.out.keep (S' := From w.heap.size) (fun g hg => Nat.le_trans (Nat.le_trans HBW.out.size HBB.out.size) hg) (fun g hg => (o2.rest g (by have : w2.heap.size ≤ g := hg; have := HBB.out.size; omega)).trans (o1.rest g (by have : w2.heap.size ≤ g := hg; have := HBB.out.size; omega))))
  have hff : Rep All _ fv _ := HR4.out.bare (w' := set5 (set5 w3 (w.heap.size + 1 + 1) 0 (.int .i64 rv.kind) (.string rv.num) (.string rv.text) (.slice Ax rv.items.length cx) (.slice Bx rv.keys.length dx)) (w.heap.size + 1 + 1 + 1) 0 (.int .i64 fv.kind) (.string fv.num) (.string fv.text) (.slice Af fv.items.length cf) (.slice Bf fv.keys.length df)) HFI.out HFK.out
  have HRR := Lib.hid hrr; clear hrr
  have HFF := Lib.hid hff; clear hff
  have HF := Lib.hid hfin
  clear hfin o1 o2 e2 e1
  change Exit.then _ _ _ _ (set5 (set5 w3 (w.heap.size + 1 + 1) 0 _ _ _ _ _) (w.heap.size + 1 + 1 + 1) 0 _ _ _ _ _)
  generalize set5 (set5 w3 (w.heap.size + 1 + 1) 0 (.int .i64 rv.kind) (.string rv.num) (.string rv.text) (.slice Ax rv.items.length cx) (.slice Bx rv.keys.length dx)) (w.heap.size + 1 + 1 + 1) 0 (.int .i64 fv.kind) (.string fv.num) (.string fv.text) (.slice Af fv.items.length cf) (.slice Bf fv.keys.length df) = W5 at *
  go_wp2_with fail
  exact bodyPost_ret (results_cct rfl _ _ (w.heap.size + 1 + 1) (w.heap.size + 1 + 1 + 1) _ _ _ _ _ _ rfl rfl e4 e3 Tryz.underlying25 rfl (by kernel_rfl) Tryz.underlying25 rfl (by kernel_rfl)) rfl ⟨_, _, rfl, HRR.out, HFF.out, HF.out⟩
end Go.Proofs.YtojkmemkmcnlnaaGreatDoor
