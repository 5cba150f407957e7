/- value.Formed says whether a value is well shaped; slices.IndexFunc and ContainsFunc at values. -/
import Derived.Test.YtojkmemkmcnlnaaGreatDoorTabs
import Derived.Test.YtojkmemkmcnlnaaGreatDoorTensFormed
import Derived.Test.YtojkmemkmcnlnaaGreatDoorUtfValid
import Derived.Deep.LoopGhost
import Derived.Deep.QuietTactic
import Derived.BigQuiet
import Derived.Deep.DeepCutAuto
import Derived.Deep.CutBlock
import Derived.WalkLawsBesides
namespace Go.Proofs.YtojkmemkmcnlnaaGreatDoor
open Go.RowKit Go.Shelf

set_option maxHeartbeats 800000 in
theorem empty_any (k : Int) (n t : ByteArray) (A B : Option Addr) (li ci lk ck : Nat) (b1 b2 b3 b4 : Bool) (w : World) :
    Calls Tryz.prog 86 #[.agg #[.int .i64 k, .string n, .string t, .slice A li ci, .slice B lk ck], .bool b1, .bool b2, .bool b3, .bool b4] w fun e w' => e = .returned (.bool ((b1 || n.toList.isEmpty) && (b2 || t.toList.isEmpty) && (b3 || li == 0) && (b4 || lk == 0))) ∧ Below w.heap.size w w' := by
  generalize hA : ((b1 || n.toList.isEmpty) && (b2 || t.toList.isEmpty) && (b3 || li == 0) && (b4 || lk == 0)) = ANS
  have HA := Lib.hid hA; clear hA
  go_enter Tryz.func86, Tryz.ntmps86
  go_wp2
  all_goals
    go_ret
    refine ⟨ret_bool (HA.out.symm.trans ?_).symm, (Below.refl _ _).alloc (Nat.le_refl _) _⟩
    simp_all
    try (rw [Bool.eq_iff_iff]; simp)

/-- slices.IndexFunc: the first place at which a function of one's own says yes. -/
theorem indexFunc_any (fid : FuncId) (cap : Array Value) (hent : Enters Tryz.prog fid) (p : Val → Bool) (is : List Val) (A : Option Addr) (c : Nat) (w : World) (h : VSl All w is A c)
    (hf : ∀ x ∈ is, ∀ cs W, Below w.heap.size w W → Rep All W x cs → Calls Tryz.prog fid (#[.agg cs.toArray] ++ cap) W fun e W' => e = .returned (.bool (p x)) ∧ Below W.heap.size W W') :
    Calls Tryz.prog 91 #[.slice A is.length c, .func (.func fid) #[] cap] w fun e w' => (∃ r : Int, e = .returned (.int .i64 r) ∧ -1 ≤ r ∧ decide (0 ≤ r) = is.any p) ∧ Below w.heap.size w w' := by
  have hl : is.length ≤ 9223372036854775807 := by have := h.2.2.1; omega
  have H := Lib.hid h; clear h
  have HF := Lib.hid hf; clear hf
  have HE := Lib.hid hent; clear hent
  go_enter Tryz.func91, Tryz.ntmps91
  go_wp2_with fail
  go_loopw [4, 5, 8] (fun _ _ i W => ∃ k : Nat, k ≤ is.length ∧ i = .int .i64 k ∧ Hid ((is.take k).any p = false) ∧ Hid (Below w.heap.size w W)) (fun _ _ i _ => is.length - (intOf i).toNat)
  case atStart => exact ⟨0, Nat.zero_le _, rfl, Lib.hid (by simp), Lib.hid (Below.refl _ _)⟩
  case round =>
    obtain ⟨k, hk, rfl, HK, HB⟩ := hrel
    by_cases hlt : k < is.length
    · obtain ⟨g, o, A', c', B', d', rfl, _, h0, h1, h2, h3, h4, hr⟩ := (H.out.below HB.out).at_ hlt
      have Hr := Lib.hid hr; clear hr
      have he : ∀ (args : Array Value) (w : World), (callFunc fid args).run Tryz.prog w = .ok (.enter fid args) w := HE.out
      go_wp2_with fail
      refine (HF.out _ (List.getElem_mem hlt) _ _ HB.out Hr.out).mono ?_
      clear h0 h1 h2 h3 h4 he
      cases hp : p is[k]
      · have HP := Lib.hid hp; clear hp
        rintro e w1 ⟨rfl, hb1⟩
        have HB1 := Lib.hid hb1; clear hb1
        go_wp2_with fail
        go_roundw
        case rel => exact ⟨k + 1, by omega, by go_num, Lib.hid (by rw [List.take_succ_eq_append_getElem hlt, List.any_append, HK.out]; simp [HP.out]), Lib.hid (HB.out.trans (HB1.out.mono HB.out.size))⟩
        case measure => simp [intOf]; omega
      · have HP := Lib.hid hp; clear hp
        rintro e w1 ⟨rfl, hb1⟩
        have HB1 := Lib.hid hb1; clear hb1
        go_wp2_with fail
        go_ret
        exact ⟨⟨k, rfl, by omega, by rw [List.any_eq_true.2 ⟨_, List.getElem_mem hlt, HP.out⟩]; simp⟩, HB.out.trans (HB1.out.mono HB.out.size)⟩
    · obtain rfl : k = is.length := by omega
      go_wp2_with fail
      go_ret
      exact ⟨⟨-1, rfl, by omega, by have := HK.out; rw [List.take_length] at this; rw [this]; rfl⟩, HB.out⟩
theorem containsFunc_any (fid : FuncId) (cap : Array Value) (hent : Enters Tryz.prog fid) (p : Val → Bool) (is : List Val) (A : Option Addr) (c : Nat) (w : World) (h : VSl All w is A c)
    (hf : ∀ x ∈ is, ∀ cs W, Below w.heap.size w W → Rep All W x cs → Calls Tryz.prog fid (#[.agg cs.toArray] ++ cap) W fun e W' => e = .returned (.bool (p x)) ∧ Below W.heap.size W W') :
    Calls Tryz.prog 32 #[.slice A is.length c, .func (.func fid) #[] cap] w fun e w' => e = .returned (.bool (is.any p)) ∧ Below w.heap.size w w' := by
  have H := Lib.hid (indexFunc_any fid cap hent p is A c w h hf)
  clear h hf hent
  generalize hA : is.any p = ANS at *
  have HA := Lib.hid hA; clear hA
  go_enter Tryz.func32, Tryz.ntmps32
  go_wp2_with (go_at_call 91; refine H.out.mono ?_; rintro e w1 ⟨⟨r, rfl, hr1, hr2⟩, hb⟩)
  go_ret
  exact ⟨rfl, hb⟩

set_option maxHeartbeats 800000 in
theorem rise_any (ks : List ByteArray) (B : Option Addr) (d : Nat) (w : World) (h : SSl All w ks B d) (hT : Tabs w) :
    Calls Tryz.prog 90 #[.slice B ks.length d] w fun e w' => e = .returned (.bool (riseOk ks)) ∧ Below w.heap.size w w' := by
  have hl : ks.length ≤ 9223372036854775807 := by have := h.2.2.1; omega
  have H := Lib.hid h; clear h
  have HT := Lib.hid hT; clear hT
  generalize hA : riseOk ks = ANS
  have HA := Lib.hid hA; clear hA
  go_enter Tryz.func90, Tryz.ntmps90
  go_wp2_with fail
  go_loopw [3, 4, 7] (fun _ _ i W => ∃ k : Nat, k ≤ ks.length ∧ i = .int .i64 k ∧ Hid (riseFrom (prevOf ks k) (ks.drop k) = ANS) ∧ Hid (Below w.heap.size w W)) (fun _ _ i _ => ks.length - (intOf i).toNat)
  case atStart => exact ⟨0, Nat.zero_le _, rfl, Lib.hid (by simpa [prevOf, riseOk] using HA.out), Lib.hid (Below.refl _ _)⟩
  case round =>
    clear HA
    obtain ⟨k, hk, rfl, HK, HB⟩ := hrel
    by_cases hlt : k < ks.length
    · obtain ⟨g, o, rfl, _, hc, hsz⟩ := (H.out.below HB.out).at_ hlt
      have hR := HK.out
      rw [drop_cons ks k hlt] at hR
      have hP : 0 < k → wr.cell? ⟨g, o + (k - 1), none⟩ = some (.string (ks[k - 1]'(by omega))) := fun h0 => by
        obtain ⟨g', o', e', _, hc', _⟩ := (H.out.below HB.out).at_ (i := k - 1) (by omega)
        simp only [Option.some.injEq, Addr.mk.injEq, and_true] at e'
        obtain ⟨rfl, rfl⟩ := e'
        exact hc'
      have HP := Lib.hid hP; clear hP HK
      cases hu : utfOk ks[k]
      · have HU := Lib.hid hu; clear hu
        have hF : ANS = false := by
          rw [← hR]
          cases prevOf ks k <;> simp [riseFrom, HU.out]
        have HF := Lib.hid hF; clear hF hR
        go_wp2_with (go_at_call 88; refine (utfValid_any _ _ hsz (HT.out.below HB.out)).mono ?_; rw [HU.out]; rintro e w1 ⟨rfl, hb1⟩)
        go_ret
        exact ⟨ret_bool HF.out.symm, HB.out.trans (hb1.mono HB.out.size)⟩
      · have HU := Lib.hid hu; clear hu
        by_cases hz : k = 0
        · have hz' : ¬ 0 < k := by omega
          clear hz
          have HR := Lib.hid hR; clear hR
          go_wp2_with (go_at_call 88; refine (utfValid_any _ _ hsz (HT.out.below HB.out)).mono ?_; rw [HU.out]; rintro e w1 ⟨rfl, hb1⟩)
          go_roundw
          case rel => exact ⟨k + 1, by omega, by go_num, Lib.hid (by have := HR.out; obtain rfl : k = 0 := by omega
                                                                     simpa [prevOf, riseFrom, HU.out, hlt] using this), Lib.hid (HB.out.trans (hb1.mono HB.out.size))⟩
          case measure => simp [intOf]; omega
        · have hp := HP.out (by omega)
          have hR' : (Op.bytesLess (ks[k - 1]'(by omega)).toList ks[k].toList && riseFrom (some ks[k]) (ks.drop (k + 1))) = ANS := by
            rw [← hR, prevOf, if_neg hz, List.getElem?_eq_getElem (by omega)]
            simp [riseFrom, HU.out]
          have hk0 : 0 < k := by omega
          clear hR hz
          generalize hs1 : ks[k - 1]'(by omega) = s1 at *
          generalize hs2 : ks[k] = s2 at *
          have HS2 := Lib.hid hs2; clear hs2 hs1
          cases hb : Op.bytesLess s1.toList s2.toList
          · rw [hb] at hR'
            have HF := Lib.hid hR'; clear hR'
            go_wp2_with (go_at_call 88; refine (utfValid_any _ _ hsz (HT.out.below HB.out)).mono ?_; rw [HU.out]; rintro e w1 ⟨rfl, hb1⟩; obtain ⟨hc1, _⟩ := bcell hb1; rw [← hc1 _ _ (World.block_lt_of_cell? _ _ hp)] at hp; clear hc hc1)
            go_ret
            exact ⟨ret_bool HF.out, HB.out.trans (hb1.mono HB.out.size)⟩
          · rw [hb] at hR'
            have HF := Lib.hid hR'; clear hR'
            go_wp2_with (go_at_call 88; refine (utfValid_any _ _ hsz (HT.out.below HB.out)).mono ?_; rw [HU.out]; rintro e w1 ⟨rfl, hb1⟩; obtain ⟨hc1, _⟩ := bcell hb1; rw [← hc1 _ _ (World.block_lt_of_cell? _ _ hp)] at hp; clear hc hc1)
            go_roundw
            case rel => exact ⟨k + 1, by omega, by go_num, Lib.hid (by rw [prevOf, if_neg (by omega), Nat.add_sub_cancel, List.getElem?_eq_getElem hlt, HS2.out]; simpa using HF.out), Lib.hid (HB.out.trans (hb1.mono HB.out.size))⟩
            case measure => simp [intOf]; omega
    · obtain rfl : k = ks.length := by omega
      go_wp2_with fail
      go_ret
      exact ⟨ret_bool (by have := HK.out; rw [List.drop_length] at this; rw [← this]; cases prevOf ks ks.length <;> rfl), HB.out⟩
theorem e151 : Enters Tryz.prog 151 := enters_of Tryz.func151 (by kernel_rfl) rfl

theorem allFormed_of (is : List Val) (A : Option Addr) (c : Nat) (w : World) (h : VSl All w is A c) (hT : Tabs w)
    (hf : ∀ x ∈ is, ∀ cs W, Tabs W → Rep All W x cs → Calls Tryz.prog 31 #[.agg cs.toArray] W fun e W' => e = .returned (.bool x.ok) ∧ Below W.heap.size W W') :
    Calls Tryz.prog 89 #[.slice A is.length c] w fun e w' => e = .returned (.bool (is.all Val.ok)) ∧ Below w.heap.size w w' := by
  have hcl : ∀ x ∈ is, ∀ cs W, Below w.heap.size w W → Rep All W x cs → Calls Tryz.prog 151 (#[.agg cs.toArray] ++ #[]) W fun e W' => e = .returned (.bool (!x.ok)) ∧ Below W.heap.size W W' := by
    intro x hx cs W hW hr
    obtain ⟨A', c', B', d', rfl, _⟩ := hr.open_
    have HF := Lib.hid (hf x hx _ (W.alloc (.cells #[.int .i64 x.kind, .string x.num, .string x.text, .slice A' x.items.length c', .slice B' x.keys.length d'] 25)) ((hT.below hW).alloc _) (hr.below ((Below.refl _ _).alloc (Nat.le_refl _) _)))
    clear hf hr
    generalize x.ok = b at *
    have e0 : (#[Value.agg [.int .i64 x.kind, .string x.num, .string x.text, .slice A' x.items.length c', .slice B' x.keys.length d'].toArray] ++ #[] : Array Value) = #[Value.agg #[.int .i64 x.kind, .string x.num, .string x.text, .slice A' x.items.length c', .slice B' x.keys.length d']] := rfl
    rw [e0]
    clear e0
    go_enter Tryz.func151, Tryz.ntmps151
    go_wp2_with (go_at_call 31; refine HF.out.mono ?_; rintro e w1 ⟨rfl, hb1⟩)
    go_ret
    exact ⟨rfl, ((Below.refl _ _).alloc (Nat.le_refl _) _).trans (hb1.mono (by simp))⟩
  have H := Lib.hid (containsFunc_any 151 #[] e151 (fun x => !x.ok) is A c w h hcl)
  clear hcl hf hT h
  have e1 : is.any (fun x => !x.ok) = !is.all Val.ok := by rw [← List.not_all_eq_any_not]
  have HE := Lib.hid e1; clear e1
  go_enter Tryz.func89, Tryz.ntmps89
  go_wp2_with (go_at_call 32; refine H.out.mono ?_; rw [HE.out]; rintro e w1 ⟨rfl, hb1⟩)
  go_ret
  exact ⟨by simp, hb1⟩

set_option maxHeartbeats 1600000 in
set_option maxRecDepth 100000 in
theorem formed_all (m : Nat) : ∀ (v : Val) (cs : List Value) (w : World), v.sz ≤ m → Rep All w v cs → Tabs w →
    Calls Tryz.prog 31 #[.agg cs.toArray] w fun e w' => e = .returned (.bool v.ok) ∧ Below w.heap.size w w' := by
  induction m with
  | zero => intro v cs w hv; cases v; simp [Val.sz] at hv
  | succ m ih =>
  intro v cs w hv h hT
  obtain ⟨A, c, B, d, rfl, hn, ht, hi, hk⟩ := h.open_
  clear h
  have HALL : ∀ W, Below w.heap.size w W → Calls Tryz.prog 89 #[.slice A v.items.length c] W fun e w' => e = .returned (.bool (v.items.all Val.ok)) ∧ Below W.heap.size W w' :=
    fun W hW => allFormed_of v.items A c W (hi.below hW) (hT.below hW) fun x hx cs W' hT' hr => ih x cs W' (by have := Val.sz_item hx; omega) hr hT'
  have HALL' := Lib.hid HALL; clear HALL ih hv
  have HI := Lib.hid hi; clear hi
  have HK := Lib.hid hk; clear hk
  have HT := Lib.hid hT; clear hT
  have hbx := (Below.refl w.heap.size w).alloc (Nat.le_refl _) (.cells #[.int .i64 v.kind, .string v.num, .string v.text, .slice A v.items.length c, .slice B v.keys.length d] 25)
  have HBX := Lib.hid hbx; clear hbx
  have ok := ok_eq v
  generalize hA : v.ok = ANS at *
  clear hA
  have HE : ∀ b1 b2 b3 b4 W, Calls Tryz.prog 86 #[.agg #[.int .i64 v.kind, .string v.num, .string v.text, .slice A v.items.length c, .slice B v.keys.length d], .bool b1, .bool b2, .bool b3, .bool b4] W fun e w' => e = .returned (.bool (emptyOk v b1 b2 b3 b4)) ∧ Below W.heap.size W w' :=
    fun b1 b2 b3 b4 W => empty_any v.kind v.num v.text A B v.items.length c v.keys.length d b1 b2 b3 b4 W
  have HEM := Lib.hid HE; clear HE
  generalize emptyOk v = EM at *
  generalize hkd : v.kind = kd at *
  clear hkd
  by_cases c0 : kd = 0
  · rw [if_pos (.inl c0)] at ok
    have HO := Lib.hid ok; clear ok
    subst c0
    go_enter Tryz.func31, Tryz.ntmps31
    go_wp2_with (go_at_call 86; refine (HEM.out _ _ _ _ _).mono ?_; rintro e w1 ⟨rfl, hb1⟩)
    go_ret
    exact ⟨ret_bool HO.out.symm, HBX.out.trans (hb1.mono (by simp))⟩
  by_cases c1 : kd = 1
  · rw [if_pos (.inr (.inl c1))] at ok
    have HO := Lib.hid ok; clear ok c0
    subst c1
    go_enter Tryz.func31, Tryz.ntmps31
    go_wp2_with (go_at_call 86; refine (HEM.out _ _ _ _ _).mono ?_; rintro e w1 ⟨rfl, hb1⟩)
    go_ret
    exact ⟨ret_bool HO.out.symm, HBX.out.trans (hb1.mono (by simp))⟩
  by_cases c2 : kd = 2
  · rw [if_pos (.inr (.inr c2))] at ok
    have HO := Lib.hid ok; clear ok c0 c1
    subst c2
    go_enter Tryz.func31, Tryz.ntmps31
    go_wp2_with (go_at_call 86; refine (HEM.out _ _ _ _ _).mono ?_; rintro e w1 ⟨rfl, hb1⟩)
    go_ret
    exact ⟨ret_bool HO.out.symm, HBX.out.trans (hb1.mono (by simp))⟩
  rw [if_neg (by omega)] at ok
  by_cases c3 : kd = 3
  · rw [if_pos c3] at ok
    clear c0 c1 c2
    subst c3
    cases hem : EM true false false false
    all_goals
      rw [hem] at ok
      have HM := Lib.hid hem; clear hem
      have HO := Lib.hid ok; clear ok
      go_enter Tryz.func31, Tryz.ntmps31
      go_wp2_with (first
        | (go_at_call 86; refine (HEM.out _ _ _ _ _).mono ?_; rw [HM.out]; rintro e w1 ⟨rfl, hb1⟩; have hq : w1.cell? ⟨w.heap.size, 1, none⟩ = some (.string v.num) := (blk_cell (blk_below (blk_new w _) hb1) 1).trans rfl)
        | (go_at_call 87; refine (tensFormed_any _ _ hn).mono ?_; rintro e w2 ⟨rfl, rfl⟩))
      go_ret
      exact ⟨ret_bool HO.out.symm, HBX.out.trans (hb1.mono (by simp))⟩
  rw [if_neg c3] at ok
  by_cases c4 : kd = 4
  · rw [if_pos c4] at ok
    clear c0 c1 c2 c3
    subst c4
    cases hem : EM false true false false
    · rw [hem] at ok
      have HM := Lib.hid hem; clear hem
      have HO := Lib.hid ok; clear ok
      go_enter Tryz.func31, Tryz.ntmps31
      go_wp2_with (first
        | (go_at_call 86; refine (HEM.out _ _ _ _ _).mono ?_; rw [HM.out]; rintro e w1 ⟨rfl, hb1⟩))
      go_ret
      exact ⟨ret_bool HO.out.symm, HBX.out.trans (hb1.mono (by simp))⟩
    · rw [hem] at ok
      have HM := Lib.hid hem; clear hem
      have HO := Lib.hid ok; clear ok
      go_enter Tryz.func31, Tryz.ntmps31
      go_wp2_with (first
        | (go_at_call 86; refine (HEM.out _ _ _ _ _).mono ?_; rw [HM.out]; rintro e w1 ⟨rfl, hb1⟩; have hq : w1.cell? ⟨w.heap.size, 2, none⟩ = some (.string v.text) := (blk_cell (blk_below (blk_new w _) hb1) 2).trans rfl)
        | (go_at_call 88; refine (utfValid_any _ _ ht (HT.out.below (HBX.out.trans (hb1.mono (by simp))))).mono ?_; rintro e w2 ⟨rfl, hb2⟩))
      go_ret
      exact ⟨ret_bool HO.out.symm, (HBX.out.trans (hb1.mono (by simp))).trans (hb2.mono (HBX.out.trans (hb1.mono (by simp))).size)⟩
  rw [if_neg c4] at ok
  by_cases c5 : kd = 5
  · rw [if_pos c5] at ok
    clear c0 c1 c2 c3 c4
    subst c5
    cases hem : EM false false true false
    · rw [hem] at ok
      have HM := Lib.hid hem; clear hem
      have HO := Lib.hid ok; clear ok
      go_enter Tryz.func31, Tryz.ntmps31
      go_wp2_with (first
        | (go_at_call 86; refine (HEM.out _ _ _ _ _).mono ?_; rw [HM.out]; rintro e w1 ⟨rfl, hb1⟩))
      go_ret
      exact ⟨ret_bool HO.out.symm, HBX.out.trans (hb1.mono (by simp))⟩
    · rw [hem] at ok
      have HM := Lib.hid hem; clear hem
      have HO := Lib.hid ok; clear ok
      go_enter Tryz.func31, Tryz.ntmps31
      go_wp2_with (first
        | (go_at_call 86; refine (HEM.out _ _ _ _ _).mono ?_; rw [HM.out]; rintro e w1 ⟨rfl, hb1⟩; have hq : w1.cell? ⟨w.heap.size, 3, none⟩ = some (.slice A v.items.length c) := (blk_cell (blk_below (blk_new w _) hb1) 3).trans rfl)
        | (go_at_call 89; refine (HALL'.out _ (HBX.out.trans (hb1.mono (by simp)))).mono ?_; rintro e w2 ⟨rfl, hb2⟩))
      go_ret
      exact ⟨ret_bool HO.out.symm, (HBX.out.trans (hb1.mono (by simp))).trans (hb2.mono (HBX.out.trans (hb1.mono (by simp))).size)⟩
  rw [if_neg c5] at ok
  by_cases c6 : kd = 6
  · rw [if_pos c6] at ok
    clear c0 c1 c2 c3 c4 c5
    subst c6
    cases hem : EM false false true true
    · rw [hem] at ok
      have HM := Lib.hid hem; clear hem
      have HO := Lib.hid ok; clear ok
      go_enter Tryz.func31, Tryz.ntmps31
      go_wp2_with (first
        | (go_at_call 86; refine (HEM.out _ _ _ _ _).mono ?_; rw [HM.out]; rintro e w1 ⟨rfl, hb1⟩))
      go_ret
      exact ⟨ret_bool HO.out.symm, HBX.out.trans (hb1.mono (by simp))⟩
    · rw [hem] at ok
      have HM := Lib.hid hem; clear hem
      cases hll : (v.items.length == v.keys.length)
      · rw [hll] at ok
        have hl2 : ((v.items.length : Int) == (v.keys.length : Int)) = false := by rw [beq_eq_false_iff_ne] at hll ⊢; omega
        have HO := Lib.hid ok; clear ok hll
        go_enter Tryz.func31, Tryz.ntmps31
        go_wp2_with (first
          | (go_at_call 86; refine (HEM.out _ _ _ _ _).mono ?_; rw [HM.out]; rintro e w1 ⟨rfl, hb1⟩; have hq : w1.cell? ⟨w.heap.size, 3, none⟩ = some (.slice A v.items.length c) := (blk_cell (blk_below (blk_new w _) hb1) 3).trans rfl; have hq4 : w1.cell? ⟨w.heap.size, 4, none⟩ = some (.slice B v.keys.length d) := (blk_cell (blk_below (blk_new w _) hb1) 4).trans rfl))
        go_ret
        exact ⟨ret_bool HO.out.symm, HBX.out.trans (hb1.mono (by simp))⟩
      · rw [hll] at ok
        have hl2 : ((v.items.length : Int) == (v.keys.length : Int)) = true := by rw [beq_iff_eq] at hll ⊢; omega
        cases hri : riseOk v.keys
        · rw [hri] at ok
          have HO := Lib.hid ok; clear ok hll
          have HR := Lib.hid hri; clear hri
          go_enter Tryz.func31, Tryz.ntmps31
          go_wp2_with (first
            | (go_at_call 86; refine (HEM.out _ _ _ _ _).mono ?_; rw [HM.out]; rintro e w1 ⟨rfl, hb1⟩; have hq : w1.cell? ⟨w.heap.size, 3, none⟩ = some (.slice A v.items.length c) := (blk_cell (blk_below (blk_new w _) hb1) 3).trans rfl; have hq4 : w1.cell? ⟨w.heap.size, 4, none⟩ = some (.slice B v.keys.length d) := (blk_cell (blk_below (blk_new w _) hb1) 4).trans rfl)
            | (go_at_call 90; refine (rise_any _ _ _ _ (HK.out.below (HBX.out.trans (hb1.mono (by simp)))) (HT.out.below (HBX.out.trans (hb1.mono (by simp))))).mono ?_; rw [HR.out]; rintro e w2 ⟨rfl, hb2⟩))
          go_ret
          exact ⟨ret_bool HO.out.symm, (HBX.out.trans (hb1.mono (by simp))).trans (hb2.mono (HBX.out.trans (hb1.mono (by simp))).size)⟩
        · rw [hri] at ok
          have HO := Lib.hid ok; clear ok hll
          have HR := Lib.hid hri; clear hri
          go_enter Tryz.func31, Tryz.ntmps31
          go_wp2_with (first
            | (go_at_call 86; refine (HEM.out _ _ _ _ _).mono ?_; rw [HM.out]; rintro e w1 ⟨rfl, hb1⟩; have hq : w1.cell? ⟨w.heap.size, 3, none⟩ = some (.slice A v.items.length c) := (blk_cell (blk_below (blk_new w _) hb1) 3).trans rfl; have hq4 : w1.cell? ⟨w.heap.size, 4, none⟩ = some (.slice B v.keys.length d) := (blk_cell (blk_below (blk_new w _) hb1) 4).trans rfl)
            | (go_at_call 90; refine (rise_any _ _ _ _ (HK.out.below (HBX.out.trans (hb1.mono (by simp)))) (HT.out.below (HBX.out.trans (hb1.mono (by simp))))).mono ?_; rw [HR.out]; rintro e w2 ⟨rfl, hb2⟩; have HB2 := Lib.hid ((HBX.out.trans (hb1.mono (by simp))).trans (hb2.mono (HBX.out.trans (hb1.mono (by simp))).size)); have hq2 : w2.cell? ⟨w.heap.size, 3, none⟩ = some (.slice A v.items.length c) := (blk_cell (blk_below (blk_below (blk_new w _) hb1) hb2) 3).trans rfl; clear hq hq4)
            | (go_at_call 89; refine (HALL'.out _ HB2.out).mono ?_; rintro e w3 ⟨rfl, hb3⟩))
          go_ret
          exact ⟨ret_bool HO.out.symm, HB2.out.trans (hb3.mono HB2.out.size)⟩
  rw [if_neg c6] at ok
  have HO := Lib.hid ok; clear ok
  go_enter Tryz.func31, Tryz.ntmps31
  go_wp2_with fail
  go_ret
  exact ⟨ret_bool HO.out.symm, HBX.out⟩
theorem formed_any (v : Val) (cs : List Value) (w : World) (h : Rep All w v cs) (hT : Tabs w) :
    Calls Tryz.prog 31 #[.agg cs.toArray] w fun e w' => e = .returned (.bool v.ok) ∧ Below w.heap.size w w' := formed_all v.sz v cs w (Nat.le_refl _) h hT
theorem allFormed_any (is : List Val) (A : Option Addr) (c : Nat) (w : World) (h : VSl All w is A c) (hT : Tabs w) :
    Calls Tryz.prog 89 #[.slice A is.length c] w fun e w' => e = .returned (.bool (is.all Val.ok)) ∧ Below w.heap.size w w' :=
  allFormed_of is A c w h hT fun x _ cs W hT' hr => formed_any x cs W hr hT'
end Go.Proofs.YtojkmemkmcnlnaaGreatDoor
