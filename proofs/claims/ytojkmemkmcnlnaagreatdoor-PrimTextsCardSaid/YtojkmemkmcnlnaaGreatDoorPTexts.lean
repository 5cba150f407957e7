/- hallmarklaw21.PrimTexts: whatever the texts, it answers true. -/
import Derived.Test.YtojkmemkmcnlnaaGreatDoorPrimJoin
import Derived.Test.YtojkmemkmcnlnaaGreatDoorPrimImp
import Derived.Test.YtojkmemkmcnlnaaGreatDoorPrimRev
import Derived.Test.YtojkmemkmcnlnaaGreatDoorLives
set_option linter.unusedVariables false
namespace Go.Proofs.YtojkmemkmcnlnaaGreatDoor
open Go.RowKit Go.Shelf

def bExplode : ByteArray := ⟨#[101, 120, 112, 108, 111, 100, 101]⟩
def bImplode : ByteArray := ⟨#[105, 109, 112, 108, 111, 100, 101]⟩
def bReverse : ByteArray := ⟨#[114, 101, 118, 101, 114, 115, 101]⟩
def bSplit : ByteArray := ⟨#[115, 112, 108, 105, 116]⟩
def bJoin : ByteArray := ⟨#[106, 111, 105, 110]⟩
theorem isExplode : IsPrim bExplode 0 58 := ⟨by decide, by kernel_rfl, enters_of Tryz.func58 (by kernel_rfl) rfl⟩
theorem isImplode : IsPrim bImplode 0 59 := ⟨by decide, by kernel_rfl, enters_of Tryz.func59 (by kernel_rfl) rfl⟩
theorem isReverse : IsPrim bReverse 0 67 := ⟨by decide, by kernel_rfl, enters_of Tryz.func67 (by kernel_rfl) rfl⟩
theorem isSplit : IsPrim bSplit 1 64 := ⟨by decide, by kernel_rfl, enters_of Tryz.func64 (by kernel_rfl) rfl⟩
theorem isJoin : IsPrim bJoin 1 65 := ⟨by decide, by kernel_rfl, enters_of Tryz.func65 (by kernel_rfl) rfl⟩

def bs (l : List UInt8) : ByteArray := ⟨l.toArray⟩
theorem bs_data (s : ByteArray) : bs s.data.toList = s := by cases s; simp [bs]
theorem data_bs (l : List UInt8) : (bs l).data.toList = l := by simp [bs]
theorem bs_size (l : List UInt8) : (bs l).size = l.length := by simp [bs, ByteArray.size]

theorem explode_makes (s : ByteArray) (hs : s.size ≤ 1000000) : Makes 58 (textV s) [] (listV ((runes s.data.toList).map numV)) := by
  intro S cs C c W hT hr hA
  obtain ⟨A, c', B, d, rfl, _⟩ := hr.open_
  refine Calls.mono (explode_any s ⟨#[]⟩ A B C 0 c' 0 d 0 c W hs hT) ?_
  rintro e w' ⟨ds, he, hr, hb⟩
  exact ⟨ds, he, hr.wide fun g hg => .inr hg, hb⟩
theorem implode_makes (rs : List Nat) (hr : ∀ r ∈ rs, runeOk r) (hl : rs.length ≤ 1000000) : Makes 59 (listV (rs.map numV)) [] (textV (bs (encs rs))) := by
  intro S cs C c W hT hrep hA
  obtain ⟨A, c', B, d, rfl, _, _, hV, _⟩ := hrep.open_
  have hV' : VSl All W (rs.map numV) A c' := hV.all
  have hlen : (listV (rs.map numV)).items.length = rs.length := by simp [listV, Val.items]
  rw [hlen]
  refine Calls.mono (implode_ok rs ⟨#[]⟩ ⟨#[]⟩ A B C c' 0 d 0 c W hV' hr hl) ?_
  rintro e w' ⟨he, hb⟩
  have h4 := encs_len rs hr
  exact ⟨_, he, text_rep _ _ _ (by rw [bs_size]; omega), hb⟩
theorem reverse_makes (s : ByteArray) (hs : s.size ≤ 1000000) : Makes 67 (textV s) [] (textV (bs (turned s.data.toList))) := by
  intro S cs C c W hT hr hA
  obtain ⟨A, c', B, d, rfl, _⟩ := hr.open_
  refine Calls.mono (reverse_text s ⟨#[]⟩ A B C 0 c' 0 d 0 c W hs) ?_
  rintro e w' ⟨he, hb⟩
  have h4 := turned_len s.data.toList
  have hl : s.data.toList.length = s.size := by simp
  exact ⟨_, he, text_rep _ _ _ (by rw [bs_size]; omega), hb⟩
theorem split_makes (s by_ : ByteArray) (hs : s.size ≤ 1000000) (hby : 1 ≤ by_.size) : Makes 64 (textV s) [textV by_] (listV ((pieces s by_).map textV)) := by
  intro S cs C c W hT hr hA
  obtain ⟨A, c', B, d, rfl, _⟩ := hr.open_
  refine Calls.mono (split_ok s by_ ⟨#[]⟩ A B C 0 c' 0 d c W hs hby hA.all hT) ?_
  rintro e w' ⟨ds, he, hr, hb⟩
  exact ⟨ds, he, hr.wide fun g hg => .inr hg, hb⟩
theorem join_makes (ps : List ByteArray) (by_ : ByteArray) (hu : ∀ p ∈ ps, utfOk p = true) (hlen : ps.length ≤ 1000000) (htot : (ps.length - 1) * by_.size + sizes ps ≤ 1000000) (hj : (Lib.join (ps.map (·.data.toList)) by_.data.toList).length ≤ 1000000) :
    Makes 65 (listV (ps.map textV)) [textV by_] (textV (bs (Lib.join (ps.map (·.data.toList)) by_.data.toList))) := by
  intro S cs C c W hT hrep hA
  obtain ⟨A, c', B, d, rfl, _, _, hV, _⟩ := hrep.open_
  have hV' : VSl All W (ps.map textV) A c' := hV.all
  have hl : (listV (ps.map textV)).items.length = ps.length := by simp [listV, Val.items]
  rw [hl]
  refine Calls.mono (join_ok ps by_ ⟨#[]⟩ ⟨#[]⟩ A B C c' 0 d c W hV' hA.all hu hT hlen htot) ?_
  rintro e w' ⟨he, hb⟩
  exact ⟨_, he, text_rep _ _ _ (by rw [bs_size]; omega), hb⟩

section
variable {s by_ : ByteArray}
theorem pieces_data (h : s.size ≠ 0) : (pieces s by_).map (·.data.toList) = Lib.splitK by_.data.toList 0 (Lib.countB s by_) s.data.toList := by
  rw [pieces, if_neg h]; exact Lib.splitB_data _ _ _ _
theorem by_ne (hby : 1 ≤ by_.size) : by_.data.toList ≠ [] := by
  intro h0
  have h1 : by_.size = 0 := by have := congrArg List.length h0; simpa using this
  omega
theorem pieces_utf (hs : utfOk s = true) (hb : utfOk by_ = true) (hby : 1 ≤ by_.size) : ∀ p ∈ pieces s by_, utfOk p = true := by
  intro p hp
  by_cases h : s.size = 0
  · rw [pieces, if_pos h] at hp; cases hp
  · have hm : p.data.toList ∈ (pieces s by_).map (·.data.toList) := List.mem_map.2 ⟨p, hp, rfl⟩
    rw [pieces_data h] at hm
    exact splitK_valid _ hb (by_ne hby) _ _ hs _ hm
theorem pieces_join (h : s.size ≠ 0) : Lib.join ((pieces s by_).map (·.data.toList)) by_.data.toList = s.data.toList := by
  rw [pieces_data h]; exact join_splitK _ _ _
theorem pieces_tot (hby : 1 ≤ by_.size) : ((pieces s by_).length - 1) * by_.size + sizes (pieces s by_) ≤ s.size ∧ (Lib.join ((pieces s by_).map (·.data.toList)) by_.data.toList).length ≤ s.size ∧ sizes (pieces s by_) + (pieces s by_).length ≤ s.size + 1 := by
  by_cases h : s.size = 0
  · have : pieces s by_ = [] := by rw [pieces, if_pos h]
    rw [this]; simp [sizes, Lib.join]
  · have hj := pieces_join (by_ := by_) h
    have h2 := lens_splitK _ (by_ne hby) (Lib.countB s by_) s.data.toList
    rw [← pieces_data h, ← sizes_lens, List.length_map] at h2
    have h3 := sizes_lens (pieces s by_)
    have hl : s.data.toList.length = s.size := by simp
    have hlb : by_.data.toList.length = by_.size := by simp
    refine ⟨?_, by rw [hj, hl]; omega, by omega⟩
    cases hp : pieces s by_ with
    | nil => simp [sizes]
    | cons x xs =>
      have h4 := Lib.join_length x.data.toList (xs.map (·.data.toList)) by_.data.toList
      rw [hp] at hj h3
      simp only [List.map_cons] at hj h3
      rw [hj, hl, List.length_map, ← h3, hlb, Nat.mul_comm] at h4
      simp only [List.length_cons, Nat.add_sub_cancel]
      omega
end
theorem sizes_map (ps : List ByteArray) : (ps.map (·.size)).sum = sizes ps := rfl
theorem weight_pieces (ps : List ByteArray) : (listV (ps.map textV)).weight = 1 + (sizes ps + ps.length) := by rw [weight_list, weights_map_text]; rfl
theorem all_map_ok {α : Type} (l : List α) (f : α → Val) (h : ∀ x ∈ l, (f x).ok = true) : (l.map f).all Val.ok = true := by
  rw [List.all_eq_true]
  intro v hv
  obtain ⟨x, hx, rfl⟩ := List.mem_map.1 hv
  exact h x hx
theorem light_text (s : ByteArray) (w : World) (hs : s.size ≤ 140737488355328) : Calls Tryz.prog 8 #[.agg (textCs s).toArray] w (LightC w (textV s)) :=
  light_any (textV s) _ w (text_rep All w s hs) fun A c W h => (fit_any [textV s] A c W h).mono fun e w' ⟨⟨b, he⟩, hb⟩ => ⟨b, he, fun _ => by simp only [Val.weights, weight_text]; omega, hb⟩

section
variable {s : ByteArray} (hok : (textV s).ok = true) (hwt : (textV s).weight < 30000)
include hok hwt
theorem twice_exp (w : World) (hT : Tabs w) : Calls Tryz.prog 9 #[.string bExplode, .string bImplode, .agg (textCs s).toArray, .agg (textCs s).toArray] w fun e w' => e = .returned (.bool true) ∧ Below w.heap.size w w' := by
  have hs : s.size < 30000 := by rw [weight_text] at hwt; omega
  rw [textV_ok] at hok
  have hrl := runes_len s.data.toList
  have hsl : s.data.toList.length = s.size := by simp
  have hrk := runes_ok s.data.toList
  have hen := encs_runes s.data.toList hok
  have hr := text_rep All w s (by omega)
  have h := twice_any bExplode bImplode (textV s) (listV ((runes s.data.toList).map numV)) (textV (bs (encs (runes s.data.toList)))) (textV s) _ _ w hr hr
    (fun W hW => made_good (args := []) isExplode (explode_makes s (by omega)) (by rw [textV_ok]; exact hok) rfl (by
      rw [weight_list]
      have := weights_le ((runes s.data.toList).map numV) 8 (fun v hv => by
        obtain ⟨u, hu, rfl⟩ := List.mem_map.1 hv
        have h1 := weight_num u
        have h2 := dec_len u (by have := hrk u hu; unfold runeOk at this; omega)
        omega)
      rw [List.length_map] at this
      omega) _ none 0 W (hr.below hW) (VSl.nil All W none 0 (by omega)) (hT.below hW))
    (fun W xs hW hx => made_good (args := []) isImplode (implode_makes _ hrk (by omega)) (by rw [listV_ok]; exact all_map_ok _ _ fun u _ => numV_ok u) rfl (by
      rw [weight_text, bs_size, hen]; omega) _ none 0 W hx (VSl.nil All W none 0 (by omega)) (hT.below hW))
  rw [hen, bs_data, Val.like_self] at h
  exact h
theorem twice_rev (w : World) (hT : Tabs w) : Calls Tryz.prog 9 #[.string bReverse, .string bReverse, .agg (textCs s).toArray, .agg (textCs s).toArray] w fun e w' => e = .returned (.bool true) ∧ Below w.heap.size w w' := by
  have hs : s.size < 30000 := by rw [weight_text] at hwt; omega
  rw [textV_ok] at hok
  have hsl : s.data.toList.length = s.size := by simp
  have htl := turned_len s.data.toList
  have htt := turned_turned s.data.toList hok
  have hr := text_rep All w s (by omega)
  have h := twice_any bReverse bReverse (textV s) (textV (bs (turned s.data.toList))) (textV (bs (turned (bs (turned s.data.toList)).data.toList))) (textV s) _ _ w hr hr
    (fun W hW => made_good (args := []) isReverse (reverse_makes s (by omega)) (by rw [textV_ok]; exact hok) rfl (by
      rw [weight_text, bs_size]; omega) _ none 0 W (hr.below hW) (VSl.nil All W none 0 (by omega)) (hT.below hW))
    (fun W xs hW hx => made_good (args := []) isReverse (reverse_makes _ (by rw [bs_size]; omega)) (by rw [textV_ok, utfOk, data_bs]; exact turned_valid _) rfl (by
      rw [data_bs, htt, weight_text, bs_size]; omega) _ none 0 W hx (VSl.nil All W none 0 (by omega)) (hT.below hW))
  rw [data_bs, htt, bs_data, Val.like_self] at h
  exact h
end
end Go.Proofs.YtojkmemkmcnlnaaGreatDoor
