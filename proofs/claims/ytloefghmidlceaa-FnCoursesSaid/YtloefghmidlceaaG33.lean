/- Texts laid together: impl.copyInts: a copy in new memory. Condition: at most 1048576 elements.; impl.copyInts, slices.Reverse, impl.ReverseCourse, spec.ReverseCourse. Condition: at most 1048576 numbers, controls, codes. -/
import Derived.Test.YtloefghmidlceaaG3
import Derived.Test.YtloefghmidlceaaG1
import Derived.Test.YtloefghmidlceaaG31
import Derived.Test.YtloefghmidlceaaG29
/- impl.copyInts: a copy in new memory. Condition: at most 1048576 elements. -/
namespace Go.Proofs.Ytloefghmidlceaa
open Go.RowKit Go.Ori
theorem copyInts_any (v : Value) (l : List Int) (w : World) (h : w.sl intC 1 v l) (hl : l.length ≤ 1048576) :
    Calls Try.prog 94 #[v] w fun x w' => ∃ v', x = .returned v' ∧ (∃ d, w' = w.ext d) ∧ w'.own w.heap.size 3 intC 1 v' l := by
  go_enter Try.func94, Try.ntmps94
  go_wp2_with (at_builtin; refine wpList_append_gain rfl (.tmp 3) (.tmp 4) rfl Try.underlying24 info_int (by rfl) (by omega) intC_length intC_one (by omega) (gain_alloc w.gained_refl _) (Nat.le_refl _) (by simp) rfl rfl (own_lit (l := ([] : List Int)) intC_length rfl (by simp)) (sl_alloc intC_length h _) (by simpa using (by omega : l.length ≤ 2097152)) ?_; intro v' d ho hg)
  go_ret
  exact ⟨_, rfl, ⟨_, rfl⟩, ho⟩
end Go.Proofs.Ytloefghmidlceaa
/- impl.copyInts, slices.Reverse, impl.ReverseCourse, spec.ReverseCourse. Condition: at most 1048576 numbers, controls, codes. -/
namespace Go.Ori
/-- i numbers at each end are exchanged. -/
def swapAt (l : List Int) (i k : Nat) : Int := if k < i ∨ l.length - i ≤ k then l.getD (l.length - 1 - k) 0 else l.getD k 0
structure Swapped (l L : List Int) (i : Nat) : Prop where
  len : L.length = l.length
  at_ : ∀ k, k < l.length → L.getD k 0 = swapAt l i k
theorem swapped_zero (l : List Int) : Swapped l l 0 := ⟨rfl, fun k hk => by rw [swapAt, if_neg (by omega)]⟩
theorem swapped_step {l L : List Int} {i : Nat} (h : Swapped l L i) (hi : i < l.length - 1 - i) : Swapped l ((L.set i (L.getD (l.length - 1 - i) 0)).set (l.length - 1 - i) (L.getD i 0)) (i + 1) := by
  have hl := h.len
  refine ⟨by rw [List.length_set, List.length_set]; exact hl, fun k hk => ?_⟩
  have hs1 : i < L.length := by omega
  have hs2 : l.length - 1 - i < (L.set i (L.getD (l.length - 1 - i) 0)).length := by rw [List.length_set]; omega
  rw [getD_set _ _ _ _ hs2, getD_set _ _ _ _ hs1, h.at_ i (by omega), h.at_ (l.length - 1 - i) (by omega), h.at_ k hk]
  unfold swapAt
  by_cases e1 : l.length - 1 - i = k
  · rw [if_pos e1, if_neg (by omega), if_pos (by omega)]
    congr 1
    omega
  · rw [if_neg e1]
    by_cases e2 : i = k
    · rw [if_pos e2, if_neg (by omega), if_pos (by omega)]
      congr 1
      omega
    · rw [if_neg e2]
      by_cases e3 : k < i ∨ l.length - i ≤ k
      · rw [if_pos e3, if_pos (by omega)]
      · rw [if_neg e3, if_neg (by omega)]
theorem swapped_end {l L : List Int} {i : Nat} (h : Swapped l L i) (hi : ¬ i < l.length - 1 - i) : L = l.reverse := by
  apply List.ext_getElem
  · rw [List.length_reverse]; exact h.len
  · intro k h1 h2
    have hk : k < l.length := by rw [← h.len]; exact h1
    have e := h.at_ k hk
    rw [List.getD_eq_getElem?_getD, List.getElem?_eq_getElem h1, Option.getD_some] at e
    rw [e, List.getElem_reverse]
    unfold swapAt
    split
    · rw [List.getD_eq_getElem?_getD, List.getElem?_eq_getElem (by omega : l.length - 1 - k < l.length), Option.getD_some]
    · rw [List.getD_eq_getElem?_getD, List.getElem?_eq_getElem hk, Option.getD_some]
      congr 1
      omega
def revL (m : Mp) (l : List Ctl) (t : List Int) : List Int := if crsB m l t then t.reverse else []
theorem revL_length (m : Mp) (l : List Ctl) (t : List Int) (h : t.length ≤ 1048576) : (revL m l t).length ≤ 1048576 := by
  unfold revL; split <;> simp [h]
end Go.Ori
namespace Go.Proofs.Ytloefghmidlceaa
open Go.RowKit Go.Ori
set_option maxHeartbeats 2000000 in
theorem reverse_any (W : World) (v : Value) (l : List Int) (w : World) (B : Nat) (h : w.own B 3 intC 1 v l) (h0 : 0 < l.length) (hl : l.length ≤ 1048576) (hW : ∃ d, w = W.ext d) (hB : W.heap.size ≤ B) :
    Calls Try.prog 95 #[v] w fun x w' => x = .returned (.tuple #[]) ∧ (∃ d, w' = W.ext d) ∧ w'.own B 3 intC 1 v l.reverse := by
  obtain ⟨g, cap, rfl, hgB, hgl⟩ := own_addr h h0
  have HO := Lib.hid h
  have HW := Lib.hid hW
  clear h hW
  go_enter Try.func95, Try.ntmps95
  go_wp2_with fail
  go_loopw [2, 3] (fun i j wr => ∃ (q : Nat) (L : List Int), q ≤ l.length ∧ i = .int .i64 q ∧ j = .int .i64 ((l.length : Int) - 1 - q) ∧ (∃ d, wr = W.ext d) ∧ wr.own B 3 intC 1 (.slice (some ⟨g, 0, none⟩) l.length cap) L ∧ Swapped l L q) (fun i _ _ => l.length - (intOf i).toNat)
  case atStart => exact ⟨0, l, by omega, rfl, by simp, HW.out, HO.out, swapped_zero l⟩
  case round =>
    obtain ⟨q, L, hq, rfl, rfl, ⟨d, rfl⟩, ho, hs⟩ := hrel
    have HO2 := Lib.hid ho
    have HS := Lib.hid hs
    clear ho hs
    by_cases hlt : q < l.length - 1 - q
    · obtain ⟨j, hj⟩ : ∃ j, j = l.length - 1 - q := ⟨_, rfl⟩
      have hji : (l.length : Int) - 1 - q = (j : Int) := by omega
      obtain ⟨tq, zq⟩ := own_at HO2.out (k := q) (by rw [HS.out.len]; omega)
      obtain ⟨tj, zj⟩ := own_at HO2.out (k := j) (by rw [HS.out.len]; omega)
      have HT := Lib.hid (hj ▸ swapped_step HS.out hlt)
      have HL := Lib.hid HS.out.len
      have obg := World.oldB_of_cell tq
      have hqj : q < j := by omega
      have hjl : j < l.length := by omega
      rw [hji]
      have hji2 := Lib.hid hji
      clear hji hj
      generalize L.getD q 0 = xq at tq HT
      generalize L.getD j 0 = xj at tj HT
      have hqn : q < l.length := by omega
      have hqn' : (q : Int) < (l.length : Int) := by omega
      have hjn' : (j : Int) < (l.length : Int) := by omega
      have hgW : W.heap.size ≤ g := Nat.le_trans hB hgB
      go_wp2
      go_region_law fail
      all_goals
        go_wp2
        go_roundw
        case rel => exact ⟨q + 1, _, by omega, by go_num, (by have := hji2.out; congr 1; omega), (by first | exact gain_drew (gain_setCell (gain_setCell ⟨_, rfl⟩ hgW _) hgW _) | exact gain_setCell (gain_setCell (gain_drew ⟨_, rfl⟩) hgW _) hgW _), (by first | exact own_drew (own_set (own_set HO2.out (by rw [HL.out]; exact hqn) _) (by rw [List.length_set, HL.out]; exact hjl) _) | exact own_set (own_set (own_drew HO2.out) (by rw [HL.out]; exact hqn) _) (by rw [List.length_set, HL.out]; exact hjl) _), HT.out⟩
        case measure => simp [intOf]; omega
    · have HE := Lib.hid (swapped_end HS.out hlt)
      have hqj : ¬ (q : Int) < (l.length : Int) - 1 - q := by omega
      go_wp2
      refine bodyPost_end (v := .tuple #[]) (by simp [results, Try.results95, go_sem]) rfl ?_
      exact ⟨rfl, ⟨_, rfl⟩, by rw [← HE.out]; exact HO2.out⟩
theorem rev_take_succ {t : List Int} {q : Nat} (h : q < t.length) : t.reverse.take (q + 1) = t.reverse.take q ++ [t[t.length - 1 - q]'(by omega)] := by
  rw [List.take_succ_eq_append_getElem (by rw [List.length_reverse]; exact h), List.getElem_reverse]
theorem revL_no {m : Mp} {l : List Ctl} {t : List Int} (h : crsB m l t = false) : revL m l t = [] := by simp [revL, h]
theorem revL_yes {m : Mp} {l : List Ctl} {t : List Int} (h : crsB m l t = true) : revL m l t = t.reverse := by simp [revL, h]
set_option maxHeartbeats 2000000 in
theorem impReverse_any (m : Mp) (rv cv v u : Value) (l : List Ctl) (t : List Int) (w : World) (hmp : w.mp rv cv m) (h : w.sl Ctl.cells 2 v l) (hl : l.length ≤ 1048576) (h2 : w.sl intC 1 u t) (hl2 : t.length ≤ 1048576) :
    Calls Try.prog 17 #[.agg #[.int .i64 m.wd, .int .i64 m.ht, rv, cv], v, u] w fun x w' => ∃ r, x = .returned (.tuple #[r, .bool (crsB m l t)]) ∧ (∃ d, w' = w.ext d) ∧ w'.own w.heap.size 3 intC 1 r (revL m l t) := by
  have hm := Lib.hid hmp
  have hs := Lib.hid h
  have ht := Lib.hid h2
  obtain ⟨p1, c1, p2, c2, rfl, rfl⟩ := mp_form hmp
  have HGD := Lib.hid (fun w' hw' hv' hu' => isCourse_any m (.slice p1 m.rise.length c1) (.slice p2 m.cost.length c2) v u l t w' hw' hv' hl hu' hl2)
  clear hmp h h2
  cases hB : crsB m l t with
  | false =>
    have HE := Lib.hid (revL_no hB)
    rw [hB] at HGD
    clear hB
    go_enter Try.func17, Try.ntmps17
    go_wp2_with (go_at_call 13; refine (HGD.out _ (mp_up (hm.out) (by repeat (first | with_reducible (first | exact World.gained_refl _ | exact ⟨_, rfl⟩ | apply gain_ext | apply gain_alloc | apply gain_drewN | apply gain_drew) | (refine gain_setCell ?_ (by first | exact Nat.le_refl _ | exact World.size_ext _ _ | (simp; done) | (simp; omega)) _)))) (by with_reducible (repeat (first | exact hs.out | refine World.sl_ext Ctl.cells_length ?_ _ | refine sl_alloc Ctl.cells_length ?_ _ | refine sl_drew ?_))) (by with_reducible (repeat (first | exact ht.out | refine World.sl_ext intC_length ?_ _ | refine sl_alloc intC_length ?_ _ | refine sl_drew ?_)))).mono ?_; rintro e w1 ⟨rfl, d1, rfl⟩)
    go_ret2
    rw [HE.out]
    exact ⟨_, rfl, (by repeat (first | with_reducible (first | exact World.gained_refl _ | exact ⟨_, rfl⟩ | apply gain_ext | apply gain_alloc | apply gain_drewN | apply gain_drew) | (refine gain_setCell ?_ (by first | exact Nat.le_refl _ | exact World.size_ext _ _ | (simp; done) | (simp; omega)) _))), own_nil _ _ _ _ _⟩
  | true =>
    have HE := Lib.hid (revL_yes hB)
    have HT2 := Lib.hid (show 0 < t.length by have := (crsB_true hB).lo; omega)
    rw [hB] at HGD
    clear hB
    go_enter Try.func17, Try.ntmps17
    go_wp2_with (go_at_call 13; refine (HGD.out _ (mp_up (hm.out) (by repeat (first | with_reducible (first | exact World.gained_refl _ | exact ⟨_, rfl⟩ | apply gain_ext | apply gain_alloc | apply gain_drewN | apply gain_drew) | (refine gain_setCell ?_ (by first | exact Nat.le_refl _ | exact World.size_ext _ _ | (simp; done) | (simp; omega)) _)))) (by with_reducible (repeat (first | exact hs.out | refine World.sl_ext Ctl.cells_length ?_ _ | refine sl_alloc Ctl.cells_length ?_ _ | refine sl_drew ?_))) (by with_reducible (repeat (first | exact ht.out | refine World.sl_ext intC_length ?_ _ | refine sl_alloc intC_length ?_ _ | refine sl_drew ?_)))).mono ?_; rintro e w1 ⟨rfl, d1, rfl⟩)
    refine (copyInts_any _ t _ (by with_reducible (repeat (first | exact ht.out | refine World.sl_ext intC_length ?_ _ | refine sl_alloc intC_length ?_ _ | refine sl_drew ?_))) hl2).mono ?_
    rintro e w1 ⟨r, rfl, ⟨d2, rfl⟩, ho⟩
    have HO := Lib.hid ho
    clear ho
    go_wp2_with fail
    refine (reverse_any w _ t _ _ HO.out HT2.out hl2 (by repeat (first | with_reducible (first | exact World.gained_refl _ | exact ⟨_, rfl⟩ | apply gain_ext | apply gain_alloc | apply gain_drewN | apply gain_drew) | (refine gain_setCell ?_ (by first | exact Nat.le_refl _ | exact World.size_ext _ _ | (simp; done) | (simp; omega)) _))) (gain_size (by repeat (first | with_reducible (first | exact World.gained_refl _ | exact ⟨_, rfl⟩ | apply gain_ext | apply gain_alloc | apply gain_drewN | apply gain_drew) | (refine gain_setCell ?_ (by first | exact Nat.le_refl _ | exact World.size_ext _ _ | (simp; done) | (simp; omega)) _))))).mono ?_
    rintro e w1 ⟨rfl, ⟨d3, rfl⟩, ho⟩
    have HO3 := Lib.hid (own_base (b := w.heap.size) ho (gain_size (by repeat (first | with_reducible (first | exact World.gained_refl _ | exact ⟨_, rfl⟩ | apply gain_ext | apply gain_alloc | apply gain_drewN | apply gain_drew) | (refine gain_setCell ?_ (by first | exact Nat.le_refl _ | exact World.size_ext _ _ | (simp; done) | (simp; omega)) _)))))
    clear ho HO
    go_wp2
    go_ret2
    rw [HE.out]
    exact ⟨_, rfl, ⟨_, rfl⟩, HO3.out⟩
set_option maxHeartbeats 2000000 in
theorem specReverse_any (m : Mp) (rv cv v u : Value) (l : List Ctl) (t : List Int) (w : World) (hmp : w.mp rv cv m) (h : w.sl Ctl.cells 2 v l) (hl : l.length ≤ 1048576) (h2 : w.sl intC 1 u t) (hl2 : t.length ≤ 1048576) :
    Calls Try.prog 18 #[.agg #[.int .i64 m.wd, .int .i64 m.ht, rv, cv], v, u] w fun x w' => ∃ r, x = .returned (.tuple #[r, .bool (crsB m l t)]) ∧ (∃ d, w' = w.ext d) ∧ w'.own w.heap.size 3 intC 1 r (revL m l t) := by
  have hm := Lib.hid hmp
  have hs := Lib.hid h
  have ht := Lib.hid h2
  obtain ⟨p1, c1, p2, c2, rfl, rfl⟩ := mp_form hmp
  obtain ⟨p4, c4, rfl, _⟩ := id h2
  have HGD := Lib.hid (fun w' hw' hv' hu' => l8Good_any m (.slice p1 m.rise.length c1) (.slice p2 m.cost.length c2) v (.slice p4 t.length c4) l t w' hw' hv' hl hu' hl2)
  clear hmp h h2
  cases hB : crsB m l t with
  | false =>
    have HE := Lib.hid (revL_no hB)
    rw [hB] at HGD
    clear hB
    go_enter Try.func18, Try.ntmps18
    go_wp2_with (go_at_call 86; refine (HGD.out _ (mp_up (hm.out) (by repeat (first | with_reducible (first | exact World.gained_refl _ | exact ⟨_, rfl⟩ | apply gain_ext | apply gain_alloc | apply gain_drewN | apply gain_drew) | (refine gain_setCell ?_ (by first | exact Nat.le_refl _ | exact World.size_ext _ _ | (simp; done) | (simp; omega)) _)))) (by with_reducible (repeat (first | exact hs.out | refine World.sl_ext Ctl.cells_length ?_ _ | refine sl_alloc Ctl.cells_length ?_ _ | refine sl_drew ?_))) (by with_reducible (repeat (first | exact ht.out | refine World.sl_ext intC_length ?_ _ | refine sl_alloc intC_length ?_ _ | refine sl_drew ?_)))).mono ?_; rintro e w1 ⟨rfl, d1, rfl⟩)
    go_ret2
    rw [HE.out]
    exact ⟨_, rfl, (by repeat (first | with_reducible (first | exact World.gained_refl _ | exact ⟨_, rfl⟩ | apply gain_ext | apply gain_alloc | apply gain_drewN | apply gain_drew) | (refine gain_setCell ?_ (by first | exact Nat.le_refl _ | exact World.size_ext _ _ | (simp; done) | (simp; omega)) _))), own_up (own_lit' (w := (w.alloc (.cells #[.int .i64 m.wd, .int .i64 m.ht, .slice p1 m.rise.length c1, .slice p2 m.cost.length c2] 26))) (base := w.heap.size) (e := 3) (C := #[]) (l := ([] : List Int)) intC_length rfl (by rw [World.size_alloc]) (by rw [World.size_alloc]; omega)) (by repeat (first | with_reducible (first | exact World.gained_refl _ | exact ⟨_, rfl⟩ | apply gain_ext | apply gain_alloc | apply gain_drewN | apply gain_drew) | (refine gain_setCell ?_ (by first | exact Nat.le_refl _ | exact World.size_ext _ _ | (simp; done) | (simp; omega)) _)))⟩
  | true =>
    have HE := Lib.hid (revL_yes hB)
    rw [hB] at HGD
    clear hB
    go_enter Try.func18, Try.ntmps18
    go_wp2_with (go_at_call 86; refine (HGD.out _ (mp_up (hm.out) (by repeat (first | with_reducible (first | exact World.gained_refl _ | exact ⟨_, rfl⟩ | apply gain_ext | apply gain_alloc | apply gain_drewN | apply gain_drew) | (refine gain_setCell ?_ (by first | exact Nat.le_refl _ | exact World.size_ext _ _ | (simp; done) | (simp; omega)) _)))) (by with_reducible (repeat (first | exact hs.out | refine World.sl_ext Ctl.cells_length ?_ _ | refine sl_alloc Ctl.cells_length ?_ _ | refine sl_drew ?_))) (by with_reducible (repeat (first | exact ht.out | refine World.sl_ext intC_length ?_ _ | refine sl_alloc intC_length ?_ _ | refine sl_drew ?_)))).mono ?_; rintro e w1 ⟨rfl, d1, rfl⟩)
    go_loopw [8, 9] (fun ov i wr => ∃ q : Nat, q ≤ t.length ∧ i = .int .i64 ((t.length : Int) - 1 - q) ∧ (∃ d, wr = w.ext d) ∧ wr.own w.heap.size 3 intC 1 ov (t.reverse.take q)) (fun _ i _ => (intOf i + 1).toNat)
    case atStart => exact ⟨0, by omega, by simp, (by repeat (first | with_reducible (first | exact World.gained_refl _ | exact ⟨_, rfl⟩ | apply gain_ext | apply gain_alloc | apply gain_drewN | apply gain_drew) | (refine gain_setCell ?_ (by first | exact Nat.le_refl _ | exact World.size_ext _ _ | (simp; done) | (simp; omega)) _))), own_up (own_lit' (w := (w.alloc (.cells #[.int .i64 m.wd, .int .i64 m.ht, .slice p1 m.rise.length c1, .slice p2 m.cost.length c2] 26))) (base := w.heap.size) (e := 3) (C := #[]) (l := ([] : List Int)) intC_length rfl (by rw [World.size_alloc]) (by rw [World.size_alloc]; omega)) (by repeat (first | with_reducible (first | exact World.gained_refl _ | exact ⟨_, rfl⟩ | apply gain_ext | apply gain_alloc | apply gain_drewN | apply gain_drew) | (refine gain_setCell ?_ (by first | exact Nat.le_refl _ | exact World.size_ext _ _ | (simp; done) | (simp; omega)) _)))⟩
    case round =>
      obtain ⟨q, hq, rfl, ⟨d, rfl⟩, ho⟩ := hrel
      have HO := Lib.hid ho
      clear ho
      by_cases hlt : q < t.length
      · obtain ⟨j, hj⟩ : ∃ j, j = t.length - 1 - q := ⟨_, rfl⟩
        have hjl : j < t.length := by omega
        have HJ := Lib.hid (show (t.length : Int) - 1 - q = (j : Int) by omega)
        obtain ⟨b, o, rfl⟩ := sl_some ht.out (by omega)
        have c0 := sl_int ht.out hjl
        have HS := Lib.hid (show t.reverse.take (q + 1) = t.reverse.take q ++ [t[j]] by subst hj; exact rev_take_succ hlt)
        have HLN := Lib.hid (show (t.reverse.take q).length + 1 ≤ 2097152 by rw [List.length_take]; omega)
        generalize t[j] = x at c0 HS
        have ob := World.oldB_of_cell c0
        rw [HJ.out]
        clear hj
        go_wp2_with (at_builtin; go_must (refine wpList_append_gain (m := [x]) rfl (.tmp 24) (.tmp 29) rfl Try.underlying24 info_int (by rfl) (by omega) intC_length intC_one (by omega) (by repeat (first | with_reducible (first | exact World.gained_refl _ | exact ⟨_, rfl⟩ | apply gain_ext | apply gain_alloc | apply gain_drewN | apply gain_drew) | (refine gain_setCell ?_ (by first | exact Nat.le_refl _ | exact World.size_ext _ _ | (simp; done) | (simp; omega)) _))) (Nat.le_refl _) (gain_size (by repeat (first | with_reducible (first | exact World.gained_refl _ | exact ⟨_, rfl⟩ | apply gain_ext | apply gain_alloc | apply gain_drewN | apply gain_drew) | (refine gain_setCell ?_ (by first | exact Nat.le_refl _ | exact World.size_ext _ _ | (simp; done) | (simp; omega)) _)))) rfl rfl (own_up (HO.out) (by repeat (first | with_reducible (first | exact World.gained_refl _ | exact ⟨_, rfl⟩ | apply gain_ext | apply gain_alloc | apply gain_drewN | apply gain_drew) | (refine gain_setCell ?_ (by first | exact Nat.le_refl _ | exact World.size_ext _ _ | (simp; done) | (simp; omega)) _)))) (sl_lit (l := [x]) intC_length rfl (by simp)) (by simp only [List.length_singleton]; exact HLN.out) ?_); intro v9 d9 ho hg)
        go_roundw
        case rel => exact ⟨q + 1, by omega, by have := HJ.out; go_num, ⟨_, rfl⟩, by rw [HS.out]; exact ho⟩
        case measure => first | (simp [intOf]; done) | (have := HJ.out; simp [intOf]; omega)
      · have hq0 : ¬ (0 : Int) ≤ (t.length : Int) - 1 - q := by omega
        obtain rfl : q = t.length := by omega
        go_wp2
        go_ret2
        rw [HE.out]
        refine ⟨_, rfl, ⟨_, rfl⟩, ?_⟩
        have := HO.out
        rw [List.take_of_length_le (by rw [List.length_reverse]; exact Nat.le_refl _)] at this
        exact this
end Go.Proofs.Ytloefghmidlceaa
