/- spec.l2Next. Conditions: a valid map; a cell of it. -/
import Derived.Test.YtmcimgnobimicaaGreatG14
namespace Go.Ori
def cand1 (W y c : Nat) : List Nat := if 0 < y then [c - W] else []
def cand2 (W x y c : Nat) : List Nat := cand1 W y c ++ if 0 < x then [c - 1] else []
def cand3 (W x y c : Nat) : List Nat := cand2 W x y c ++ if x + 1 < W then [c + 1] else []
def cand4 (W H x y c : Nat) : List Nat := cand3 W x y c ++ if y + 1 < H then [c + W] else []
theorem cand4_eq (W H c : Nat) : cand4 W H (c % W) (c / W) c = candN W H c := rfl
theorem cand_l1 (W y c : Nat) : (natL (cand1 W y c)).length ≤ 1 := by rw [natL_length]; unfold cand1; split <;> simp
theorem cand_l2 (W x y c : Nat) : (natL (cand2 W x y c)).length ≤ 2 := by
  have := cand_l1 W y c
  rw [natL_length] at this ⊢; unfold cand2; rw [List.length_append]; split <;> simp <;> omega
theorem cand_l3 (W x y c : Nat) : (natL (cand3 W x y c)).length ≤ 3 := by
  have := cand_l2 W x y c
  rw [natL_length] at this ⊢; unfold cand3; rw [List.length_append]; split <;> simp <;> omega
theorem cand_l4 (W H x y c : Nat) : (natL (cand4 W H x y c)).length ≤ 4 := by
  have := cand_l3 W x y c
  rw [natL_length] at this ⊢; unfold cand4; rw [List.length_append]; split <;> simp <;> omega
end Go.Ori
namespace Go.Proofs.YtmcimgnobimicaaGreat
open Go.RowKit Go.Ori
set_option maxHeartbeats 4000000 in
theorem l2Next_any (m : Mp) (rv cv : Value) (W H c : Nat) (w : World) (hok : MapOk m W H) (h : w.mp rv cv m) (hc : c < m.cost.length) :
    Calls Tryz.prog 85 #[.agg #[.int .i64 m.wd, .int .i64 m.ht, rv, cv], .int .i64 c] w fun x w' => ∃ v', x = .returned v' ∧ (∃ d, w' = w.ext d) ∧ w'.own w.heap.size 3 intC 1 v' (natL (nextL m c)) := by
  obtain ⟨x, _, y, _, q1, _, q3, _, e1, _, e3, _, r1, _, r3, _⟩ := gap_facts hok.w1 hok.w6 (a := c) (b := c) (by have := hok.n36; omega) (by have := hok.n36; omega)
  have HE := Lib.hid (show nextL m c = (cand4 W H x y c).filter (fun k => decide (0 < costAt m k)) by rw [next_cand hok hc, e1, e3, cand4_eq])
  have HCA := Lib.hid (fun k (hk : k ∈ cand4 W H x y c) => show k < m.cost.length by
    rw [e1, e3, cand4_eq, ← cand_eq hok.w1 hok.w6 hok.h6 (by rw [← hok.cl]; exact hc)] at hk
    rw [hok.cl]
    exact List.mem_range.1 (List.mem_filter.1 hk).1)
  have RD := Lib.hid (show (c : Int) / (W : Int) = (y : Int) by rw [e3]; rfl)
  have hW1 := hok.w1
  have hW6 := hok.w6
  have hH6 := hok.h6
  have HWy := Lib.hid (show 0 < y → W ≤ c by
    intro hy
    rw [e3] at hy
    exact (Nat.div_pos_iff.1 hy).2)
  have HXc := Lib.hid (show x ≤ c by rw [e1]; exact Nat.mod_le _ _)
  have HWD := Lib.hid hok.wd
  have HHT := Lib.hid hok.ht
  clear e1 e3
  have hm := Lib.hid h
  obtain ⟨b1, o1, c1, b2, o2, c2, hin⟩ := mp_in h hok
  have hn := hok.n36
  have HIN := Lib.hid hin
  have HK := Lib.hid hok
  obtain rfl := hin.rv
  obtain rfl := hin.cv
  have ob1 := hin.ob1
  have ob2 := hin.ob2
  clear h hin hok
  go_enter Tryz.func85, Tryz.ntmps85
  go_wp2_with fail
  generalize hW0 : w.alloc (.cells #[.int .i64 m.wd, .int .i64 m.ht, .slice (some ⟨b1, o1, none⟩) m.cost.length c1, .slice (some ⟨b2, o2, none⟩) m.cost.length c2] 26) = W0
  have hbx : MBox w W0 w.heap.size m (.slice (some ⟨b1, o1, none⟩) m.cost.length c1) (.slice (some ⟨b2, o2, none⟩) m.cost.length c2) := by rw [← hW0]; exact mbox
  have HG := Lib.hid hbx.up
  have hsz := hbx.sz
  have bx0 := hbx.c0
  have bx1 := hbx.c1
  have bx2 := hbx.c2
  have bx3 := hbx.c3
  have obx := hbx.ob
  have HSE := Lib.hid hbx.se
  have HI0 := Lib.hid (HIN.out.up HG.out)
  clear hW0 hbx ob1 ob2
  have ob1 := HI0.out.ob1
  have ob2 := HI0.out.ob2
  rw [HWD.out] at bx0
  rw [HHT.out] at bx1
  have HNEW := Lib.hid (own_lit' (w := W0) (base := W0.heap.size) (e := 3) (l := ([] : List Int)) intC_length rfl HSE.out.symm (Nat.le_refl _))
  have hx36 : x ≤ 36 := q1
  have hy36 : y ≤ 36 := q3
  refine wp_region_gain (by kernel_rfl) (by kernel_rfl) ?_
  repeat (first | go_big_quiet_skip | (go_big_quiet_want; go_big_quiet_op; first | go_big_quiet_on))
  refine wpQuiet_nil ?_
  rintro _ ⟨d', rfl⟩
  have r3b : (c : Int) / (W : Int) = (y : Int) := RD.out
  clear r3
  go_upto_if 20 with fail
  simp only [r1, r3b]
  clear r1 r3b
  go_cut [5] (fun s wx => (∃ d, wx = W0.ext d) ∧ wx.own W0.heap.size 3 intC 1 s (natL (cand1 W y c)))
  case first =>
    by_cases hy : 0 < y
    · have hWc := HWy.out hy
      go_wp2_with (at_builtin; go_must (refine wpList_append_gain (m := [(c : Int) - (W : Int)]) rfl (.tmp 21) (.tmp 26) rfl Tryz.underlying24 info_int (by rfl) (by omega) intC_length intC_one (by omega) (by repeat (first | with_reducible (first | exact World.gained_refl _ | exact ⟨_, rfl⟩ | apply gain_ext | apply gain_alloc | apply gain_drewN | apply gain_drew) | (refine gain_setCell ?_ (by first | exact Nat.le_refl _ | exact World.size_ext _ _ | (simp; done) | (simp; omega)) _))) (Nat.le_refl _) (gain_size (by repeat (first | with_reducible (first | exact World.gained_refl _ | exact ⟨_, rfl⟩ | apply gain_ext | apply gain_alloc | apply gain_drewN | apply gain_drew) | (refine gain_setCell ?_ (by first | exact Nat.le_refl _ | exact World.size_ext _ _ | (simp; done) | (simp; omega)) _)))) rfl rfl (own_up (HNEW.out) (by repeat (first | with_reducible (first | exact World.gained_refl _ | exact ⟨_, rfl⟩ | apply gain_ext | apply gain_alloc | apply gain_drewN | apply gain_drew) | (refine gain_setCell ?_ (by first | exact Nat.le_refl _ | exact World.size_ext _ _ | (simp; done) | (simp; omega)) _)))) (sl_lit (l := [(c : Int) - (W : Int)]) intC_length rfl (by simp)) (by simp) ?_); intro v' d' ho hg)
      go_meet
      exact ⟨⟨_, rfl⟩, by rw [show natL (cand1 W y c) = _ from (show _ = [] ++ [(c : Int) - (W : Int)] by unfold cand1; rw [if_pos hy]; have := HWy.out hy; simp [natL]; omega)]; exact ho⟩
    · go_wp2_with fail
      go_meet
      exact ⟨(by repeat (first | with_reducible (first | exact World.gained_refl _ | exact ⟨_, rfl⟩ | apply gain_ext | apply gain_alloc | apply gain_drewN | apply gain_drew) | (refine gain_setCell ?_ (by first | exact Nat.le_refl _ | exact World.size_ext _ _ | (simp; done) | (simp; omega)) _))), by rw [show natL (cand1 W y c) = _ from (show _ = ([] : List Int) by unfold cand1; rw [if_neg hy]; rfl)]; exact (own_up (HNEW.out) (by repeat (first | with_reducible (first | exact World.gained_refl _ | exact ⟨_, rfl⟩ | apply gain_ext | apply gain_alloc | apply gain_drewN | apply gain_drew) | (refine gain_setCell ?_ (by first | exact Nat.le_refl _ | exact World.size_ext _ _ | (simp; done) | (simp; omega)) _))))⟩
  obtain ⟨⟨e1, rfl⟩, ho⟩ := hcut
  have HO1 := Lib.hid ho
  clear ho
  go_upto_if 29 with fail
  go_cut [5] (fun s wx => (∃ d, wx = W0.ext d) ∧ wx.own W0.heap.size 3 intC 1 s (natL (cand2 W x y c)))
  case first =>
    by_cases hy : 0 < x
    · have hXc := HXc.out
      go_wp2_with (at_builtin; go_must (refine wpList_append_gain (m := [(c : Int) - 1]) rfl (.tmp 30) (.tmp 33) rfl Tryz.underlying24 info_int (by rfl) (by omega) intC_length intC_one (by omega) (by repeat (first | with_reducible (first | exact World.gained_refl _ | exact ⟨_, rfl⟩ | apply gain_ext | apply gain_alloc | apply gain_drewN | apply gain_drew) | (refine gain_setCell ?_ (by first | exact Nat.le_refl _ | exact World.size_ext _ _ | (simp; done) | (simp; omega)) _))) (Nat.le_refl _) (gain_size (by repeat (first | with_reducible (first | exact World.gained_refl _ | exact ⟨_, rfl⟩ | apply gain_ext | apply gain_alloc | apply gain_drewN | apply gain_drew) | (refine gain_setCell ?_ (by first | exact Nat.le_refl _ | exact World.size_ext _ _ | (simp; done) | (simp; omega)) _)))) rfl rfl (own_up (HO1.out) (by repeat (first | with_reducible (first | exact World.gained_refl _ | exact ⟨_, rfl⟩ | apply gain_ext | apply gain_alloc | apply gain_drewN | apply gain_drew) | (refine gain_setCell ?_ (by first | exact Nat.le_refl _ | exact World.size_ext _ _ | (simp; done) | (simp; omega)) _)))) (sl_lit (l := [(c : Int) - 1]) intC_length rfl (by simp)) (by have := cand_l1 W y c; simp only [List.length_singleton]; omega) ?_); intro v' d' ho hg)
      go_meet
      exact ⟨⟨_, rfl⟩, by rw [show natL (cand2 W x y c) = _ from (show _ = natL (cand1 W y c) ++ [(c : Int) - 1] by unfold cand2; rw [if_pos hy, natL_app]; have := HXc.out; congr 1; simp [natL]; omega)]; exact ho⟩
    · go_wp2_with fail
      go_meet
      exact ⟨(by repeat (first | with_reducible (first | exact World.gained_refl _ | exact ⟨_, rfl⟩ | apply gain_ext | apply gain_alloc | apply gain_drewN | apply gain_drew) | (refine gain_setCell ?_ (by first | exact Nat.le_refl _ | exact World.size_ext _ _ | (simp; done) | (simp; omega)) _))), by rw [show natL (cand2 W x y c) = _ from (show _ = natL (cand1 W y c) by unfold cand2; rw [if_neg hy, List.append_nil])]; exact (own_up (HO1.out) (by repeat (first | with_reducible (first | exact World.gained_refl _ | exact ⟨_, rfl⟩ | apply gain_ext | apply gain_alloc | apply gain_drewN | apply gain_drew) | (refine gain_setCell ?_ (by first | exact Nat.le_refl _ | exact World.size_ext _ _ | (simp; done) | (simp; omega)) _))))⟩
  obtain ⟨⟨e2, rfl⟩, ho⟩ := hcut
  have HO2 := Lib.hid ho
  clear ho HO1
  go_upto_if 39 with fail
  go_cut [5] (fun s wx => (∃ d, wx = W0.ext d) ∧ wx.own W0.heap.size 3 intC 1 s (natL (cand3 W x y c)))
  case first =>
    by_cases hy : x + 1 < W
    · skip
      go_wp2_with (at_builtin; go_must (refine wpList_append_gain (m := [(c : Int) + 1]) rfl (.tmp 40) (.tmp 43) rfl Tryz.underlying24 info_int (by rfl) (by omega) intC_length intC_one (by omega) (by repeat (first | with_reducible (first | exact World.gained_refl _ | exact ⟨_, rfl⟩ | apply gain_ext | apply gain_alloc | apply gain_drewN | apply gain_drew) | (refine gain_setCell ?_ (by first | exact Nat.le_refl _ | exact World.size_ext _ _ | (simp; done) | (simp; omega)) _))) (Nat.le_refl _) (gain_size (by repeat (first | with_reducible (first | exact World.gained_refl _ | exact ⟨_, rfl⟩ | apply gain_ext | apply gain_alloc | apply gain_drewN | apply gain_drew) | (refine gain_setCell ?_ (by first | exact Nat.le_refl _ | exact World.size_ext _ _ | (simp; done) | (simp; omega)) _)))) rfl rfl (own_up (HO2.out) (by repeat (first | with_reducible (first | exact World.gained_refl _ | exact ⟨_, rfl⟩ | apply gain_ext | apply gain_alloc | apply gain_drewN | apply gain_drew) | (refine gain_setCell ?_ (by first | exact Nat.le_refl _ | exact World.size_ext _ _ | (simp; done) | (simp; omega)) _)))) (sl_lit (l := [(c : Int) + 1]) intC_length rfl (by simp)) (by have := cand_l2 W x y c; simp only [List.length_singleton]; omega) ?_); intro v' d' ho hg)
      go_meet
      exact ⟨⟨_, rfl⟩, by rw [show natL (cand3 W x y c) = _ from (show _ = natL (cand2 W x y c) ++ [(c : Int) + 1] by unfold cand3; rw [if_pos hy, natL_app]; rfl)]; exact ho⟩
    · go_wp2_with fail
      go_meet
      exact ⟨(by repeat (first | with_reducible (first | exact World.gained_refl _ | exact ⟨_, rfl⟩ | apply gain_ext | apply gain_alloc | apply gain_drewN | apply gain_drew) | (refine gain_setCell ?_ (by first | exact Nat.le_refl _ | exact World.size_ext _ _ | (simp; done) | (simp; omega)) _))), by rw [show natL (cand3 W x y c) = _ from (show _ = natL (cand2 W x y c) by unfold cand3; rw [if_neg hy, List.append_nil])]; exact (own_up (HO2.out) (by repeat (first | with_reducible (first | exact World.gained_refl _ | exact ⟨_, rfl⟩ | apply gain_ext | apply gain_alloc | apply gain_drewN | apply gain_drew) | (refine gain_setCell ?_ (by first | exact Nat.le_refl _ | exact World.size_ext _ _ | (simp; done) | (simp; omega)) _))))⟩
  obtain ⟨⟨e3, rfl⟩, ho⟩ := hcut
  have HO3 := Lib.hid ho
  clear ho HO2
  go_upto_if 49 with fail
  go_cut [5] (fun s wx => (∃ d, wx = W0.ext d) ∧ wx.own W0.heap.size 3 intC 1 s (natL (cand4 W H x y c)))
  case first =>
    by_cases hy : y + 1 < H
    · skip
      go_wp2_with (at_builtin; go_must (refine wpList_append_gain (m := [(c : Int) + (W : Int)]) rfl (.tmp 50) (.tmp 55) rfl Tryz.underlying24 info_int (by rfl) (by omega) intC_length intC_one (by omega) (by repeat (first | with_reducible (first | exact World.gained_refl _ | exact ⟨_, rfl⟩ | apply gain_ext | apply gain_alloc | apply gain_drewN | apply gain_drew) | (refine gain_setCell ?_ (by first | exact Nat.le_refl _ | exact World.size_ext _ _ | (simp; done) | (simp; omega)) _))) (Nat.le_refl _) (gain_size (by repeat (first | with_reducible (first | exact World.gained_refl _ | exact ⟨_, rfl⟩ | apply gain_ext | apply gain_alloc | apply gain_drewN | apply gain_drew) | (refine gain_setCell ?_ (by first | exact Nat.le_refl _ | exact World.size_ext _ _ | (simp; done) | (simp; omega)) _)))) rfl rfl (own_up (HO3.out) (by repeat (first | with_reducible (first | exact World.gained_refl _ | exact ⟨_, rfl⟩ | apply gain_ext | apply gain_alloc | apply gain_drewN | apply gain_drew) | (refine gain_setCell ?_ (by first | exact Nat.le_refl _ | exact World.size_ext _ _ | (simp; done) | (simp; omega)) _)))) (sl_lit (l := [(c : Int) + (W : Int)]) intC_length rfl (by simp)) (by have := cand_l3 W x y c; simp only [List.length_singleton]; omega) ?_); intro v' d' ho hg)
      go_meet
      exact ⟨⟨_, rfl⟩, by rw [show natL (cand4 W H x y c) = _ from (show _ = natL (cand3 W x y c) ++ [(c : Int) + (W : Int)] by unfold cand4; rw [if_pos hy, natL_app]; rfl)]; exact ho⟩
    · go_wp2_with fail
      go_meet
      exact ⟨(by repeat (first | with_reducible (first | exact World.gained_refl _ | exact ⟨_, rfl⟩ | apply gain_ext | apply gain_alloc | apply gain_drewN | apply gain_drew) | (refine gain_setCell ?_ (by first | exact Nat.le_refl _ | exact World.size_ext _ _ | (simp; done) | (simp; omega)) _))), by rw [show natL (cand4 W H x y c) = _ from (show _ = natL (cand3 W x y c) by unfold cand4; rw [if_neg hy, List.append_nil])]; exact (own_up (HO3.out) (by repeat (first | with_reducible (first | exact World.gained_refl _ | exact ⟨_, rfl⟩ | apply gain_ext | apply gain_alloc | apply gain_drewN | apply gain_drew) | (refine gain_setCell ?_ (by first | exact Nat.le_refl _ | exact World.size_ext _ _ | (simp; done) | (simp; omega)) _))))⟩
  obtain ⟨⟨e4, rfl⟩, ho⟩ := hcut
  have HO4 := Lib.hid ho
  clear ho HO3
  have HL4 := Lib.hid (cand_l4 W H x y c)
  generalize hLL : cand4 W H x y c = LL at HO4 HE HCA HL4
  clear hLL q1 q3 hx36 hy36 hW6 hH6 hW1 HNEW
  obtain ⟨p5, c5, hv5, _⟩ := id (sl_of_own intC_length HO4.out)
  rw [natL_length] at hv5
  subst hv5
  have hLl : LL.length ≤ 4 := by have := HL4.out; rw [natL_length] at this; exact this
  generalize hW4 : W0.ext e4 = W4 at HO4
  have hg4 : ∃ d, W4 = W0.ext d := ⟨_, hW4.symm⟩
  have HG4 := Lib.hid (gain_trans HG.out hg4)
  have HS4 := Lib.hid (Nat.le_trans hsz (gain_size hg4))
  have HI4 := Lib.hid (HI0.out.up hg4)
  have bx0' := cell_up bx0 hg4
  have bx1' := cell_up bx1 hg4
  have bx2' := cell_up bx2 hg4
  have bx3' := cell_up bx3 hg4
  clear bx0 bx1 bx2 bx3 obx ob1 ob2 hg4 HI0 hsz HSE
  have obx := World.oldB_of_cell bx0'
  have ob1 := HI4.out.ob1
  have ob2 := HI4.out.ob2
  clear hW4 HG HIN hm
  go_wp2_with fail
  go_loopw [8, 9] (fun ov i wr => ∃ k : Nat, k ≤ LL.length ∧ i = .int .i64 k ∧ (∃ d, wr = W4.ext d) ∧ wr.own W4.heap.size 3 intC 1 ov (natL ((LL.take k).filter fun k => decide (0 < costAt m k)))) (fun _ i _ => LL.length - (intOf i).toNat)
  case atStart => exact ⟨0, by omega, rfl, (by repeat (first | with_reducible (first | exact World.gained_refl _ | exact ⟨_, rfl⟩ | apply gain_ext | apply gain_alloc | apply gain_drewN | apply gain_drew) | (refine gain_setCell ?_ (by first | exact Nat.le_refl _ | exact World.size_ext _ _ | (simp; done) | (simp; omega)) _))), own_lit' (l := ([] : List Int)) intC_length rfl rfl (gain_size (by repeat (first | with_reducible (first | exact World.gained_refl _ | exact ⟨_, rfl⟩ | apply gain_ext | apply gain_alloc | apply gain_drewN | apply gain_drew) | (refine gain_setCell ?_ (by first | exact Nat.le_refl _ | exact World.size_ext _ _ | (simp; done) | (simp; omega)) _))))⟩
  case round =>
    obtain ⟨k, hk, rfl, ⟨d, rfl⟩, ho⟩ := hrel
    have HO := Lib.hid ho
    clear ho
    by_cases hlt : k < LL.length
    · have HLN := Lib.hid (show (natL ((LL.take k).filter fun k => decide (0 < costAt m k))).length + 1 ≤ 2097152 by
        rw [natL_length]
        have := List.length_filter_le (fun k => decide (0 < costAt m k)) (LL.take k)
        rw [List.length_take] at this
        omega)
      obtain ⟨b5, o5, rfl⟩ := sl_some (sl_of_own intC_length HO4.out) (by rw [natL_length]; omega)
      have c5k := sl_int (sl_of_own intC_length HO4.out) (k := k) (by rw [natL_length]; exact hlt)
      rw [natL_get] at c5k
      have hq := HCA.out LL[k] (List.getElem_mem hlt)
      have HS := Lib.hid (show (LL.take (k + 1)).filter (fun k => decide (0 < costAt m k)) = (LL.take k).filter (fun k => decide (0 < costAt m k)) ++ [LL[k]].filter (fun k => decide (0 < costAt m k)) by
        rw [List.take_succ_eq_append_getElem hlt, List.filter_append])
      generalize LL[k] = q at c5k hq HS
      have ob5 := World.oldB_of_cell c5k
      have cq := HI4.out.co q hq
      by_cases hcp : 0 < costAt m q
      · have HS' := Lib.hid (HS.out.trans (show _ = (LL.take k).filter (fun k => decide (0 < costAt m k)) ++ [q] by simp [hcp]))
        have hcpb : decide (0 < costAt m q) = true := decide_eq_true hcp
        clear HS
        generalize hx : costAt m q = x1 at cq hcp hcpb
        clear hx
        go_wp2
        refine wp_region_gain (by kernel_rfl) (by kernel_rfl) ?_
        repeat (first | go_big_quiet_skip | (go_big_quiet_want; go_big_quiet_op; first | go_big_quiet_on))
        refine wpQuiet_nil ?_
        rintro _ ⟨d', rfl⟩
        go_wp2_with (at_builtin; go_must (refine wpList_append_gain (m := [(q : Int)]) rfl (.tmp 73) (.tmp 78) rfl Tryz.underlying24 info_int (by rfl) (by omega) intC_length intC_one (by omega) (by repeat (first | with_reducible (first | exact World.gained_refl _ | exact ⟨_, rfl⟩ | apply gain_ext | apply gain_alloc | apply gain_drewN | apply gain_drew) | (refine gain_setCell ?_ (by first | exact Nat.le_refl _ | exact World.size_ext _ _ | (simp; done) | (simp; omega)) _))) (Nat.le_refl _) (gain_size (by repeat (first | with_reducible (first | exact World.gained_refl _ | exact ⟨_, rfl⟩ | apply gain_ext | apply gain_alloc | apply gain_drewN | apply gain_drew) | (refine gain_setCell ?_ (by first | exact Nat.le_refl _ | exact World.size_ext _ _ | (simp; done) | (simp; omega)) _)))) rfl rfl (own_up (HO.out) (by repeat (first | with_reducible (first | exact World.gained_refl _ | exact ⟨_, rfl⟩ | apply gain_ext | apply gain_alloc | apply gain_drewN | apply gain_drew) | (refine gain_setCell ?_ (by first | exact Nat.le_refl _ | exact World.size_ext _ _ | (simp; done) | (simp; omega)) _)))) (sl_lit (l := [(q : Int)]) intC_length rfl (by simp)) (by simp only [List.length_singleton]; exact HLN.out) ?_); intro v' d' ho hg)
        go_roundw
        case rel => exact ⟨k + 1, by omega, by go_num, ⟨_, rfl⟩, by rw [HS'.out, natL_app]; exact ho⟩
        case measure => simp [intOf]; omega
      · have HS' := Lib.hid (HS.out.trans (show _ = (LL.take k).filter (fun k => decide (0 < costAt m k)) by simp [hcp]))
        have hcpb : decide (0 < costAt m q) = false := decide_eq_false hcp
        clear HS
        generalize hx : costAt m q = x1 at cq hcp hcpb
        clear hx
        go_wp2
        refine wp_region_gain (by kernel_rfl) (by kernel_rfl) ?_
        repeat (first | go_big_quiet_skip | (go_big_quiet_want; go_big_quiet_op; first | go_big_quiet_on))
        refine wpQuiet_nil ?_
        rintro _ ⟨d', rfl⟩
        go_wp2
        go_roundw
        case rel => exact ⟨k + 1, by omega, by go_num, (by repeat (first | with_reducible (first | exact World.gained_refl _ | exact ⟨_, rfl⟩ | apply gain_ext | apply gain_alloc | apply gain_drewN | apply gain_drew) | (refine gain_setCell ?_ (by first | exact Nat.le_refl _ | exact World.size_ext _ _ | (simp; done) | (simp; omega)) _))), by rw [HS'.out]; exact (own_up (HO.out) (by repeat (first | with_reducible (first | exact World.gained_refl _ | exact ⟨_, rfl⟩ | apply gain_ext | apply gain_alloc | apply gain_drewN | apply gain_drew) | (refine gain_setCell ?_ (by first | exact Nat.le_refl _ | exact World.size_ext _ _ | (simp; done) | (simp; omega)) _))))⟩
        case measure => simp [intOf]; omega
    · go_wp2
      go_ret
      obtain rfl : k = LL.length := by omega
      rw [HE.out]
      refine ⟨_, rfl, gain_trans HG4.out ⟨_, rfl⟩, ?_⟩
      have := own_base HO.out HS4.out
      rw [List.take_length] at this
      exact this
end Go.Proofs.YtmcimgnobimicaaGreat
