/- spec.BestOrder. Condition: at most 1048576 controls, codes. -/
import Derived.Test.YtmcimgnobimicaaGreatG34
import Derived.Test.YtmcimgnobimicaaGreatG31
import Derived.Test.YtmcimgnobimicaaGreatG27
import Derived.Test.YtmcimgnobimicaaGreatG39
import Derived.Test.YtmcimgnobimicaaGreatG40
namespace Go.Ori
theorem take_more {t : List Int} {k : Nat} (h1 : 1 ≤ k) (hk : k < t.length) : (t.drop 1).take k = (t.drop 1).take (k - 1) ++ [t[k]] := by
  have e : (t.drop 1).take ((k - 1) + 1) = (t.drop 1).take (k - 1) ++ [(t.drop 1)[k - 1]'(by rw [List.length_drop]; omega)] := List.take_succ_eq_append_getElem _
  rw [show k - 1 + 1 = k by omega] at e
  rw [e]
  congr 2
  rw [List.getElem_drop]
  congr 1
  omega
theorem take_fresh {t : List Int} (hn : t.Nodup) {k : Nat} (h1 : 1 ≤ k) (hk : k < t.length) : t[k] ∉ (t.drop 1).take (k - 1) := by
  have h2 : ((t.drop 1).take k).Nodup := (hn.sublist (List.drop_sublist _ _)).sublist (List.take_sublist _ _)
  rw [take_more h1 hk, List.nodup_append] at h2
  exact fun h => h2.2.2 _ h _ (by simp) rfl
end Go.Ori
namespace Go.Proofs.YtmcimgnobimicaaGreat
open Go.RowKit Go.Ori
set_option maxHeartbeats 8000000 in
set_option maxRecDepth 20000 in
theorem specBestOrder_any (m : Mp) (rv cv v u : Value) (l : List Ctl) (t : List Int) (w : World) (hmp : w.mp rv cv m) (h : w.sl Ctl.cells 2 v l) (hl : l.length ≤ 1048576) (h2 : w.sl intC 1 u t) (hl2 : t.length ≤ 1048576) :
    Calls Tryz.prog 7 #[.agg #[.int .i64 m.wd, .int .i64 m.ht, rv, cv], v, u] w fun x w' => ∃ r, x = .returned (.tuple #[r, .int .i64 (boI m l t), .bool (boB m l t)]) ∧ (∃ d, w' = w.ext d) ∧ w'.own w.heap.size 3 intC 1 r (boL m l t) := by
  have hm := Lib.hid hmp
  have hs := Lib.hid h
  have ht := Lib.hid h2
  obtain ⟨p1, c1, p2, c2, rfl, rfl⟩ := mp_form hmp
  have HGD := Lib.hid (fun w' hw' hv' hu' => l8Good_any m (.slice p1 m.rise.length c1) (.slice p2 m.cost.length c2) v u l t w' hw' hv' hl hu' hl2)
  have HTW := Lib.hid (fun w' hu' => l8Twice_any u t w' hu' hl2)
  obtain ⟨pu, cu, rfl, _⟩ := h2
  clear hmp h
  cases hC : crsB m l t with
  | false =>
    rw [hC] at HGD
    have h0 : boB m l t = false := by simp [boB, *]
    rw [(bo_no h0).1, (bo_no h0).2, h0]
    clear h0
    go_enter Tryz.func7, Tryz.ntmps7
    go_wp2_with (first | (go_at_call 28; refine (HGD.out _ (mp_up (hm.out) (by repeat (first | with_reducible (first | exact World.gained_refl _ | exact ⟨_, rfl⟩ | apply gain_ext | apply gain_alloc | apply gain_drewN | apply gain_drew) | (refine gain_setCell ?_ (by first | exact Nat.le_refl _ | exact World.size_ext _ _ | (simp; done) | (simp; omega)) _)))) (by with_reducible (repeat (first | exact hs.out | refine World.sl_ext Ctl.cells_length ?_ _ | refine sl_alloc Ctl.cells_length ?_ _ | refine sl_drew ?_))) (by with_reducible (repeat (first | exact ht.out | refine World.sl_ext intC_length ?_ _ | refine sl_alloc intC_length ?_ _ | refine sl_drew ?_)))).mono ?_; rintro e w1 ⟨rfl, d1, rfl⟩) | (go_at_call 29; refine (HTW.out _ (by with_reducible (repeat (first | exact ht.out | refine World.sl_ext intC_length ?_ _ | refine sl_alloc intC_length ?_ _ | refine sl_drew ?_)))).mono ?_; rintro e w1 ⟨rfl, d2, rfl⟩))
    go_ret3
    exact ⟨_, rfl, (by repeat (first | with_reducible (first | exact World.gained_refl _ | exact ⟨_, rfl⟩ | apply gain_ext | apply gain_alloc | apply gain_drewN | apply gain_drew) | (refine gain_setCell ?_ (by first | exact Nat.le_refl _ | exact World.size_ext _ _ | (simp; done) | (simp; omega)) _))), own_lit' (l := ([] : List Int)) intC_length rfl rfl (gain_size (by repeat (first | with_reducible (first | exact World.gained_refl _ | exact ⟨_, rfl⟩ | apply gain_ext | apply gain_alloc | apply gain_drewN | apply gain_drew) | (refine gain_setCell ?_ (by first | exact Nat.le_refl _ | exact World.size_ext _ _ | (simp; done) | (simp; omega)) _))))⟩
  | true =>
  rw [hC] at HGD
  by_cases h7 : t.length ≤ 7
  case neg =>
    have hd : decide (7 < (t.length : Int)) = true := decide_eq_true (by omega)
    have hd2 : decide (7 < t.length) = true := decide_eq_true (by omega)
    have h0 : boB m l t = false := by simp [boB, *]
    rw [(bo_no h0).1, (bo_no h0).2, h0]
    clear h0
    go_enter Tryz.func7, Tryz.ntmps7
    go_wp2_with (first | (go_at_call 28; refine (HGD.out _ (mp_up (hm.out) (by repeat (first | with_reducible (first | exact World.gained_refl _ | exact ⟨_, rfl⟩ | apply gain_ext | apply gain_alloc | apply gain_drewN | apply gain_drew) | (refine gain_setCell ?_ (by first | exact Nat.le_refl _ | exact World.size_ext _ _ | (simp; done) | (simp; omega)) _)))) (by with_reducible (repeat (first | exact hs.out | refine World.sl_ext Ctl.cells_length ?_ _ | refine sl_alloc Ctl.cells_length ?_ _ | refine sl_drew ?_))) (by with_reducible (repeat (first | exact ht.out | refine World.sl_ext intC_length ?_ _ | refine sl_alloc intC_length ?_ _ | refine sl_drew ?_)))).mono ?_; rintro e w1 ⟨rfl, d1, rfl⟩) | (go_at_call 29; refine (HTW.out _ (by with_reducible (repeat (first | exact ht.out | refine World.sl_ext intC_length ?_ _ | refine sl_alloc intC_length ?_ _ | refine sl_drew ?_)))).mono ?_; rintro e w1 ⟨rfl, d2, rfl⟩))
    go_ret3
    exact ⟨_, rfl, (by repeat (first | with_reducible (first | exact World.gained_refl _ | exact ⟨_, rfl⟩ | apply gain_ext | apply gain_alloc | apply gain_drewN | apply gain_drew) | (refine gain_setCell ?_ (by first | exact Nat.le_refl _ | exact World.size_ext _ _ | (simp; done) | (simp; omega)) _))), own_lit' (l := ([] : List Int)) intC_length rfl rfl (gain_size (by repeat (first | with_reducible (first | exact World.gained_refl _ | exact ⟨_, rfl⟩ | apply gain_ext | apply gain_alloc | apply gain_drewN | apply gain_drew) | (refine gain_setCell ?_ (by first | exact Nat.le_refl _ | exact World.size_ext _ _ | (simp; done) | (simp; omega)) _))))⟩
  have hd : decide (7 < (t.length : Int)) = false := decide_eq_false (by omega)
  have hd2 : decide (7 < t.length) = false := decide_eq_false (by omega)
  cases hT : twiceB t with
  | true =>
    rw [hT] at HTW
    have h0 : boB m l t = false := by simp [boB, *]
    rw [(bo_no h0).1, (bo_no h0).2, h0]
    clear h0
    go_enter Tryz.func7, Tryz.ntmps7
    go_wp2_with (first | (go_at_call 28; refine (HGD.out _ (mp_up (hm.out) (by repeat (first | with_reducible (first | exact World.gained_refl _ | exact ⟨_, rfl⟩ | apply gain_ext | apply gain_alloc | apply gain_drewN | apply gain_drew) | (refine gain_setCell ?_ (by first | exact Nat.le_refl _ | exact World.size_ext _ _ | (simp; done) | (simp; omega)) _)))) (by with_reducible (repeat (first | exact hs.out | refine World.sl_ext Ctl.cells_length ?_ _ | refine sl_alloc Ctl.cells_length ?_ _ | refine sl_drew ?_))) (by with_reducible (repeat (first | exact ht.out | refine World.sl_ext intC_length ?_ _ | refine sl_alloc intC_length ?_ _ | refine sl_drew ?_)))).mono ?_; rintro e w1 ⟨rfl, d1, rfl⟩) | (go_at_call 29; refine (HTW.out _ (by with_reducible (repeat (first | exact ht.out | refine World.sl_ext intC_length ?_ _ | refine sl_alloc intC_length ?_ _ | refine sl_drew ?_)))).mono ?_; rintro e w1 ⟨rfl, d2, rfl⟩))
    go_ret3
    exact ⟨_, rfl, (by repeat (first | with_reducible (first | exact World.gained_refl _ | exact ⟨_, rfl⟩ | apply gain_ext | apply gain_alloc | apply gain_drewN | apply gain_drew) | (refine gain_setCell ?_ (by first | exact Nat.le_refl _ | exact World.size_ext _ _ | (simp; done) | (simp; omega)) _))), own_lit' (l := ([] : List Int)) intC_length rfl rfl (gain_size (by repeat (first | with_reducible (first | exact World.gained_refl _ | exact ⟨_, rfl⟩ | apply gain_ext | apply gain_alloc | apply gain_drewN | apply gain_drew) | (refine gain_setCell ?_ (by first | exact Nat.le_refl _ | exact World.size_ext _ _ | (simp; done) | (simp; omega)) _))))⟩
  | false =>
  rw [hT] at HTW
  have h0 : boB m l t = true := by simp [boB, hC, hT, h7]
  rw [(bo_yes h0).1, (bo_yes h0).2, h0]
  have hn := twiceB_nodup.1 hT
  have hCr := crsB_true hC
  have h2n := hCr.lo
  have HN := Lib.hid hn
  have HG := Lib.hid (GoodO.of hCr h7 hn)
  have HMA := Lib.hid (mid_asc hn)
  have HBR : Hid (boR m l t = ordS (tmT m l) (lastI t) (t.length - 2) (t.take 1) (midL t)) := Lib.hid rfl
  have hlast : lastI t = t[t.length - 1]'(by omega) := by simp [lastI, List.getD_eq_getElem?_getD, (show t.length - 1 < t.length by omega)]
  rw [HBR.out]
  clear h0 hn hCr hC hT HBR
  go_enter Tryz.func7, Tryz.ntmps7
  go_wp2_with fail
  generalize hW0 : w.alloc (.cells #[.int .i64 m.wd, .int .i64 m.ht, .slice p1 m.rise.length c1, .slice p2 m.cost.length c2] 26) = W0
  have hbx : MBox w W0 w.heap.size m (.slice p1 m.rise.length c1) (.slice p2 m.cost.length c2) := by rw [← hW0]; exact mbox
  have HUP := Lib.hid hbx.up
  have HM0 := Lib.hid (mp_up hm.out hbx.up)
  have HS0 := Lib.hid (sl_up Ctl.cells_length hs.out hbx.up)
  have HT0 := Lib.hid (sl_up intC_length ht.out hbx.up)
  have bx0 := hbx.c0
  have bx1 := hbx.c1
  have bx2 := hbx.c2
  have bx3 := hbx.c3
  have obx := hbx.ob
  have HSZ := Lib.hid hbx.sz
  clear hW0 hbx hm hs ht
  generalize w.heap.size = gM at bx0 bx1 bx2 bx3 obx ⊢
  refine (HGD.out _ (mp_up (HM0.out) (by repeat (first | with_reducible (first | exact World.gained_refl _ | exact ⟨_, rfl⟩ | apply gain_ext | apply gain_alloc | apply gain_drewN | apply gain_drew) | (refine gain_setCell ?_ (by first | exact Nat.le_refl _ | exact World.size_ext _ _ | (simp; done) | (simp; omega)) _)))) (by with_reducible (repeat (first | exact HS0.out | refine World.sl_ext Ctl.cells_length ?_ _ | refine sl_alloc Ctl.cells_length ?_ _ | refine sl_drew ?_))) (by with_reducible (repeat (first | exact HT0.out | refine World.sl_ext intC_length ?_ _ | refine sl_alloc intC_length ?_ _ | refine sl_drew ?_)))).mono ?_
  rintro e w1 ⟨rfl, d1, rfl⟩
  go_wp2_with (go_at_call 29; refine (HTW.out _ (by with_reducible (repeat (first | exact HT0.out | refine World.sl_ext intC_length ?_ _ | refine sl_alloc intC_length ?_ _ | refine sl_drew ?_)))).mono ?_; rintro e w1 ⟨rfl, d2, rfl⟩)
  have HE0 := Lib.hid (own_base (b := W0.heap.size) (own_lit' (w := (W0.ext d1).ext d2) (e := 3) (base := ((W0.ext d1).ext d2).heap.size) (l := ([] : List Int)) (C := #[]) intC_length rfl rfl (Nat.le_refl _)) (gain_size (by repeat (first | with_reducible (first | exact World.gained_refl _ | exact ⟨_, rfl⟩ | apply gain_ext | apply gain_alloc | apply gain_drewN | apply gain_drew) | (refine gain_setCell ?_ (by first | exact Nat.le_refl _ | exact World.size_ext _ _ | (simp; done) | (simp; omega)) _)))))
  obtain ⟨bu, ou, rfl⟩ := sl_some HT0.out (by omega)
  go_loopw [10, 11] (fun o_ i_ wr => ∃ (L : List Int) (k b o c : Nat), 1 ≤ k ∧ k ≤ t.length - 1 ∧ i_ = .int .i64 k ∧ o_ = .slice (some ⟨b, o, none⟩) L.length c ∧ L.Pairwise (· < ·) ∧ (∀ x, x ∈ L ↔ x ∈ (t.drop 1).take (k - 1)) ∧ L.length = k - 1 ∧ wr.own W0.heap.size 3 intC 1 o_ L ∧ ∃ d, wr = W0.ext d) (fun _ i_ _ => t.length - (intOf i_).toNat)
  case atStart => exact ⟨[], 1, _, _, _, by omega, by omega, rfl, rfl, by simp, by simp, rfl, HE0.out, (by repeat (first | with_reducible (first | exact World.gained_refl _ | exact ⟨_, rfl⟩ | apply gain_ext | apply gain_alloc | apply gain_drewN | apply gain_drew) | (refine gain_setCell ?_ (by first | exact Nat.le_refl _ | exact World.size_ext _ _ | (simp; done) | (simp; omega)) _)))⟩
  case round =>
    clear HE0 HGD HTW
    obtain ⟨L, k, b, o, c, hk1, hk, rfl, rfl, has, hme, hln, ho, d, rfl⟩ := hrel
    have HAS := Lib.hid has
    have HME := Lib.hid hme
    have HLN := Lib.hid hln
    have HO := Lib.hid ho
    have hL7 : L.length ≤ 7 := by omega
    have hwn : IntKind.i64.wrap ((t.length : Int) - 1) = (t.length : Int) - 1 := IntWalk.i64_in _ (by omega)
    clear has hme hln ho
    by_cases hlt : k < t.length - 1
    · have hkt : k < t.length := by omega
      have y0 := sl_int HT0.out hkt
      have oby := World.oldB_of_cell y0
      have hkd : decide ((k : Int) < (t.length : Int) - 1) = true := decide_eq_true (by omega)
      have hq0 : (0 : Int) ≤ (k : Int) := by omega
      have hq1 : (k : Int) < (t.length : Int) := by omega
      have HF := Lib.hid (take_fresh HN.out hk1 hkt)
      have HM := Lib.hid (take_more hk1 hkt)
      generalize t[k] = y at y0 HF HM
      have hy : y ∉ L := fun h => HF.out ((HME.out y).1 h)
      have hyb : hasB L y = false := by
        cases hx : hasB L y with
        | false => rfl
        | true => exact absurd (hasB_iff.1 hx) hy
      have HP := Lib.hid (putL_sorted HAS.out hy)
      have HPM := Lib.hid (show ∀ x, x ∈ putL L y ↔ x ∈ (t.drop 1).take (k + 1 - 1) from fun x => by
        rw [Nat.add_sub_cancel, HM.out, List.mem_append, List.mem_singleton, ← HME.out x]
        rw [show x ∈ putL L y ↔ x = y ∨ x ∈ L from putG_mem]
        exact Or.comm)
      have HPL := Lib.hid (show (putL L y).length = k + 1 - 1 by rw [show (putL L y).length = L.length + 1 from putG_length, HLN.out]; omega)
      go_wp2_with fail
      refine (l1Put_any b o c L y _ (sl_of_own intC_length HO.out) (by omega) hyb).mono ?_
      rintro e w1 ⟨v', rfl, ⟨d3, rfl⟩, ho3⟩
      have HO3 := Lib.hid (own_base (b := W0.heap.size) ho3 (World.size_ext W0 d))
      clear ho3 HO HF HM
      have hpl := HPL.out
      obtain ⟨pq, kq, rfl, _⟩ := sl_of_own intC_length HO3.out
      obtain ⟨bq, oq, rfl⟩ := sl_some (sl_of_own intC_length HO3.out) (by omega)
      clear hpl
      go_wp2
      go_roundw
      case rel => exact ⟨putL L y, k + 1, bq, oq, kq, by omega, by omega, by go_num, rfl, HP.out, HPM.out, HPL.out, HO3.out, (by repeat (first | with_reducible (first | exact World.gained_refl _ | exact ⟨_, rfl⟩ | apply gain_ext | apply gain_alloc | apply gain_drewN | apply gain_drew) | (refine gain_setCell ?_ (by first | exact Nat.le_refl _ | exact World.size_ext _ _ | (simp; done) | (simp; omega)) _)))⟩
      case measure => simp [intOf]; omega
    · obtain rfl : k = t.length - 1 := by omega
      obtain rfl : L = midL t := (sorted_ext HAS.out HMA.out (fun x => by
        rw [HME.out x]
        unfold midL midT
        rw [sortI_mem, show t.length - 1 - 1 = t.length - 2 by omega]))
      have hkd : decide (((t.length - 1 : Nat) : Int) < (t.length : Int) - 1) = false := decide_eq_false (by omega)
      have y0 := sl_int HT0.out (show t.length - 1 < t.length by omega)
      rw [← hlast] at y0
      have oby := World.oldB_of_cell y0
      have hw2 : ((t.length : Int) - 1).toNat = t.length - 1 := by omega
      have hq0 : (0 : Int) ≤ (t.length : Int) - 1 := by omega
      have hq1 : (t.length : Int) - 1 < (t.length : Int) := by omega
      have hq2 : (1 : Int) ≤ (t.length : Int) := by omega
      have hcu := sl_cap HT0.out
      have hq3 : (1 : Int) ≤ (cu : Int) := by omega
      have hq4 : 1 ≤ cu := by omega
      have HML := Lib.hid (midL_len t)
      have HOR := Lib.hid (fun bv lv W h1 h2 h3 h4 => l8Order_any m (.slice p1 m.rise.length c1) (.slice p2 m.cost.length c2) v l (lastI t) hl (t.length - 2) bv lv (t.take 1) (midL t) W h1 h2 h3 h4 (midL_len t) HG.out)
      have HTK := Lib.hid (fun (W : World) (hW : ∃ d, W = W0.ext d) => sl_take (k := 1) (sl_up intC_length HT0.out hW) (by omega))
      clear hlast HAS HME HMA HLN
      go_upto_region 9 with fail
      refine wp_region_held_drew (S := (fun w' => w'.cell? ⟨gM, 0, none⟩ = some (.int .i64 m.wd) ∧ w'.cell? ⟨gM, 1, none⟩ = some (.int .i64 m.ht) ∧ w'.cell? ⟨gM, 2, none⟩ = some (.slice p1 m.rise.length c1) ∧ w'.cell? ⟨gM, 3, none⟩ = some (.slice p2 m.cost.length c2) ∧ w'.cell? ⟨bu, ou + (t.length - 1), none⟩ = some (.int .i64 (lastI t)))) (by kernel_rfl) (by (try dsimp only); (refine ⟨?_, ?_, ?_, ?_, ?_⟩ <;> (with_reducible (repeat (first | assumption | refine cell_ext ?_ _ | refine cell_drew ?_ | refine cell_alloc ?_ _))))) (fun hHeld => ?_)
      refine wpAnyH_take (i := 0) (oi := ⟨_, _, _, _, _, _⟩) (v := ?_) rfl (by kernel_rfl) (by kernel_rfl) (by kernel_rfl) (fun _ _ _ h => h) (Or.inl ⟨by rfl, ?_⟩) (by assumption) ?_
      rotate_left
      · intro w hSw; (try dsimp only at hSw); go_simp; (try with_reducible rfl)
      try simp only [Act.put, List.setIfInBounds_toArray, List.set_cons_zero, List.set_cons_succ]
      refine wpAnyH_take (i := 1) (oi := ⟨_, _, _, _, _, _⟩) (v := ?_) rfl (by kernel_rfl) (by kernel_rfl) (by kernel_rfl) (fun _ _ _ h => h) (Or.inl ⟨by rfl, ?_⟩) (by assumption) ?_
      rotate_left
      · intro w hSw; (try dsimp only at hSw); go_simp; (try with_reducible rfl)
      try simp only [Act.put, List.setIfInBounds_toArray, List.set_cons_zero, List.set_cons_succ]
      refine wpAnyH_take (i := 2) (oi := ⟨_, _, _, _, _, _⟩) (v := ?_) rfl (by kernel_rfl) (by kernel_rfl) (by kernel_rfl) (fun _ _ _ h => h) (Or.inl ⟨by rfl, ?_⟩) (by assumption) ?_
      rotate_left
      · intro w hSw; (try dsimp only at hSw); go_simp; (try with_reducible rfl)
      try simp only [Act.put, List.setIfInBounds_toArray, List.set_cons_zero, List.set_cons_succ]
      refine wpAnyH_take (i := 3) (oi := ⟨_, _, _, _, _, _⟩) (v := ?_) rfl (by kernel_rfl) (by kernel_rfl) (by kernel_rfl) (fun _ _ _ h => h) (Or.inl ⟨by rfl, ?_⟩) (by assumption) ?_
      rotate_left
      · intro w hSw; (try dsimp only at hSw); go_simp; (try with_reducible rfl)
      try simp only [Act.put, List.setIfInBounds_toArray, List.set_cons_zero, List.set_cons_succ]
      refine wpAnyH_take (i := 4) (oi := ⟨_, _, _, _, _, _⟩) (v := ?_) rfl (by kernel_rfl) (by kernel_rfl) (by kernel_rfl) (fun _ _ _ h => h) (Or.inl ⟨by rfl, ?_⟩) (by assumption) ?_
      rotate_left
      · intro w hSw; (try dsimp only at hSw); go_simp; (try with_reducible rfl)
      try simp only [Act.put, List.setIfInBounds_toArray, List.set_cons_zero, List.set_cons_succ]
      refine wpAnyH_take (i := 5) (oi := ⟨_, _, _, _, _, _⟩) (v := ?_) rfl (by kernel_rfl) (by kernel_rfl) (by kernel_rfl) (fun _ _ _ h => h) (Or.inl ⟨by rfl, ?_⟩) (by assumption) ?_
      rotate_left
      · intro w hSw; (try dsimp only at hSw); go_simp; (try with_reducible rfl)
      try simp only [Act.put, List.setIfInBounds_toArray, List.set_cons_zero, List.set_cons_succ]
      refine wpAnyH_take (i := 6) (oi := ⟨_, _, _, _, _, _⟩) (v := ?_) rfl (by kernel_rfl) (by kernel_rfl) (by kernel_rfl) (fun _ _ _ h => h) (Or.inl ⟨by rfl, ?_⟩) (by assumption) ?_
      rotate_left
      · intro w hSw; (try dsimp only at hSw); go_simp; (try with_reducible rfl)
      try simp only [Act.put, List.setIfInBounds_toArray, List.set_cons_zero, List.set_cons_succ]
      refine wpAnyH_take (i := 7) (oi := ⟨_, _, _, _, _, _⟩) (v := ?_) rfl (by kernel_rfl) (by kernel_rfl) (by kernel_rfl) (fun _ _ _ h => h) (Or.inl ⟨by rfl, ?_⟩) (by assumption) ?_
      rotate_left
      · intro w hSw; (try dsimp only at hSw); go_simp; (try with_reducible rfl)
      try simp only [Act.put, List.setIfInBounds_toArray, List.set_cons_zero, List.set_cons_succ]
      refine wpAnyH_take (i := 8) (oi := ⟨_, _, _, _, _, _⟩) (v := ?_) rfl (by kernel_rfl) (by kernel_rfl) (by kernel_rfl) (fun _ _ _ h => h) (Or.inl ⟨by rfl, ?_⟩) (by assumption) ?_
      rotate_left
      · intro w hSw; (try dsimp only at hSw); go_simp; (try with_reducible rfl)
      try simp only [Act.put, List.setIfInBounds_toArray, List.set_cons_zero, List.set_cons_succ]
      refine wpAnyH_take (i := 9) (oi := ⟨_, _, _, _, _, _⟩) (v := ?_) rfl (by kernel_rfl) (by kernel_rfl) (by kernel_rfl) (fun _ _ _ h => h) (Or.inl ⟨by rfl, ?_⟩) (by assumption) ?_
      rotate_left
      · intro w hSw; (try dsimp only at hSw); go_simp; (try with_reducible rfl)
      try simp only [Act.put, List.setIfInBounds_toArray, List.set_cons_zero, List.set_cons_succ]
      refine wpAnyH_ready (rs := [10]) (by kernel_rfl) (by simp) ?_
      refine AllReadyH.cons rfl (fun K hK => ?_) AllReadyH.nil
      go_simp
      go_wp2_with (go_at_call 31; refine (HOR.out _ _ _ (mp_up (HM0.out) (by repeat (first | with_reducible (first | exact World.gained_refl _ | exact ⟨_, rfl⟩ | apply gain_ext | apply gain_alloc | apply gain_drewN | apply gain_drew) | (refine gain_setCell ?_ (by first | exact Nat.le_refl _ | exact World.size_ext _ _ | (simp; done) | (simp; omega)) _)))) (by with_reducible (repeat (first | exact HS0.out | refine World.sl_ext Ctl.cells_length ?_ _ | refine sl_alloc Ctl.cells_length ?_ _ | refine sl_drew ?_))) (HTK.out _ (by repeat (first | with_reducible (first | exact World.gained_refl _ | exact ⟨_, rfl⟩ | apply gain_ext | apply gain_alloc | apply gain_drewN | apply gain_drew) | (refine gain_setCell ?_ (by first | exact Nat.le_refl _ | exact World.size_ext _ _ | (simp; done) | (simp; omega)) _)))) (sl_up intC_length (sl_of_own intC_length HO.out) (by repeat (first | with_reducible (first | exact World.gained_refl _ | exact ⟨_, rfl⟩ | apply gain_ext | apply gain_alloc | apply gain_drewN | apply gain_drew) | (refine gain_setCell ?_ (by first | exact Nat.le_refl _ | exact World.size_ext _ _ | (simp; done) | (simp; omega)) _))))).mono ?_; rintro e w1 ⟨r, rfl, ⟨d5, rfl⟩, ho5⟩; have HR5 := Lib.hid (own_base (b := W0.heap.size) ho5 (World.size_ext W0 d)); clear ho5)
      refine hK.out _ _ ?_ (fun hHeld => ?_)
      · (try dsimp only); (refine ⟨?_, ?_, ?_, ?_, ?_⟩ <;> (with_reducible (repeat (first | assumption | refine cell_ext ?_ _ | refine cell_drew ?_ | refine cell_alloc ?_ _))))
      clear hK K
      try simp only [Act.put, List.setIfInBounds_toArray, List.set_cons_zero, List.set_cons_succ]
      refine wpAnyH_take (i := 11) (oi := ⟨_, _, _, _, _, _⟩) (v := ?_) rfl (by kernel_rfl) (by kernel_rfl) (by kernel_rfl) (fun _ _ _ h => h) (Or.inl ⟨by rfl, ?_⟩) (by assumption) ?_
      rotate_left
      · intro w hSw; (try dsimp only at hSw); go_simp; (try with_reducible rfl)
      try simp only [Act.put, List.setIfInBounds_toArray, List.set_cons_zero, List.set_cons_succ]
      refine wpAnyH_take (i := 12) (oi := ⟨_, _, _, _, _, _⟩) (v := ?_) rfl (by kernel_rfl) (by kernel_rfl) (by kernel_rfl) (fun _ _ _ h => h) (Or.inl ⟨by rfl, ?_⟩) (by assumption) ?_
      rotate_left
      · intro w hSw; (try dsimp only at hSw); go_simp; (try with_reducible rfl)
      try simp only [Act.put, List.setIfInBounds_toArray, List.set_cons_zero, List.set_cons_succ]
      refine wpAnyH_take (i := 13) (oi := ⟨_, _, _, _, _, _⟩) (v := ?_) rfl (by kernel_rfl) (by kernel_rfl) (by kernel_rfl) (fun _ _ _ h => h) (Or.inl ⟨by rfl, ?_⟩) (by assumption) ?_
      rotate_left
      · intro w hSw; (try dsimp only at hSw); go_simp; (try with_reducible rfl)
      try simp only [Act.put, List.setIfInBounds_toArray, List.set_cons_zero, List.set_cons_succ]
      refine wpAnyH_take (i := 14) (oi := ⟨_, _, _, _, _, _⟩) (v := ?_) rfl (by kernel_rfl) (by kernel_rfl) (by kernel_rfl) (fun _ _ _ h => h) (Or.inl ⟨by rfl, ?_⟩) (by assumption) ?_
      rotate_left
      · intro w hSw; (try dsimp only at hSw); go_simp; (try with_reducible rfl)
      try simp only [Act.put, List.setIfInBounds_toArray, List.set_cons_zero, List.set_cons_succ]
      refine wpAnyH_take (i := 15) (oi := ⟨_, _, _, _, _, _⟩) (v := ?_) rfl (by kernel_rfl) (by kernel_rfl) (by kernel_rfl) (fun _ _ _ h => h) (Or.inl ⟨by rfl, ?_⟩) (by assumption) ?_
      rotate_left
      · intro w hSw; (try dsimp only at hSw); go_simp; (try with_reducible rfl)
      try simp only [Act.put, List.setIfInBounds_toArray, List.set_cons_zero, List.set_cons_succ]
      refine wpAnyH_done (by kernel_rfl) ?_ _
      go_wp2
      go_ret3
      exact ⟨_, rfl, gain_trans HUP.out (by repeat (first | with_reducible (first | exact World.gained_refl _ | exact ⟨_, rfl⟩ | apply gain_ext | apply gain_alloc | apply gain_drewN | apply gain_drew) | (refine gain_setCell ?_ (by first | exact Nat.le_refl _ | exact World.size_ext _ _ | (simp; done) | (simp; omega)) _))), own_base HR5.out HSZ.out⟩
end Go.Proofs.YtmcimgnobimicaaGreat
