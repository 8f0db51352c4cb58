/- impl.isRoute, RouteClimb. Conditions: a map in memory; at most 1048576 cells. -/
import Derived.Test.YtloefghmidlceaaG34
import Derived.Test.YtloefghmidlceaaG10
import Derived.Test.YtloefghmidlceaaG18
namespace Go.Proofs.Ytloefghmidlceaa
open Go.RowKit Go.Ori
set_option maxHeartbeats 4000000 in
theorem isRoute_any (m : Mp) (rv cv u : Value) (W H : Nat) (t : List Int) (w : World) (hok : MapOk m W H) (hmp : w.mp rv cv m) (h2 : w.sl intC 1 u t) (hl2 : t.length ≤ 1048576) :
    Calls Try.prog 158 #[.agg #[.int .i64 m.wd, .int .i64 m.ht, rv, cv], u] w fun x w' => x = .returned (.bool (routeR m t)) ∧ ∃ d, w' = w.ext d := by
  have hm := Lib.hid hmp
  have ht := Lib.hid h2
  have HK := Lib.hid hok
  obtain ⟨p1, c1, p2, c2, rfl, rfl⟩ := mp_form hmp
  obtain ⟨p, c, rfl, _⟩ := id h2
  have hcp := sl_cap h2
  clear hmp h2 hok
  go_enter Try.func158, Try.ntmps158
  go_wp2_with fail
  generalize hW0 : w.alloc (.cells #[.int .i64 m.wd, .int .i64 m.ht, .slice p1 m.rise.length c1, .slice p2 m.cost.length c2] 26) = W0
  have hbx : MBox w W0 w.heap.size m (.slice p1 m.rise.length c1) (.slice p2 m.cost.length c2) := by rw [← hW0]; exact mbox
  have HG := Lib.hid hbx.up
  have bx0 := hbx.c0
  have bx1 := hbx.c1
  have bx2 := hbx.c2
  have bx3 := hbx.c3
  have obx := hbx.ob
  have HM0 := Lib.hid (mp_up hm.out HG.out)
  have ht0 := Lib.hid (sl_up intC_length ht.out HG.out)
  clear hW0 hbx ht
  go_loopw [9] (fun i wr => ∃ k : Nat, k ≤ t.length ∧ i = .int .i64 k ∧ (∀ j, j < k → routeAt m t j = true) ∧ ∃ d, wr = W0.ext d) (fun i _ => t.length - (intOf i).toNat)
  case atStart => exact ⟨0, by omega, rfl, by simp, W0.gained_refl⟩
  case round =>
    obtain ⟨k, hk, rfl, hno, d, rfl⟩ := hrel
    have HN := Lib.hid hno
    clear hno
    by_cases hlt : k < t.length
    · obtain ⟨b, o, rfl⟩ := sl_some ht0.out (by omega)
      have hk1 : k - 1 < t.length := by omega
      have c0 := sl_int ht0.out hlt
      have cp := sl_int ht0.out hk1
      have H1 := Lib.hid (routeAt_eq (m := m) (List.getElem?_eq_getElem hlt) (List.getElem?_eq_getElem hk1))
      have HP := Lib.hid (fun (h0 : 1 ≤ k) => (show openB m (t[k - 1]'hk1) = true from by
        have := HN.out (k - 1) (by omega)
        rw [routeAt_eq (List.getElem?_eq_getElem hk1) (List.getElem?_eq_getElem (by omega : k - 1 - 1 < t.length))] at this
        simp only [Bool.and_eq_true] at this
        exact this.1.1))
      generalize t[k - 1]'hk1 = y at cp H1 HP
      generalize t[k] = x at c0 H1
      have ob := World.oldB_of_cell c0
      have hkc : k ≤ c := by omega
      have HOP := Lib.hid (fun w' hw' => isOpen_any m (.slice p1 m.rise.length c1) (.slice p2 m.cost.length c2) x w' hw')
      have HCT := Lib.hid (fun w' hw' => contains_ints (.slice (some ⟨b, o, none⟩) k c) (t.take k) x w' hw' (by rw [List.length_take]; omega))
      cases ho : openB m x with
      | false =>
        have HE := Lib.hid (show routeR m t = false by rw [routeR, allB_no (f := routeAt m t) hlt (by rw [H1.out, ho]; rfl)]; rfl)
        rw [ho] at HOP
        clear ho HP
        go_wp2
        refine wp_region_gain (by kernel_rfl) (by kernel_rfl) ?_
        repeat (first | go_big_quiet_skip | (go_big_quiet_want; go_big_quiet_op; first | go_big_quiet_on | ((apply Exists.intro); (refine ⟨fun _ => ?_, ?_⟩); (· (go_at_call 113; exact Calls.gain (HOP.out _ (mp_up (HM0.out) (by repeat (first | with_reducible (first | exact World.gained_refl _ | exact ⟨_, rfl⟩ | apply gain_ext | apply gain_alloc | apply gain_drewN | apply gain_drew) | (refine gain_setCell ?_ (by first | exact Nat.le_refl _ | exact World.size_ext _ _ | (simp; done) | (simp; omega)) _))))))); (go_big_quiet_on))))
        refine wpQuiet_nil ?_
        rintro _ ⟨d', rfl⟩
        go_wp2
        go_ret
        rw [HE.out]
        exact ⟨rfl, gain_trans HG.out (by repeat (first | with_reducible (first | exact World.gained_refl _ | exact ⟨_, rfl⟩ | apply gain_ext | apply gain_alloc | apply gain_drewN | apply gain_drew) | (refine gain_setCell ?_ (by first | exact Nat.le_refl _ | exact World.size_ext _ _ | (simp; done) | (simp; omega)) _)))⟩
      | true =>
      rw [ho] at HOP
      cases hh : hasB (t.take k) x with
      | true =>
        have HE := Lib.hid (show routeR m t = false by rw [routeR, allB_no (f := routeAt m t) hlt (by rw [H1.out, ho, hh]; rfl)]; rfl)
        rw [hh] at HCT
        clear ho hh HP
        go_wp2
        refine wp_region_gain (by kernel_rfl) (by kernel_rfl) ?_
        repeat (first | go_big_quiet_skip | (go_big_quiet_want; go_big_quiet_op; first | go_big_quiet_on | ((apply Exists.intro); (refine ⟨fun _ => ?_, ?_⟩); (· (first | (go_at_call 113; exact Calls.gain (HOP.out _ (mp_up (HM0.out) (by repeat (first | with_reducible (first | exact World.gained_refl _ | exact ⟨_, rfl⟩ | apply gain_ext | apply gain_alloc | apply gain_drewN | apply gain_drew) | (refine gain_setCell ?_ (by first | exact Nat.le_refl _ | exact World.size_ext _ _ | (simp; done) | (simp; omega)) _)))))) | (go_at_call 161; exact Calls.gain (HCT.out _ (sl_take (by with_reducible (repeat (first | exact ht0.out | refine World.sl_ext intC_length ?_ _ | refine sl_alloc intC_length ?_ _ | refine sl_drew ?_))) hk))))); (go_big_quiet_on))))
        refine wpQuiet_nil ?_
        rintro _ ⟨d', rfl⟩
        go_wp2
        go_ret
        rw [HE.out]
        exact ⟨rfl, gain_trans HG.out (by repeat (first | with_reducible (first | exact World.gained_refl _ | exact ⟨_, rfl⟩ | apply gain_ext | apply gain_alloc | apply gain_drewN | apply gain_drew) | (refine gain_setCell ?_ (by first | exact Nat.le_refl _ | exact World.size_ext _ _ | (simp; done) | (simp; omega)) _)))⟩
      | false =>
      rw [hh] at HCT
      by_cases hk0 : k = 0
      · have HS := Lib.hid (step_all (f := routeAt m t) HN.out (by rw [H1.out, ho, hh, decide_eq_true hk0]; rfl))
        subst hk0
        clear ho hh HP cp
        rw [Nat.add_zero] at c0
        go_wp2
        refine wp_region_gain (by kernel_rfl) (by kernel_rfl) ?_
        repeat (first | go_big_quiet_skip | (go_big_quiet_want; go_big_quiet_op; first | go_big_quiet_on | ((apply Exists.intro); (refine ⟨fun _ => ?_, ?_⟩); (· (first | (go_at_call 113; exact Calls.gain (HOP.out _ (mp_up (HM0.out) (by repeat (first | with_reducible (first | exact World.gained_refl _ | exact ⟨_, rfl⟩ | apply gain_ext | apply gain_alloc | apply gain_drewN | apply gain_drew) | (refine gain_setCell ?_ (by first | exact Nat.le_refl _ | exact World.size_ext _ _ | (simp; done) | (simp; omega)) _)))))) | (go_at_call 161; exact Calls.gain (HCT.out _ (sl_take (by with_reducible (repeat (first | exact ht0.out | refine World.sl_ext intC_length ?_ _ | refine sl_alloc intC_length ?_ _ | refine sl_drew ?_))) hk))))); (go_big_quiet_on))))
        refine wpQuiet_nil ?_
        rintro _ ⟨d', rfl⟩
        go_wp2
        go_roundw
        case rel => exact ⟨1, by omega, by go_num, HS.out, (by repeat (first | with_reducible (first | exact World.gained_refl _ | exact ⟨_, rfl⟩ | apply gain_ext | apply gain_alloc | apply gain_drewN | apply gain_drew) | (refine gain_setCell ?_ (by first | exact Nat.le_refl _ | exact World.size_ext _ _ | (simp; done) | (simp; omega)) _)))⟩
        case measure => simp [intOf]; omega
      · obtain ⟨X, rfl, hX, _⟩ := openB_true ho
        obtain ⟨Y, rfl, hY, _⟩ := openB_true (HP.out (by omega))
        have hkp : decide (0 < (k : Int)) = true := decide_eq_true (by omega)
        have hkp2 : decide (0 < k) = true := decide_eq_true (by omega)
        have hk1' : 1 ≤ k := by omega
        have kw1 : IntKind.i64.wrap ((k : Int) - 1) = (k : Int) - 1 := IntWalk.i64_in _ (by omega)
        have HGP := Lib.hid (fun w' => gapOf_any m (.slice p1 m.rise.length c1) (.slice p2 m.cost.length c2) W H Y X w' HK.out hY hX)
        have H1' : Hid (routeAt m t k = decide (gapN m.wd.toNat Y X = 1)) := Lib.hid (by rw [H1.out, ho, hh, decide_eq_false hk0]; simp)
        clear H1 ho hh HP
        by_cases hg : gapN m.wd.toNat Y X = 1
        · have HS := Lib.hid (step_all (f := routeAt m t) HN.out (by rw [H1'.out, decide_eq_true hg]))
          rw [hg] at HGP
          clear hg
          go_wp2
          refine wp_region_gain (by kernel_rfl) (by kernel_rfl) ?_
          repeat (first | go_big_quiet_skip | (go_big_quiet_want; go_big_quiet_op; first | go_big_quiet_on | ((apply Exists.intro); (refine ⟨fun _ => ?_, ?_⟩); (· (first | (go_at_call 113; exact Calls.gain (HOP.out _ (mp_up (HM0.out) (by repeat (first | with_reducible (first | exact World.gained_refl _ | exact ⟨_, rfl⟩ | apply gain_ext | apply gain_alloc | apply gain_drewN | apply gain_drew) | (refine gain_setCell ?_ (by first | exact Nat.le_refl _ | exact World.size_ext _ _ | (simp; done) | (simp; omega)) _)))))) | (go_at_call 161; exact Calls.gain (HCT.out _ (sl_take (by with_reducible (repeat (first | exact ht0.out | refine World.sl_ext intC_length ?_ _ | refine sl_alloc intC_length ?_ _ | refine sl_drew ?_))) hk))) | (go_at_call 128; exact Calls.gain (HGP.out _)))); (go_big_quiet_on))))
          refine wpQuiet_nil ?_
          rintro _ ⟨d', rfl⟩
          go_wp2
          go_roundw
          case rel => exact ⟨k + 1, by omega, by go_num, HS.out, (by repeat (first | with_reducible (first | exact World.gained_refl _ | exact ⟨_, rfl⟩ | apply gain_ext | apply gain_alloc | apply gain_drewN | apply gain_drew) | (refine gain_setCell ?_ (by first | exact Nat.le_refl _ | exact World.size_ext _ _ | (simp; done) | (simp; omega)) _)))⟩
          case measure => simp [intOf]; omega
        · have HE := Lib.hid (show routeR m t = false by rw [routeR, allB_no (f := routeAt m t) hlt (by rw [H1'.out, decide_eq_false hg])]; rfl)
          generalize gapN m.wd.toNat Y X = G at HGP hg
          have hgb : (G != 1) = true := by simpa using hg
          clear hg
          go_wp2
          refine wp_region_gain (by kernel_rfl) (by kernel_rfl) ?_
          repeat (first | go_big_quiet_skip | (go_big_quiet_want; go_big_quiet_op; first | go_big_quiet_on | ((apply Exists.intro); (refine ⟨fun _ => ?_, ?_⟩); (· (first | (go_at_call 113; exact Calls.gain (HOP.out _ (mp_up (HM0.out) (by repeat (first | with_reducible (first | exact World.gained_refl _ | exact ⟨_, rfl⟩ | apply gain_ext | apply gain_alloc | apply gain_drewN | apply gain_drew) | (refine gain_setCell ?_ (by first | exact Nat.le_refl _ | exact World.size_ext _ _ | (simp; done) | (simp; omega)) _)))))) | (go_at_call 161; exact Calls.gain (HCT.out _ (sl_take (by with_reducible (repeat (first | exact ht0.out | refine World.sl_ext intC_length ?_ _ | refine sl_alloc intC_length ?_ _ | refine sl_drew ?_))) hk))) | (go_at_call 128; exact Calls.gain (HGP.out _)))); (go_big_quiet_on))))
          refine wpQuiet_nil ?_
          rintro _ ⟨d', rfl⟩
          go_wp2
          go_ret
          rw [HE.out]
          exact ⟨rfl, gain_trans HG.out (by repeat (first | with_reducible (first | exact World.gained_refl _ | exact ⟨_, rfl⟩ | apply gain_ext | apply gain_alloc | apply gain_drewN | apply gain_drew) | (refine gain_setCell ?_ (by first | exact Nat.le_refl _ | exact World.size_ext _ _ | (simp; done) | (simp; omega)) _)))⟩
    · obtain rfl : k = t.length := by omega
      have HE := Lib.hid (show routeR m t = decide (0 < t.length) by rw [routeR, allB_yes (fun j hj => HN.out j hj), Bool.true_and])
      cases h0 : decide (0 < t.length) with
      | true =>
        have h0' : decide (0 < (t.length : Int)) = true := by simpa using h0
        go_wp2
        go_ret
        rw [HE.out, h0]
        exact ⟨rfl, gain_trans HG.out (by repeat (first | with_reducible (first | exact World.gained_refl _ | exact ⟨_, rfl⟩ | apply gain_ext | apply gain_alloc | apply gain_drewN | apply gain_drew) | (refine gain_setCell ?_ (by first | exact Nat.le_refl _ | exact World.size_ext _ _ | (simp; done) | (simp; omega)) _)))⟩
      | false =>
        have h0' : decide (0 < (t.length : Int)) = false := by simpa using h0
        go_wp2
        go_ret
        rw [HE.out, h0]
        exact ⟨rfl, gain_trans HG.out (by repeat (first | with_reducible (first | exact World.gained_refl _ | exact ⟨_, rfl⟩ | apply gain_ext | apply gain_alloc | apply gain_drewN | apply gain_drew) | (refine gain_setCell ?_ (by first | exact Nat.le_refl _ | exact World.size_ext _ _ | (simp; done) | (simp; omega)) _)))⟩
set_option maxHeartbeats 4000000 in
theorem routeClimb_any (m : Mp) (rv cv u : Value) (t : List Int) (w : World) (hmp : w.mp rv cv m) (h2 : w.sl intC 1 u t) (hl2 : t.length ≤ 1048576) :
    Calls Try.prog 97 #[.agg #[.int .i64 m.wd, .int .i64 m.ht, rv, cv], u] w fun x w' => x = .returned (.tuple #[.int .i64 (climbI m t), .bool (routeB m t)]) ∧ ∃ d, w' = w.ext d := by
  have hm := Lib.hid hmp
  have ht := Lib.hid h2
  obtain ⟨p1, c1, p2, c2, rfl, rfl⟩ := mp_form hmp
  obtain ⟨p, c, rfl, _⟩ := id h2
  clear hmp h2
  have HGD := Lib.hid (fun w' hw' => isMap_any m (.slice p1 m.rise.length c1) (.slice p2 m.cost.length c2) w' hw')
  cases hB : mapB m with
  | false =>
    have HE1 := Lib.hid (show routeB m t = false by simp [routeB, hB])
    have HE2 := Lib.hid (show climbI m t = 0 by simp [climbI, routeB, hB])
    rw [hB] at HGD
    clear hB
    go_enter Try.func97, Try.ntmps97
    go_wp2_with (go_at_call 111; refine (HGD.out _ (mp_up (hm.out) (by repeat (first | with_reducible (first | exact World.gained_refl _ | exact ⟨_, rfl⟩ | apply gain_ext | apply gain_alloc | apply gain_drewN | apply gain_drew) | (refine gain_setCell ?_ (by first | exact Nat.le_refl _ | exact World.size_ext _ _ | (simp; done) | (simp; omega)) _))))).mono ?_; rintro e w1 ⟨rfl, d1, rfl⟩)
    go_ret2
    rw [HE1.out, HE2.out]
    exact ⟨rfl, (by repeat (first | with_reducible (first | exact World.gained_refl _ | exact ⟨_, rfl⟩ | apply gain_ext | apply gain_alloc | apply gain_drewN | apply gain_drew) | (refine gain_setCell ?_ (by first | exact Nat.le_refl _ | exact World.size_ext _ _ | (simp; done) | (simp; omega)) _)))⟩
  | true =>
  obtain ⟨W, H, hok⟩ := mapB_ok hB
  have HK := Lib.hid hok
  have HIR := Lib.hid (fun w' hw' hu' => isRoute_any m (.slice p1 m.rise.length c1) (.slice p2 m.cost.length c2) (.slice p t.length c) W H t w' HK.out hw' hu' hl2)
  rw [hB] at HGD
  cases hR : routeR m t with
  | false =>
    have HE1 := Lib.hid (show routeB m t = false by simp [routeB, hR])
    have HE2 := Lib.hid (show climbI m t = 0 by simp [climbI, routeB, hR])
    rw [hR] at HIR
    clear hB hR hok
    go_enter Try.func97, Try.ntmps97
    go_wp2_with (first | (go_at_call 111; refine (HGD.out _ (mp_up (hm.out) (by repeat (first | with_reducible (first | exact World.gained_refl _ | exact ⟨_, rfl⟩ | apply gain_ext | apply gain_alloc | apply gain_drewN | apply gain_drew) | (refine gain_setCell ?_ (by first | exact Nat.le_refl _ | exact World.size_ext _ _ | (simp; done) | (simp; omega)) _))))).mono ?_; rintro e w1 ⟨rfl, d1, rfl⟩) | (go_at_call 158; refine (HIR.out _ (mp_up (hm.out) (by repeat (first | with_reducible (first | exact World.gained_refl _ | exact ⟨_, rfl⟩ | apply gain_ext | apply gain_alloc | apply gain_drewN | apply gain_drew) | (refine gain_setCell ?_ (by first | exact Nat.le_refl _ | exact World.size_ext _ _ | (simp; done) | (simp; omega)) _)))) (by with_reducible (repeat (first | exact ht.out | refine World.sl_ext intC_length ?_ _ | refine sl_alloc intC_length ?_ _ | refine sl_drew ?_)))).mono ?_; rintro e w1 ⟨rfl, d2, rfl⟩))
    go_ret2
    rw [HE1.out, HE2.out]
    exact ⟨rfl, (by repeat (first | with_reducible (first | exact World.gained_refl _ | exact ⟨_, rfl⟩ | apply gain_ext | apply gain_alloc | apply gain_drewN | apply gain_drew) | (refine gain_setCell ?_ (by first | exact Nat.le_refl _ | exact World.size_ext _ _ | (simp; done) | (simp; omega)) _)))⟩
  | true =>
    have hRB : routeB m t = true := by simp [routeB, hR, hB]
    have HE1 := Lib.hid hRB
    have HE2 : Hid (climbI m t = stepsF (climbZ m) t t.length) := Lib.hid (by simp [climbI, hRB])
    obtain ⟨r, hr, hrt⟩ := routeB_true hRB
    have HR := Lib.hid hr
    have HRT := Lib.hid hrt
    have h36 : t.length ≤ 36 := by rw [hr, List.length_map]; exact rt_len hok hrt
    have h01 : 1 ≤ t.length := by rw [hr, List.length_map]; exact hrt.pos
    have HSB := Lib.hid (fun k => stepsF_bd (f := climbZ m) (l := t) (B := 9) (by omega) (fun x y => climbZ_le HK.out x y) k)
    rw [hR] at HIR
    obtain ⟨b1, o1, k1, b2, o2, k2, hin⟩ := mp_in hm.out hok
    clear hB hR hok hRB hr hrt
    have HIN := Lib.hid hin
    obtain ⟨rfl, e1, rfl⟩ : p1 = some ⟨b1, o1, none⟩ ∧ m.rise.length = m.cost.length ∧ c1 = k1 := by have := hin.rv; simp only [Value.slice.injEq] at this; exact this
    obtain ⟨rfl, rfl⟩ : p2 = some ⟨b2, o2, none⟩ ∧ c2 = k2 := by have := hin.cv; simp only [Value.slice.injEq, true_and] at this; exact this
    have E1 := Lib.hid e1
    clear e1
    have ob1 := hin.ob1
    have ob2 := hin.ob2
    clear hin
    go_enter Try.func97, Try.ntmps97
    go_wp2_with (first | (go_at_call 111; refine (HGD.out _ (mp_up (hm.out) (by repeat (first | with_reducible (first | exact World.gained_refl _ | exact ⟨_, rfl⟩ | apply gain_ext | apply gain_alloc | apply gain_drewN | apply gain_drew) | (refine gain_setCell ?_ (by first | exact Nat.le_refl _ | exact World.size_ext _ _ | (simp; done) | (simp; omega)) _))))).mono ?_; rintro e w1 ⟨rfl, d1, rfl⟩) | (go_at_call 158; refine (HIR.out _ (mp_up (hm.out) (by repeat (first | with_reducible (first | exact World.gained_refl _ | exact ⟨_, rfl⟩ | apply gain_ext | apply gain_alloc | apply gain_drewN | apply gain_drew) | (refine gain_setCell ?_ (by first | exact Nat.le_refl _ | exact World.size_ext _ _ | (simp; done) | (simp; omega)) _)))) (by with_reducible (repeat (first | exact ht.out | refine World.sl_ext intC_length ?_ _ | refine sl_alloc intC_length ?_ _ | refine sl_drew ?_)))).mono ?_; rintro e w1 ⟨rfl, d2, rfl⟩))
    go_loopw [6, 7] (fun s i wr => ∃ k : Nat, 1 ≤ k ∧ k ≤ t.length ∧ i = .int .i64 k ∧ s = .int .i64 (stepsF (climbZ m) t k) ∧ ∃ d, wr = (((w.alloc (.cells #[.int .i64 m.wd, .int .i64 m.ht, .slice (some ⟨b1, o1, none⟩) m.rise.length c1, .slice (some ⟨b2, o2, none⟩) m.cost.length c2] 26)).ext d1).ext d2).ext d) (fun _ i _ => t.length - (intOf i).toNat)
    case atStart => exact ⟨1, by omega, by omega, rfl, by rw [stepsF_one], (by repeat (first | with_reducible (first | exact World.gained_refl _ | exact ⟨_, rfl⟩ | apply gain_ext | apply gain_alloc | apply gain_drewN | apply gain_drew) | (refine gain_setCell ?_ (by first | exact Nat.le_refl _ | exact World.size_ext _ _ | (simp; done) | (simp; omega)) _)))⟩
    case round =>
      obtain ⟨k, hk0, hk, rfl, rfl, d, rfl⟩ := hrel
      by_cases hlt : k < t.length
      · obtain ⟨b, o, rfl⟩ := sl_some ht.out (by omega)
        have hk1 : k - 1 < t.length := by omega
        have c0 := sl_int ht.out hlt
        have cp := sl_int ht.out hk1
        have hrl : r.length = t.length := by rw [HR.out, List.length_map]
        have e2 : t[k] = ((r[k]'(by omega) : Nat) : Int) := by simp [HR.out]
        have e3 : t[k - 1]'hk1 = ((r[k - 1]'(by omega) : Nat) : Int) := by simp [HR.out]
        have hX := (HRT.out.cell (r[k]'(by omega)) (List.getElem_mem _)).1
        have hY := (HRT.out.cell (r[k - 1]'(by omega)) (List.getElem_mem _)).1
        have HS := Lib.hid (stepsF_succ (climbZ m) hk0 hlt e3 e2)
        rw [e2] at c0
        rw [e3] at cp
        clear e2 e3
        generalize r[k]'(by omega) = X at c0 hX HS
        generalize r[k - 1]'(by omega) = Y at cp hY HS
        have ob := World.oldB_of_cell c0
        obtain ⟨hs0, hs1⟩ := HSB.out k
        generalize stepsF (climbZ m) t k = S at HS hs0 hs1
        have hsb : S ≤ 40 * 40 := by
          have : (9 : Int) * (k : Int) ≤ 40 * 40 := Int.mul_le_mul (by omega) (by omega) (by omega) (by omega)
          omega
        clear hs1
        have rx := HIN.out.ro X hX
        have ry := HIN.out.ro Y hY
        have bx := HK.out.rr X
        have by' := HK.out.rr Y
        have HF : Hid (climbZ m Y X = max (riseAt m X - riseAt m Y) 0) := Lib.hid rfl
        generalize riseAt m X = x at rx bx HF
        generalize riseAt m Y = y at ry by' HF
        have hrx : X < m.rise.length := by have := E1.out; omega
        have hry : Y < m.rise.length := by have := E1.out; omega
        have kw1 : IntKind.i64.wrap ((k : Int) - 1) = (k : Int) - 1 := IntWalk.i64_in _ (by omega)
        go_wp2
        refine wp_region_gain (by kernel_rfl) (by kernel_rfl) ?_
        repeat (first | go_big_quiet_skip | (go_big_quiet_want; go_big_quiet_op; first | go_big_quiet_on))
        refine wpQuiet_nil ?_
        rintro _ ⟨d', rfl⟩
        go_wp2
        go_roundw
        case rel => exact ⟨k + 1, by omega, by omega, by go_num, by rw [HS.out, HF.out]; apply congrArg; split <;> omega, (by repeat (first | with_reducible (first | exact World.gained_refl _ | exact ⟨_, rfl⟩ | apply gain_ext | apply gain_alloc | apply gain_drewN | apply gain_drew) | (refine gain_setCell ?_ (by first | exact Nat.le_refl _ | exact World.size_ext _ _ | (simp; done) | (simp; omega)) _)))⟩
        case measure => simp [intOf]; omega
      · obtain rfl : k = t.length := by omega
        go_wp2
        go_ret2
        rw [HE1.out, HE2.out]
        exact ⟨rfl, (by repeat (first | with_reducible (first | exact World.gained_refl _ | exact ⟨_, rfl⟩ | apply gain_ext | apply gain_alloc | apply gain_drewN | apply gain_drew) | (refine gain_setCell ?_ (by first | exact Nat.le_refl _ | exact World.size_ext _ _ | (simp; done) | (simp; omega)) _)))⟩
end Go.Proofs.Ytloefghmidlceaa
