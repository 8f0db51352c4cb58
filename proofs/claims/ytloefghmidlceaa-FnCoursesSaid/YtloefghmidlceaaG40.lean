/- spec.l4Climb; impl.CourseClimb, spec.CourseClimb. Conditions: at most 1048576 numbers, controls, codes. -/
import Derived.Test.YtloefghmidlceaaG34
import Derived.Test.YtloefghmidlceaaG35
import Derived.Test.YtloefghmidlceaaG38
import Derived.Test.YtloefghmidlceaaG39
import Derived.Test.YtloefghmidlceaaG31
import Derived.Test.YtloefghmidlceaaG29
namespace Go.Proofs.Ytloefghmidlceaa
open Go.RowKit Go.Ori
set_option maxHeartbeats 4000000 in
theorem courseClimb_any (m : Mp) (rv cv v u : Value) (l : List Ctl) (t : List Int) (w : World) (hmp : w.mp rv cv m) (h : w.sl Ctl.cells 2 v l) (hl : l.length ≤ 1048576) (h2 : w.sl intC 1 u t) (hl2 : t.length ≤ 1048576) :
    Calls Try.prog 19 #[.agg #[.int .i64 m.wd, .int .i64 m.ht, rv, cv], v, u] w fun x w' => x = .returned (.tuple #[.int .i64 (climbC m l t), .bool (crsB m l t)]) ∧ ∃ d, w' = w.ext d := by
  have hm := Lib.hid hmp
  have hs := Lib.hid h
  have ht := Lib.hid h2
  obtain ⟨p1, c1, p2, c2, rfl, rfl⟩ := mp_form hmp
  obtain ⟨p, c, rfl, _⟩ := id h
  obtain ⟨p', c', rfl, _⟩ := id h2
  have HGD := Lib.hid (fun w' hw' hv' hu' => isCourse_any m (.slice p1 m.rise.length c1) (.slice p2 m.cost.length c2) (.slice p l.length c) (.slice p' t.length c') l t w' hw' hv' hl hu' hl2)
  clear hmp h h2
  cases hB : crsB m l t with
  | false =>
    have HE := Lib.hid (show climbC m l t = 0 by simp [climbC, hB])
    rw [hB] at HGD
    clear hB
    go_enter Try.func19, Try.ntmps19
    go_wp2_with (go_at_call 13; refine (HGD.out _ (mp_up (hm.out) (by repeat (first | with_reducible (first | exact World.gained_refl _ | exact ⟨_, rfl⟩ | apply gain_ext | apply gain_alloc | apply gain_drewN | apply gain_drew) | (refine gain_setCell ?_ (by first | exact Nat.le_refl _ | exact World.size_ext _ _ | (simp; done) | (simp; omega)) _)))) (by with_reducible (repeat (first | exact hs.out | refine World.sl_ext Ctl.cells_length ?_ _ | refine sl_alloc Ctl.cells_length ?_ _ | refine sl_drew ?_))) (by with_reducible (repeat (first | exact ht.out | refine World.sl_ext intC_length ?_ _ | refine sl_alloc intC_length ?_ _ | refine sl_drew ?_)))).mono ?_; rintro e w1 ⟨rfl, d1, rfl⟩)
    go_ret2
    rw [HE.out]
    exact ⟨rfl, (by repeat (first | with_reducible (first | exact World.gained_refl _ | exact ⟨_, rfl⟩ | apply gain_ext | apply gain_alloc | apply gain_drewN | apply gain_drew) | (refine gain_setCell ?_ (by first | exact Nat.le_refl _ | exact World.size_ext _ _ | (simp; done) | (simp; omega)) _)))⟩
  | true =>
    have HE : Hid (climbC m l t = climbK m l t (t.length - 1)) := Lib.hid (by simp [climbC, hB])
    have hC := crsB_true hB
    obtain ⟨W, H, hok⟩ := mapB_ok (ctlsB_map hC.good)
    have HK := Lib.hid hok
    have HC := Lib.hid hC
    have ht8 := hC.hi
    have ht2 := hC.lo
    have HCB := Lib.hid (fun k hk => climbK_bd hok hC k hk)
    rw [hB] at HGD
    clear hB hC hok
    go_enter Try.func19, Try.ntmps19
    go_wp2_with (go_at_call 13; refine (HGD.out _ (mp_up (hm.out) (by repeat (first | with_reducible (first | exact World.gained_refl _ | exact ⟨_, rfl⟩ | apply gain_ext | apply gain_alloc | apply gain_drewN | apply gain_drew) | (refine gain_setCell ?_ (by first | exact Nat.le_refl _ | exact World.size_ext _ _ | (simp; done) | (simp; omega)) _)))) (by with_reducible (repeat (first | exact hs.out | refine World.sl_ext Ctl.cells_length ?_ _ | refine sl_alloc Ctl.cells_length ?_ _ | refine sl_drew ?_))) (by with_reducible (repeat (first | exact ht.out | refine World.sl_ext intC_length ?_ _ | refine sl_alloc intC_length ?_ _ | refine sl_drew ?_)))).mono ?_; rintro e w1 ⟨rfl, d1, rfl⟩)
    refine (legRoutes_any m _ _ _ _ l t _ (mp_up (hm.out) (by repeat (first | with_reducible (first | exact World.gained_refl _ | exact ⟨_, rfl⟩ | apply gain_ext | apply gain_alloc | apply gain_drewN | apply gain_drew) | (refine gain_setCell ?_ (by first | exact Nat.le_refl _ | exact World.size_ext _ _ | (simp; done) | (simp; omega)) _)))) (by with_reducible (repeat (first | exact hs.out | refine World.sl_ext Ctl.cells_length ?_ _ | refine sl_alloc Ctl.cells_length ?_ _ | refine sl_drew ?_))) hl (by with_reducible (repeat (first | exact ht.out | refine World.sl_ext intC_length ?_ _ | refine sl_alloc intC_length ?_ _ | refine sl_drew ?_))) HC.out).mono ?_
    rintro e w1 ⟨r, vs, rfl, ⟨d2, rfl⟩, hr2, _⟩
    have HR2 := Lib.hid (sl2_of_own (rows2_own hr2))
    obtain ⟨pr, cr, rfl⟩ := sl2_form HR2.out
    rw [legsR_length] at HR2
    clear hr2
    go_wp2
    rw [legsR_length]
    go_loopw [8, 23] (fun s i wr => ∃ k : Nat, k ≤ t.length - 1 ∧ i = .int .i64 k ∧ s = .int .i64 (climbK m l t k) ∧ ∃ d, wr = (((w.alloc (.cells #[.int .i64 m.wd, .int .i64 m.ht, .slice p1 m.rise.length c1, .slice p2 m.cost.length c2] 26)).ext d1).ext d2).ext d) (fun _ i _ => (t.length - 1) - (intOf i).toNat)
    case atStart => exact ⟨0, by omega, rfl, rfl, (by repeat (first | with_reducible (first | exact World.gained_refl _ | exact ⟨_, rfl⟩ | apply gain_ext | apply gain_alloc | apply gain_drewN | apply gain_drew) | (refine gain_setCell ?_ (by first | exact Nat.le_refl _ | exact World.size_ext _ _ | (simp; done) | (simp; omega)) _)))⟩
    case round =>
      obtain ⟨k, hk, rfl, rfl, d, rfl⟩ := hrel
      by_cases hlt : k < t.length - 1
      · obtain ⟨b0, o0, rfl⟩ := slOf_some HR2.out (by rw [legsR_length]; omega)
        obtain ⟨uu, e0, hu⟩ := slOf_at HR2.out (k := k) (by rw [legsR_length]; exact hlt)
        have hge : (legsR m l t (t.length - 1))[k]'(by rw [legsR_length]; exact hlt) = natL (legR m l t k) := by simp [legsR, natL]
        rw [hge] at hu
        have hrt := legR_rt HK.out HC.out (i := k) (by omega)
        have hr36 := rt_len HK.out hrt
        have hrB := routeB_of (ctlsB_map HC.out.good) hrt
        have HCI : Hid (climbI m (natL (legR m l t k)) = stepsF (climbZ m) (natL (legR m l t k)) (legR m l t k).length) := Lib.hid (by
          rw [climbI, if_pos (show routeB m (natL (legR m l t k)) = true from hrB), natL_length])
        have HST : Hid (climbK m l t (k + 1) = climbK m l t k + stepsF (climbZ m) (natL (legR m l t k)) (legR m l t k).length) := Lib.hid rfl
        obtain ⟨q1, q2⟩ := HCB.out k (by omega)
        obtain ⟨q3, q4⟩ := stepsF_bd (f := climbZ m) (l := natL (legR m l t k)) (B := 9) (by omega) (fun x y => climbZ_le HK.out x y) (legR m l t k).length
        have HRC := Lib.hid (fun w' hw' hu' => routeClimb_any m (.slice p1 m.rise.length c1) (.slice p2 m.cost.length c2) uu (natL (legR m l t k)) w' hw' hu' (by rw [natL_length]; omega))
        have HU := Lib.hid hu
        rw [HCI.out] at HRC
        have q5 : stepsF (climbZ m) (natL (legR m l t k)) (legR m l t k).length ≤ 400 := by omega
        clear hge hrt hu HCI q4
        generalize stepsF (climbZ m) (natL (legR m l t k)) (legR m l t k).length = S at HST HRC q3 q5
        generalize climbK m l t k = K at HST q1 q2
        have q6 : K ≤ 400 * 8 := by omega
        have ob0 := World.oldB_of_cell e0
        go_wp2_with (go_at_call 97; refine (HRC.out _ (mp_up (hm.out) (by repeat (first | with_reducible (first | exact World.gained_refl _ | exact ⟨_, rfl⟩ | apply gain_ext | apply gain_alloc | apply gain_drewN | apply gain_drew) | (refine gain_setCell ?_ (by first | exact Nat.le_refl _ | exact World.size_ext _ _ | (simp; done) | (simp; omega)) _)))) (sl1_up HU.out (by repeat (first | with_reducible (first | exact World.gained_refl _ | exact ⟨_, rfl⟩ | apply gain_ext | apply gain_alloc | apply gain_drewN | apply gain_drew) | (refine gain_setCell ?_ (by first | exact Nat.le_refl _ | exact World.size_ext _ _ | (simp; done) | (simp; omega)) _))))).mono ?_; rintro e w1 ⟨rfl, d3, rfl⟩)
        go_roundw
        case rel => exact ⟨k + 1, by omega, by go_num, by rw [HST.out], (by repeat (first | with_reducible (first | exact World.gained_refl _ | exact ⟨_, rfl⟩ | apply gain_ext | apply gain_alloc | apply gain_drewN | apply gain_drew) | (refine gain_setCell ?_ (by first | exact Nat.le_refl _ | exact World.size_ext _ _ | (simp; done) | (simp; omega)) _)))⟩
        case measure => simp [intOf]; omega
      · obtain rfl : k = t.length - 1 := by omega
        go_wp2
        go_ret2
        rw [HE.out]
        exact ⟨rfl, (by repeat (first | with_reducible (first | exact World.gained_refl _ | exact ⟨_, rfl⟩ | apply gain_ext | apply gain_alloc | apply gain_drewN | apply gain_drew) | (refine gain_setCell ?_ (by first | exact Nat.le_refl _ | exact World.size_ext _ _ | (simp; done) | (simp; omega)) _)))⟩
set_option maxHeartbeats 4000000 in
theorem specCourseClimb_any (m : Mp) (rv cv v u : Value) (l : List Ctl) (t : List Int) (w : World) (hmp : w.mp rv cv m) (h : w.sl Ctl.cells 2 v l) (hl : l.length ≤ 1048576) (h2 : w.sl intC 1 u t) (hl2 : t.length ≤ 1048576) :
    Calls Try.prog 20 #[.agg #[.int .i64 m.wd, .int .i64 m.ht, rv, cv], v, u] w fun x w' => x = .returned (.tuple #[.int .i64 (climbC m l t), .bool (crsB m l t)]) ∧ ∃ d, w' = w.ext d := by
  have hm := Lib.hid hmp
  have hs := Lib.hid h
  have ht := Lib.hid h2
  obtain ⟨p1, c1, p2, c2, rfl, rfl⟩ := mp_form hmp
  obtain ⟨p, c, rfl, _⟩ := id h
  obtain ⟨p', c', rfl, _⟩ := id h2
  have HGD := Lib.hid (fun w' hw' hv' hu' => l8Good_any m (.slice p1 m.rise.length c1) (.slice p2 m.cost.length c2) (.slice p l.length c) (.slice p' t.length c') l t w' hw' hv' hl hu' hl2)
  clear hmp h h2
  cases hB : crsB m l t with
  | false =>
    have HE := Lib.hid (show climbC m l t = 0 by simp [climbC, hB])
    rw [hB] at HGD
    clear hB
    go_enter Try.func20, Try.ntmps20
    go_wp2_with (go_at_call 86; refine (HGD.out _ (mp_up (hm.out) (by repeat (first | with_reducible (first | exact World.gained_refl _ | exact ⟨_, rfl⟩ | apply gain_ext | apply gain_alloc | apply gain_drewN | apply gain_drew) | (refine gain_setCell ?_ (by first | exact Nat.le_refl _ | exact World.size_ext _ _ | (simp; done) | (simp; omega)) _)))) (by with_reducible (repeat (first | exact hs.out | refine World.sl_ext Ctl.cells_length ?_ _ | refine sl_alloc Ctl.cells_length ?_ _ | refine sl_drew ?_))) (by with_reducible (repeat (first | exact ht.out | refine World.sl_ext intC_length ?_ _ | refine sl_alloc intC_length ?_ _ | refine sl_drew ?_)))).mono ?_; rintro e w1 ⟨rfl, d1, rfl⟩)
    go_ret2
    rw [HE.out]
    exact ⟨rfl, (by repeat (first | with_reducible (first | exact World.gained_refl _ | exact ⟨_, rfl⟩ | apply gain_ext | apply gain_alloc | apply gain_drewN | apply gain_drew) | (refine gain_setCell ?_ (by first | exact Nat.le_refl _ | exact World.size_ext _ _ | (simp; done) | (simp; omega)) _)))⟩
  | true =>
    have HE : Hid (climbC m l t = climbK m l t (t.length - 1)) := Lib.hid (by simp [climbC, hB])
    have hC := crsB_true hB
    obtain ⟨W, H, hok⟩ := mapB_ok (ctlsB_map hC.good)
    have HK := Lib.hid hok
    have HC := Lib.hid hC
    have ht8 := hC.hi
    have ht2 := hC.lo
    have HCB := Lib.hid (fun k hk => climbK_bd hok hC k hk)
    rw [hB] at HGD
    clear hB hC hok
    go_enter Try.func20, Try.ntmps20
    go_wp2_with fail
    generalize hW0 : w.alloc (.cells #[.int .i64 m.wd, .int .i64 m.ht, .slice p1 m.rise.length c1, .slice p2 m.cost.length c2] 26) = W0
    have hbx : MBox w W0 w.heap.size m (.slice p1 m.rise.length c1) (.slice p2 m.cost.length c2) := by rw [← hW0]; exact mbox
    have HG := Lib.hid hbx.up
    have bx0 := hbx.c0
    have bx1 := hbx.c1
    have bx2 := hbx.c2
    have bx3 := hbx.c3
    have obx := hbx.ob
    have HM0 := Lib.hid (mp_up hm.out HG.out)
    have hs0 := Lib.hid (sl_up Ctl.cells_length hs.out HG.out)
    have ht0 := Lib.hid (sl_up intC_length ht.out HG.out)
    clear hW0 hbx
    go_wp2_with (go_at_call 86; refine (HGD.out _ (mp_up (HM0.out) (by repeat (first | with_reducible (first | exact World.gained_refl _ | exact ⟨_, rfl⟩ | apply gain_ext | apply gain_alloc | apply gain_drewN | apply gain_drew) | (refine gain_setCell ?_ (by first | exact Nat.le_refl _ | exact World.size_ext _ _ | (simp; done) | (simp; omega)) _)))) (by with_reducible (repeat (first | exact hs0.out | refine World.sl_ext Ctl.cells_length ?_ _ | refine sl_alloc Ctl.cells_length ?_ _ | refine sl_drew ?_))) (by with_reducible (repeat (first | exact ht0.out | refine World.sl_ext intC_length ?_ _ | refine sl_alloc intC_length ?_ _ | refine sl_drew ?_)))).mono ?_; rintro e w1 ⟨rfl, d1, rfl⟩)
    go_loopw [8, 9] (fun s i wr => ∃ k : Nat, k ≤ t.length - 1 ∧ i = .int .i64 k ∧ s = .int .i64 (climbK m l t k) ∧ ∃ d, wr = (W0.ext d1).ext d) (fun _ i _ => (t.length - 1) - (intOf i).toNat)
    case atStart => exact ⟨0, by omega, rfl, rfl, (by repeat (first | with_reducible (first | exact World.gained_refl _ | exact ⟨_, rfl⟩ | apply gain_ext | apply gain_alloc | apply gain_drewN | apply gain_drew) | (refine gain_setCell ?_ (by first | exact Nat.le_refl _ | exact World.size_ext _ _ | (simp; done) | (simp; omega)) _)))⟩
    case round =>
      obtain ⟨k, hk, rfl, rfl, d, rfl⟩ := hrel
      have kw1 : IntKind.i64.wrap ((k : Int) + 1) = (k : Int) + 1 := IntWalk.i64_in _ (by omega)
      by_cases hlt : k < t.length - 1
      · have hrt := legR_rt HK.out HC.out (i := k) (by omega)
        have hr36 := rt_len HK.out hrt
        have HRT := Lib.hid hrt
        have HST : Hid (climbK m l t (k + 1) = climbK m l t k + stepsF (climbZ m) (natL (legR m l t k)) (legR m l t k).length) := Lib.hid rfl
        obtain ⟨q1, q2⟩ := HCB.out k (by omega)
        obtain ⟨q3, q4⟩ := stepsF_bd (f := climbZ m) (l := natL (legR m l t k)) (B := 9) (by omega) (fun x y => climbZ_le HK.out x y) (legR m l t k).length
        have HRR := Lib.hid (fun w' hw' hv' hu' => l8Route_any m (.slice p1 m.rise.length c1) (.slice p2 m.cost.length c2) (.slice p l.length c) (.slice p' t.length c') l t k w' hw' hv' hl hu' HC.out (by omega))
        have HRC := Lib.hid (fun u w' hw' hu' => l4Climb_any m (.slice p1 m.rise.length c1) (.slice p2 m.cost.length c2) u W H (legR m l t k) w' HK.out hw' hu' HRT.out)
        have q5 : stepsF (climbZ m) (natL (legR m l t k)) (legR m l t k).length ≤ 400 := by omega
        clear hrt q4
        generalize stepsF (climbZ m) (natL (legR m l t k)) (legR m l t k).length = S at HST HRC q3 q5
        generalize climbK m l t k = K at HST q1 q2
        have q6 : K ≤ 400 * 8 := by omega
        have hkt : decide ((k : Int) + 1 < (t.length : Int)) = true := decide_eq_true (by omega)
        go_upto_region 7 with fail
        refine wp_region_held_drew (S := (fun w' => w'.cell? ⟨w.heap.size, 0, none⟩ = some (.int .i64 m.wd) ∧ w'.cell? ⟨w.heap.size, 1, none⟩ = some (.int .i64 m.ht) ∧ w'.cell? ⟨w.heap.size, 2, none⟩ = some (.slice p1 m.rise.length c1) ∧ w'.cell? ⟨w.heap.size, 3, none⟩ = some (.slice p2 m.cost.length c2))) (by kernel_rfl) (by (try dsimp only); (refine ⟨?_, ?_, ?_, ?_⟩ <;> (with_reducible (repeat (first | assumption | refine cell_ext ?_ _ | refine cell_drew ?_ | refine cell_alloc ?_ _))))) (fun hHeld => ?_)
        refine wpAnyH_take (i := 0) (oi := ⟨_, _, _, _, _, _⟩) (v := ?_) rfl (by kernel_rfl) (by kernel_rfl) (by kernel_rfl) (fun _ _ _ h => h) (Or.inl ⟨by rfl, ?_⟩) (by assumption) ?_
        rotate_left
        · intro w hSw; (try dsimp only at hSw); go_simp; (try with_reducible rfl)
        try simp only [Act.put, List.setIfInBounds_toArray, List.set_cons_zero, List.set_cons_succ]
        refine wpAnyH_take (i := 1) (oi := ⟨_, _, _, _, _, _⟩) (v := ?_) rfl (by kernel_rfl) (by kernel_rfl) (by kernel_rfl) (fun _ _ _ h => h) (Or.inl ⟨by rfl, ?_⟩) (by assumption) ?_
        rotate_left
        · intro w hSw; (try dsimp only at hSw); go_simp; (try with_reducible rfl)
        try simp only [Act.put, List.setIfInBounds_toArray, List.set_cons_zero, List.set_cons_succ]
        refine wpAnyH_take (i := 2) (oi := ⟨_, _, _, _, _, _⟩) (v := ?_) rfl (by kernel_rfl) (by kernel_rfl) (by kernel_rfl) (fun _ _ _ h => h) (Or.inl ⟨by rfl, ?_⟩) (by assumption) ?_
        rotate_left
        · intro w hSw; (try dsimp only at hSw); go_simp; (try with_reducible rfl)
        try simp only [Act.put, List.setIfInBounds_toArray, List.set_cons_zero, List.set_cons_succ]
        refine wpAnyH_take (i := 3) (oi := ⟨_, _, _, _, _, _⟩) (v := ?_) rfl (by kernel_rfl) (by kernel_rfl) (by kernel_rfl) (fun _ _ _ h => h) (Or.inl ⟨by rfl, ?_⟩) (by assumption) ?_
        rotate_left
        · intro w hSw; (try dsimp only at hSw); go_simp; (try with_reducible rfl)
        try simp only [Act.put, List.setIfInBounds_toArray, List.set_cons_zero, List.set_cons_succ]
        refine wpAnyH_take (i := 4) (oi := ⟨_, _, _, _, _, _⟩) (v := ?_) rfl (by kernel_rfl) (by kernel_rfl) (by kernel_rfl) (fun _ _ _ h => h) (Or.inl ⟨by rfl, ?_⟩) (by assumption) ?_
        rotate_left
        · intro w hSw; (try dsimp only at hSw); go_simp; (try with_reducible rfl)
        try simp only [Act.put, List.setIfInBounds_toArray, List.set_cons_zero, List.set_cons_succ]
        refine wpAnyH_take (i := 5) (oi := ⟨_, _, _, _, _, _⟩) (v := ?_) rfl (by kernel_rfl) (by kernel_rfl) (by kernel_rfl) (fun _ _ _ h => h) (Or.inl ⟨by rfl, ?_⟩) (by assumption) ?_
        rotate_left
        · intro w hSw; (try dsimp only at hSw); go_simp; (try with_reducible rfl)
        try simp only [Act.put, List.setIfInBounds_toArray, List.set_cons_zero, List.set_cons_succ]
        refine wpAnyH_ready (rs := [6]) (by kernel_rfl) (by simp) ?_
        refine AllReadyH.cons rfl (fun K hK => ?_) AllReadyH.nil
        go_simp
        go_wp2_with (go_at_call 99; ((with_reducible refine (HRR.out _ (mp_up (HM0.out) (by repeat (first | with_reducible (first | exact World.gained_refl _ | exact ⟨_, rfl⟩ | apply gain_ext | apply gain_alloc | apply gain_drewN | apply gain_drew) | (refine gain_setCell ?_ (by first | exact Nat.le_refl _ | exact World.size_ext _ _ | (simp; done) | (simp; omega)) _)))) (by with_reducible (repeat (first | exact hs0.out | refine World.sl_ext Ctl.cells_length ?_ _ | refine sl_alloc Ctl.cells_length ?_ _ | refine sl_drew ?_))) (by with_reducible (repeat (first | exact ht0.out | refine World.sl_ext intC_length ?_ _ | refine sl_alloc intC_length ?_ _ | refine sl_drew ?_)))).mono ?_); rintro e w1 ⟨rv, rfl, ⟨d3, rfl⟩, hrv⟩))
        refine hK.out _ _ ?_ (fun hHeld => ?_)
        · (try dsimp only); (refine ⟨?_, ?_, ?_, ?_⟩ <;> (with_reducible (repeat (first | assumption | refine cell_ext ?_ _ | refine cell_drew ?_ | refine cell_alloc ?_ _))))
        clear hK K
        try simp only [Act.put, List.setIfInBounds_toArray, List.set_cons_zero, List.set_cons_succ]
        refine wpAnyH_ready (rs := [7]) (by kernel_rfl) (by simp) ?_
        refine AllReadyH.cons rfl (fun K hK => ?_) AllReadyH.nil
        go_simp
        go_wp2_with (go_at_call 98; ((with_reducible refine (HRC.out _ _ (mp_up (HM0.out) (by repeat (first | with_reducible (first | exact World.gained_refl _ | exact ⟨_, rfl⟩ | apply gain_ext | apply gain_alloc | apply gain_drewN | apply gain_drew) | (refine gain_setCell ?_ (by first | exact Nat.le_refl _ | exact World.size_ext _ _ | (simp; done) | (simp; omega)) _)))) (sl_of_own intC_length hrv)).mono ?_); rintro e w1 ⟨rfl, d4, rfl⟩))
        refine hK.out _ _ ?_ (fun hHeld => ?_)
        · (try dsimp only); (refine ⟨?_, ?_, ?_, ?_⟩ <;> (with_reducible (repeat (first | assumption | refine cell_ext ?_ _ | refine cell_drew ?_ | refine cell_alloc ?_ _))))
        clear hK K
        try simp only [Act.put, List.setIfInBounds_toArray, List.set_cons_zero, List.set_cons_succ]
        refine wpAnyH_ready (rs := [8]) (by kernel_rfl) (by simp) ?_
        refine AllReadyH.cons rfl (fun K hK => ?_) AllReadyH.nil
        go_simp
        refine hK.out _ _ ?_ (fun hHeld => ?_)
        · (try dsimp only); (refine ⟨?_, ?_, ?_, ?_⟩ <;> (with_reducible (repeat (first | assumption | refine cell_ext ?_ _ | refine cell_drew ?_ | refine cell_alloc ?_ _))))
        clear hK K
        try simp only [Act.put, List.setIfInBounds_toArray, List.set_cons_zero, List.set_cons_succ]
        refine wpAnyH_take (i := 9) (oi := ⟨_, _, _, _, _, _⟩) (v := ?_) rfl (by kernel_rfl) (by kernel_rfl) (by kernel_rfl) (fun _ _ _ h => h) (Or.inl ⟨by rfl, ?_⟩) (by assumption) ?_
        rotate_left
        · intro w hSw; (try dsimp only at hSw); go_simp; (try with_reducible rfl)
        try simp only [Act.put, List.setIfInBounds_toArray, List.set_cons_zero, List.set_cons_succ]
        refine wpAnyH_done (by kernel_rfl) ?_ _
        go_wp2
        go_roundw
        case rel => exact ⟨k + 1, by omega, by go_num, by rw [HST.out, IntWalk.i64_in (K + S) (by omega)], (by repeat (first | with_reducible (first | exact World.gained_refl _ | exact ⟨_, rfl⟩ | apply gain_ext | apply gain_alloc | apply gain_drewN | apply gain_drew) | (refine gain_setCell ?_ (by first | exact Nat.le_refl _ | exact World.size_ext _ _ | (simp; done) | (simp; omega)) _)))⟩
        case measure => simp [intOf]; omega
      · obtain rfl : k = t.length - 1 := by omega
        have hkt : decide (((t.length - 1 : Nat) : Int) + 1 < (t.length : Int)) = false := decide_eq_false (by omega)
        go_wp2
        go_ret2
        rw [HE.out]
        exact ⟨rfl, gain_trans HG.out (by repeat (first | with_reducible (first | exact World.gained_refl _ | exact ⟨_, rfl⟩ | apply gain_ext | apply gain_alloc | apply gain_drewN | apply gain_drew) | (refine gain_setCell ?_ (by first | exact Nat.le_refl _ | exact World.size_ext _ _ | (simp; done) | (simp; omega)) _)))⟩
end Go.Proofs.Ytloefghmidlceaa
