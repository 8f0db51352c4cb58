/- spec.l4Route, RouteTime, RouteClimb, IsRoute. Condition: a map in memory, at most 1048576 cells. -/
import Derived.Test.YtfpobghllfoijaaRouteB
import Derived.Test.YtfpobghllfoijaaL4Climb
import Derived.Test.YtfpobghllfoijaaHas
import Derived.Test.YtfpobghllfoijaaMapY
namespace Go.Ori
theorem has_next {m : Mp} {Y X : Nat} (hX : X < m.cost.length) (h0 : 0 < costAt m X) : hasB (natL (nextL m Y)) X = decide (gapN m.wd.toNat Y X = 1) := by
  rw [Bool.eq_iff_iff, hasB_iff, decide_eq_true_eq, natL, List.mem_map]
  constructor
  · rintro ⟨k, hk, e⟩
    obtain rfl : k = X := by omega
    exact (next_mem.1 hk).2.2
  · intro h
    exact ⟨X, next_mem.2 ⟨hX, h0, h⟩, rfl⟩
theorem mapB_of {m : Mp} {W H : Nat} (h : MapOk m W H) : mapB m = true := by
  have e1 : (m.rise.length : Int) = m.wd * m.ht := by rw [h.rl, h.wd, h.ht, Int.natCast_mul]
  have e2 : m.cost.length = m.rise.length := by rw [h.rl, h.cl]
  have a1 := h.w1; have a2 := h.w6; have a3 := h.h1; have a4 := h.h6; have a5 := h.wd; have a6 := h.ht
  simp only [mapB, Bool.and_eq_true, decide_eq_true_eq, List.all_eq_true, insB_true]
  refine ⟨⟨⟨⟨⟨by omega, by omega⟩, e1⟩, e2⟩, fun x hx => ?_⟩, fun x hx => ?_⟩
  · obtain ⟨i, hi, rfl⟩ := List.getElem_of_mem hx
    have := h.rr i
    rwa [riseAt, List.getD_eq_getElem?_getD, List.getElem?_eq_getElem hi, Option.getD_some] at this
  · obtain ⟨i, hi, rfl⟩ := List.getElem_of_mem hx
    have := h.cr i
    rwa [costAt, List.getD_eq_getElem?_getD, List.getElem?_eq_getElem hi, Option.getD_some] at this
theorem next_len (m : Mp) (c : Nat) (h : m.cost.length ≤ 1048576) : (natL (nextL m c)).length ≤ 1048576 := by
  rw [natL_length]
  exact Nat.le_trans (List.length_filter_le _ _) (by simpa using h)
end Go.Ori
namespace Go.Proofs.Ytfpobghllfoijaa
open Go.RowKit Go.Ori
set_option maxHeartbeats 4000000 in
theorem l4Route_any (m : Mp) (rv cv u : Value) (W H : Nat) (t : List Int) (w : World) (hok : MapOk m W H) (hmp : w.mp rv cv m) (h2 : w.sl intC 1 u t) (hl2 : t.length ≤ 1048576) :
    Calls Try.prog 33 #[.agg #[.int .i64 m.wd, .int .i64 m.ht, rv, cv], u] w fun x w' => x = .returned (.bool (routeR m t)) ∧ ∃ d, w' = w.ext d := by
  have hm := Lib.hid hmp
  have ht := Lib.hid h2
  have HK := Lib.hid hok
  have HCL := Lib.hid hmp.cl
  have hmb := mapB_of hok
  obtain ⟨p1, c1, p2, c2, rfl, rfl⟩ := mp_form hmp
  obtain ⟨p, c, rfl, _⟩ := id h2
  have hcp := sl_cap h2
  clear hmp h2 hok
  go_enter Try.func33, Try.ntmps33
  go_wp2_with fail
  generalize hW0 : w.alloc (.cells #[.int .i64 m.wd, .int .i64 m.ht, .slice p1 m.rise.length c1, .slice p2 m.cost.length c2] 26) = W0
  have hbx : MBox w W0 w.heap.size m (.slice p1 m.rise.length c1) (.slice p2 m.cost.length c2) := by rw [← hW0]; exact mbox
  have HG := Lib.hid hbx.up
  have bx0 := hbx.c0
  have bx1 := hbx.c1
  have bx2 := hbx.c2
  have bx3 := hbx.c3
  have obx := hbx.ob
  have HM0 := Lib.hid (mp_up hm.out HG.out)
  have ht0 := Lib.hid (sl_up intC_length ht.out HG.out)
  clear hW0 hbx ht
  go_loopw [5] (fun i wr => ∃ k : Nat, k ≤ t.length ∧ i = .int .i64 k ∧ (∀ j, j < k → routeAt m t j = true) ∧ ∃ d, wr = W0.ext d) (fun i _ => t.length - (intOf i).toNat)
  case atStart => exact ⟨0, by omega, rfl, by simp, W0.gained_refl⟩
  case round =>
    obtain ⟨k, hk, rfl, hno, d, rfl⟩ := hrel
    have HN := Lib.hid hno
    clear hno
    by_cases hlt : k < t.length
    · obtain ⟨b, o, rfl⟩ := sl_some ht0.out (by omega)
      have hk1 : k - 1 < t.length := by omega
      have c0 := sl_int ht0.out hlt
      have cp := sl_int ht0.out hk1
      have H1 := Lib.hid (routeAt_eq (m := m) (List.getElem?_eq_getElem hlt) (List.getElem?_eq_getElem hk1))
      have HP := Lib.hid (fun (h0 : 1 ≤ k) => (show openB m (t[k - 1]'hk1) = true from by
        have := HN.out (k - 1) (by omega)
        rw [routeAt_eq (List.getElem?_eq_getElem hk1) (List.getElem?_eq_getElem (by omega : k - 1 - 1 < t.length))] at this
        simp only [Bool.and_eq_true] at this
        exact this.1.1))
      generalize t[k - 1]'hk1 = y at cp H1 HP
      generalize t[k] = x at c0 H1
      have ob := World.oldB_of_cell c0
      have hkc : k ≤ c := by omega
      have HOP := Lib.hid (fun w' hw' => l2Open_any m (.slice p1 m.rise.length c1) (.slice p2 m.cost.length c2) x w' hw' hmb)
      have HCT := Lib.hid (fun w' hw' => l1Has_any (.slice (some ⟨b, o, none⟩) k c) (t.take k) x w' hw' (by rw [List.length_take]; omega))
      cases ho : openB m x with
      | false =>
        have HE := Lib.hid (show routeR m t = false by rw [routeR, allB_no (f := routeAt m t) hlt (by rw [H1.out, ho]; rfl)]; rfl)
        rw [ho] at HOP
        clear ho HP
        go_wp2
        refine wp_region_gain (by kernel_rfl) (by kernel_rfl) ?_
        repeat (first | go_big_quiet_skip | (go_big_quiet_want; go_big_quiet_op; first | go_big_quiet_on | ((apply Exists.intro); (refine ⟨fun _ => ?_, ?_⟩); (· (go_at_call 45; exact Calls.gain (HOP.out _ (mp_up (HM0.out) (by repeat (first | with_reducible (first | exact World.gained_refl _ | exact ⟨_, rfl⟩ | apply gain_ext | apply gain_alloc | apply gain_drewN | apply gain_drew) | (refine gain_setCell ?_ (by first | exact Nat.le_refl _ | exact World.size_ext _ _ | (simp; done) | (simp; omega)) _))))))); (go_big_quiet_on))))
        refine wpQuiet_nil ?_
        rintro _ ⟨d', rfl⟩
        go_wp2
        go_ret
        rw [HE.out]
        exact ⟨rfl, gain_trans HG.out (by repeat (first | with_reducible (first | exact World.gained_refl _ | exact ⟨_, rfl⟩ | apply gain_ext | apply gain_alloc | apply gain_drewN | apply gain_drew) | (refine gain_setCell ?_ (by first | exact Nat.le_refl _ | exact World.size_ext _ _ | (simp; done) | (simp; omega)) _)))⟩
      | true =>
      rw [ho] at HOP
      cases hh : hasB (t.take k) x with
      | true =>
        have HE := Lib.hid (show routeR m t = false by rw [routeR, allB_no (f := routeAt m t) hlt (by rw [H1.out, ho, hh]; rfl)]; rfl)
        rw [hh] at HCT
        clear ho hh HP
        go_wp2
        refine wp_region_gain (by kernel_rfl) (by kernel_rfl) ?_
        repeat (first | go_big_quiet_skip | (go_big_quiet_want; go_big_quiet_op; first | go_big_quiet_on | ((apply Exists.intro); (refine ⟨fun _ => ?_, ?_⟩); (· (first | (go_at_call 45; exact Calls.gain (HOP.out _ (mp_up (HM0.out) (by repeat (first | with_reducible (first | exact World.gained_refl _ | exact ⟨_, rfl⟩ | apply gain_ext | apply gain_alloc | apply gain_drewN | apply gain_drew) | (refine gain_setCell ?_ (by first | exact Nat.le_refl _ | exact World.size_ext _ _ | (simp; done) | (simp; omega)) _)))))) | (go_at_call 54; exact Calls.gain (HCT.out _ (sl_take (by with_reducible (repeat (first | exact ht0.out | refine World.sl_ext intC_length ?_ _ | refine sl_alloc intC_length ?_ _ | refine sl_drew ?_))) hk))))); (go_big_quiet_on))))
        refine wpQuiet_nil ?_
        rintro _ ⟨d', rfl⟩
        go_wp2
        go_ret
        rw [HE.out]
        exact ⟨rfl, gain_trans HG.out (by repeat (first | with_reducible (first | exact World.gained_refl _ | exact ⟨_, rfl⟩ | apply gain_ext | apply gain_alloc | apply gain_drewN | apply gain_drew) | (refine gain_setCell ?_ (by first | exact Nat.le_refl _ | exact World.size_ext _ _ | (simp; done) | (simp; omega)) _)))⟩
      | false =>
      rw [hh] at HCT
      by_cases hk0 : k = 0
      · have HS := Lib.hid (step_all (f := routeAt m t) HN.out (by rw [H1.out, ho, hh, decide_eq_true hk0]; rfl))
        subst hk0
        clear ho hh HP cp
        rw [Nat.add_zero] at c0
        go_wp2
        refine wp_region_gain (by kernel_rfl) (by kernel_rfl) ?_
        repeat (first | go_big_quiet_skip | (go_big_quiet_want; go_big_quiet_op; first | go_big_quiet_on | ((apply Exists.intro); (refine ⟨fun _ => ?_, ?_⟩); (· (first | (go_at_call 45; exact Calls.gain (HOP.out _ (mp_up (HM0.out) (by repeat (first | with_reducible (first | exact World.gained_refl _ | exact ⟨_, rfl⟩ | apply gain_ext | apply gain_alloc | apply gain_drewN | apply gain_drew) | (refine gain_setCell ?_ (by first | exact Nat.le_refl _ | exact World.size_ext _ _ | (simp; done) | (simp; omega)) _)))))) | (go_at_call 54; exact Calls.gain (HCT.out _ (sl_take (by with_reducible (repeat (first | exact ht0.out | refine World.sl_ext intC_length ?_ _ | refine sl_alloc intC_length ?_ _ | refine sl_drew ?_))) hk))))); (go_big_quiet_on))))
        refine wpQuiet_nil ?_
        rintro _ ⟨d', rfl⟩
        go_wp2
        refine wp_region_gain (by kernel_rfl) (by kernel_rfl) ?_
        repeat (first | go_big_quiet_skip | (go_big_quiet_want; go_big_quiet_op; first | go_big_quiet_on))
        refine wpQuiet_nil ?_
        rintro _ ⟨d', rfl⟩
        go_wp2
        go_roundw
        case rel => exact ⟨1, by omega, by go_num, HS.out, (by repeat (first | with_reducible (first | exact World.gained_refl _ | exact ⟨_, rfl⟩ | apply gain_ext | apply gain_alloc | apply gain_drewN | apply gain_drew) | (refine gain_setCell ?_ (by first | exact Nat.le_refl _ | exact World.size_ext _ _ | (simp; done) | (simp; omega)) _)))⟩
        case measure => simp [intOf]; omega
      · obtain ⟨X, rfl, hX, hX0⟩ := openB_true ho
        obtain ⟨Y, rfl, hY, _⟩ := openB_true (HP.out (by omega))
        have hkp : decide (0 < (k : Int)) = true := decide_eq_true (by omega)
        have hkp2 : decide (0 < k) = true := decide_eq_true (by omega)
        have hk1' : (1 : Int) ≤ (k : Int) := by omega
        have kw1 : IntKind.i64.wrap ((k : Int) - 1) = (k : Int) - 1 := IntWalk.i64_in _ (by omega)
        have kw2 : ((k : Int) - 1).toNat = k - 1 := by omega
        have kw3 : (k : Int) - 1 < (t.length : Int) := by omega
        have HNX := Lib.hid (fun w' hw' => l2Next_any m (.slice p1 m.rise.length c1) (.slice p2 m.cost.length c2) W H Y w' HK.out hw' hY)
        obtain ⟨GB, hGB⟩ : ∃ GB, GB = decide (gapN m.wd.toNat Y X = 1) := ⟨_, rfl⟩
        have HH2 := Lib.hid (fun v' w' hw' => by have := l1Has_any v' (natL (nextL m Y)) X w' hw' (next_len m Y HCL.out); rw [has_next hX hX0, ← hGB] at this; exact this)
        have H1' : Hid (routeAt m t k = GB) := Lib.hid (by rw [hGB, H1.out, ho, hh, decide_eq_false hk0]; simp)
        clear hGB
        clear H1 ho hh HP
        go_wp2
        refine wp_region_gain (by kernel_rfl) (by kernel_rfl) ?_
        repeat (first | go_big_quiet_skip | (go_big_quiet_want; go_big_quiet_op; first | go_big_quiet_on | ((apply Exists.intro); (refine ⟨fun _ => ?_, ?_⟩); (· (first | (go_at_call 45; exact Calls.gain (HOP.out _ (mp_up (HM0.out) (by repeat (first | with_reducible (first | exact World.gained_refl _ | exact ⟨_, rfl⟩ | apply gain_ext | apply gain_alloc | apply gain_drewN | apply gain_drew) | (refine gain_setCell ?_ (by first | exact Nat.le_refl _ | exact World.size_ext _ _ | (simp; done) | (simp; omega)) _)))))) | (go_at_call 54; exact Calls.gain (HCT.out _ (sl_take (by with_reducible (repeat (first | exact ht0.out | refine World.sl_ext intC_length ?_ _ | refine sl_alloc intC_length ?_ _ | refine sl_drew ?_))) hk))))); (go_big_quiet_on))))
        refine wpQuiet_nil ?_
        rintro _ ⟨d', rfl⟩
        go_wp2
        refine wp_region_held_drew (S := (fun w' => w'.cell? ⟨w.heap.size, 0, none⟩ = some (.int .i64 m.wd) ∧ w'.cell? ⟨w.heap.size, 1, none⟩ = some (.int .i64 m.ht) ∧ w'.cell? ⟨w.heap.size, 2, none⟩ = some (.slice p1 m.rise.length c1) ∧ w'.cell? ⟨w.heap.size, 3, none⟩ = some (.slice p2 m.cost.length c2) ∧ w'.cell? ⟨b, o + k, none⟩ = some (.int .i64 X) ∧ w'.cell? ⟨b, o + (k - 1), none⟩ = some (.int .i64 Y))) (by kernel_rfl) (by (try dsimp only); (refine ⟨?_, ?_, ?_, ?_, ?_, ?_⟩ <;> (with_reducible (repeat (first | assumption | refine cell_ext ?_ _ | refine cell_drew ?_ | refine cell_alloc ?_ _))))) (fun hHeld => ?_)
        refine wpAnyH_take (i := 0) (oi := ⟨_, _, _, _, _, _⟩) (v := ?_) rfl (by kernel_rfl) (by kernel_rfl) (by kernel_rfl) (fun _ _ _ h => h) (Or.inl ⟨by rfl, ?_⟩) (by assumption) ?_
        rotate_left
        · intro w hSw; (try dsimp only at hSw); go_simp; (try with_reducible rfl)
        try simp only [Act.put, List.setIfInBounds_toArray, List.set_cons_zero, List.set_cons_succ]
        refine wpAnyH_take (i := 1) (oi := ⟨_, _, _, _, _, _⟩) (v := ?_) rfl (by kernel_rfl) (by kernel_rfl) (by kernel_rfl) (fun _ _ _ h => h) (Or.inl ⟨by rfl, ?_⟩) (by assumption) ?_
        rotate_left
        · intro w hSw; (try dsimp only at hSw); go_simp; (try with_reducible rfl)
        try simp only [Act.put, List.setIfInBounds_toArray, List.set_cons_zero, List.set_cons_succ]
        refine wpAnyH_take (i := 2) (oi := ⟨_, _, _, _, _, _⟩) (v := ?_) rfl (by kernel_rfl) (by kernel_rfl) (by kernel_rfl) (fun _ _ _ h => h) (Or.inl ⟨by rfl, ?_⟩) (by assumption) ?_
        rotate_left
        · intro w hSw; (try dsimp only at hSw); go_simp; (try with_reducible rfl)
        try simp only [Act.put, List.setIfInBounds_toArray, List.set_cons_zero, List.set_cons_succ]
        refine wpAnyH_take (i := 3) (oi := ⟨_, _, _, _, _, _⟩) (v := ?_) rfl (by kernel_rfl) (by kernel_rfl) (by kernel_rfl) (fun _ _ _ h => h) (Or.inl ⟨by rfl, ?_⟩) (by assumption) ?_
        rotate_left
        · intro w hSw; (try dsimp only at hSw); go_simp; (try with_reducible rfl)
        try simp only [Act.put, List.setIfInBounds_toArray, List.set_cons_zero, List.set_cons_succ]
        refine wpAnyH_take (i := 4) (oi := ⟨_, _, _, _, _, _⟩) (v := ?_) rfl (by kernel_rfl) (by kernel_rfl) (by kernel_rfl) (fun _ _ _ h => h) (Or.inl ⟨by rfl, ?_⟩) (by assumption) ?_
        rotate_left
        · intro w hSw; (try dsimp only at hSw); go_simp; (try with_reducible rfl)
        try simp only [Act.put, List.setIfInBounds_toArray, List.set_cons_zero, List.set_cons_succ]
        refine wpAnyH_take (i := 5) (oi := ⟨_, _, _, _, _, _⟩) (v := ?_) rfl (by kernel_rfl) (by kernel_rfl) (by kernel_rfl) (fun _ _ _ h => h) (Or.inl ⟨by rfl, ?_⟩) (by assumption) ?_
        rotate_left
        · intro w hSw; (try dsimp only at hSw); go_simp; (try with_reducible rfl)
        try simp only [Act.put, List.setIfInBounds_toArray, List.set_cons_zero, List.set_cons_succ]
        refine wpAnyH_take (i := 6) (oi := ⟨_, _, _, _, _, _⟩) (v := ?_) rfl (by kernel_rfl) (by kernel_rfl) (by kernel_rfl) (fun _ _ _ h => h) (Or.inl ⟨by rfl, ?_⟩) (by assumption) ?_
        rotate_left
        · intro w hSw; (try dsimp only at hSw); go_simp; (try with_reducible rfl)
        try simp only [Act.put, List.setIfInBounds_toArray, List.set_cons_zero, List.set_cons_succ]
        refine wpAnyH_take (i := 7) (oi := ⟨_, _, _, _, _, _⟩) (v := ?_) rfl (by kernel_rfl) (by kernel_rfl) (by kernel_rfl) (fun _ _ _ h => h) (Or.inl ⟨by rfl, ?_⟩) (by assumption) ?_
        rotate_left
        · intro w hSw; (try dsimp only at hSw); go_simp; (try with_reducible rfl)
        try simp only [Act.put, List.setIfInBounds_toArray, List.set_cons_zero, List.set_cons_succ]
        refine wpAnyH_take (i := 8) (oi := ⟨_, _, _, _, _, _⟩) (v := ?_) rfl (by kernel_rfl) (by kernel_rfl) (by kernel_rfl) (fun _ _ _ h => h) (Or.inl ⟨by rfl, ?_⟩) (by assumption) ?_
        rotate_left
        · intro w hSw; (try dsimp only at hSw); go_simp; (try with_reducible rfl)
        try simp only [Act.put, List.setIfInBounds_toArray, List.set_cons_zero, List.set_cons_succ]
        refine wpAnyH_take (i := 10) (oi := ⟨_, _, _, _, _, _⟩) (v := ?_) rfl (by kernel_rfl) (by kernel_rfl) (by kernel_rfl) (fun _ _ _ h => h) (Or.inl ⟨by rfl, ?_⟩) (by assumption) ?_
        rotate_left
        · intro w hSw; (try dsimp only at hSw); go_simp; (try with_reducible rfl)
        try simp only [Act.put, List.setIfInBounds_toArray, List.set_cons_zero, List.set_cons_succ]
        refine wpAnyH_take (i := 11) (oi := ⟨_, _, _, _, _, _⟩) (v := ?_) rfl (by kernel_rfl) (by kernel_rfl) (by kernel_rfl) (fun _ _ _ h => h) (Or.inl ⟨by rfl, ?_⟩) (by assumption) ?_
        rotate_left
        · intro w hSw; (try dsimp only at hSw); go_simp; (try with_reducible rfl)
        try simp only [Act.put, List.setIfInBounds_toArray, List.set_cons_zero, List.set_cons_succ]
        refine wpAnyH_take (i := 12) (oi := ⟨_, _, _, _, _, _⟩) (v := ?_) rfl (by kernel_rfl) (by kernel_rfl) (by kernel_rfl) (fun _ _ _ h => h) (Or.inl ⟨by rfl, ?_⟩) (by assumption) ?_
        rotate_left
        · intro w hSw; (try dsimp only at hSw); go_simp; (try with_reducible rfl)
        try simp only [Act.put, List.setIfInBounds_toArray, List.set_cons_zero, List.set_cons_succ]
        refine wpAnyH_take (i := 13) (oi := ⟨_, _, _, _, _, _⟩) (v := ?_) rfl (by kernel_rfl) (by kernel_rfl) (by kernel_rfl) (fun _ _ _ h => h) (Or.inl ⟨by rfl, ?_⟩) (by assumption) ?_
        rotate_left
        · intro w hSw; (try dsimp only at hSw); go_simp; (try with_reducible rfl)
        try simp only [Act.put, List.setIfInBounds_toArray, List.set_cons_zero, List.set_cons_succ]
        refine wpAnyH_ready (rs := [9]) (by kernel_rfl) (by simp) ?_
        refine AllReadyH.cons rfl (fun K hK => ?_) AllReadyH.nil
        go_simp
        go_wp2_with fail
        refine (HNX.out _ (mp_up (HM0.out) (by repeat (first | with_reducible (first | exact World.gained_refl _ | exact ⟨_, rfl⟩ | apply gain_ext | apply gain_alloc | apply gain_drewN | apply gain_drew) | (refine gain_setCell ?_ (by first | exact Nat.le_refl _ | exact World.size_ext _ _ | (simp; done) | (simp; omega)) _))))).mono ?_
        rintro e w1 ⟨v', rfl, ⟨d5, rfl⟩, ho⟩
        have HO := Lib.hid (sl_of_own intC_length ho)
        clear ho
        (try dsimp only)
        refine hK.out _ _ ?_ (fun hHeld => ?_)
        · (try dsimp only); (refine ⟨?_, ?_, ?_, ?_, ?_, ?_⟩ <;> (with_reducible (repeat (first | assumption | refine cell_ext ?_ _ | refine cell_drew ?_ | refine cell_alloc ?_ _))))
        clear hK K
        try simp only [Act.put, List.setIfInBounds_toArray, List.set_cons_zero, List.set_cons_succ]
        refine wpAnyH_ready (rs := [14]) (by kernel_rfl) (by simp) ?_
        refine AllReadyH.cons rfl (fun K hK => ?_) AllReadyH.nil
        go_simp
        go_wp2_with (go_at_call 54; refine (HH2.out v' _ (by with_reducible (repeat (first | exact HO.out | refine World.sl_ext intC_length ?_ _ | refine sl_alloc intC_length ?_ _ | refine sl_drew ?_)))).mono ?_; rintro e w1 ⟨rfl, d6, rfl⟩)
        refine hK.out _ _ ?_ (fun hHeld => ?_)
        · (try dsimp only); (refine ⟨?_, ?_, ?_, ?_, ?_, ?_⟩ <;> (with_reducible (repeat (first | assumption | refine cell_ext ?_ _ | refine cell_drew ?_ | refine cell_alloc ?_ _))))
        clear hK K
        try simp only [Act.put, List.setIfInBounds_toArray, List.set_cons_zero, List.set_cons_succ]
        refine wpAnyH_take (i := 15) (oi := ⟨_, _, _, _, _, _⟩) (v := ?_) rfl (by kernel_rfl) (by kernel_rfl) (by kernel_rfl) (fun _ _ _ h => h) (Or.inl ⟨by rfl, ?_⟩) (by assumption) ?_
        rotate_left
        · intro w hSw; (try dsimp only at hSw); go_simp; (try with_reducible rfl)
        try simp only [Act.put, List.setIfInBounds_toArray, List.set_cons_zero, List.set_cons_succ]
        refine wpAnyH_take (i := 16) (oi := ⟨_, _, _, _, _, _⟩) (v := ?_) rfl (by kernel_rfl) (by kernel_rfl) (by kernel_rfl) (fun _ _ _ h => h) (Or.inl ⟨by rfl, ?_⟩) (by assumption) ?_
        rotate_left
        · intro w hSw; (try dsimp only at hSw); go_simp; (try with_reducible rfl)
        try simp only [Act.put, List.setIfInBounds_toArray, List.set_cons_zero, List.set_cons_succ]
        refine wpAnyH_done (by kernel_rfl) ?_ _
        cases GB with
        | true =>
          have HS := Lib.hid (step_all (f := routeAt m t) HN.out H1'.out)
          go_wp2
          go_roundw
          case rel => exact ⟨k + 1, by omega, by go_num, HS.out, (by repeat (first | with_reducible (first | exact World.gained_refl _ | exact ⟨_, rfl⟩ | apply gain_ext | apply gain_alloc | apply gain_drewN | apply gain_drew) | (refine gain_setCell ?_ (by first | exact Nat.le_refl _ | exact World.size_ext _ _ | (simp; done) | (simp; omega)) _)))⟩
          case measure => simp [intOf]; omega
        | false =>
          have HE := Lib.hid (show routeR m t = false by rw [routeR, allB_no (f := routeAt m t) hlt H1'.out]; rfl)
          go_wp2
          go_ret
          rw [HE.out]
          exact ⟨rfl, gain_trans HG.out (by repeat (first | with_reducible (first | exact World.gained_refl _ | exact ⟨_, rfl⟩ | apply gain_ext | apply gain_alloc | apply gain_drewN | apply gain_drew) | (refine gain_setCell ?_ (by first | exact Nat.le_refl _ | exact World.size_ext _ _ | (simp; done) | (simp; omega)) _)))⟩
    · obtain rfl : k = t.length := by omega
      have HE := Lib.hid (show routeR m t = decide (0 < t.length) by rw [routeR, allB_yes (fun j hj => HN.out j hj), Bool.true_and])
      cases h0 : decide (0 < t.length) with
      | true =>
        have h0' : decide (0 < (t.length : Int)) = true := by simpa using h0
        go_wp2
        go_ret
        rw [HE.out, h0]
        exact ⟨rfl, gain_trans HG.out (by repeat (first | with_reducible (first | exact World.gained_refl _ | exact ⟨_, rfl⟩ | apply gain_ext | apply gain_alloc | apply gain_drewN | apply gain_drew) | (refine gain_setCell ?_ (by first | exact Nat.le_refl _ | exact World.size_ext _ _ | (simp; done) | (simp; omega)) _)))⟩
      | false =>
        have h0' : decide (0 < (t.length : Int)) = false := by simpa using h0
        go_wp2
        go_ret
        rw [HE.out, h0]
        exact ⟨rfl, gain_trans HG.out (by repeat (first | with_reducible (first | exact World.gained_refl _ | exact ⟨_, rfl⟩ | apply gain_ext | apply gain_alloc | apply gain_drewN | apply gain_drew) | (refine gain_setCell ?_ (by first | exact Nat.le_refl _ | exact World.size_ext _ _ | (simp; done) | (simp; omega)) _)))⟩
set_option maxHeartbeats 2000000 in
theorem specRouteTime_any (m : Mp) (rv cv u : Value) (t : List Int) (w : World) (hmp : w.mp rv cv m) (h2 : w.sl intC 1 u t) (hl2 : t.length ≤ 1048576) :
    Calls Try.prog 15 #[.agg #[.int .i64 m.wd, .int .i64 m.ht, rv, cv], u] w fun x w' => x = .returned (.tuple #[.int .i64 (rtimeI m t), .bool (routeB m t)]) ∧ ∃ d, w' = w.ext d := by
  have hm := Lib.hid hmp
  have ht := Lib.hid h2
  obtain ⟨p1, c1, p2, c2, rfl, rfl⟩ := mp_form hmp
  obtain ⟨p, c, rfl, _⟩ := id h2
  clear hmp h2
  have HGD := Lib.hid (fun w' hw' => l2Map_any m (.slice p1 m.rise.length c1) (.slice p2 m.cost.length c2) w' hw')
  cases hB : mapB m with
  | false =>
    have HE1 := Lib.hid (show routeB m t = false by simp [routeB, hB])
    have HE2 := Lib.hid (show rtimeI m t = 0 by simp [rtimeI, routeB, hB])
    rw [hB] at HGD
    clear hB
    go_enter Try.func15, Try.ntmps15
    go_wp2_with (go_at_call 32; refine (HGD.out _ (mp_up (hm.out) (by repeat (first | with_reducible (first | exact World.gained_refl _ | exact ⟨_, rfl⟩ | apply gain_ext | apply gain_alloc | apply gain_drewN | apply gain_drew) | (refine gain_setCell ?_ (by first | exact Nat.le_refl _ | exact World.size_ext _ _ | (simp; done) | (simp; omega)) _))))).mono ?_; rintro e w1 ⟨rfl, d1, rfl⟩)
    go_ret2
    rw [HE1.out, HE2.out]
    exact ⟨rfl, (by repeat (first | with_reducible (first | exact World.gained_refl _ | exact ⟨_, rfl⟩ | apply gain_ext | apply gain_alloc | apply gain_drewN | apply gain_drew) | (refine gain_setCell ?_ (by first | exact Nat.le_refl _ | exact World.size_ext _ _ | (simp; done) | (simp; omega)) _)))⟩
  | true =>
  obtain ⟨W, H, hok⟩ := mapB_ok hB
  have HK := Lib.hid hok
  have HIR := Lib.hid (fun w' hw' hu' => l4Route_any m (.slice p1 m.rise.length c1) (.slice p2 m.cost.length c2) (.slice p t.length c) W H t w' HK.out hw' hu' hl2)
  rw [hB] at HGD
  cases hR : routeR m t with
  | false =>
    have HE1 := Lib.hid (show routeB m t = false by simp [routeB, hR])
    have HE2 := Lib.hid (show rtimeI m t = 0 by simp [rtimeI, routeB, hR])
    rw [hR] at HIR
    clear hB hR hok
    go_enter Try.func15, Try.ntmps15
    go_wp2_with (first | (go_at_call 32; refine (HGD.out _ (mp_up (hm.out) (by repeat (first | with_reducible (first | exact World.gained_refl _ | exact ⟨_, rfl⟩ | apply gain_ext | apply gain_alloc | apply gain_drewN | apply gain_drew) | (refine gain_setCell ?_ (by first | exact Nat.le_refl _ | exact World.size_ext _ _ | (simp; done) | (simp; omega)) _))))).mono ?_; rintro e w1 ⟨rfl, d1, rfl⟩) | (go_at_call 33; refine (HIR.out _ (mp_up (hm.out) (by repeat (first | with_reducible (first | exact World.gained_refl _ | exact ⟨_, rfl⟩ | apply gain_ext | apply gain_alloc | apply gain_drewN | apply gain_drew) | (refine gain_setCell ?_ (by first | exact Nat.le_refl _ | exact World.size_ext _ _ | (simp; done) | (simp; omega)) _)))) (by with_reducible (repeat (first | exact ht.out | refine World.sl_ext intC_length ?_ _ | refine sl_alloc intC_length ?_ _ | refine sl_drew ?_)))).mono ?_; rintro e w1 ⟨rfl, d2, rfl⟩))
    go_ret2
    rw [HE1.out, HE2.out]
    exact ⟨rfl, (by repeat (first | with_reducible (first | exact World.gained_refl _ | exact ⟨_, rfl⟩ | apply gain_ext | apply gain_alloc | apply gain_drewN | apply gain_drew) | (refine gain_setCell ?_ (by first | exact Nat.le_refl _ | exact World.size_ext _ _ | (simp; done) | (simp; omega)) _)))⟩
  | true =>
    have hRB : routeB m t = true := by simp [routeB, hR, hB]
    have HE1 := Lib.hid hRB
    have HE2 : Hid (rtimeI m t = stepsF (stepZ m) t t.length) := Lib.hid (by simp [rtimeI, hRB])
    obtain ⟨r, hr, hrt⟩ := routeB_true hRB
    have hlr : t.length = r.length := by rw [hr, List.length_map]
    have HSM := Lib.hid (fun w' hw' (hu' : w'.sl intC 1 (.slice p t.length c) t) => (show Calls Try.prog 34 #[.agg #[.int .i64 m.wd, .int .i64 m.ht, .slice p1 m.rise.length c1, .slice p2 m.cost.length c2], .slice p t.length c] w' _ from by
      have := l4Time_any m (.slice p1 m.rise.length c1) (.slice p2 m.cost.length c2) (.slice p t.length c) W H r w' HK.out hw' (by rw [hr] at hu' ⊢; exact hu') hrt
      rw [show natL r = t from hr.symm, ← hlr] at this
      exact this))
    rw [hR] at HIR
    clear hB hR hok hRB hr hrt hlr
    go_enter Try.func15, Try.ntmps15
    go_wp2_with (first | (go_at_call 32; refine (HGD.out _ (mp_up (hm.out) (by repeat (first | with_reducible (first | exact World.gained_refl _ | exact ⟨_, rfl⟩ | apply gain_ext | apply gain_alloc | apply gain_drewN | apply gain_drew) | (refine gain_setCell ?_ (by first | exact Nat.le_refl _ | exact World.size_ext _ _ | (simp; done) | (simp; omega)) _))))).mono ?_; rintro e w1 ⟨rfl, d1, rfl⟩) | (go_at_call 33; refine (HIR.out _ (mp_up (hm.out) (by repeat (first | with_reducible (first | exact World.gained_refl _ | exact ⟨_, rfl⟩ | apply gain_ext | apply gain_alloc | apply gain_drewN | apply gain_drew) | (refine gain_setCell ?_ (by first | exact Nat.le_refl _ | exact World.size_ext _ _ | (simp; done) | (simp; omega)) _)))) (by with_reducible (repeat (first | exact ht.out | refine World.sl_ext intC_length ?_ _ | refine sl_alloc intC_length ?_ _ | refine sl_drew ?_)))).mono ?_; rintro e w1 ⟨rfl, d2, rfl⟩) | (go_at_call 34; refine (HSM.out _ (mp_up (hm.out) (by repeat (first | with_reducible (first | exact World.gained_refl _ | exact ⟨_, rfl⟩ | apply gain_ext | apply gain_alloc | apply gain_drewN | apply gain_drew) | (refine gain_setCell ?_ (by first | exact Nat.le_refl _ | exact World.size_ext _ _ | (simp; done) | (simp; omega)) _)))) (by with_reducible (repeat (first | exact ht.out | refine World.sl_ext intC_length ?_ _ | refine sl_alloc intC_length ?_ _ | refine sl_drew ?_)))).mono ?_; rintro e w1 ⟨rfl, d3, rfl⟩))
    go_ret2
    rw [HE1.out, HE2.out]
    exact ⟨rfl, (by repeat (first | with_reducible (first | exact World.gained_refl _ | exact ⟨_, rfl⟩ | apply gain_ext | apply gain_alloc | apply gain_drewN | apply gain_drew) | (refine gain_setCell ?_ (by first | exact Nat.le_refl _ | exact World.size_ext _ _ | (simp; done) | (simp; omega)) _)))⟩
set_option maxHeartbeats 2000000 in
theorem specRouteClimb_any (m : Mp) (rv cv u : Value) (t : List Int) (w : World) (hmp : w.mp rv cv m) (h2 : w.sl intC 1 u t) (hl2 : t.length ≤ 1048576) :
    Calls Try.prog 20 #[.agg #[.int .i64 m.wd, .int .i64 m.ht, rv, cv], u] w fun x w' => x = .returned (.tuple #[.int .i64 (climbI m t), .bool (routeB m t)]) ∧ ∃ d, w' = w.ext d := by
  have hm := Lib.hid hmp
  have ht := Lib.hid h2
  obtain ⟨p1, c1, p2, c2, rfl, rfl⟩ := mp_form hmp
  obtain ⟨p, c, rfl, _⟩ := id h2
  clear hmp h2
  have HGD := Lib.hid (fun w' hw' => l2Map_any m (.slice p1 m.rise.length c1) (.slice p2 m.cost.length c2) w' hw')
  cases hB : mapB m with
  | false =>
    have HE1 := Lib.hid (show routeB m t = false by simp [routeB, hB])
    have HE2 := Lib.hid (show climbI m t = 0 by simp [climbI, routeB, hB])
    rw [hB] at HGD
    clear hB
    go_enter Try.func20, Try.ntmps20
    go_wp2_with (go_at_call 32; refine (HGD.out _ (mp_up (hm.out) (by repeat (first | with_reducible (first | exact World.gained_refl _ | exact ⟨_, rfl⟩ | apply gain_ext | apply gain_alloc | apply gain_drewN | apply gain_drew) | (refine gain_setCell ?_ (by first | exact Nat.le_refl _ | exact World.size_ext _ _ | (simp; done) | (simp; omega)) _))))).mono ?_; rintro e w1 ⟨rfl, d1, rfl⟩)
    go_ret2
    rw [HE1.out, HE2.out]
    exact ⟨rfl, (by repeat (first | with_reducible (first | exact World.gained_refl _ | exact ⟨_, rfl⟩ | apply gain_ext | apply gain_alloc | apply gain_drewN | apply gain_drew) | (refine gain_setCell ?_ (by first | exact Nat.le_refl _ | exact World.size_ext _ _ | (simp; done) | (simp; omega)) _)))⟩
  | true =>
  obtain ⟨W, H, hok⟩ := mapB_ok hB
  have HK := Lib.hid hok
  have HIR := Lib.hid (fun w' hw' hu' => l4Route_any m (.slice p1 m.rise.length c1) (.slice p2 m.cost.length c2) (.slice p t.length c) W H t w' HK.out hw' hu' hl2)
  rw [hB] at HGD
  cases hR : routeR m t with
  | false =>
    have HE1 := Lib.hid (show routeB m t = false by simp [routeB, hR])
    have HE2 := Lib.hid (show climbI m t = 0 by simp [climbI, routeB, hR])
    rw [hR] at HIR
    clear hB hR hok
    go_enter Try.func20, Try.ntmps20
    go_wp2_with (first | (go_at_call 32; refine (HGD.out _ (mp_up (hm.out) (by repeat (first | with_reducible (first | exact World.gained_refl _ | exact ⟨_, rfl⟩ | apply gain_ext | apply gain_alloc | apply gain_drewN | apply gain_drew) | (refine gain_setCell ?_ (by first | exact Nat.le_refl _ | exact World.size_ext _ _ | (simp; done) | (simp; omega)) _))))).mono ?_; rintro e w1 ⟨rfl, d1, rfl⟩) | (go_at_call 33; refine (HIR.out _ (mp_up (hm.out) (by repeat (first | with_reducible (first | exact World.gained_refl _ | exact ⟨_, rfl⟩ | apply gain_ext | apply gain_alloc | apply gain_drewN | apply gain_drew) | (refine gain_setCell ?_ (by first | exact Nat.le_refl _ | exact World.size_ext _ _ | (simp; done) | (simp; omega)) _)))) (by with_reducible (repeat (first | exact ht.out | refine World.sl_ext intC_length ?_ _ | refine sl_alloc intC_length ?_ _ | refine sl_drew ?_)))).mono ?_; rintro e w1 ⟨rfl, d2, rfl⟩))
    go_ret2
    rw [HE1.out, HE2.out]
    exact ⟨rfl, (by repeat (first | with_reducible (first | exact World.gained_refl _ | exact ⟨_, rfl⟩ | apply gain_ext | apply gain_alloc | apply gain_drewN | apply gain_drew) | (refine gain_setCell ?_ (by first | exact Nat.le_refl _ | exact World.size_ext _ _ | (simp; done) | (simp; omega)) _)))⟩
  | true =>
    have hRB : routeB m t = true := by simp [routeB, hR, hB]
    have HE1 := Lib.hid hRB
    have HE2 : Hid (climbI m t = stepsF (climbZ m) t t.length) := Lib.hid (by simp [climbI, hRB])
    obtain ⟨r, hr, hrt⟩ := routeB_true hRB
    have hlr : t.length = r.length := by rw [hr, List.length_map]
    have HSM := Lib.hid (fun w' hw' (hu' : w'.sl intC 1 (.slice p t.length c) t) => (show Calls Try.prog 37 #[.agg #[.int .i64 m.wd, .int .i64 m.ht, .slice p1 m.rise.length c1, .slice p2 m.cost.length c2], .slice p t.length c] w' _ from by
      have := l4Climb_any m (.slice p1 m.rise.length c1) (.slice p2 m.cost.length c2) (.slice p t.length c) W H r w' HK.out hw' (by rw [hr] at hu' ⊢; exact hu') hrt
      rw [show natL r = t from hr.symm, ← hlr] at this
      exact this))
    rw [hR] at HIR
    clear hB hR hok hRB hr hrt hlr
    go_enter Try.func20, Try.ntmps20
    go_wp2_with (first | (go_at_call 32; refine (HGD.out _ (mp_up (hm.out) (by repeat (first | with_reducible (first | exact World.gained_refl _ | exact ⟨_, rfl⟩ | apply gain_ext | apply gain_alloc | apply gain_drewN | apply gain_drew) | (refine gain_setCell ?_ (by first | exact Nat.le_refl _ | exact World.size_ext _ _ | (simp; done) | (simp; omega)) _))))).mono ?_; rintro e w1 ⟨rfl, d1, rfl⟩) | (go_at_call 33; refine (HIR.out _ (mp_up (hm.out) (by repeat (first | with_reducible (first | exact World.gained_refl _ | exact ⟨_, rfl⟩ | apply gain_ext | apply gain_alloc | apply gain_drewN | apply gain_drew) | (refine gain_setCell ?_ (by first | exact Nat.le_refl _ | exact World.size_ext _ _ | (simp; done) | (simp; omega)) _)))) (by with_reducible (repeat (first | exact ht.out | refine World.sl_ext intC_length ?_ _ | refine sl_alloc intC_length ?_ _ | refine sl_drew ?_)))).mono ?_; rintro e w1 ⟨rfl, d2, rfl⟩) | (go_at_call 37; refine (HSM.out _ (mp_up (hm.out) (by repeat (first | with_reducible (first | exact World.gained_refl _ | exact ⟨_, rfl⟩ | apply gain_ext | apply gain_alloc | apply gain_drewN | apply gain_drew) | (refine gain_setCell ?_ (by first | exact Nat.le_refl _ | exact World.size_ext _ _ | (simp; done) | (simp; omega)) _)))) (by with_reducible (repeat (first | exact ht.out | refine World.sl_ext intC_length ?_ _ | refine sl_alloc intC_length ?_ _ | refine sl_drew ?_)))).mono ?_; rintro e w1 ⟨rfl, d3, rfl⟩))
    go_ret2
    rw [HE1.out, HE2.out]
    exact ⟨rfl, (by repeat (first | with_reducible (first | exact World.gained_refl _ | exact ⟨_, rfl⟩ | apply gain_ext | apply gain_alloc | apply gain_drewN | apply gain_drew) | (refine gain_setCell ?_ (by first | exact Nat.le_refl _ | exact World.size_ext _ _ | (simp; done) | (simp; omega)) _)))⟩
set_option maxHeartbeats 1000000 in
theorem specIsRoute_any (m : Mp) (rv cv u : Value) (t : List Int) (w : World) (hmp : w.mp rv cv m) (h2 : w.sl intC 1 u t) (hl2 : t.length ≤ 1048576) :
    Calls Try.prog 17 #[.agg #[.int .i64 m.wd, .int .i64 m.ht, rv, cv], u] w fun x w' => x = .returned (.tuple #[.bool (routeB m t), .bool (mapB m)]) ∧ ∃ d, w' = w.ext d := by
  have hm := Lib.hid hmp
  have ht := Lib.hid h2
  obtain ⟨p1, c1, p2, c2, rfl, rfl⟩ := mp_form hmp
  obtain ⟨p, c, rfl, _⟩ := id h2
  clear hmp h2
  have HGD := Lib.hid (fun w' hw' => l2Map_any m (.slice p1 m.rise.length c1) (.slice p2 m.cost.length c2) w' hw')
  cases hB : mapB m with
  | false =>
    have HE1 := Lib.hid (show routeB m t = false by simp [routeB, hB])
    rw [hB] at HGD
    clear hB
    go_enter Try.func17, Try.ntmps17
    go_wp2_with (go_at_call 32; refine (HGD.out _ (mp_up (hm.out) (by repeat (first | with_reducible (first | exact World.gained_refl _ | exact ⟨_, rfl⟩ | apply gain_ext | apply gain_alloc | apply gain_drewN | apply gain_drew) | (refine gain_setCell ?_ (by first | exact Nat.le_refl _ | exact World.size_ext _ _ | (simp; done) | (simp; omega)) _))))).mono ?_; rintro e w1 ⟨rfl, d1, rfl⟩)
    go_ret2
    rw [HE1.out]
    exact ⟨rfl, (by repeat (first | with_reducible (first | exact World.gained_refl _ | exact ⟨_, rfl⟩ | apply gain_ext | apply gain_alloc | apply gain_drewN | apply gain_drew) | (refine gain_setCell ?_ (by first | exact Nat.le_refl _ | exact World.size_ext _ _ | (simp; done) | (simp; omega)) _)))⟩
  | true =>
  obtain ⟨W, H, hok⟩ := mapB_ok hB
  have HIR := Lib.hid (fun w' hw' hu' => l4Route_any m (.slice p1 m.rise.length c1) (.slice p2 m.cost.length c2) (.slice p t.length c) W H t w' hok hw' hu' hl2)
  have HE1 := Lib.hid (show routeB m t = routeR m t by simp [routeB, hB])
  rw [hB] at HGD
  clear hB hok
  go_enter Try.func17, Try.ntmps17
  go_wp2_with (first | (go_at_call 32; refine (HGD.out _ (mp_up (hm.out) (by repeat (first | with_reducible (first | exact World.gained_refl _ | exact ⟨_, rfl⟩ | apply gain_ext | apply gain_alloc | apply gain_drewN | apply gain_drew) | (refine gain_setCell ?_ (by first | exact Nat.le_refl _ | exact World.size_ext _ _ | (simp; done) | (simp; omega)) _))))).mono ?_; rintro e w1 ⟨rfl, d1, rfl⟩) | (go_at_call 33; refine (HIR.out _ (mp_up (hm.out) (by repeat (first | with_reducible (first | exact World.gained_refl _ | exact ⟨_, rfl⟩ | apply gain_ext | apply gain_alloc | apply gain_drewN | apply gain_drew) | (refine gain_setCell ?_ (by first | exact Nat.le_refl _ | exact World.size_ext _ _ | (simp; done) | (simp; omega)) _)))) (by with_reducible (repeat (first | exact ht.out | refine World.sl_ext intC_length ?_ _ | refine sl_alloc intC_length ?_ _ | refine sl_drew ?_)))).mono ?_; rintro e w1 ⟨rfl, d2, rfl⟩))
  go_ret2
  rw [HE1.out]
  exact ⟨rfl, (by repeat (first | with_reducible (first | exact World.gained_refl _ | exact ⟨_, rfl⟩ | apply gain_ext | apply gain_alloc | apply gain_drewN | apply gain_drew) | (refine gain_setCell ?_ (by first | exact Nat.le_refl _ | exact World.size_ext _ _ | (simp; done) | (simp; omega)) _)))⟩
end Go.Proofs.Ytfpobghllfoijaa
