/- impl.BestRoute, routeTime, RouteTime, IsRoute; spec.BestRoute, l4Time. Condition: a map in memory, at most 1048576 cells. -/
import Derived.Test.YtfpobghllfoijaaRouteC
import Derived.Test.YtfpobghllfoijaaBestR
import Derived.Test.YtfpobghllfoijaaRtImpl
import Derived.Test.YtfpobghllfoijaaMapT
namespace Go.Ori
theorem bestL_yes {m : Mp} {A B : Nat} (h : goB m A B = true) : bestL m A B = natL (routeL m A B) := by rw [bestL, if_pos h]; rfl
theorem bestL_no {m : Mp} {A B : Nat} (h : goB m A B = false) : bestL m A B = [] := by rw [bestL, h]; rfl
end Go.Ori
namespace Go.Proofs.Ytfpobghllfoijaa
open Go.RowKit Go.Ori
set_option maxHeartbeats 2000000 in
theorem bestRouteF_any (m : Mp) (rv cv : Value) (a b : Int) (w : World) (hmp : w.mp rv cv m) :
    Calls Try.prog 6 #[.agg #[.int .i64 m.wd, .int .i64 m.ht, rv, cv], .int .i64 a, .int .i64 b] w fun x w' => ∃ r, x = .returned (.tuple #[r, .bool (goB m a b)]) ∧ (∃ d, w' = w.ext d) ∧ w'.own w.heap.size 3 intC 1 r (bestL m a b) := by
  have hm := Lib.hid hmp
  obtain ⟨p1, c1, p2, c2, rfl, rfl⟩ := mp_form hmp
  have HCN := Lib.hid (fun W v hW hv => by have := canRoute_any m (.slice p1 m.rise.length c1) (.slice p2 m.cost.length c2) v [a, b] W hW hv (by simp); rw [can2] at this; exact this)
  clear hmp
  cases hO : (openB m a && openB m b) with
  | false =>
    obtain ⟨e1, _, e2⟩ := goB_no hO
    rw [hO] at HCN
    rw [e1, e2]
    clear e1 e2 hO
    go_enter Try.func6, Try.ntmps6
    go_wp2_with (go_at_call 22; refine (HCN.out _ _ (mp_up (hm.out) (by repeat (first | with_reducible (first | exact World.gained_refl _ | exact ⟨_, rfl⟩ | apply gain_ext | apply gain_alloc | apply gain_drewN | apply gain_drew) | (refine gain_setCell ?_ (by first | exact Nat.le_refl _ | exact World.size_ext _ _ | (simp; done) | (simp; omega)) _)))) (sl_lit (l := [a, b]) intC_length rfl (by simp))).mono ?_; rintro e w1 ⟨rfl, d1, rfl⟩)
    go_ret2
    exact ⟨_, rfl, (by repeat (first | with_reducible (first | exact World.gained_refl _ | exact ⟨_, rfl⟩ | apply gain_ext | apply gain_alloc | apply gain_drewN | apply gain_drew) | (refine gain_setCell ?_ (by first | exact Nat.le_refl _ | exact World.size_ext _ _ | (simp; done) | (simp; omega)) _))), own_nil _ _ _ _ _⟩
  | true =>
    obtain ⟨A, B, rfl, rfl, hA, hB, WW, HH, hok⟩ := two_open hO
    have HLT := Lib.hid (fun W hW => leastTime_any m (.slice p1 m.rise.length c1) (.slice p2 m.cost.length c2) WW HH A B W hok hW hA hB)
    have hi := (time_hi hok hB A).2
    rw [hO] at HCN
    have hge := goB_eq hO
    by_cases hz : timeB m A B < 1073741824
    · have HBR := Lib.hid (fun W hW => bestRoute_any m (.slice p1 m.rise.length c1) (.slice p2 m.cost.length c2) WW HH A B W hok hW hA hB hz)
      have hg : goB m A B = true := by rw [hge]; exact decide_eq_true hz
      have HE := Lib.hid (bestL_yes hg)
      rw [hg]
      have hz1 : (timeB m A B == 1073741824) = false := by simp; omega
      generalize timeB m A B = z at HLT hz1
      clear hO hok hge hg hz hi
      go_enter Try.func6, Try.ntmps6
      go_wp2_with (first | (go_at_call 22; refine (HCN.out _ _ (mp_up (hm.out) (by repeat (first | with_reducible (first | exact World.gained_refl _ | exact ⟨_, rfl⟩ | apply gain_ext | apply gain_alloc | apply gain_drewN | apply gain_drew) | (refine gain_setCell ?_ (by first | exact Nat.le_refl _ | exact World.size_ext _ _ | (simp; done) | (simp; omega)) _)))) (sl_lit (l := [(A : Int), (B : Int)]) intC_length rfl (by simp))).mono ?_; rintro e w1 ⟨rfl, d1, rfl⟩) | (go_at_call 23; refine (HLT.out _ (mp_up (hm.out) (by repeat (first | with_reducible (first | exact World.gained_refl _ | exact ⟨_, rfl⟩ | apply gain_ext | apply gain_alloc | apply gain_drewN | apply gain_drew) | (refine gain_setCell ?_ (by first | exact Nat.le_refl _ | exact World.size_ext _ _ | (simp; done) | (simp; omega)) _))))).mono ?_; rintro e w1 ⟨rfl, d1, rfl⟩))
      refine (HBR.out _ (mp_up (hm.out) (by repeat (first | with_reducible (first | exact World.gained_refl _ | exact ⟨_, rfl⟩ | apply gain_ext | apply gain_alloc | apply gain_drewN | apply gain_drew) | (refine gain_setCell ?_ (by first | exact Nat.le_refl _ | exact World.size_ext _ _ | (simp; done) | (simp; omega)) _))))).mono ?_
      rintro e w1 ⟨r, rfl, ⟨d2, rfl⟩, ho⟩
      go_wp2
      go_ret2
      rw [HE.out]
      exact ⟨_, rfl, (by repeat (first | with_reducible (first | exact World.gained_refl _ | exact ⟨_, rfl⟩ | apply gain_ext | apply gain_alloc | apply gain_drewN | apply gain_drew) | (refine gain_setCell ?_ (by first | exact Nat.le_refl _ | exact World.size_ext _ _ | (simp; done) | (simp; omega)) _))), own_base ho (gain_size (by repeat (first | with_reducible (first | exact World.gained_refl _ | exact ⟨_, rfl⟩ | apply gain_ext | apply gain_alloc | apply gain_drewN | apply gain_drew) | (refine gain_setCell ?_ (by first | exact Nat.le_refl _ | exact World.size_ext _ _ | (simp; done) | (simp; omega)) _))))⟩
    · have hg : goB m A B = false := by rw [hge]; exact decide_eq_false hz
      have HE := Lib.hid (bestL_no hg)
      rw [hg]
      have hz1 : (timeB m A B == 1073741824) = true := by simp; omega
      generalize timeB m A B = z at HLT hz1
      clear hO hok hge hg hz hi
      go_enter Try.func6, Try.ntmps6
      go_wp2_with (first | (go_at_call 22; refine (HCN.out _ _ (mp_up (hm.out) (by repeat (first | with_reducible (first | exact World.gained_refl _ | exact ⟨_, rfl⟩ | apply gain_ext | apply gain_alloc | apply gain_drewN | apply gain_drew) | (refine gain_setCell ?_ (by first | exact Nat.le_refl _ | exact World.size_ext _ _ | (simp; done) | (simp; omega)) _)))) (sl_lit (l := [(A : Int), (B : Int)]) intC_length rfl (by simp))).mono ?_; rintro e w1 ⟨rfl, d1, rfl⟩) | (go_at_call 23; refine (HLT.out _ (mp_up (hm.out) (by repeat (first | with_reducible (first | exact World.gained_refl _ | exact ⟨_, rfl⟩ | apply gain_ext | apply gain_alloc | apply gain_drewN | apply gain_drew) | (refine gain_setCell ?_ (by first | exact Nat.le_refl _ | exact World.size_ext _ _ | (simp; done) | (simp; omega)) _))))).mono ?_; rintro e w1 ⟨rfl, d1, rfl⟩))
      go_ret2
      rw [HE.out]
      exact ⟨_, rfl, (by repeat (first | with_reducible (first | exact World.gained_refl _ | exact ⟨_, rfl⟩ | apply gain_ext | apply gain_alloc | apply gain_drewN | apply gain_drew) | (refine gain_setCell ?_ (by first | exact Nat.le_refl _ | exact World.size_ext _ _ | (simp; done) | (simp; omega)) _))), own_nil _ _ _ _ _⟩
set_option maxHeartbeats 2000000 in
theorem specBestRoute_any (m : Mp) (rv cv : Value) (a b : Int) (w : World) (hmp : w.mp rv cv m) :
    Calls Try.prog 7 #[.agg #[.int .i64 m.wd, .int .i64 m.ht, rv, cv], .int .i64 a, .int .i64 b] w fun x w' => ∃ r, x = .returned (.tuple #[r, .bool (goB m a b)]) ∧ (∃ d, w' = w.ext d) ∧ w'.own w.heap.size 3 intC 1 r (bestL m a b) := by
  have hm := Lib.hid hmp
  obtain ⟨p1, c1, p2, c2, rfl, rfl⟩ := mp_form hmp
  have HCN := Lib.hid (fun W hW => l4Asked_any m (.slice p1 m.rise.length c1) (.slice p2 m.cost.length c2) a b W hW)
  clear hmp
  cases hO : (openB m a && openB m b) with
  | false =>
    obtain ⟨e1, _, e2⟩ := goB_no hO
    rw [hO] at HCN
    rw [e1, e2]
    clear e1 e2 hO
    go_enter Try.func7, Try.ntmps7
    go_wp2_with (go_at_call 25; refine (HCN.out _ (mp_up (hm.out) (by repeat (first | with_reducible (first | exact World.gained_refl _ | exact ⟨_, rfl⟩ | apply gain_ext | apply gain_alloc | apply gain_drewN | apply gain_drew) | (refine gain_setCell ?_ (by first | exact Nat.le_refl _ | exact World.size_ext _ _ | (simp; done) | (simp; omega)) _))))).mono ?_; rintro e w1 ⟨rfl, d1, rfl⟩)
    go_ret2
    exact ⟨_, rfl, (by repeat (first | with_reducible (first | exact World.gained_refl _ | exact ⟨_, rfl⟩ | apply gain_ext | apply gain_alloc | apply gain_drewN | apply gain_drew) | (refine gain_setCell ?_ (by first | exact Nat.le_refl _ | exact World.size_ext _ _ | (simp; done) | (simp; omega)) _))), own_lit' (l := ([] : List Int)) intC_length rfl rfl (gain_size (by repeat (first | with_reducible (first | exact World.gained_refl _ | exact ⟨_, rfl⟩ | apply gain_ext | apply gain_alloc | apply gain_drewN | apply gain_drew) | (refine gain_setCell ?_ (by first | exact Nat.le_refl _ | exact World.size_ext _ _ | (simp; done) | (simp; omega)) _))))⟩
  | true =>
    obtain ⟨A, B, rfl, rfl, hA, hB, WW, HH, hok⟩ := two_open hO
    have HLT := Lib.hid (fun W hW => l4ToAt m (.slice p1 m.rise.length c1) (.slice p2 m.cost.length c2) WW HH A B W hok hW hA hB)
    have hlo := (time_hi hok hB A).1
    rw [hO] at HCN
    have hge := goB_eq hO
    by_cases hz : timeB m A B < 1073741824
    · have HBR := Lib.hid (fun W hW => l4Best_any m (.slice p1 m.rise.length c1) (.slice p2 m.cost.length c2) WW HH A B W hok hW hA hB hz)
      have hg : goB m A B = true := by rw [hge]; exact decide_eq_true hz
      have HE := Lib.hid (bestL_yes hg)
      rw [hg]
      have hz1 : decide (tZ m A B < 0) = false := decide_eq_false (by rw [tZ_yes hz]; omega)
      generalize tZ m A B = z at HLT hz1
      clear hO hok hge hg hz hlo
      go_enter Try.func7, Try.ntmps7
      go_wp2_with (first | (go_at_call 25; refine (HCN.out _ (mp_up (hm.out) (by repeat (first | with_reducible (first | exact World.gained_refl _ | exact ⟨_, rfl⟩ | apply gain_ext | apply gain_alloc | apply gain_drewN | apply gain_drew) | (refine gain_setCell ?_ (by first | exact Nat.le_refl _ | exact World.size_ext _ _ | (simp; done) | (simp; omega)) _))))).mono ?_; rintro e w1 ⟨rfl, d1, rfl⟩) | (go_at_call 26; refine (HLT.out _ (mp_up (hm.out) (by repeat (first | with_reducible (first | exact World.gained_refl _ | exact ⟨_, rfl⟩ | apply gain_ext | apply gain_alloc | apply gain_drewN | apply gain_drew) | (refine gain_setCell ?_ (by first | exact Nat.le_refl _ | exact World.size_ext _ _ | (simp; done) | (simp; omega)) _))))).mono ?_; rintro e w1 ⟨g, cap, rfl, ⟨d1, rfl⟩, tc⟩; have obg := World.oldB_of_cell tc))
      refine (HBR.out _ (mp_up (hm.out) (by repeat (first | with_reducible (first | exact World.gained_refl _ | exact ⟨_, rfl⟩ | apply gain_ext | apply gain_alloc | apply gain_drewN | apply gain_drew) | (refine gain_setCell ?_ (by first | exact Nat.le_refl _ | exact World.size_ext _ _ | (simp; done) | (simp; omega)) _))))).mono ?_
      rintro e w1 ⟨r, rfl, ⟨d2, rfl⟩, ho⟩
      go_wp2
      go_ret2
      rw [HE.out]
      exact ⟨_, rfl, (by repeat (first | with_reducible (first | exact World.gained_refl _ | exact ⟨_, rfl⟩ | apply gain_ext | apply gain_alloc | apply gain_drewN | apply gain_drew) | (refine gain_setCell ?_ (by first | exact Nat.le_refl _ | exact World.size_ext _ _ | (simp; done) | (simp; omega)) _))), own_base ho (gain_size (by repeat (first | with_reducible (first | exact World.gained_refl _ | exact ⟨_, rfl⟩ | apply gain_ext | apply gain_alloc | apply gain_drewN | apply gain_drew) | (refine gain_setCell ?_ (by first | exact Nat.le_refl _ | exact World.size_ext _ _ | (simp; done) | (simp; omega)) _))))⟩
    · have hg : goB m A B = false := by rw [hge]; exact decide_eq_false hz
      have HE := Lib.hid (bestL_no hg)
      rw [hg]
      have hz1 : decide (tZ m A B < 0) = true := decide_eq_true (by rw [tZ_no hok hB hz]; omega)
      generalize tZ m A B = z at HLT hz1
      clear hO hok hge hg hz hlo
      go_enter Try.func7, Try.ntmps7
      go_wp2_with (first | (go_at_call 25; refine (HCN.out _ (mp_up (hm.out) (by repeat (first | with_reducible (first | exact World.gained_refl _ | exact ⟨_, rfl⟩ | apply gain_ext | apply gain_alloc | apply gain_drewN | apply gain_drew) | (refine gain_setCell ?_ (by first | exact Nat.le_refl _ | exact World.size_ext _ _ | (simp; done) | (simp; omega)) _))))).mono ?_; rintro e w1 ⟨rfl, d1, rfl⟩) | (go_at_call 26; refine (HLT.out _ (mp_up (hm.out) (by repeat (first | with_reducible (first | exact World.gained_refl _ | exact ⟨_, rfl⟩ | apply gain_ext | apply gain_alloc | apply gain_drewN | apply gain_drew) | (refine gain_setCell ?_ (by first | exact Nat.le_refl _ | exact World.size_ext _ _ | (simp; done) | (simp; omega)) _))))).mono ?_; rintro e w1 ⟨g, cap, rfl, ⟨d1, rfl⟩, tc⟩; have obg := World.oldB_of_cell tc))
      go_ret2
      rw [HE.out]
      exact ⟨_, rfl, (by repeat (first | with_reducible (first | exact World.gained_refl _ | exact ⟨_, rfl⟩ | apply gain_ext | apply gain_alloc | apply gain_drewN | apply gain_drew) | (refine gain_setCell ?_ (by first | exact Nat.le_refl _ | exact World.size_ext _ _ | (simp; done) | (simp; omega)) _))), own_lit' (l := ([] : List Int)) intC_length rfl rfl (gain_size (by repeat (first | with_reducible (first | exact World.gained_refl _ | exact ⟨_, rfl⟩ | apply gain_ext | apply gain_alloc | apply gain_drewN | apply gain_drew) | (refine gain_setCell ?_ (by first | exact Nat.le_refl _ | exact World.size_ext _ _ | (simp; done) | (simp; omega)) _))))⟩
set_option maxHeartbeats 2000000 in
theorem routeTimeI_any (m : Mp) (rv cv u : Value) (W H : Nat) (r : List Nat) (w : World) (hok : MapOk m W H) (hmp : w.mp rv cv m) (h2 : w.sl intC 1 u (natL r)) (hrt : Rt m r) :
    Calls Try.prog 30 #[.agg #[.int .i64 m.wd, .int .i64 m.ht, rv, cv], u] w fun x w' => x = .returned (.int .i64 (stepsF (stepZ m) (natL r) r.length)) ∧ ∃ d, w' = w.ext d := by
  have hm := Lib.hid hmp
  have ht := Lib.hid h2
  have h36 := rt_len hok hrt
  have h01 := hrt.pos
  have HRT := Lib.hid hrt
  have HSB := Lib.hid (fun k => stepsF_bd (f := stepZ m) (l := natL r) (B := 27) (by omega) (fun x y => (stepZ_le hok x y).2) k)
  obtain ⟨p, c, hu, _⟩ := id h2
  rw [natL_length] at hu
  subst hu
  obtain ⟨p1, c1, p2, c2, rfl, rfl⟩ := mp_form hmp
  have HK := Lib.hid hok
  clear hmp hok h2 hrt
  go_enter Try.func30, Try.ntmps30
  go_wp2
  generalize hW0 : w.alloc (.cells #[.int .i64 m.wd, .int .i64 m.ht, .slice p1 m.rise.length c1, .slice p2 m.cost.length c2] 26) = W0
  have hbx : MBox w W0 w.heap.size m (.slice p1 m.rise.length c1) (.slice p2 m.cost.length c2) := by rw [← hW0]; exact mbox
  have HG := Lib.hid hbx.up
  have bx0 := hbx.c0
  have bx1 := hbx.c1
  have bx2 := hbx.c2
  have bx3 := hbx.c3
  have obx := hbx.ob
  have HM0 := Lib.hid (mp_up hm.out HG.out)
  have ht0 := Lib.hid (sl_up intC_length ht.out HG.out)
  clear hW0 hbx ht
  go_loopw [5, 6] (fun s i wr => ∃ k : Nat, 1 ≤ k ∧ k ≤ r.length ∧ i = .int .i64 k ∧ s = .int .i64 (stepsF (stepZ m) (natL r) k) ∧ ∃ d, wr = W0.ext d) (fun _ i _ => r.length - (intOf i).toNat)
  case atStart => exact ⟨1, by omega, by omega, rfl, by rw [stepsF_one], World.gained_refl _⟩
  case round =>
    obtain ⟨k, hk0, hk, rfl, rfl, d, rfl⟩ := hrel
    by_cases hlt : k < r.length
    · obtain ⟨b, o, rfl⟩ := sl_some ht0.out (by rw [natL_length]; omega)
      have hk1 : k - 1 < r.length := by omega
      have c0 := sl_int ht0.out (k := k) (by rw [natL_length]; exact hlt)
      have cp := sl_int ht0.out (k := k - 1) (by rw [natL_length]; exact hk1)
      have hX := (HRT.out.cell r[k] (List.getElem_mem _)).1
      have hY := (HRT.out.cell (r[k - 1]'hk1) (List.getElem_mem _)).1
      have HS := Lib.hid (stepsF_succ (stepZ m) (l := natL r) hk0 (by rw [natL_length]; exact hlt) (natL_get r (k - 1) (by rw [natL_length]; exact hk1)) (natL_get r k (by rw [natL_length]; exact hlt)))
      rw [natL_get] at c0 cp
      generalize r[k] = X at c0 hX HS
      generalize r[k - 1]'hk1 = Y at cp hY HS
      have ob := World.oldB_of_cell c0
      obtain ⟨hs0, hs1⟩ := HSB.out k
      have hst := stepZ_le HK.out Y X
      have HST := Lib.hid (fun W' hW' => stepTime_any m (.slice p1 m.rise.length c1) (.slice p2 m.cost.length c2) W H Y X W' HK.out hW' hY hX)
      generalize stepsF (stepZ m) (natL r) k = S at HS hs0 hs1
      have hsb : S ≤ 1000 := by omega
      generalize stepZ m Y X = z at HS hst HST
      obtain ⟨-, hz0, hz1⟩ := hst
      clear hs1
      have kw1 : IntKind.i64.wrap ((k : Int) - 1) = (k : Int) - 1 := IntWalk.i64_in _ (by omega)
      go_wp2
      refine wp_region_gain (by kernel_rfl) (by kernel_rfl) ?_
      repeat (first | go_big_quiet_skip | (go_big_quiet_want; go_big_quiet_op; first | go_big_quiet_on | ((apply Exists.intro); (refine ⟨fun _ => ?_, ?_⟩); (· (go_at_call 44; exact Calls.gain (HST.out _ (mp_up (HM0.out) (by repeat (first | with_reducible (first | exact World.gained_refl _ | exact ⟨_, rfl⟩ | apply gain_ext | apply gain_alloc | apply gain_drewN | apply gain_drew) | (refine gain_setCell ?_ (by first | exact Nat.le_refl _ | exact World.size_ext _ _ | (simp; done) | (simp; omega)) _))))))); (go_big_quiet_on))))
      refine wpQuiet_nil ?_
      rintro _ ⟨d', rfl⟩
      go_wp2
      go_roundw
      case rel => exact ⟨k + 1, by omega, by omega, by go_num, by rw [HS.out], (by repeat (first | with_reducible (first | exact World.gained_refl _ | exact ⟨_, rfl⟩ | apply gain_ext | apply gain_alloc | apply gain_drewN | apply gain_drew) | (refine gain_setCell ?_ (by first | exact Nat.le_refl _ | exact World.size_ext _ _ | (simp; done) | (simp; omega)) _)))⟩
      case measure => simp [intOf]; omega
    · obtain rfl : k = r.length := by omega
      go_wp2
      go_ret
      exact ⟨rfl, gain_trans HG.out (by repeat (first | with_reducible (first | exact World.gained_refl _ | exact ⟨_, rfl⟩ | apply gain_ext | apply gain_alloc | apply gain_drewN | apply gain_drew) | (refine gain_setCell ?_ (by first | exact Nat.le_refl _ | exact World.size_ext _ _ | (simp; done) | (simp; omega)) _)))⟩
set_option maxHeartbeats 2000000 in
theorem l4Time_any (m : Mp) (rv cv u : Value) (W H : Nat) (r : List Nat) (w : World) (hok : MapOk m W H) (hmp : w.mp rv cv m) (h2 : w.sl intC 1 u (natL r)) (hrt : Rt m r) :
    Calls Try.prog 34 #[.agg #[.int .i64 m.wd, .int .i64 m.ht, rv, cv], u] w fun x w' => x = .returned (.int .i64 (stepsF (stepZ m) (natL r) r.length)) ∧ ∃ d, w' = w.ext d := by
  have hm := Lib.hid hmp
  have ht := Lib.hid h2
  have h36 := rt_len hok hrt
  have h01 := hrt.pos
  have HRT := Lib.hid hrt
  have HSB := Lib.hid (fun k => stepsF_bd (f := stepZ m) (l := natL r) (B := 27) (by omega) (fun x y => (stepZ_le hok x y).2) k)
  obtain ⟨p, c, hu, _⟩ := id h2
  rw [natL_length] at hu
  subst hu
  obtain ⟨p1, c1, p2, c2, rfl, rfl⟩ := mp_form hmp
  have HK := Lib.hid hok
  clear hmp hok h2 hrt
  go_enter Try.func34, Try.ntmps34
  go_wp2
  generalize hW0 : w.alloc (.cells #[.int .i64 m.wd, .int .i64 m.ht, .slice p1 m.rise.length c1, .slice p2 m.cost.length c2] 26) = W0
  have hbx : MBox w W0 w.heap.size m (.slice p1 m.rise.length c1) (.slice p2 m.cost.length c2) := by rw [← hW0]; exact mbox
  have HG := Lib.hid hbx.up
  have bx0 := hbx.c0
  have bx1 := hbx.c1
  have bx2 := hbx.c2
  have bx3 := hbx.c3
  have obx := hbx.ob
  have HM0 := Lib.hid (mp_up hm.out HG.out)
  have ht0 := Lib.hid (sl_up intC_length ht.out HG.out)
  clear hW0 hbx ht
  go_loopw [5, 6] (fun s i wr => ∃ k : Nat, 1 ≤ k ∧ k ≤ r.length ∧ i = .int .i64 k ∧ s = .int .i64 (stepsF (stepZ m) (natL r) k) ∧ ∃ d, wr = W0.ext d) (fun _ i _ => r.length - (intOf i).toNat)
  case atStart => exact ⟨1, by omega, by omega, rfl, by rw [stepsF_one], World.gained_refl _⟩
  case round =>
    obtain ⟨k, hk0, hk, rfl, rfl, d, rfl⟩ := hrel
    by_cases hlt : k < r.length
    · obtain ⟨b, o, rfl⟩ := sl_some ht0.out (by rw [natL_length]; omega)
      have hk1 : k - 1 < r.length := by omega
      have c0 := sl_int ht0.out (k := k) (by rw [natL_length]; exact hlt)
      have cp := sl_int ht0.out (k := k - 1) (by rw [natL_length]; exact hk1)
      have hX := (HRT.out.cell r[k] (List.getElem_mem _)).1
      have hY := (HRT.out.cell (r[k - 1]'hk1) (List.getElem_mem _)).1
      have HS := Lib.hid (stepsF_succ (stepZ m) (l := natL r) hk0 (by rw [natL_length]; exact hlt) (natL_get r (k - 1) (by rw [natL_length]; exact hk1)) (natL_get r k (by rw [natL_length]; exact hlt)))
      rw [natL_get] at c0 cp
      generalize r[k] = X at c0 hX HS
      generalize r[k - 1]'hk1 = Y at cp hY HS
      have ob := World.oldB_of_cell c0
      obtain ⟨hs0, hs1⟩ := HSB.out k
      have hst := stepZ_le HK.out Y X
      have HST := Lib.hid (fun W' hW' => l2Step_any m (.slice p1 m.rise.length c1) (.slice p2 m.cost.length c2) W H Y X W' HK.out hW' hY hX)
      generalize stepsF (stepZ m) (natL r) k = S at HS hs0 hs1
      have hsb : S ≤ 1000 := by omega
      generalize stepZ m Y X = z at HS hst HST
      obtain ⟨-, hz0, hz1⟩ := hst
      clear hs1
      have kw1 : IntKind.i64.wrap ((k : Int) - 1) = (k : Int) - 1 := IntWalk.i64_in _ (by omega)
      go_wp2
      refine wp_region_gain (by kernel_rfl) (by kernel_rfl) ?_
      repeat (first | go_big_quiet_skip | (go_big_quiet_want; go_big_quiet_op; first | go_big_quiet_on | ((apply Exists.intro); (refine ⟨fun _ => ?_, ?_⟩); (· (go_at_call 47; exact Calls.gain (HST.out _ (mp_up (HM0.out) (by repeat (first | with_reducible (first | exact World.gained_refl _ | exact ⟨_, rfl⟩ | apply gain_ext | apply gain_alloc | apply gain_drewN | apply gain_drew) | (refine gain_setCell ?_ (by first | exact Nat.le_refl _ | exact World.size_ext _ _ | (simp; done) | (simp; omega)) _))))))); (go_big_quiet_on))))
      refine wpQuiet_nil ?_
      rintro _ ⟨d', rfl⟩
      go_wp2
      go_roundw
      case rel => exact ⟨k + 1, by omega, by omega, by go_num, by rw [HS.out], (by repeat (first | with_reducible (first | exact World.gained_refl _ | exact ⟨_, rfl⟩ | apply gain_ext | apply gain_alloc | apply gain_drewN | apply gain_drew) | (refine gain_setCell ?_ (by first | exact Nat.le_refl _ | exact World.size_ext _ _ | (simp; done) | (simp; omega)) _)))⟩
      case measure => simp [intOf]; omega
    · obtain rfl : k = r.length := by omega
      go_wp2
      go_ret
      exact ⟨rfl, gain_trans HG.out (by repeat (first | with_reducible (first | exact World.gained_refl _ | exact ⟨_, rfl⟩ | apply gain_ext | apply gain_alloc | apply gain_drewN | apply gain_drew) | (refine gain_setCell ?_ (by first | exact Nat.le_refl _ | exact World.size_ext _ _ | (simp; done) | (simp; omega)) _)))⟩
set_option maxHeartbeats 2000000 in
theorem routeTime_any (m : Mp) (rv cv u : Value) (t : List Int) (w : World) (hmp : w.mp rv cv m) (h2 : w.sl intC 1 u t) (hl2 : t.length ≤ 1048576) :
    Calls Try.prog 11 #[.agg #[.int .i64 m.wd, .int .i64 m.ht, rv, cv], u] w fun x w' => x = .returned (.tuple #[.int .i64 (rtimeI m t), .bool (routeB m t)]) ∧ ∃ d, w' = w.ext d := by
  have hm := Lib.hid hmp
  have ht := Lib.hid h2
  obtain ⟨p1, c1, p2, c2, rfl, rfl⟩ := mp_form hmp
  obtain ⟨p, c, rfl, _⟩ := id h2
  clear hmp h2
  have HGD := Lib.hid (fun w' hw' => isMap_any m (.slice p1 m.rise.length c1) (.slice p2 m.cost.length c2) w' hw')
  cases hB : mapB m with
  | false =>
    have HE1 := Lib.hid (show routeB m t = false by simp [routeB, hB])
    have HE2 := Lib.hid (show rtimeI m t = 0 by simp [rtimeI, routeB, hB])
    rw [hB] at HGD
    clear hB
    go_enter Try.func11, Try.ntmps11
    go_wp2_with (go_at_call 28; refine (HGD.out _ (mp_up (hm.out) (by repeat (first | with_reducible (first | exact World.gained_refl _ | exact ⟨_, rfl⟩ | apply gain_ext | apply gain_alloc | apply gain_drewN | apply gain_drew) | (refine gain_setCell ?_ (by first | exact Nat.le_refl _ | exact World.size_ext _ _ | (simp; done) | (simp; omega)) _))))).mono ?_; rintro e w1 ⟨rfl, d1, rfl⟩)
    go_ret2
    rw [HE1.out, HE2.out]
    exact ⟨rfl, (by repeat (first | with_reducible (first | exact World.gained_refl _ | exact ⟨_, rfl⟩ | apply gain_ext | apply gain_alloc | apply gain_drewN | apply gain_drew) | (refine gain_setCell ?_ (by first | exact Nat.le_refl _ | exact World.size_ext _ _ | (simp; done) | (simp; omega)) _)))⟩
  | true =>
  obtain ⟨W, H, hok⟩ := mapB_ok hB
  have HK := Lib.hid hok
  have HIR := Lib.hid (fun w' hw' hu' => isRoute_any m (.slice p1 m.rise.length c1) (.slice p2 m.cost.length c2) (.slice p t.length c) W H t w' HK.out hw' hu' hl2)
  rw [hB] at HGD
  cases hR : routeR m t with
  | false =>
    have HE1 := Lib.hid (show routeB m t = false by simp [routeB, hR])
    have HE2 := Lib.hid (show rtimeI m t = 0 by simp [rtimeI, routeB, hR])
    rw [hR] at HIR
    clear hB hR hok
    go_enter Try.func11, Try.ntmps11
    go_wp2_with (first | (go_at_call 28; refine (HGD.out _ (mp_up (hm.out) (by repeat (first | with_reducible (first | exact World.gained_refl _ | exact ⟨_, rfl⟩ | apply gain_ext | apply gain_alloc | apply gain_drewN | apply gain_drew) | (refine gain_setCell ?_ (by first | exact Nat.le_refl _ | exact World.size_ext _ _ | (simp; done) | (simp; omega)) _))))).mono ?_; rintro e w1 ⟨rfl, d1, rfl⟩) | (go_at_call 29; refine (HIR.out _ (mp_up (hm.out) (by repeat (first | with_reducible (first | exact World.gained_refl _ | exact ⟨_, rfl⟩ | apply gain_ext | apply gain_alloc | apply gain_drewN | apply gain_drew) | (refine gain_setCell ?_ (by first | exact Nat.le_refl _ | exact World.size_ext _ _ | (simp; done) | (simp; omega)) _)))) (by with_reducible (repeat (first | exact ht.out | refine World.sl_ext intC_length ?_ _ | refine sl_alloc intC_length ?_ _ | refine sl_drew ?_)))).mono ?_; rintro e w1 ⟨rfl, d2, rfl⟩))
    go_ret2
    rw [HE1.out, HE2.out]
    exact ⟨rfl, (by repeat (first | with_reducible (first | exact World.gained_refl _ | exact ⟨_, rfl⟩ | apply gain_ext | apply gain_alloc | apply gain_drewN | apply gain_drew) | (refine gain_setCell ?_ (by first | exact Nat.le_refl _ | exact World.size_ext _ _ | (simp; done) | (simp; omega)) _)))⟩
  | true =>
    have hRB : routeB m t = true := by simp [routeB, hR, hB]
    have HE1 := Lib.hid hRB
    have HE2 : Hid (rtimeI m t = stepsF (stepZ m) t t.length) := Lib.hid (by simp [rtimeI, hRB])
    obtain ⟨r, hr, hrt⟩ := routeB_true hRB
    have hlr : t.length = r.length := by rw [hr, List.length_map]
    have HSM := Lib.hid (fun w' hw' (hu' : w'.sl intC 1 (.slice p t.length c) t) => (show Calls Try.prog 30 #[.agg #[.int .i64 m.wd, .int .i64 m.ht, .slice p1 m.rise.length c1, .slice p2 m.cost.length c2], .slice p t.length c] w' _ from by
      have := routeTimeI_any m (.slice p1 m.rise.length c1) (.slice p2 m.cost.length c2) (.slice p t.length c) W H r w' HK.out hw' (by rw [hr] at hu' ⊢; exact hu') hrt
      rw [show natL r = t from hr.symm, ← hlr] at this
      exact this))
    rw [hR] at HIR
    clear hB hR hok hRB hr hrt hlr
    go_enter Try.func11, Try.ntmps11
    go_wp2_with (first | (go_at_call 28; refine (HGD.out _ (mp_up (hm.out) (by repeat (first | with_reducible (first | exact World.gained_refl _ | exact ⟨_, rfl⟩ | apply gain_ext | apply gain_alloc | apply gain_drewN | apply gain_drew) | (refine gain_setCell ?_ (by first | exact Nat.le_refl _ | exact World.size_ext _ _ | (simp; done) | (simp; omega)) _))))).mono ?_; rintro e w1 ⟨rfl, d1, rfl⟩) | (go_at_call 29; refine (HIR.out _ (mp_up (hm.out) (by repeat (first | with_reducible (first | exact World.gained_refl _ | exact ⟨_, rfl⟩ | apply gain_ext | apply gain_alloc | apply gain_drewN | apply gain_drew) | (refine gain_setCell ?_ (by first | exact Nat.le_refl _ | exact World.size_ext _ _ | (simp; done) | (simp; omega)) _)))) (by with_reducible (repeat (first | exact ht.out | refine World.sl_ext intC_length ?_ _ | refine sl_alloc intC_length ?_ _ | refine sl_drew ?_)))).mono ?_; rintro e w1 ⟨rfl, d2, rfl⟩) | (go_at_call 30; refine (HSM.out _ (mp_up (hm.out) (by repeat (first | with_reducible (first | exact World.gained_refl _ | exact ⟨_, rfl⟩ | apply gain_ext | apply gain_alloc | apply gain_drewN | apply gain_drew) | (refine gain_setCell ?_ (by first | exact Nat.le_refl _ | exact World.size_ext _ _ | (simp; done) | (simp; omega)) _)))) (by with_reducible (repeat (first | exact ht.out | refine World.sl_ext intC_length ?_ _ | refine sl_alloc intC_length ?_ _ | refine sl_drew ?_)))).mono ?_; rintro e w1 ⟨rfl, d3, rfl⟩))
    go_ret2
    rw [HE1.out, HE2.out]
    exact ⟨rfl, (by repeat (first | with_reducible (first | exact World.gained_refl _ | exact ⟨_, rfl⟩ | apply gain_ext | apply gain_alloc | apply gain_drewN | apply gain_drew) | (refine gain_setCell ?_ (by first | exact Nat.le_refl _ | exact World.size_ext _ _ | (simp; done) | (simp; omega)) _)))⟩
set_option maxHeartbeats 1000000 in
theorem isRouteF_any (m : Mp) (rv cv u : Value) (t : List Int) (w : World) (hmp : w.mp rv cv m) (h2 : w.sl intC 1 u t) (hl2 : t.length ≤ 1048576) :
    Calls Try.prog 12 #[.agg #[.int .i64 m.wd, .int .i64 m.ht, rv, cv], u] w fun x w' => x = .returned (.tuple #[.bool (routeB m t), .bool (mapB m)]) ∧ ∃ d, w' = w.ext d := by
  have hm := Lib.hid hmp
  have ht := Lib.hid h2
  obtain ⟨p1, c1, p2, c2, rfl, rfl⟩ := mp_form hmp
  obtain ⟨p, c, rfl, _⟩ := id h2
  clear hmp h2
  have HGD := Lib.hid (fun w' hw' => isMap_any m (.slice p1 m.rise.length c1) (.slice p2 m.cost.length c2) w' hw')
  cases hB : mapB m with
  | false =>
    have HE1 := Lib.hid (show routeB m t = false by simp [routeB, hB])
    rw [hB] at HGD
    clear hB
    go_enter Try.func12, Try.ntmps12
    go_wp2_with (go_at_call 28; refine (HGD.out _ (mp_up (hm.out) (by repeat (first | with_reducible (first | exact World.gained_refl _ | exact ⟨_, rfl⟩ | apply gain_ext | apply gain_alloc | apply gain_drewN | apply gain_drew) | (refine gain_setCell ?_ (by first | exact Nat.le_refl _ | exact World.size_ext _ _ | (simp; done) | (simp; omega)) _))))).mono ?_; rintro e w1 ⟨rfl, d1, rfl⟩)
    go_ret2
    rw [HE1.out]
    exact ⟨rfl, (by repeat (first | with_reducible (first | exact World.gained_refl _ | exact ⟨_, rfl⟩ | apply gain_ext | apply gain_alloc | apply gain_drewN | apply gain_drew) | (refine gain_setCell ?_ (by first | exact Nat.le_refl _ | exact World.size_ext _ _ | (simp; done) | (simp; omega)) _)))⟩
  | true =>
  obtain ⟨W, H, hok⟩ := mapB_ok hB
  have HIR := Lib.hid (fun w' hw' hu' => isRoute_any m (.slice p1 m.rise.length c1) (.slice p2 m.cost.length c2) (.slice p t.length c) W H t w' hok hw' hu' hl2)
  have HE1 := Lib.hid (show routeB m t = routeR m t by simp [routeB, hB])
  rw [hB] at HGD
  clear hB hok
  go_enter Try.func12, Try.ntmps12
  go_wp2_with (first | (go_at_call 28; refine (HGD.out _ (mp_up (hm.out) (by repeat (first | with_reducible (first | exact World.gained_refl _ | exact ⟨_, rfl⟩ | apply gain_ext | apply gain_alloc | apply gain_drewN | apply gain_drew) | (refine gain_setCell ?_ (by first | exact Nat.le_refl _ | exact World.size_ext _ _ | (simp; done) | (simp; omega)) _))))).mono ?_; rintro e w1 ⟨rfl, d1, rfl⟩) | (go_at_call 29; refine (HIR.out _ (mp_up (hm.out) (by repeat (first | with_reducible (first | exact World.gained_refl _ | exact ⟨_, rfl⟩ | apply gain_ext | apply gain_alloc | apply gain_drewN | apply gain_drew) | (refine gain_setCell ?_ (by first | exact Nat.le_refl _ | exact World.size_ext _ _ | (simp; done) | (simp; omega)) _)))) (by with_reducible (repeat (first | exact ht.out | refine World.sl_ext intC_length ?_ _ | refine sl_alloc intC_length ?_ _ | refine sl_drew ?_)))).mono ?_; rintro e w1 ⟨rfl, d2, rfl⟩))
  go_ret2
  rw [HE1.out]
  exact ⟨rfl, (by repeat (first | with_reducible (first | exact World.gained_refl _ | exact ⟨_, rfl⟩ | apply gain_ext | apply gain_alloc | apply gain_drewN | apply gain_drew) | (refine gain_setCell ?_ (by first | exact Nat.le_refl _ | exact World.size_ext _ _ | (simp; done) | (simp; omega)) _)))⟩
end Go.Proofs.Ytfpobghllfoijaa
