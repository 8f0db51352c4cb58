/- impl.stepTime, spec.l2Step. Conditions: a valid map; cells of it. -/
import Derived.Test.YtepjemfkmnpepaaMapN
namespace Go.Proofs.Ytepjemfkmnpepaa
open Go.RowKit Go.Ori
set_option maxHeartbeats 2000000 in
theorem stepTime_any (m : Mp) (rv cv : Value) (W H a b : Nat) (w : World) (hok : MapOk m W H) (h : w.mp rv cv m) (ha : a < m.cost.length) (hb : b < m.cost.length) :
    Calls Try.prog 36 #[.agg #[.int .i64 m.wd, .int .i64 m.ht, rv, cv], .int .i64 a, .int .i64 b] w fun x w' => x = .returned (.int .i64 (stepZ m a b)) ∧ ∃ d, w' = w.ext d := by
  obtain ⟨b1, o1, c1, b2, o2, c2, hin⟩ := mp_in h hok
  have hn := hok.n36
  have ca := hin.ro a ha
  have cb := hin.ro b hb
  have cc := hin.co b hb
  have ob1 := hin.ob1
  have ob2 := hin.ob2
  have ra := hok.rr a
  have rb := hok.rr b
  have rc := hok.cr b
  have HE : Hid (stepZ m a b = costAt m b + 2 * max (riseAt m b - riseAt m a) 0 + max (-(riseAt m b - riseAt m a) - 2) 0) := Lib.hid rfl
  obtain rfl := hin.rv
  obtain rfl := hin.cv
  clear h hin hok
  generalize riseAt m a = x at *
  generalize riseAt m b = y at *
  generalize costAt m b = z at *
  go_enter Try.func36, Try.ntmps36
  go_wp2
  refine wp_region_gain (by kernel_rfl) (by kernel_rfl) ?_
  repeat (first | go_big_quiet_skip | (go_big_quiet_want; go_big_quiet_op; first | go_big_quiet_on))
  refine wpQuiet_nil ?_
  rintro _ ⟨d', rfl⟩
  go_wp2
  all_goals go_ret
  all_goals rw [HE.out]
  all_goals exact ⟨ret_int (by omega), (by repeat (first | with_reducible (first | exact World.gained_refl _ | exact ⟨_, rfl⟩ | apply gain_ext | apply gain_alloc | apply gain_drewN | apply gain_drew) | (refine gain_setCell ?_ (by first | exact Nat.le_refl _ | exact World.size_ext _ _ | (simp; done) | (simp; omega)) _)))⟩
set_option maxHeartbeats 2000000 in
theorem l2Step_any (m : Mp) (rv cv : Value) (W H a b : Nat) (w : World) (hok : MapOk m W H) (h : w.mp rv cv m) (ha : a < m.cost.length) (hb : b < m.cost.length) :
    Calls Try.prog 38 #[.agg #[.int .i64 m.wd, .int .i64 m.ht, rv, cv], .int .i64 a, .int .i64 b] w fun x w' => x = .returned (.int .i64 (stepZ m a b)) ∧ ∃ d, w' = w.ext d := by
  obtain ⟨b1, o1, c1, b2, o2, c2, hin⟩ := mp_in h hok
  have hn := hok.n36
  have ca := hin.ro a ha
  have cb := hin.ro b hb
  have cc := hin.co b hb
  have ob1 := hin.ob1
  have ob2 := hin.ob2
  have ra := hok.rr a
  have rb := hok.rr b
  have rc := hok.cr b
  have HE : Hid (stepZ m a b = costAt m b + 2 * max (riseAt m b - riseAt m a) 0 + max (-(riseAt m b - riseAt m a) - 2) 0) := Lib.hid rfl
  obtain rfl := hin.rv
  obtain rfl := hin.cv
  clear h hin hok
  generalize riseAt m a = x at *
  generalize riseAt m b = y at *
  generalize costAt m b = z at *
  go_enter Try.func38, Try.ntmps38
  go_wp2
  refine wp_region_gain (by kernel_rfl) (by kernel_rfl) ?_
  repeat (first | go_big_quiet_skip | (go_big_quiet_want; go_big_quiet_op; first | go_big_quiet_on))
  refine wpQuiet_nil ?_
  rintro _ ⟨d', rfl⟩
  go_wp2
  refine wp_region_gain (by kernel_rfl) (by kernel_rfl) ?_
  repeat (first | go_big_quiet_skip | (go_big_quiet_want; go_big_quiet_op; first | go_big_quiet_on | ((apply Exists.intro); (refine ⟨fun _ => ?_, ?_⟩); (· (go_at_call 40; exact Calls.gain_same (l1Most_any _ _ _))); (go_big_quiet_on))))
  refine wpQuiet_nil ?_
  rintro _ ⟨d', rfl⟩
  go_wp2
  all_goals go_ret
  all_goals rw [HE.out]
  all_goals exact ⟨ret_int (by omega), (by repeat (first | with_reducible (first | exact World.gained_refl _ | exact ⟨_, rfl⟩ | apply gain_ext | apply gain_alloc | apply gain_drewN | apply gain_drew) | (refine gain_setCell ?_ (by first | exact Nat.le_refl _ | exact World.size_ext _ _ | (simp; done) | (simp; omega)) _)))⟩
end Go.Proofs.Ytepjemfkmnpepaa
