/- impl.DoesAdmit, spec.DoesAdmit. Condition: strings of at most 1048576 bytes. -/
import Derived.Test.YtffkkchflohhaaaGreatDoorAdmit
namespace Go.Ori
theorem runnerB_born {r : Runner} (h : runnerB r = true) : 1920 ≤ r.born ∧ r.born ≤ 2020 := by
  simp only [runnerB, Bool.and_eq_true, insB_true] at h
  exact h.1.2
def doesB (c : Cls) (r : Runner) : Bool := classB c && runnerB r
end Go.Ori
namespace Go.Proofs.YtffkkchflohhaaaGreatDoor
open Go.RowKit Go.Ori
set_option maxHeartbeats 1000000 in
theorem doesAdmit_any (c : Cls) (r : Runner) (w : World) (hn : c.name.size ≤ 1048576) (hm : r.name.size ≤ 1048576) (hk : r.club.size ≤ 1048576) :
    Calls Tryz.prog 19 #[.agg #[.int .i64 c.id, .string c.name, .int .i64 c.low, .int .i64 c.high, .bool c.women, .bool c.men, .int .i64 c.course, .int .i64 c.most], .agg #[.int .i64 r.id, .string r.name, .string r.club, .int .i64 r.born, .bool r.woman, .int .i64 r.card]] w fun x w' => x = .returned (.tuple #[.bool (doesB c r && admitB c r), .bool (doesB c r)]) ∧ ∃ d, w' = w.ext d := by
  skip
  cases hc : classB c with
  | false =>
    have HE := Lib.hid (show doesB c r = false by rw [doesB, hc]; rfl)
    go_enter Tryz.func19, Tryz.ntmps19
    go_wp2_with (first | (go_at_call 8; refine (isClass_any c _ hn).mono ?_; rintro e w1 ⟨rfl, d1, rfl⟩) | (go_at_call 41; refine (isRunner_any r _ hm hk).mono ?_; rintro e w1 ⟨rfl, d1, rfl⟩))
    go_ret2
    rw [HE.out]
    exact ⟨rfl, (by repeat (first | with_reducible (first | exact World.gained_refl _ | exact ⟨_, rfl⟩ | apply gain_ext | apply gain_alloc | apply gain_drewN | apply gain_drew) | (refine gain_setCell ?_ (by first | exact Nat.le_refl _ | exact World.size_ext _ _ | (simp; done) | (simp; omega)) _)))⟩
  | true =>
  cases hr : runnerB r with
  | false =>
    have HE := Lib.hid (show doesB c r = false by rw [doesB, hr, Bool.and_false])
    go_enter Tryz.func19, Tryz.ntmps19
    go_wp2_with (first | (go_at_call 8; refine (isClass_any c _ hn).mono ?_; rintro e w1 ⟨rfl, d1, rfl⟩) | (go_at_call 41; refine (isRunner_any r _ hm hk).mono ?_; rintro e w1 ⟨rfl, d1, rfl⟩))
    go_ret2
    rw [HE.out]
    exact ⟨rfl, (by repeat (first | with_reducible (first | exact World.gained_refl _ | exact ⟨_, rfl⟩ | apply gain_ext | apply gain_alloc | apply gain_drewN | apply gain_drew) | (refine gain_setCell ?_ (by first | exact Nat.le_refl _ | exact World.size_ext _ _ | (simp; done) | (simp; omega)) _)))⟩
  | true =>
    have HE := Lib.hid (show doesB c r = true by rw [doesB, hc, hr]; rfl)
    have hb := runnerB_born hr
    go_enter Tryz.func19, Tryz.ntmps19
    go_wp2_with (first | (go_at_call 8; refine (isClass_any c _ hn).mono ?_; rintro e w1 ⟨rfl, d1, rfl⟩) | (go_at_call 41; refine (isRunner_any r _ hm hk).mono ?_; rintro e w1 ⟨rfl, d1, rfl⟩) | (go_at_call 53; refine (admits_any c r _ hb).mono ?_; rintro e w1 ⟨rfl, d1, rfl⟩))
    go_ret2
    rw [HE.out]
    exact ⟨rfl, (by repeat (first | with_reducible (first | exact World.gained_refl _ | exact ⟨_, rfl⟩ | apply gain_ext | apply gain_alloc | apply gain_drewN | apply gain_drew) | (refine gain_setCell ?_ (by first | exact Nat.le_refl _ | exact World.size_ext _ _ | (simp; done) | (simp; omega)) _)))⟩
set_option maxHeartbeats 1000000 in
theorem specDoesAdmit_any (c : Cls) (r : Runner) (w : World) (hn : c.name.size ≤ 1048576) (hm : r.name.size ≤ 1048576) (hk : r.club.size ≤ 1048576) :
    Calls Tryz.prog 21 #[.agg #[.int .i64 c.id, .string c.name, .int .i64 c.low, .int .i64 c.high, .bool c.women, .bool c.men, .int .i64 c.course, .int .i64 c.most], .agg #[.int .i64 r.id, .string r.name, .string r.club, .int .i64 r.born, .bool r.woman, .int .i64 r.card]] w fun x w' => x = .returned (.tuple #[.bool (doesB c r && admitB c r), .bool (doesB c r)]) ∧ ∃ d, w' = w.ext d := by
  skip
  cases hc : classB c with
  | false =>
    have HE := Lib.hid (show doesB c r = false by rw [doesB, hc]; rfl)
    go_enter Tryz.func21, Tryz.ntmps21
    go_wp2_with (first | (go_at_call 24; refine (l7One_any c _ hn).mono ?_; rintro e w1 ⟨rfl, d1, rfl⟩) | (go_at_call 49; refine (l5One_any r _ hm hk).mono ?_; rintro e w1 ⟨rfl, d1, rfl⟩))
    go_ret2
    rw [HE.out]
    exact ⟨rfl, (by repeat (first | with_reducible (first | exact World.gained_refl _ | exact ⟨_, rfl⟩ | apply gain_ext | apply gain_alloc | apply gain_drewN | apply gain_drew) | (refine gain_setCell ?_ (by first | exact Nat.le_refl _ | exact World.size_ext _ _ | (simp; done) | (simp; omega)) _)))⟩
  | true =>
  cases hr : runnerB r with
  | false =>
    have HE := Lib.hid (show doesB c r = false by rw [doesB, hr, Bool.and_false])
    go_enter Tryz.func21, Tryz.ntmps21
    go_wp2_with (first | (go_at_call 24; refine (l7One_any c _ hn).mono ?_; rintro e w1 ⟨rfl, d1, rfl⟩) | (go_at_call 49; refine (l5One_any r _ hm hk).mono ?_; rintro e w1 ⟨rfl, d1, rfl⟩))
    go_ret2
    rw [HE.out]
    exact ⟨rfl, (by repeat (first | with_reducible (first | exact World.gained_refl _ | exact ⟨_, rfl⟩ | apply gain_ext | apply gain_alloc | apply gain_drewN | apply gain_drew) | (refine gain_setCell ?_ (by first | exact Nat.le_refl _ | exact World.size_ext _ _ | (simp; done) | (simp; omega)) _)))⟩
  | true =>
    have HE := Lib.hid (show doesB c r = true by rw [doesB, hc, hr]; rfl)
    have hb := runnerB_born hr
    go_enter Tryz.func21, Tryz.ntmps21
    go_wp2_with (first | (go_at_call 24; refine (l7One_any c _ hn).mono ?_; rintro e w1 ⟨rfl, d1, rfl⟩) | (go_at_call 49; refine (l5One_any r _ hm hk).mono ?_; rintro e w1 ⟨rfl, d1, rfl⟩) | (go_at_call 50; refine (l7Admits_any c _ _ _).mono ?_; rintro e w1 ⟨rfl, d1, rfl⟩))
    go_ret2
    rw [HE.out]
    exact ⟨rfl, (by repeat (first | with_reducible (first | exact World.gained_refl _ | exact ⟨_, rfl⟩ | apply gain_ext | apply gain_alloc | apply gain_drewN | apply gain_drew) | (refine gain_setCell ?_ (by first | exact Nat.le_refl _ | exact World.size_ext _ _ | (simp; done) | (simp; omega)) _)))⟩
end Go.Proofs.YtffkkchflohhaaaGreatDoor
