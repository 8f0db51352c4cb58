/- impl.IsClass, spec.l7One, spec.IsClass. Condition: a name of at most 1048576 bytes. -/
import Derived.Test.YtcldcainmipjcaaWord
namespace Go.Proofs.Ytcldcainmipjcaa
open Go.RowKit Go.Ori
theorem areAges_any (lo hi : Int) (w : World) :
    Calls Try.prog 59 #[.int .i64 lo, .int .i64 hi] w fun x w' => x = .returned (.bool (agesB lo hi)) ∧ w = w' := by
  go_enter Try.func59, Try.ntmps59
  go_wp2
  all_goals go_ret
  all_goals refine ⟨ret_bool ?_, rfl⟩
  all_goals (rw [Bool.eq_iff_iff]; simp [agesB, insB]; omega)
set_option maxHeartbeats 1000000 in
theorem isClass_any (c : Cls) (w : World) (hn : c.name.size ≤ 1048576) :
    Calls Try.prog 16 #[.agg #[.int .i64 c.id, .string c.name, .int .i64 c.low, .int .i64 c.high, .bool c.women, .bool c.men, .int .i64 c.course, .int .i64 c.most]] w fun x w' => x = .returned (.bool (classB c)) ∧ ∃ d, w' = w.ext d := by
  go_enter Try.func16, Try.ntmps16
  go_wp2_with (first | (go_at_call 57; refine (inside_any _ _ _ _).mono ?_; rintro e w1 ⟨rfl, rfl⟩) | (go_at_call 58; refine (isWord_any _ _ hn).mono ?_; rintro e w1 ⟨rfl, rfl⟩) | (go_at_call 59; refine (areAges_any _ _ _).mono ?_; rintro e w1 ⟨rfl, rfl⟩))
  all_goals go_ret
  all_goals refine ⟨?_, gain_alloc w.gained_refl _⟩
  all_goals simp [classB, *]
set_option maxHeartbeats 1000000 in
theorem l7One_any (c : Cls) (w : World) (hn : c.name.size ≤ 1048576) :
    Calls Try.prog 56 #[.agg #[.int .i64 c.id, .string c.name, .int .i64 c.low, .int .i64 c.high, .bool c.women, .bool c.men, .int .i64 c.course, .int .i64 c.most]] w fun x w' => x = .returned (.bool (classB c)) ∧ ∃ d, w' = w.ext d := by
  go_enter Try.func56, Try.ntmps56
  go_wp2_with (first | (go_at_call 93; refine (l1In_any _ _ _ _).mono ?_; rintro e w1 ⟨rfl, rfl⟩) | (go_at_call 94; refine (l2Word_any _ _ hn).mono ?_; rintro e w1 ⟨rfl, rfl⟩))
  all_goals go_ret
  all_goals refine ⟨?_, gain_alloc w.gained_refl _⟩
  all_goals simp [classB, agesB, *]
theorem specIsClass_any (c : Cls) (w : World) (hn : c.name.size ≤ 1048576) :
    Calls Try.prog 14 #[.agg #[.int .i64 c.id, .string c.name, .int .i64 c.low, .int .i64 c.high, .bool c.women, .bool c.men, .int .i64 c.course, .int .i64 c.most]] w fun x w' => x = .returned (.bool (classB c)) ∧ ∃ d, w' = w.ext d := by
  go_enter Try.func14, Try.ntmps14
  go_wp2_with (go_at_call 56; refine (l7One_any c _ hn).mono ?_; rintro e w1 ⟨rfl, d1, rfl⟩)
  go_ret
  exact ⟨rfl, (by repeat (first | with_reducible (first | exact World.gained_refl _ | exact ⟨_, rfl⟩ | apply gain_ext | apply gain_alloc | apply gain_drewN | apply gain_drew) | (refine gain_setCell ?_ (by first | exact Nat.le_refl _ | exact World.size_ext _ _ | (simp; done) | (simp; omega)) _)))⟩
end Go.Proofs.Ytcldcainmipjcaa
