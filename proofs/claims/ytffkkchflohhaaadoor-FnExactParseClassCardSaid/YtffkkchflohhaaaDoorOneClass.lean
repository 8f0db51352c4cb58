/- impl.IsClass, spec.l7One, spec.IsClass. Condition: a name of at most 1048576 bytes. -/
import Derived.Test.YtffkkchflohhaaaDoorWord
namespace Go.Proofs.YtffkkchflohhaaaDoor
open Go.RowKit Go.Ori
theorem areAges_any (lo hi : Int) (w : World) :
    Calls Tryd.prog 26 #[.int .i64 lo, .int .i64 hi] w fun x w' => x = .returned (.bool (agesB lo hi)) ∧ w = w' := by
  go_enter Tryd.func26, Tryd.ntmps26
  go_wp2
  all_goals go_ret
  all_goals refine ⟨ret_bool ?_, rfl⟩
  all_goals (rw [Bool.eq_iff_iff]; simp [agesB, insB]; omega)
set_option maxHeartbeats 1000000 in
theorem isClass_any (c : Cls) (w : World) (hn : c.name.size ≤ 1048576) :
    Calls Tryd.prog 15 #[.agg #[.int .i64 c.id, .string c.name, .int .i64 c.low, .int .i64 c.high, .bool c.women, .bool c.men, .int .i64 c.course, .int .i64 c.most]] w fun x w' => x = .returned (.bool (classB c)) ∧ ∃ d, w' = w.ext d := by
  go_enter Tryd.func15, Tryd.ntmps15
  go_wp2_with (first | (go_at_call 24; refine (inside_any _ _ _ _).mono ?_; rintro e w1 ⟨rfl, rfl⟩) | (go_at_call 25; refine (isWord_any _ _ hn).mono ?_; rintro e w1 ⟨rfl, rfl⟩) | (go_at_call 26; refine (areAges_any _ _ _).mono ?_; rintro e w1 ⟨rfl, rfl⟩))
  all_goals go_ret
  all_goals refine ⟨?_, gain_alloc w.gained_refl _⟩
  all_goals simp [classB, *]
set_option maxHeartbeats 1000000 in
theorem l7One_any (c : Cls) (w : World) (hn : c.name.size ≤ 1048576) :
    Calls Tryd.prog 9 #[.agg #[.int .i64 c.id, .string c.name, .int .i64 c.low, .int .i64 c.high, .bool c.women, .bool c.men, .int .i64 c.course, .int .i64 c.most]] w fun x w' => x = .returned (.bool (classB c)) ∧ ∃ d, w' = w.ext d := by
  go_enter Tryd.func9, Tryd.ntmps9
  go_wp2_with (first | (go_at_call 17; refine (l1In_any _ _ _ _).mono ?_; rintro e w1 ⟨rfl, rfl⟩) | (go_at_call 19; refine (l2Word_any _ _ hn).mono ?_; rintro e w1 ⟨rfl, rfl⟩))
  all_goals go_ret
  all_goals refine ⟨?_, gain_alloc w.gained_refl _⟩
  all_goals simp [classB, agesB, *]
end Go.Proofs.YtffkkchflohhaaaDoor
