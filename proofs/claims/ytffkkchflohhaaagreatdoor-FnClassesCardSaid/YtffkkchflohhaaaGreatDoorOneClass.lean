/- impl.IsClass, spec.l7One, spec.IsClass. Condition: a name of at most 1048576 bytes. -/
import Derived.Test.YtffkkchflohhaaaGreatDoorWord
namespace Go.Proofs.YtffkkchflohhaaaGreatDoor
open Go.RowKit Go.Ori
theorem areAges_any (lo hi : Int) (w : World) :
    Calls Tryz.prog 28 #[.int .i64 lo, .int .i64 hi] w fun x w' => x = .returned (.bool (agesB lo hi)) ∧ w = w' := by
  go_enter Tryz.func28, Tryz.ntmps28
  go_wp2
  all_goals go_ret
  all_goals refine ⟨ret_bool ?_, rfl⟩
  all_goals (rw [Bool.eq_iff_iff]; simp [agesB, insB]; omega)
set_option maxHeartbeats 1000000 in
theorem isClass_any (c : Cls) (w : World) (hn : c.name.size ≤ 1048576) :
    Calls Tryz.prog 8 #[.agg #[.int .i64 c.id, .string c.name, .int .i64 c.low, .int .i64 c.high, .bool c.women, .bool c.men, .int .i64 c.course, .int .i64 c.most]] w fun x w' => x = .returned (.bool (classB c)) ∧ ∃ d, w' = w.ext d := by
  go_enter Tryz.func8, Tryz.ntmps8
  go_wp2_with (first | (go_at_call 26; refine (inside_any _ _ _ _).mono ?_; rintro e w1 ⟨rfl, rfl⟩) | (go_at_call 27; refine (isWord_any _ _ hn).mono ?_; rintro e w1 ⟨rfl, rfl⟩) | (go_at_call 28; refine (areAges_any _ _ _).mono ?_; rintro e w1 ⟨rfl, rfl⟩))
  all_goals go_ret
  all_goals refine ⟨?_, gain_alloc w.gained_refl _⟩
  all_goals simp [classB, *]
set_option maxHeartbeats 1000000 in
theorem l7One_any (c : Cls) (w : World) (hn : c.name.size ≤ 1048576) :
    Calls Tryz.prog 24 #[.agg #[.int .i64 c.id, .string c.name, .int .i64 c.low, .int .i64 c.high, .bool c.women, .bool c.men, .int .i64 c.course, .int .i64 c.most]] w fun x w' => x = .returned (.bool (classB c)) ∧ ∃ d, w' = w.ext d := by
  go_enter Tryz.func24, Tryz.ntmps24
  go_wp2_with (first | (go_at_call 56; refine (l1In_any _ _ _ _).mono ?_; rintro e w1 ⟨rfl, rfl⟩) | (go_at_call 57; refine (l2Word_any _ _ hn).mono ?_; rintro e w1 ⟨rfl, rfl⟩))
  all_goals go_ret
  all_goals refine ⟨?_, gain_alloc w.gained_refl _⟩
  all_goals simp [classB, agesB, *]
end Go.Proofs.YtffkkchflohhaaaGreatDoor
