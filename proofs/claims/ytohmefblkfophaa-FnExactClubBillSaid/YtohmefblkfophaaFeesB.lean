/- impl.AreFees and spec.l11Fees: four numbers in their ranges. No condition. -/
import Derived.Test.YtohmefblkfophaaInside
import Derived.Test.YtohmefblkfophaaL1In
namespace Go.Proofs.Ytohmefblkfophaa
open Go.RowKit Go.Ori
def feesB (a c r l : Int) : Bool := insB a 0 20000 && insB c 0 20000 && insB r 0 20000 && insB l 0 100
theorem areFees_any (a c r l : Int) (w : World) :
    Calls Try.prog 68 #[.agg #[.int .i64 a, .int .i64 c, .int .i64 r, .int .i64 l]] w fun x w' => x = .returned (.bool (feesB a c r l)) ∧ ∃ d, w' = w.ext d := by
  go_enter Try.func68, Try.ntmps68
  go_wp2_with (go_at_call 57; refine (inside_any _ _ _ _).mono ?_; rintro e w1 ⟨rfl, rfl⟩)
  all_goals go_ret
  all_goals refine ⟨?_, gain_alloc w.gained_refl _⟩
  all_goals simp [feesB, *]
theorem l11Fees_any (a c r l : Int) (w : World) :
    Calls Try.prog 63 #[.agg #[.int .i64 a, .int .i64 c, .int .i64 r, .int .i64 l]] w fun x w' => x = .returned (.bool (feesB a c r l)) ∧ ∃ d, w' = w.ext d := by
  go_enter Try.func63, Try.ntmps63
  go_wp2_with (go_at_call 55; refine (l1In_any _ _ _ _).mono ?_; rintro e w1 ⟨rfl, rfl⟩)
  all_goals go_ret
  all_goals refine ⟨?_, gain_alloc w.gained_refl _⟩
  all_goals simp [feesB, *]
theorem toFees_any (a c r l : Int) (w : World) :
    Calls Try.prog 35 #[.agg #[.int .i64 a, .int .i64 c, .int .i64 r, .int .i64 l]] w fun x w' => x = .returned (.agg #[.int .i64 a, .int .i64 c, .int .i64 r, .int .i64 l]) ∧ ∃ d, w' = w.ext d := by
  go_enter Try.func35, Try.ntmps35
  go_wp2
  refine bodyPost_ret (v := .agg #[.int .i64 a, .int .i64 c, .int .i64 r, .int .i64 l]) (by simp [results, Try.results35, go_sem]) rfl ?_
  refine ⟨rfl, ?_⟩
  (repeat (first | exact World.gained_refl _ | exact ⟨_, rfl⟩ | apply gain_ext | apply gain_alloc | apply gain_drewN | apply gain_drew | (refine gain_setCell ?_ (by first | exact Nat.le_refl _ | exact World.size_ext _ _ | (simp; done) | (simp; omega)) _)))
end Go.Proofs.Ytohmefblkfophaa
