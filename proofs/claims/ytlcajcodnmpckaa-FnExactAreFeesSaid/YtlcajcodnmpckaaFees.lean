/- impl.AreFees and spec.AreFees: four numbers in their ranges. No condition. -/
import Derived.Test.YtlcajcodnmpckaaInside
import Derived.Test.YtlcajcodnmpckaaL1In
namespace Go.Proofs.Ytlcajcodnmpckaa
open Go.RowKit Go.Ori
def feesB (a c r l : Int) : Bool := insB a 0 20000 && insB c 0 20000 && insB r 0 20000 && insB l 0 100
theorem areFees_any (a c r l : Int) (w : World) :
    Calls Try.prog 11 #[.agg #[.int .i64 a, .int .i64 c, .int .i64 r, .int .i64 l]] w fun x w' => x = .returned (.bool (feesB a c r l)) ∧ ∃ d, w' = w.ext d := by
  go_enter Try.func11, Try.ntmps11
  go_wp2_with (go_at_call 32; refine (inside_any _ _ _ _).mono ?_; rintro e w1 ⟨rfl, rfl⟩)
  all_goals go_ret
  all_goals refine ⟨?_, gain_alloc w.gained_refl _⟩
  all_goals simp [feesB, *]
theorem l11Fees_any (a c r l : Int) (w : World) :
    Calls Try.prog 31 #[.agg #[.int .i64 a, .int .i64 c, .int .i64 r, .int .i64 l]] w fun x w' => x = .returned (.bool (feesB a c r l)) ∧ ∃ d, w' = w.ext d := by
  go_enter Try.func31, Try.ntmps31
  go_wp2_with (go_at_call 50; refine (l1In_any _ _ _ _).mono ?_; rintro e w1 ⟨rfl, rfl⟩)
  all_goals go_ret
  all_goals refine ⟨?_, gain_alloc w.gained_refl _⟩
  all_goals simp [feesB, *]
theorem specAreFees_any (a c r l : Int) (w : World) :
    Calls Try.prog 9 #[.agg #[.int .i64 a, .int .i64 c, .int .i64 r, .int .i64 l]] w fun x w' => x = .returned (.bool (feesB a c r l)) ∧ ∃ d, w' = w.ext d := by
  go_enter Try.func9, Try.ntmps9
  go_wp2_with (go_at_call 31; refine (l11Fees_any _ _ _ _ _).mono ?_; rintro e w1 ⟨rfl, d1, rfl⟩)
  go_ret
  refine ⟨rfl, ?_⟩
  (repeat (first | exact World.gained_refl _ | exact ⟨_, rfl⟩ | apply gain_ext | apply gain_alloc | apply gain_drewN | apply gain_drew | (refine gain_setCell ?_ (by first | exact Nat.le_refl _ | exact World.size_ext _ _ | (simp; done) | (simp; omega)) _)))
theorem toFees_any (a c r l : Int) (w : World) :
    Calls Try.prog 10 #[.agg #[.int .i64 a, .int .i64 c, .int .i64 r, .int .i64 l]] w fun x w' => x = .returned (.agg #[.int .i64 a, .int .i64 c, .int .i64 r, .int .i64 l]) ∧ ∃ d, w' = w.ext d := by
  go_enter Try.func10, Try.ntmps10
  go_wp2
  refine bodyPost_ret (v := .agg #[.int .i64 a, .int .i64 c, .int .i64 r, .int .i64 l]) (by simp [results, Try.results10, go_sem]) rfl ?_
  refine ⟨rfl, ?_⟩
  (repeat (first | exact World.gained_refl _ | exact ⟨_, rfl⟩ | apply gain_ext | apply gain_alloc | apply gain_drewN | apply gain_drew | (refine gain_setCell ?_ (by first | exact Nat.le_refl _ | exact World.size_ext _ _ | (simp; done) | (simp; omega)) _)))
end Go.Proofs.Ytlcajcodnmpckaa
