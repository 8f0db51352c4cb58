/- laws.toRunner: a copy. No condition. -/
import Derived.Test.YtcldcainmipjcaaRows
import Derived.Test.YtcldcainmipjcaaPWord
namespace Go.Proofs.Ytcldcainmipjcaa
open Go.RowKit Go.Ori
set_option maxHeartbeats 400000 in
theorem toRunner_any (e : Runner) (w : World) :
    Calls Try.prog 19 #[.agg #[.int .i64 e.id, .string e.name, .string e.club, .int .i64 e.born, .bool e.woman, .int .i64 e.card]] w fun x w1 => x = .returned (.agg #[.int .i64 e.id, .string e.name, .string e.club, .int .i64 e.born, .bool e.woman, .int .i64 e.card]) ∧ ∃ d, w1 = w.ext d := by
  go_enter Try.func19, Try.ntmps19
  go_wp2
  refine bodyPost_ret (v := .agg #[.int .i64 e.id, .string e.name, .string e.club, .int .i64 e.born, .bool e.woman, .int .i64 e.card]) (by simp [results, Try.results19, go_sem]) rfl ?_
  refine ⟨rfl, ?_⟩
  (repeat (first | exact World.gained_refl _ | exact ⟨_, rfl⟩ | apply gain_ext | apply gain_alloc | apply gain_drewN | apply gain_drew | (refine gain_setCell ?_ (by first | exact Nat.le_refl _ | exact World.size_ext _ _ | (simp; done) | (simp; omega)) _)))
end Go.Proofs.Ytcldcainmipjcaa
