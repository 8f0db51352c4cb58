/- laws.toClass: a copy. No condition. -/
import Derived.Test.YtoodomaecgankaaDoorRows
import Derived.Test.YtoodomaecgankaaDoorPWord
namespace Go.Proofs.YtoodomaecgankaaDoor
open Go.RowKit Go.Ori
set_option maxHeartbeats 400000 in
theorem toClass_any (e : Cls) (w : World) :
    Calls Tryd.prog 6 #[.agg #[.int .i64 e.id, .string e.name, .int .i64 e.low, .int .i64 e.high, .bool e.women, .bool e.men, .int .i64 e.course, .int .i64 e.most]] w fun x w1 => x = .returned (.agg #[.int .i64 e.id, .string e.name, .int .i64 e.low, .int .i64 e.high, .bool e.women, .bool e.men, .int .i64 e.course, .int .i64 e.most]) ∧ ∃ d, w1 = w.ext d := by
  go_enter Tryd.func6, Tryd.ntmps6
  go_wp2
  refine bodyPost_ret (v := .agg #[.int .i64 e.id, .string e.name, .int .i64 e.low, .int .i64 e.high, .bool e.women, .bool e.men, .int .i64 e.course, .int .i64 e.most]) (by simp [results, Tryd.results6, go_sem]) rfl ?_
  refine ⟨rfl, ?_⟩
  (repeat (first | exact World.gained_refl _ | exact ⟨_, rfl⟩ | apply gain_ext | apply gain_alloc | apply gain_drewN | apply gain_drew | (refine gain_setCell ?_ (by first | exact Nat.le_refl _ | exact World.size_ext _ _ | (simp; done) | (simp; omega)) _)))
end Go.Proofs.YtoodomaecgankaaDoor
