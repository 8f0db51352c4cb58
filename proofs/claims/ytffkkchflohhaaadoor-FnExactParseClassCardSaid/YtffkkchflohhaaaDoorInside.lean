/- impl.inside: whether a number lies between two. No condition. -/
import Derived.Test.YtffkkchflohhaaaDoorRows
import Derived.Test.YtffkkchflohhaaaDoorPlain
namespace Go.Proofs.YtffkkchflohhaaaDoor
open Go.RowKit Go.Ori
theorem inside_any (n lo hi : Int) (w : World) :
    Calls Tryd.prog 24 #[.int .i64 n, .int .i64 lo, .int .i64 hi] w fun e w' => e = .returned (.bool (insB n lo hi)) ∧ w = w' := by
  by_cases h1 : lo ≤ n
  · rw [insB_lo h1]
    go_enter Tryd.func24, Tryd.ntmps24
    go_wp2
    go_ret
    exact ⟨rfl, rfl⟩
  · rw [insB_no h1]
    go_enter Tryd.func24, Tryd.ntmps24
    go_wp2
    go_ret
    exact ⟨rfl, rfl⟩
end Go.Proofs.YtffkkchflohhaaaDoor
