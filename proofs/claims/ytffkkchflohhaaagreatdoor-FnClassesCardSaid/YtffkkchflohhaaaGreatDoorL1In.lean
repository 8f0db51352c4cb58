/- spec.l1In: whether a number lies between two. No condition. -/
import Derived.Test.YtffkkchflohhaaaGreatDoorRows
import Derived.Test.YtffkkchflohhaaaGreatDoorPlain
namespace Go.Proofs.YtffkkchflohhaaaGreatDoor
open Go.RowKit Go.Ori
theorem l1In_any (n lo hi : Int) (w : World) :
    Calls Tryz.prog 56 #[.int .i64 n, .int .i64 lo, .int .i64 hi] w fun e w' => e = .returned (.bool (insB n lo hi)) ∧ w = w' := by
  by_cases h1 : lo ≤ n
  · rw [insB_lo h1]
    go_enter Tryz.func56, Tryz.ntmps56
    go_wp2
    go_ret
    exact ⟨rfl, rfl⟩
  · rw [insB_no h1]
    go_enter Tryz.func56, Tryz.ntmps56
    go_wp2
    go_ret
    exact ⟨rfl, rfl⟩
end Go.Proofs.YtffkkchflohhaaaGreatDoor
