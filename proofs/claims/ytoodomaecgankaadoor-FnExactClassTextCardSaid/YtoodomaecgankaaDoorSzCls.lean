/- laws.szClass: what is left of a size. No condition but that a string's length is one of Go's. -/
import Derived.Test.YtoodomaecgankaaDoorRows
import Derived.Test.YtoodomaecgankaaDoorPWord
namespace Go.Proofs.YtoodomaecgankaaDoor
open Go.RowKit Go.Ori
set_option maxHeartbeats 1000000 in
theorem szClass_any (c : Cls) (left : Int) (w : World) (hn : c.ok) (h0 : 0 ≤ left) (h1 : left ≤ 1048576) :
    Calls Tryd.prog 4 #[.agg #[.int .i64 c.id, .string c.name, .int .i64 c.low, .int .i64 c.high, .bool c.women, .bool c.men, .int .i64 c.course, .int .i64 c.most], .int .i64 left] w fun x w' => ∃ r, x = .returned (.int .i64 r) ∧ (∃ d, w' = w.ext d) ∧ r ≤ left ∧ (0 ≤ r → c.name.size ≤ 1048576) := by
  simp only [Cls.ok, maxLen] at hn
  by_cases h : (c.name.size : Int) ≤ left
  · go_enter Tryd.func4, Tryd.ntmps4
    go_wp2
    go_ret
    exact ⟨_, rfl, (by repeat (first | with_reducible (first | exact World.gained_refl _ | exact ⟨_, rfl⟩ | apply gain_ext | apply gain_alloc | apply gain_drewN | apply gain_drew) | (refine gain_setCell ?_ (by first | exact Nat.le_refl _ | exact World.size_ext _ _ | (simp; done) | (simp; omega)) _))), by omega, fun _ => by omega⟩
  · go_enter Tryd.func4, Tryd.ntmps4
    go_wp2
    go_ret
    exact ⟨_, rfl, (by repeat (first | with_reducible (first | exact World.gained_refl _ | exact ⟨_, rfl⟩ | apply gain_ext | apply gain_alloc | apply gain_drewN | apply gain_drew) | (refine gain_setCell ?_ (by first | exact Nat.le_refl _ | exact World.size_ext _ _ | (simp; done) | (simp; omega)) _))), by omega, fun h => by omega⟩
end Go.Proofs.YtoodomaecgankaaDoor
