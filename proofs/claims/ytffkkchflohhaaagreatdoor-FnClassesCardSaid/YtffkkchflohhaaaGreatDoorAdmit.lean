/- impl.isFor, impl.admits, spec.l7Admits; impl.DoesAdmit, spec.DoesAdmit. Condition: strings of at most 1048576 bytes. -/
import Derived.Test.YtffkkchflohhaaaGreatDoorOneClass
import Derived.Test.YtffkkchflohhaaaGreatDoorOneRunner
namespace Go.Proofs.YtffkkchflohhaaaGreatDoor
open Go.RowKit Go.Ori
set_option maxHeartbeats 1000000 in
theorem isFor_any (c : Cls) (age : Int) (woman : Bool) (w : World) :
    Calls Tryz.prog 70 #[.agg #[.int .i64 c.id, .string c.name, .int .i64 c.low, .int .i64 c.high, .bool c.women, .bool c.men, .int .i64 c.course, .int .i64 c.most], .int .i64 age, .bool woman] w fun x w' => x = .returned (.bool (forB c age woman)) ∧ ∃ d, w' = w.ext d := by
  go_enter Tryz.func70, Tryz.ntmps70
  go_wp2_with (go_at_call 26; refine (inside_any _ _ _ _).mono ?_; rintro e w1 ⟨rfl, rfl⟩)
  all_goals go_ret
  all_goals refine ⟨?_, gain_alloc w.gained_refl _⟩
  all_goals simp [forB, *]
set_option maxHeartbeats 1000000 in
theorem l7Admits_any (c : Cls) (age : Int) (woman : Bool) (w : World) :
    Calls Tryz.prog 50 #[.agg #[.int .i64 c.id, .string c.name, .int .i64 c.low, .int .i64 c.high, .bool c.women, .bool c.men, .int .i64 c.course, .int .i64 c.most], .int .i64 age, .bool woman] w fun x w' => x = .returned (.bool (forB c age woman)) ∧ ∃ d, w' = w.ext d := by
  go_enter Tryz.func50, Tryz.ntmps50
  go_wp2_with (go_at_call 56; refine (l1In_any _ _ _ _).mono ?_; rintro e w1 ⟨rfl, rfl⟩)
  all_goals go_ret
  all_goals refine ⟨?_, gain_alloc w.gained_refl _⟩
  all_goals simp [forB, *]
/-- A year of birth is one of Go's numbers: so the age is. -/
theorem admits_any (c : Cls) (r : Runner) (w : World) (hb : 1920 ≤ r.born ∧ r.born ≤ 2020) :
    Calls Tryz.prog 53 #[.agg #[.int .i64 c.id, .string c.name, .int .i64 c.low, .int .i64 c.high, .bool c.women, .bool c.men, .int .i64 c.course, .int .i64 c.most], .agg #[.int .i64 r.id, .string r.name, .string r.club, .int .i64 r.born, .bool r.woman, .int .i64 r.card]] w fun x w' => x = .returned (.bool (admitB c r)) ∧ ∃ d, w' = w.ext d := by
  go_enter Tryz.func53, Tryz.ntmps53
  go_wp2_with (go_at_call 70; refine (isFor_any _ _ _ _).mono ?_; rintro e w1 ⟨rfl, d1, rfl⟩)
  go_ret
  exact ⟨rfl, (by repeat (first | with_reducible (first | exact World.gained_refl _ | exact ⟨_, rfl⟩ | apply gain_ext | apply gain_alloc | apply gain_drewN | apply gain_drew) | (refine gain_setCell ?_ (by first | exact Nat.le_refl _ | exact World.size_ext _ _ | (simp; done) | (simp; omega)) _)))⟩
end Go.Proofs.YtffkkchflohhaaaGreatDoor
