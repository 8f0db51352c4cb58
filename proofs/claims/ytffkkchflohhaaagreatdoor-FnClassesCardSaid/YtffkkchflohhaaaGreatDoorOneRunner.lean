/- impl.IsRunner, spec.l5One. Condition: a name and a club of at most 1048576 bytes. -/
import Derived.Test.YtffkkchflohhaaaGreatDoorWord
namespace Go.Proofs.YtffkkchflohhaaaGreatDoor
open Go.RowKit Go.Ori
set_option maxHeartbeats 1000000 in
theorem isRunner_any (r : Runner) (w : World) (hn : r.name.size ≤ 1048576) (hc : r.club.size ≤ 1048576) :
    Calls Tryz.prog 41 #[.agg #[.int .i64 r.id, .string r.name, .string r.club, .int .i64 r.born, .bool r.woman, .int .i64 r.card]] w fun x w' => x = .returned (.bool (runnerB r)) ∧ ∃ d, w' = w.ext d := by
  go_enter Tryz.func41, Tryz.ntmps41
  go_wp2_with (first | (go_at_call 26; refine (inside_any _ _ _ _).mono ?_; rintro e w1 ⟨rfl, rfl⟩) | (go_at_call 27; refine (isWord_any _ _ (by assumption)).mono ?_; rintro e w1 ⟨rfl, rfl⟩))
  all_goals go_ret
  all_goals refine ⟨?_, gain_alloc w.gained_refl _⟩
  all_goals simp [runnerB, *]
set_option maxHeartbeats 1000000 in
theorem l5One_any (r : Runner) (w : World) (hn : r.name.size ≤ 1048576) (hc : r.club.size ≤ 1048576) :
    Calls Tryz.prog 49 #[.agg #[.int .i64 r.id, .string r.name, .string r.club, .int .i64 r.born, .bool r.woman, .int .i64 r.card]] w fun x w' => x = .returned (.bool (runnerB r)) ∧ ∃ d, w' = w.ext d := by
  go_enter Tryz.func49, Tryz.ntmps49
  go_wp2_with (first | (go_at_call 56; refine (l1In_any _ _ _ _).mono ?_; rintro e w1 ⟨rfl, rfl⟩) | (go_at_call 57; refine (l2Word_any _ _ (by assumption)).mono ?_; rintro e w1 ⟨rfl, rfl⟩))
  all_goals go_ret
  all_goals refine ⟨?_, gain_alloc w.gained_refl _⟩
  all_goals simp [runnerB, *]
end Go.Proofs.YtffkkchflohhaaaGreatDoor
