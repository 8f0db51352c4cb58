/- impl.IsStartList. Condition: at most 1048576 elements. -/
import Derived.Test.YtbghmkjjooiikaaStarts
namespace Go.Proofs.Ytbghmkjjooiikaa
open Go.RowKit Go.Ori
theorem implIsStartList_any (v v2 : Value) (l l2 : List Int) (w : World) (h : w.sl intC 1 v l) (h2 : w.sl intC 1 v2 l2) (hl : l.length ≤ 1048576) (hl2 : l2.length ≤ 1048576) :
    Calls Try.prog 50 #[v, v2] w fun x w' => x = .returned (.tuple #[.bool (startsB l l2), .bool (clubsB l)]) ∧ ∃ d, w' = w.ext d := by
  cases hc : clubsB l with
  | false =>
    have HS := Lib.hid (show startsB l l2 = false by rw [startsB, hc]; rfl)
    go_enter Try.func50, Try.ntmps50
    go_wp2_with fail
    refine (areClubs_any _ l _ h hl).mono ?_
    rintro e w1 ⟨rfl, d1, rfl⟩
    rw [hc]
    go_wp2
    go_ret2
    exact ⟨by rw [HS.out]; rfl, _, rfl⟩
  | true =>
    have HS := Lib.hid (show startsB l l2 = listB l l2 by rw [startsB, hc]; rfl)
    go_enter Try.func50, Try.ntmps50
    go_wp2_with fail
    refine (areClubs_any _ l _ h hl).mono ?_
    rintro e w1 ⟨rfl, d1, rfl⟩
    rw [hc]
    go_wp2_with fail
    refine (isStartList_any _ _ l l2 _ (World.sl_ext intC_length h d1) (World.sl_ext intC_length h2 d1) hl hl2).mono ?_
    rintro e w1 ⟨rfl, d2, rfl⟩
    go_wp2
    go_ret2
    exact ⟨by rw [HS.out]; rfl, gain_ext ⟨_, rfl⟩ _⟩
end Go.Proofs.Ytbghmkjjooiikaa
