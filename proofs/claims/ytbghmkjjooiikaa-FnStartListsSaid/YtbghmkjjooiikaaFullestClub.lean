/- impl.FullestClub, spec.FullestClub. Condition: at most 1048576 clubs. -/
import Derived.Test.YtbghmkjjooiikaaClubs
import Derived.Test.YtbghmkjjooiikaaClubSizes
import Derived.Test.YtbghmkjjooiikaaContainsInts
import Derived.Test.YtbghmkjjooiikaaMaxInts
import Derived.Test.YtbghmkjjooiikaaLargest
namespace Go.Proofs.Ytbghmkjjooiikaa
open Go.RowKit Go.Ori
theorem fullestClub_any (v : Value) (l : List Int) (w : World) (h : w.sl intC 1 v l) (hl : l.length ≤ 1048576) :
    Calls Try.prog 67 #[v] w fun x w' => x = .returned (.tuple #[.int .i64 (fullC l), .int .i64 (fullN l), .bool (clubsB l)]) ∧ ∃ d, w' = w.ext d := by
  have HG := Lib.hid (areClubs_any _ l _ h hl)
  cases hc : clubsB l with
  | false =>
    have e2 := Lib.hid (show fullC l = 0 by simp [fullC, hc])
    have e3 := Lib.hid (show fullN l = 0 by simp [fullN, hc])
    rw [hc] at HG
    clear hc
    go_enter Try.func67, Try.ntmps67
    go_wp2_with (go_at_call 115; refine HG.out.mono ?_; rintro e w1 ⟨rfl, d1, rfl⟩)
    go_ret3
    rw [e2.out, e3.out]
    exact ⟨rfl, _, rfl⟩
  | true =>
    have e2 := Lib.hid (show fullC l = bestI l by simp [fullC, hc])
    have e3 := Lib.hid (show fullN l = mostI l by simp [fullN, hc])
    rw [hc] at HG
    obtain ⟨hn1, hn2, hr⟩ := clubsB_true hc
    have HR := Lib.hid hr
    clear hc hr
    go_enter Try.func67, Try.ntmps67
    go_wp2_with fail
    refine HG.out.mono ?_
    rintro e w1 ⟨rfl, d1, rfl⟩
    go_wp2_with fail
    refine (clubSizes_any _ l _ (World.sl_ext intC_length h d1) hn2 HR.out).mono ?_
    rintro e w1 ⟨r, rfl, ⟨d2, rfl⟩, ho⟩
    have hso := sl_of_own intC_length ho
    go_wp2_with fail
    refine (max_ints _ (sizesL l) _ hso (by rw [sizesL_length]; omega) (by rw [sizesL_length]; omega)).mono ?_
    rintro e w1 ⟨rfl, d3, rfl⟩
    rw [sizesL_length, most_max]
    go_wp2_with fail
    refine (index_ints _ (sizesL l) _ _ (World.sl_ext intC_length hso d3) (by rw [sizesL_length]; omega)).mono ?_
    rintro e w1 ⟨rfl, d4, rfl⟩
    rw [best_idx]
    clear hso ho h
    go_wp2
    go_ret3
    rw [e2.out, e3.out]
    exact ⟨rfl, gain_ext (gain_ext (gain_ext ⟨_, rfl⟩ _) _) _⟩
theorem specFullestClub_any (v : Value) (l : List Int) (w : World) (h : w.sl intC 1 v l) (hl : l.length ≤ 1048576) :
    Calls Try.prog 68 #[v] w fun x w' => x = .returned (.tuple #[.int .i64 (fullC l), .int .i64 (fullN l), .bool (clubsB l)]) ∧ ∃ d, w' = w.ext d := by
  have HG := Lib.hid (l10Clubs_any _ l _ h hl)
  cases hc : clubsB l with
  | false =>
    have e2 := Lib.hid (show fullC l = 0 by simp [fullC, hc])
    have e3 := Lib.hid (show fullN l = 0 by simp [fullN, hc])
    rw [hc] at HG
    clear hc
    go_enter Try.func68, Try.ntmps68
    go_wp2_with (go_at_call 120; refine HG.out.mono ?_; rintro e w1 ⟨rfl, d1, rfl⟩)
    go_ret3
    rw [e2.out, e3.out]
    exact ⟨rfl, _, rfl⟩
  | true =>
    have e2 := Lib.hid (show fullC l = bestI l by simp [fullC, hc])
    have e3 := Lib.hid (show fullN l = mostI l by simp [fullN, hc])
    rw [hc] at HG
    obtain ⟨hn1, hn2, hr⟩ := clubsB_true hc
    have HR := Lib.hid hr
    clear hc hr
    go_enter Try.func68, Try.ntmps68
    go_wp2_with fail
    refine HG.out.mono ?_
    rintro e w1 ⟨rfl, d1, rfl⟩
    go_wp2_with fail
    refine (l10Largest_any _ l _ (World.sl_ext intC_length h d1) hl).mono ?_
    rintro e w1 ⟨rfl, d2, rfl⟩
    clear h
    go_wp2
    go_ret3
    rw [e2.out, e3.out]
    exact ⟨rfl, gain_ext ⟨_, rfl⟩ _⟩
end Go.Proofs.Ytbghmkjjooiikaa
