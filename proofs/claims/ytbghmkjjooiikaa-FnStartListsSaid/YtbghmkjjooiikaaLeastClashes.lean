/- impl.LeastClashes, spec.LeastClashes. Condition: at most 1048576 clubs. -/
import Derived.Test.YtbghmkjjooiikaaClubs
import Derived.Test.YtbghmkjjooiikaaClubSizes
import Derived.Test.YtbghmkjjooiikaaMaxInts
import Derived.Test.YtbghmkjjooiikaaLargest
namespace Go.Proofs.Ytbghmkjjooiikaa
open Go.RowKit Go.Ori
theorem leastClashes_any (v : Value) (l : List Int) (w : World) (h : w.sl intC 1 v l) (hl : l.length ≤ 1048576) :
    Calls Try.prog 59 #[v] w fun x w' => x = .returned (.tuple #[.int .i64 (leastI l), .bool (clubsB l)]) ∧ ∃ d, w' = w.ext d := by
  have HG := Lib.hid (areClubs_any _ l _ h hl)
  cases hc : clubsB l with
  | false =>
    have e2 := Lib.hid (show leastI l = 0 by simp [leastI, hc])
    rw [hc] at HG
    clear hc
    go_enter Try.func59, Try.ntmps59
    go_wp2_with (go_at_call 115; refine HG.out.mono ?_; rintro e w1 ⟨rfl, d1, rfl⟩)
    go_ret2
    rw [e2.out]
    exact ⟨rfl, _, rfl⟩
  | true =>
    have e2 := Lib.hid (show leastI l = (if 0 < 2 * mostI l - l.length - 1 then 2 * mostI l - l.length - 1 else 0) by simp [leastI, hc])
    rw [hc] at HG
    obtain ⟨hn1, hn2, hr⟩ := clubsB_true hc
    have hb := mostI_bd l
    have hb1 := hb.1
    have hb2 : mostI l ≤ 8 := by omega
    have HR := Lib.hid hr
    clear hc hb hr
    go_enter Try.func59, Try.ntmps59
    go_wp2_with fail
    refine HG.out.mono ?_
    rintro e w1 ⟨rfl, d1, rfl⟩
    go_wp2_with fail
    refine (clubSizes_any _ l _ (World.sl_ext intC_length h d1) hn2 HR.out).mono ?_
    rintro e w1 ⟨r, rfl, ⟨d2, rfl⟩, ho⟩
    have hso := sl_of_own intC_length ho
    go_wp2_with fail
    refine (max_ints _ (sizesL l) _ hso (by rw [sizesL_length]; omega) (by rw [sizesL_length]; omega)).mono ?_
    rintro e w1 ⟨rfl, d3, rfl⟩
    rw [sizesL_length, most_max]
    obtain ⟨p, c, rfl, _⟩ := id h
    clear hso ho h
    go_wp2
    all_goals go_ret2
    all_goals refine ⟨ret_ib (by rw [e2.out]; split <;> omega), ?_⟩
    all_goals (repeat (first | exact World.gained_refl _ | exact ⟨_, rfl⟩ | apply gain_ext | apply gain_alloc | apply gain_drewN | apply gain_drew | (refine gain_setCell ?_ (by first | exact Nat.le_refl _ | exact World.size_ext _ _ | (simp; done) | (simp; omega)) _)))
theorem specLeastClashes_any (v : Value) (l : List Int) (w : World) (h : w.sl intC 1 v l) (hl : l.length ≤ 1048576) :
    Calls Try.prog 60 #[v] w fun x w' => x = .returned (.tuple #[.int .i64 (leastI l), .bool (clubsB l)]) ∧ ∃ d, w' = w.ext d := by
  have HG := Lib.hid (l10Clubs_any _ l _ h hl)
  cases hc : clubsB l with
  | false =>
    have e2 := Lib.hid (show leastI l = 0 by simp [leastI, hc])
    rw [hc] at HG
    clear hc
    go_enter Try.func60, Try.ntmps60
    go_wp2_with (go_at_call 120; refine HG.out.mono ?_; rintro e w1 ⟨rfl, d1, rfl⟩)
    go_ret2
    rw [e2.out]
    exact ⟨rfl, _, rfl⟩
  | true =>
    have e2 := Lib.hid (show leastI l = (if 0 < 2 * mostI l - l.length - 1 then 2 * mostI l - l.length - 1 else 0) by simp [leastI, hc])
    rw [hc] at HG
    obtain ⟨hn1, hn2, hr⟩ := clubsB_true hc
    have hb := mostI_bd l
    have hb1 := hb.1
    have hb2 : mostI l ≤ 8 := by omega
    have HR := Lib.hid hr
    clear hc hb hr
    go_enter Try.func60, Try.ntmps60
    go_wp2_with fail
    refine HG.out.mono ?_
    rintro e w1 ⟨rfl, d1, rfl⟩
    go_wp2_with fail
    refine (l10Largest_any _ l _ (World.sl_ext intC_length h d1) hl).mono ?_
    rintro e w1 ⟨rfl, d2, rfl⟩
    obtain ⟨p, c, rfl, _⟩ := id h
    clear h
    go_wp2_with (go_at_call 126; refine (l1Most_any _ _ _).mono ?_; rintro e w1 ⟨rfl, rfl⟩)
    all_goals go_ret2
    all_goals refine ⟨ret_ib (by rw [e2.out]; split <;> omega), ?_⟩
    all_goals (repeat (first | exact World.gained_refl _ | exact ⟨_, rfl⟩ | apply gain_ext | apply gain_alloc | apply gain_drewN | apply gain_drew | (refine gain_setCell ?_ (by first | exact Nat.le_refl _ | exact World.size_ext _ _ | (simp; done) | (simp; omega)) _)))
end Go.Proofs.Ytbghmkjjooiikaa
