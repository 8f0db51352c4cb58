/- impl.LastStart and spec.LastStart. Condition: at most 1048576 clubs. -/
import Derived.Test.YtbghmkjjooiikaaClubs
namespace Go.Proofs.Ytbghmkjjooiikaa
open Go.RowKit Go.Ori
theorem lastStart_any (v : Value) (l : List Int) (a b : Int) (w : World) (h : w.sl intC 1 v l) (hl : l.length ≤ 1048576) :
    Calls Try.prog 45 #[v, .int .i64 a, .int .i64 b] w fun x w' => x = .returned (.tuple #[.int .i64 (lastI l a b), .bool (lastB l a b)]) ∧ ∃ d, w' = w.ext d := by
  have HC := Lib.hid (areClubs_any v l w h hl)
  obtain ⟨p, c, rfl, hp, hcap⟩ := h
  clear hp
  cases hc : clubsB l with
  | false =>
    rw [hc] at HC
    have e1 : lastB l a b = false := by simp [lastB, hc]
    rw [lastI, e1]
    clear hc e1
    go_enter Try.func45, Try.ntmps45
    go_wp2_with (go_at_call 115; refine HC.out.mono ?_; rintro e w1 ⟨rfl, d1, rfl⟩)
    go_ret2
    exact ⟨rfl, _, rfl⟩
  | true =>
    rw [hc] at HC
    obtain ⟨hn1, hn2, _⟩ := clubsB_true hc
    cases hm : minutesB a b with
    | false =>
      have e1 : lastB l a b = false := by simp [lastB, hm]
      rw [lastI, e1]
      have HM := Lib.hid hm
      clear hc e1
      go_enter Try.func45, Try.ntmps45
      go_wp2_with (first | (go_at_call 115; refine HC.out.mono ?_; rintro e w1 ⟨rfl, d1, rfl⟩) | (go_at_call 112; refine (areMinutes_any _ _ _).mono ?_; rintro e w1 ⟨rfl, rfl⟩))
      go_ret2
      exact ⟨rfl, _, rfl⟩
    | true =>
      have e1 : lastB l a b = true := by simp [lastB, hc, hm]
      rw [lastI, e1]
      obtain ⟨⟨ha1, ha2⟩, hb1, hb2⟩ := minutesB_true hm
      have hp1 : 0 ≤ ((l.length : Int) - 1) * b := Int.mul_nonneg (by omega) (by omega)
      have hp2 : ((l.length : Int) - 1) * b ≤ 7 * 10 := Int.mul_le_mul (by omega) hb2 (by omega) (by omega)
      clear hc e1
      go_enter Try.func45, Try.ntmps45
      go_wp2_with (first | (go_at_call 115; refine HC.out.mono ?_; rintro e w1 ⟨rfl, d1, rfl⟩) | (go_at_call 112; refine (areMinutes_any _ _ _).mono ?_; rintro e w1 ⟨rfl, rfl⟩))
      go_ret2
      exact ⟨rfl, _, rfl⟩
theorem specLastStart_any (v : Value) (l : List Int) (a b : Int) (w : World) (h : w.sl intC 1 v l) (hl : l.length ≤ 1048576) :
    Calls Try.prog 52 #[v, .int .i64 a, .int .i64 b] w fun x w' => x = .returned (.tuple #[.int .i64 (lastI l a b), .bool (lastB l a b)]) ∧ ∃ d, w' = w.ext d := by
  have HC := Lib.hid (l10Clubs_any v l w h hl)
  obtain ⟨p, c, rfl, hp, hcap⟩ := h
  clear hp
  cases hc : clubsB l with
  | false =>
    rw [hc] at HC
    have e1 : lastB l a b = false := by simp [lastB, hc]
    rw [lastI, e1]
    clear hc e1
    go_enter Try.func52, Try.ntmps52
    go_wp2_with (go_at_call 120; refine HC.out.mono ?_; rintro e w1 ⟨rfl, d1, rfl⟩)
    go_ret2
    exact ⟨rfl, _, rfl⟩
  | true =>
    rw [hc] at HC
    obtain ⟨hn1, hn2, _⟩ := clubsB_true hc
    cases hm : minutesB a b with
    | false =>
      have e1 : lastB l a b = false := by simp [lastB, hm]
      rw [lastI, e1]
      have HM := Lib.hid hm
      clear hc e1
      go_enter Try.func52, Try.ntmps52
      go_wp2_with (first | (go_at_call 120; refine HC.out.mono ?_; rintro e w1 ⟨rfl, d1, rfl⟩) | (go_at_call 114; refine (l10Minutes_any _ _ _).mono ?_; rintro e w1 ⟨rfl, rfl⟩))
      go_ret2
      exact ⟨rfl, _, rfl⟩
    | true =>
      have e1 : lastB l a b = true := by simp [lastB, hc, hm]
      rw [lastI, e1]
      obtain ⟨⟨ha1, ha2⟩, hb1, hb2⟩ := minutesB_true hm
      have hp1 : 0 ≤ ((l.length : Int) - 1) * b := Int.mul_nonneg (by omega) (by omega)
      have hp2 : ((l.length : Int) - 1) * b ≤ 7 * 10 := Int.mul_le_mul (by omega) hb2 (by omega) (by omega)
      clear hc e1
      go_enter Try.func52, Try.ntmps52
      go_wp2_with (first | (go_at_call 120; refine HC.out.mono ?_; rintro e w1 ⟨rfl, d1, rfl⟩) | (go_at_call 114; refine (l10Minutes_any _ _ _).mono ?_; rintro e w1 ⟨rfl, rfl⟩))
      go_ret2
      exact ⟨rfl, _, rfl⟩
end Go.Proofs.Ytbghmkjjooiikaa
