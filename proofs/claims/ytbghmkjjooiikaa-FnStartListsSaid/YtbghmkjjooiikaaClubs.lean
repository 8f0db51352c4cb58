/- impl.areClubs and spec.l10Clubs; the minutes. Condition: at most 1048576 clubs. -/
import Derived.Test.YtbghmkjjooiikaaIdxInts
import Derived.Test.YtbghmkjjooiikaaInside
import Derived.Test.YtbghmkjjooiikaaL1In
import Derived.Test.YtbghmkjjooiikaaP10
namespace Go.Proofs.Ytbghmkjjooiikaa
open Go.RowKit Go.Ori
theorem areClubs1_any (n : Int) (w : World) :
    Calls Try.prog 142 #[.int .i64 n] w fun e w' => e = .returned (.bool (!insB n 0 5)) ∧ w = w' := by
  go_enter Try.func142, Try.ntmps142
  go_wp2_with (go_at_call 88; refine (inside_any _ _ _ _).mono ?_; rintro e w1 ⟨rfl, rfl⟩)
  go_ret
  exact ⟨rfl, rfl⟩
theorem areClubs_any (v : Value) (l : List Int) (w : World) (h : w.sl intC 1 v l) (hl : l.length ≤ 1048576) :
    Calls Try.prog 115 #[v] w fun x w' => x = .returned (.bool (clubsB l)) ∧ ∃ d, w' = w.ext d := by
  have HC := Lib.hid (containsFunc_ints 142 #[] (fun n => !insB n 0 5) v l w h hl (fun _ _ => by kernel_rfl) (fun n d => (areClubs1_any n _).mono fun _ _ ⟨h1, h2⟩ => ⟨h1, World.same_gain h2⟩))
  have HA := Lib.hid (clubsB_alt l)
  obtain ⟨p, c, rfl, hp, hcap⟩ := h
  clear hp
  go_enter Try.func115, Try.ntmps115
  go_wp2_with (first | (go_at_call 88; refine (inside_any _ _ _ _).mono ?_; rintro e w1 ⟨rfl, rfl⟩) | (go_at_call 139; refine HC.out.mono ?_; rintro e w1 ⟨rfl, d1, rfl⟩))
  all_goals go_ret
  · exact ⟨ret_bool (by rw [← HA.out]; simp [*]), _, rfl⟩
  · exact ⟨ret_bool (by rw [← HA.out]; simp [*]), w.gained_refl⟩
theorem l10Clubs_any (v : Value) (l : List Int) (w : World) (h : w.sl intC 1 v l) (hl : l.length ≤ 1048576) :
    Calls Try.prog 120 #[v] w fun x w' => x = .returned (.bool (clubsB l)) ∧ ∃ d, w' = w.ext d := by
  obtain ⟨p, c, rfl, hp, hcap⟩ := h
  go_enter Try.func120, Try.ntmps120
  go_wp2
  go_loopw [3] (fun i wr => ∃ k : Nat, k ≤ l.length ∧ i = .int .i64 k ∧ (∀ (j : Nat) (hj : j < l.length), j < k → insB l[j] 0 5 = true) ∧ ∃ d, wr = w.ext d) (fun i _ => l.length - (intOf i).toNat)
  case atStart => exact ⟨0, by omega, rfl, by simp, w.gained_refl⟩
  case round =>
    obtain ⟨k, hk, rfl, hno, d, rfl⟩ := hrel
    have HN := Lib.hid hno
    clear hno
    by_cases hlt : k < l.length
    · obtain ⟨b, o, rfl, hc⟩ := hp (by omega)
      have c0 := hc k hlt 0 (by omega)
      have H1 := Lib.hid (fun (h : insB l[k] 0 5 = false) => (show clubsB l = false by
        unfold clubsB
        rw [Bool.and_eq_false_iff]
        refine .inl (List.all_eq_false.2 ⟨_, List.getElem_mem hlt, by simp [h]⟩)))
      have H2 := Lib.hid (fun (h : insB l[k] 0 5 = true) => (show ∀ (j : Nat) (hj : j < l.length), j < k + 1 → insB l[j] 0 5 = true from fun j hj hjk => by
        by_cases e : j = k
        · subst e; exact h
        · exact HN.out j hj (by omega)))
      generalize l[k] = y at c0 H1 H2
      clear hc hp
      simp only [intC, List.getElem?_cons_zero, Nat.add_zero, Nat.mul_one] at c0
      have ob := World.oldB_of_cell c0
      go_wp2_with (go_at_call 84; refine (l1In_any _ _ _ _).mono ?_; rintro e w1 ⟨rfl, rfl⟩)
      · go_ret
        exact ⟨ret_bool (by rw [H1.out (by simpa using ‹(!insB y 0 5) = true›)]), _, rfl⟩
      · go_roundw
        case rel => exact ⟨k + 1, by omega, by go_num, H2.out (by simpa using ‹(!insB y 0 5) = false›), _, rfl⟩
        case measure => simp [intOf]; omega
    · go_wp2_with (go_at_call 84; refine (l1In_any _ _ _ _).mono ?_; rintro e w1 ⟨rfl, rfl⟩)
      go_ret
      refine ⟨ret_bool ?_, _, rfl⟩
      have : l.all (fun n => insB n 0 5) = true := by
        rw [List.all_eq_true]
        intro n hn
        obtain ⟨j, hj, rfl⟩ := List.getElem_of_mem hn
        exact HN.out j hj (by omega)
      unfold clubsB
      rw [this]
      rfl
theorem areMinutes_any (a b : Int) (w : World) :
    Calls Try.prog 112 #[.int .i64 a, .int .i64 b] w fun e w' => e = .returned (.bool (minutesB a b)) ∧ w = w' := by
  go_enter Try.func112, Try.ntmps112
  go_wp2_with (go_at_call 88; refine (inside_any _ _ _ _).mono ?_; rintro e w1 ⟨rfl, rfl⟩)
  all_goals go_ret
  all_goals exact ⟨ret_bool (by simp [minutesB, *]), rfl⟩
theorem l10Minutes_any (a b : Int) (w : World) :
    Calls Try.prog 114 #[.int .i64 a, .int .i64 b] w fun e w' => e = .returned (.bool (minutesB a b)) ∧ w = w' := by
  go_enter Try.func114, Try.ntmps114
  go_wp2_with (go_at_call 84; refine (l1In_any _ _ _ _).mono ?_; rintro e w1 ⟨rfl, rfl⟩)
  all_goals go_ret
  all_goals exact ⟨ret_bool (by simp [minutesB, *]), rfl⟩
end Go.Proofs.Ytbghmkjjooiikaa
