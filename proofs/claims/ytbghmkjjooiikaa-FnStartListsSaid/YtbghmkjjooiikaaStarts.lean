/- impl.isStartList, impl.areStarts. Condition: at most 1048576 elements. -/
import Derived.Test.YtbghmkjjooiikaaTwice
import Derived.Test.YtbghmkjjooiikaaClubs
namespace Go.Proofs.Ytbghmkjjooiikaa
open Go.RowKit Go.Ori
theorem isStartList1_any (s : Int) (a : Addr) (p : Option Addr) (n c : Nat) (w : World) (hn : n ≤ 1048576) (ha : w.cell? a = some (.slice p n c)) :
    Calls Try.prog 145 #[.int .i64 s, .pointer (some a)] w fun x w' => x = .returned (.bool (!insB s 0 ((n : Int) - 1))) ∧ w = w' := by
  go_enter Try.func145, Try.ntmps145
  go_wp2_with (go_at_call 88; refine (inside_any _ _ _ _).mono ?_; rintro e w1 ⟨rfl, rfl⟩)
  go_ret
  exact ⟨rfl, rfl⟩
theorem isStartList_any (v v2 : Value) (l l2 : List Int) (w : World) (h : w.sl intC 1 v l) (h2 : w.sl intC 1 v2 l2) (hl : l.length ≤ 1048576) (hl2 : l2.length ≤ 1048576) :
    Calls Try.prog 119 #[v, v2] w fun x w' => x = .returned (.bool (listB l l2)) ∧ ∃ d, w' = w.ext d := by
  obtain ⟨p, c, rfl, _⟩ := id h
  obtain ⟨p2, c2, rfl, _⟩ := id h2
  by_cases hlen : ¬ l2.length = l.length
  · have e : listB l l2 = false := by simp [listB, hlen]
    rw [e]
    have hne : ((l2.length : Int) == (l.length : Int)) = false := by simp; omega
    clear e hlen
    go_enter Try.func119, Try.ntmps119
    go_wp2
    go_ret
    exact ⟨rfl, gain_alloc w.gained_refl _⟩
  have heq : l2.length = l.length := by omega
  have HL : Hid (listB l l2 = (!twiceB l2 && !(l2.any fun s => !insB s 0 ((l.length : Int) - 1)))) := Lib.hid (by simp [listB, heq])
  have heq' : ((l2.length : Int) == (l.length : Int)) = true := by simp; omega
  clear heq hlen
  go_enter Try.func119, Try.ntmps119
  go_wp2_with fail
  refine (hasTwice_any _ l2 _ (sl_alloc intC_length h2 _) hl2).mono ?_
  rintro e w1 ⟨rfl, d1, rfl⟩
  cases ht : twiceB l2 with
  | true =>
    have H1 := Lib.hid (show listB l l2 = false by rw [HL.out, ht]; rfl)
    go_wp2
    go_ret
    exact ⟨ret_bool H1.out.symm, gain_ext (gain_alloc w.gained_refl _) _⟩
  | false =>
    have H1 := Lib.hid (show listB l l2 = !(l2.any fun s => !insB s 0 ((l.length : Int) - 1)) by rw [HL.out, ht]; rfl)
    go_wp2_with fail
    refine (containsFunc_ints 145 _ (fun s => !insB s 0 ((l.length : Int) - 1)) _ l2 _ (World.sl_ext intC_length (sl_alloc intC_length h2 _) d1) hl2 (fun _ _ => by kernel_rfl) (fun s d => ?hcl)).mono ?_
    case hcl =>
      refine Calls.mono (isStartList1_any s _ p l.length c _ hl ?_) ?_
      · simp [go_sem]
      · exact fun _ _ ⟨h1, h2⟩ => ⟨h1, World.same_gain h2⟩
    rintro e w1 ⟨rfl, d2, rfl⟩
    go_wp2
    go_ret
    exact ⟨ret_bool H1.out.symm, gain_ext (gain_ext (gain_alloc w.gained_refl _) _) _⟩
theorem areStarts_any (v v2 : Value) (l l2 : List Int) (w : World) (h : w.sl intC 1 v l) (h2 : w.sl intC 1 v2 l2) (hl : l.length ≤ 1048576) (hl2 : l2.length ≤ 1048576) :
    Calls Try.prog 111 #[v, v2] w fun x w' => x = .returned (.bool (startsB l l2)) ∧ ∃ d, w' = w.ext d := by
  cases hc : clubsB l with
  | true =>
    have HS := Lib.hid (show startsB l l2 = listB l l2 by rw [startsB, hc]; rfl)
    go_enter Try.func111, Try.ntmps111
    go_wp2_with fail
    refine (areClubs_any _ l _ h hl).mono ?_
    rintro e w1 ⟨rfl, d1, rfl⟩
    rw [hc]
    go_wp2_with fail
    refine (isStartList_any _ _ l l2 _ (World.sl_ext intC_length h d1) (World.sl_ext intC_length h2 d1) hl hl2).mono ?_
    rintro e w1 ⟨rfl, d2, rfl⟩
    go_wp2
    go_ret
    exact ⟨ret_bool HS.out.symm, gain_ext ⟨_, rfl⟩ _⟩
  | false =>
    have HS := Lib.hid (show startsB l l2 = false by rw [startsB, hc]; rfl)
    go_enter Try.func111, Try.ntmps111
    go_wp2_with fail
    refine (areClubs_any _ l _ h hl).mono ?_
    rintro e w1 ⟨rfl, d1, rfl⟩
    rw [hc]
    go_wp2
    go_ret
    exact ⟨ret_bool HS.out.symm, _, rfl⟩
end Go.Proofs.Ytbghmkjjooiikaa
