/- spec.l10List, spec.IsStartList, impl.IsStartList. Condition: at most 1048576 elements. -/
import Derived.Test.YtbghmkjjooiikaaClubs
import Derived.Test.YtbghmkjjooiikaaHas
namespace Go.Proofs.Ytbghmkjjooiikaa
open Go.RowKit Go.Ori
theorem l10List_any (v v2 : Value) (l l2 : List Int) (w : World) (h : w.sl intC 1 v l) (h2 : w.sl intC 1 v2 l2) (hl : l.length ≤ 1048576) (hl2 : l2.length ≤ 1048576) :
    Calls Try.prog 113 #[v, v2] w fun x w' => x = .returned (.bool (startsB l l2)) ∧ ∃ d, w' = w.ext d := by
  have hs := Lib.hid h
  have hs2 := Lib.hid h2
  obtain ⟨p, c, rfl, _⟩ := h
  obtain ⟨p2, c2, rfl, hp, hcap⟩ := h2
  have HNo := Lib.hid (fun (k : Nat) (hk : k < l2.length) (hb : goodAt l.length l2 k = false) => startsB_no (l := l) hk hb)
  go_enter Try.func113, Try.ntmps113
  go_wp2
  go_loopw [5] (fun i wr => ∃ k : Nat, k ≤ l2.length ∧ i = .int .i64 k ∧ (∀ j, j < k → goodAt l.length l2 j = true) ∧ ∃ d, wr = w.ext d) (fun i _ => l2.length - (intOf i).toNat)
  case atStart => exact ⟨0, by omega, rfl, by simp, w.gained_refl⟩
  case round =>
    obtain ⟨k, hk, rfl, hno, d, rfl⟩ := hrel
    have HN := Lib.hid hno
    clear hno
    by_cases hlt : k < l2.length
    · obtain ⟨b, o, rfl, hc⟩ := hp (by omega)
      have c0 := hc k hlt 0 (by omega)
      have H1 := Lib.hid (goodAt_eq (n := l.length) hlt)
      generalize l2[k] = y at c0 H1
      have hck : k ≤ c2 := by omega
      clear hc hp
      simp only [intC, List.getElem?_cons_zero, Nat.add_zero, Nat.mul_one] at c0
      have ob := World.oldB_of_cell c0
      have hlen : (k : Int) ≤ (l2.length : Int) := by omega
      cases hv : insB y 0 ((l.length : Int) - 1) with
      | false =>
        have H3 := Lib.hid (HNo.out k hlt (by rw [H1.out, hv]; rfl))
        go_wp2
        refine wp_region_gain (by kernel_rfl) (by kernel_rfl) ?_
        repeat (first | go_big_quiet_skip | (go_big_quiet_want; go_big_quiet_op; first | go_big_quiet_on | ((apply Exists.intro); (refine ⟨fun _ => ?_, ?_⟩); (· (go_at_call 84; exact Calls.gain_same (l1In_any _ _ _ _))); (go_big_quiet_on))))
        refine wpQuiet_nil ?_
        rintro _ ⟨d', rfl⟩
        go_wp2
        go_ret
        exact ⟨ret_bool H3.out.symm, gain_ext ⟨_, rfl⟩ _⟩
      | true =>
        cases hf : hasB (l2.take k) y with
        | true =>
          have H3 := Lib.hid (HNo.out k hlt (by rw [H1.out, hv, hf]; rfl))
          go_wp2
          refine wp_region_gain (by kernel_rfl) (by kernel_rfl) ?_
          repeat (first | go_big_quiet_skip | (go_big_quiet_want; go_big_quiet_op; first | go_big_quiet_on | ((apply Exists.intro); (refine ⟨fun _ => ?_, ?_⟩); (· (first | (go_at_call 84; exact Calls.gain_same (l1In_any _ _ _ _)) | (go_at_call 129; exact Calls.gain (l1Has_any _ (l2.take k) y _ (World.sl_ext intC_length (World.sl_ext intC_length (sl_take hs2.out hk) d) _) (by rw [List.length_take]; omega))))); (go_big_quiet_on))))
          refine wpQuiet_nil ?_
          rintro _ ⟨d', rfl⟩
          go_wp2
          go_ret
          exact ⟨ret_bool H3.out.symm, gain_ext ⟨_, rfl⟩ _⟩
        | false =>
          have H3 := Lib.hid (step_all (f := goodAt l.length l2) HN.out (by rw [H1.out, hv, hf]; rfl))
          go_wp2
          refine wp_region_gain (by kernel_rfl) (by kernel_rfl) ?_
          repeat (first | go_big_quiet_skip | (go_big_quiet_want; go_big_quiet_op; first | go_big_quiet_on | ((apply Exists.intro); (refine ⟨fun _ => ?_, ?_⟩); (· (first | (go_at_call 84; exact Calls.gain_same (l1In_any _ _ _ _)) | (go_at_call 129; exact Calls.gain (l1Has_any _ (l2.take k) y _ (World.sl_ext intC_length (World.sl_ext intC_length (sl_take hs2.out hk) d) _) (by rw [List.length_take]; omega))))); (go_big_quiet_on))))
          refine wpQuiet_nil ?_
          rintro _ ⟨d', rfl⟩
          go_wp2
          go_roundw
          case rel => exact ⟨k + 1, by omega, by go_num, H3.out, gain_ext ⟨_, rfl⟩ _⟩
          case measure => simp [intOf]; omega
    · have HY := Lib.hid (startsB_yes (l := l) (l2 := l2) (fun j hj => HN.out j (by omega)))
      have HC := Lib.hid (l10Clubs_any _ l _ (World.sl_ext intC_length hs.out d) hl)
      go_wp2_with (go_at_call 120; refine HC.out.mono ?_; rintro e w1 ⟨rfl, d1, rfl⟩)
      · go_ret
        exact ⟨ret_bool (by rw [HY.out]; simp [*]; rw [Bool.eq_iff_iff]; simp; omega), gain_ext ⟨_, rfl⟩ _⟩
      · go_ret
        exact ⟨ret_bool (by rw [HY.out]; simp [*]), gain_ext ⟨_, rfl⟩ _⟩
theorem specIsStartList_any (v v2 : Value) (l l2 : List Int) (w : World) (h : w.sl intC 1 v l) (h2 : w.sl intC 1 v2 l2) (hl : l.length ≤ 1048576) (hl2 : l2.length ≤ 1048576) :
    Calls Try.prog 65 #[v, v2] w fun x w' => x = .returned (.tuple #[.bool (startsB l l2), .bool (clubsB l)]) ∧ ∃ d, w' = w.ext d := by
  cases hc : clubsB l with
  | false =>
    have HS := Lib.hid (show startsB l l2 = false by rw [startsB, hc]; rfl)
    go_enter Try.func65, Try.ntmps65
    go_wp2_with fail
    refine (l10Clubs_any _ l _ h hl).mono ?_
    rintro e w1 ⟨rfl, d1, rfl⟩
    rw [hc]
    go_wp2
    go_ret2
    exact ⟨by rw [HS.out]; rfl, _, rfl⟩
  | true =>
    go_enter Try.func65, Try.ntmps65
    go_wp2_with fail
    refine (l10Clubs_any _ l _ h hl).mono ?_
    rintro e w1 ⟨rfl, d1, rfl⟩
    rw [hc]
    go_wp2_with fail
    refine (l10List_any _ _ l l2 _ (World.sl_ext intC_length h d1) (World.sl_ext intC_length h2 d1) hl hl2).mono ?_
    rintro e w1 ⟨rfl, d2, rfl⟩
    go_wp2
    go_ret2
    exact ⟨rfl, gain_ext ⟨_, rfl⟩ _⟩
end Go.Proofs.Ytbghmkjjooiikaa
