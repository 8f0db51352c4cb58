/- Texts laid together: spec.l1Has: a number stands in a list. Condition: at most 1048576 elements.; spec.l8Twice: a number stands in a list twice. Condition: at most 1048576 elements. -/
import Derived.Test.YtmcimgnobimicaaGreatRows
import Derived.Test.YtmcimgnobimicaaGreatG3
/- spec.l1Has: a number stands in a list. Condition: at most 1048576 elements. -/
namespace Go.Proofs.YtmcimgnobimicaaGreat
open Go.RowKit Go.Ori
theorem l1Has_any (v : Value) (l : List Int) (n : Int) (w : World) (h : w.sl intC 1 v l) (hl : l.length ≤ 1048576) :
    Calls Tryz.prog 53 #[v, .int .i64 n] w fun x w' => x = .returned (.bool (hasB l n)) ∧ ∃ d, w' = w.ext d := by
  obtain ⟨p, c, rfl, hp, hcap⟩ := h
  go_enter Tryz.func53, Tryz.ntmps53
  go_wp2
  go_loopw [5] (fun i wr => ∃ k : Nat, k ≤ l.length ∧ i = .int .i64 k ∧ (∀ (j : Nat) (hj : j < l.length), j < k → (n == l[j]) = false) ∧ ∃ d, wr = w.ext d) (fun i _ => l.length - (intOf i).toNat)
  case atStart => exact ⟨0, by omega, rfl, by simp, w.gained_refl⟩
  case round =>
    obtain ⟨k, hk, rfl, hno, d, rfl⟩ := hrel
    have HN := Lib.hid hno
    clear hno
    by_cases hlt : k < l.length
    · obtain ⟨b, o, rfl, hc⟩ := hp (by omega)
      have c0 := hc k hlt 0 (by omega)
      have H1 := Lib.hid (fun (h : (n == l[k]) = true) => hasB_yes hlt h)
      have H2 := Lib.hid (fun (h : (n == l[k]) = false) => (show ∀ (j : Nat) (hj : j < l.length), j < k + 1 → (n == l[j]) = false from fun j hj hjk => by
        by_cases e : j = k
        · subst e; exact h
        · exact HN.out j hj (by omega)))
      generalize l[k] = y at c0 H1 H2
      clear hc hp
      simp only [intC, List.getElem?_cons_zero, Nat.add_zero, Nat.mul_one] at c0
      have ob := World.oldB_of_cell c0
      cases hf : (y == n) with
      | true =>
        have H1' := Lib.hid (H1.out (by rw [BEq.comm]; exact hf))
        go_wp2
        go_ret
        exact ⟨ret_bool H1'.out.symm, _, rfl⟩
      | false =>
        have H2' := Lib.hid (H2.out (by rw [BEq.comm]; exact hf))
        go_wp2
        go_roundw
        case rel => exact ⟨k + 1, by omega, by go_num, H2'.out, _, rfl⟩
        case measure => simp [intOf]; omega
    · have HE := Lib.hid (hasB_no (l := l) (n := n) (fun j hj => HN.out j hj (by omega)))
      go_wp2
      go_ret
      exact ⟨ret_bool HE.out.symm, _, rfl⟩
end Go.Proofs.YtmcimgnobimicaaGreat
/- spec.l8Twice: a number stands in a list twice. Condition: at most 1048576 elements. -/
namespace Go.Proofs.YtmcimgnobimicaaGreat
open Go.RowKit Go.Ori
theorem l8Twice_any (v : Value) (l : List Int) (w : World) (h : w.sl intC 1 v l) (hl : l.length ≤ 1048576) :
    Calls Tryz.prog 29 #[v] w fun x w' => x = .returned (.bool (twiceB l)) ∧ ∃ d, w' = w.ext d := by
  have hs := Lib.hid h
  obtain ⟨p, c, rfl, hp, hcap⟩ := h
  go_enter Tryz.func29, Tryz.ntmps29
  go_wp2
  go_loopw [3] (fun i wr => ∃ k : Nat, k ≤ l.length ∧ i = .int .i64 k ∧ (∀ j, j < k → freshAt l j = true) ∧ ∃ d, wr = w.ext d) (fun i _ => l.length - (intOf i).toNat)
  case atStart => exact ⟨0, by omega, rfl, by simp, w.gained_refl⟩
  case round =>
    obtain ⟨k, hk, rfl, hno, d, rfl⟩ := hrel
    have HN := Lib.hid hno
    clear hno
    by_cases hlt : k < l.length
    · obtain ⟨b, o, rfl, hc⟩ := hp (by omega)
      have c0 := hc k hlt 0 (by omega)
      have H1 : Hid (freshAt l k = !hasB (l.take k) l[k]) := Lib.hid (freshAt_eq hlt)
      generalize l[k] = y at c0 H1
      have hck : k ≤ c := by omega
      clear hc hp
      simp only [intC, List.getElem?_cons_zero, Nat.add_zero, Nat.mul_one] at c0
      have ob := World.oldB_of_cell c0
      have HH := Lib.hid (fun w' hw' => l1Has_any (.slice (some ⟨b, o, none⟩) k c) (l.take k) y w' hw' (by rw [List.length_take]; omega))
      cases hf : hasB (l.take k) y with
      | true =>
        have H1' := Lib.hid (allB_no (f := freshAt l) hlt (by rw [H1.out, hf]; rfl))
        rw [hf] at HH
        go_wp2
        refine wp_region_gain (by kernel_rfl) (by kernel_rfl) ?_
        repeat (first | go_big_quiet_skip | (go_big_quiet_want; go_big_quiet_op; first | go_big_quiet_on | ((apply Exists.intro); (refine ⟨fun _ => ?_, ?_⟩); (· (go_at_call 53; exact Calls.gain (HH.out _ (sl_take (by with_reducible (repeat (first | exact hs.out | refine World.sl_ext intC_length ?_ _ | refine sl_alloc intC_length ?_ _ | refine sl_drew ?_))) hk)))); (go_big_quiet_on))))
        refine wpQuiet_nil ?_
        rintro _ ⟨d', rfl⟩
        go_wp2
        go_ret
        exact ⟨ret_bool (by rw [twiceB, H1'.out]; rfl), (by repeat (first | with_reducible (first | exact World.gained_refl _ | exact ⟨_, rfl⟩ | apply gain_ext | apply gain_alloc | apply gain_drewN | apply gain_drew) | (refine gain_setCell ?_ (by first | exact Nat.le_refl _ | exact World.size_ext _ _ | (simp; done) | (simp; omega)) _)))⟩
      | false =>
        have H2 := Lib.hid (step_all (f := freshAt l) HN.out (by rw [H1.out, hf]; rfl))
        rw [hf] at HH
        go_wp2
        refine wp_region_gain (by kernel_rfl) (by kernel_rfl) ?_
        repeat (first | go_big_quiet_skip | (go_big_quiet_want; go_big_quiet_op; first | go_big_quiet_on | ((apply Exists.intro); (refine ⟨fun _ => ?_, ?_⟩); (· (go_at_call 53; exact Calls.gain (HH.out _ (sl_take (by with_reducible (repeat (first | exact hs.out | refine World.sl_ext intC_length ?_ _ | refine sl_alloc intC_length ?_ _ | refine sl_drew ?_))) hk)))); (go_big_quiet_on))))
        refine wpQuiet_nil ?_
        rintro _ ⟨d', rfl⟩
        go_wp2
        go_roundw
        case rel => exact ⟨k + 1, by omega, by go_num, H2.out, (by repeat (first | with_reducible (first | exact World.gained_refl _ | exact ⟨_, rfl⟩ | apply gain_ext | apply gain_alloc | apply gain_drewN | apply gain_drew) | (refine gain_setCell ?_ (by first | exact Nat.le_refl _ | exact World.size_ext _ _ | (simp; done) | (simp; omega)) _)))⟩
        case measure => simp [intOf]; omega
    · have HE := Lib.hid (allB_yes (n := l.length) (f := freshAt l) (fun j hj => HN.out j (by omega)))
      go_wp2
      go_ret
      exact ⟨ret_bool (by rw [twiceB, HE.out]; rfl), _, rfl⟩
end Go.Proofs.YtmcimgnobimicaaGreat
