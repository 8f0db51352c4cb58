/- Texts laid together: slices.Min over ints. Conditions: at least one and at most 1048576 elements.; impl.hasTwice: a number stands in a list twice. Condition: at most 1048576 elements.; spec.l1Has: a number stands in a list. Condition: at most 1048576 elements.; spec.l8Twice: a number stands in a list twice. Condition: at most 1048576 elements. -/
import Derived.Test.YtloefghmidlceaaRows
import Derived.Test.YtloefghmidlceaaG3
import Derived.Test.YtloefghmidlceaaG34
/- slices.Min over ints. Conditions: at least one and at most 1048576 elements. -/
namespace Go.Ori
/-- The least of the first k + 1. -/
def minN (l : List Int) : Nat → Int
  | 0 => l.getD 0 0
  | k + 1 => if l.getD (k + 1) 0 < minN l k then l.getD (k + 1) 0 else minN l k
theorem minN_lt (l : List Int) (c : Int) : ∀ k, k < l.length → (minN l k < c ↔ ∃ x ∈ l.take (k + 1), x < c)
  | 0, h => by
    rw [minN, List.getD_eq_getElem?_getD, List.getElem?_eq_getElem h, List.take_succ_eq_append_getElem h]
    simp
  | k + 1, h => by
    have ih := minN_lt l c k (by omega)
    rw [minN, List.getD_eq_getElem?_getD, List.getElem?_eq_getElem h, List.take_succ_eq_append_getElem h, Option.getD_some]
    simp only [List.mem_append, List.mem_singleton]
    constructor
    · intro h1
      split at h1
      · exact ⟨_, .inr rfl, h1⟩
      · obtain ⟨x, hx, hc⟩ := ih.1 h1
        exact ⟨x, .inl hx, hc⟩
    · rintro ⟨x, hx | rfl, hc⟩
      · have := ih.2 ⟨x, hx, hc⟩
        split <;> omega
      · split <;> omega
theorem min_any {l : List Int} (h : 0 < l.length) : decide (minN l (l.length - 1) < 3) = l.any fun x => decide (x < 3) := by
  rw [Bool.eq_iff_iff, decide_eq_true_eq, minN_lt l 3 _ (by omega), List.any_eq_true, show l.length - 1 + 1 = l.length by omega, List.take_length]
  simp
end Go.Ori
namespace Go.Proofs.Ytloefghmidlceaa
open Go.RowKit Go.Ori
theorem min_ints (v : Value) (l : List Int) (w : World) (h : w.sl intC 1 v l) (h0 : 0 < l.length) (hl : l.length ≤ 1048576) :
    Calls Try.prog 101 #[v] w fun x w' => x = .returned (.int .i64 (minN l (l.length - 1))) ∧ ∃ d, w' = w.ext d := by
  have hs := Lib.hid h
  obtain ⟨p, c, rfl, _⟩ := h
  obtain ⟨b, o, rfl⟩ := sl_some hs.out h0
  have hcell := fun k (hk : k < l.length) => sl_int hs.out hk
  have HCELL := Lib.hid hcell
  have c0 := hcell 0 h0
  have HZ := Lib.hid (show minN l 0 = l[0] by rw [minN, List.getD_eq_getElem?_getD, List.getElem?_eq_getElem h0]; rfl)
  generalize l[0] = y0 at c0 HZ
  clear hcell
  simp only [Nat.add_zero] at c0
  have ob := World.oldB_of_cell c0
  go_enter Try.func101, Try.ntmps101
  go_wp2
  clear c0
  go_loopw [3, 4] (fun t i wr => ∃ k : Nat, k + 1 ≤ l.length ∧ i = .int .i64 ((k : Int) + 1) ∧ t = .int .i64 (minN l k) ∧ ∃ d, wr = w.ext d) (fun _ i _ => l.length - (intOf i).toNat)
  case atStart => exact ⟨0, by omega, rfl, by rw [HZ.out], w.gained_refl⟩
  case round =>
    obtain ⟨k, hk, rfl, rfl, d, rfl⟩ := hrel
    by_cases hlt : k + 1 < l.length
    · have c1 := HCELL.out (k + 1) hlt
      have HS := Lib.hid (show minN l (k + 1) = if l[k + 1] < minN l k then l[k + 1] else minN l k by rw [minN, List.getD_eq_getElem?_getD, List.getElem?_eq_getElem hlt]; rfl)
      generalize l[k + 1] = y at c1 HS
      generalize hm : minN l k = m at HS
      clear hm
      by_cases hcmp : y < m
      · have HS' := Lib.hid (HS.out.trans (if_pos hcmp))
        go_wp2
        go_roundw
        case rel => exact ⟨k + 1, by omega, by go_num, by rw [HS'.out], _, rfl⟩
        case measure => simp [intOf]; omega
      · have HS' := Lib.hid (HS.out.trans (if_neg hcmp))
        go_wp2
        go_roundw
        case rel => exact ⟨k + 1, by omega, by go_num, by rw [HS'.out], _, rfl⟩
        case measure => simp [intOf]; omega
    · go_wp2
      go_ret
      obtain rfl : k = l.length - 1 := by omega
      exact ⟨rfl, _, rfl⟩
end Go.Proofs.Ytloefghmidlceaa
/- impl.hasTwice: a number stands in a list twice. Condition: at most 1048576 elements. -/
namespace Go.Proofs.Ytloefghmidlceaa
open Go.RowKit Go.Ori
theorem hasTwice_any (v : Value) (l : List Int) (w : World) (h : w.sl intC 1 v l) (hl : l.length ≤ 1048576) :
    Calls Try.prog 100 #[v] w fun x w' => x = .returned (.bool (twiceB l)) ∧ ∃ d, w' = w.ext d := by
  have hs := Lib.hid h
  obtain ⟨p, c, rfl, hp, hcap⟩ := h
  go_enter Try.func100, Try.ntmps100
  go_wp2
  go_loopw [7] (fun i wr => ∃ k : Nat, k ≤ l.length ∧ i = .int .i64 k ∧ (∀ j, j < k → freshAt l j = true) ∧ ∃ d, wr = w.ext d) (fun i _ => l.length - (intOf i).toNat)
  case atStart => exact ⟨0, by omega, rfl, by simp, w.gained_refl⟩
  case round =>
    obtain ⟨k, hk, rfl, hno, d, rfl⟩ := hrel
    have HN := Lib.hid hno
    clear hno
    by_cases hlt : k < l.length
    · obtain ⟨b, o, rfl, hc⟩ := hp (by omega)
      have c0 := hc k hlt 0 (by omega)
      have H1 : Hid (freshAt l k = !hasB (l.take k) l[k]) := Lib.hid (freshAt_eq hlt)
      generalize l[k] = y at c0 H1
      have hck : k ≤ c := by omega
      clear hc hp
      simp only [intC, List.getElem?_cons_zero, Nat.add_zero, Nat.mul_one] at c0
      have ob := World.oldB_of_cell c0
      go_wp2_with fail
      refine (contains_ints _ (l.take k) y _ (World.sl_ext intC_length (sl_take hs.out hk) d) (by rw [List.length_take]; omega)).mono ?_
      rintro e w1 ⟨rfl, d1, rfl⟩
      cases hf : hasB (l.take k) y with
      | true =>
        have H1' := Lib.hid (allB_no (f := freshAt l) hlt (by rw [H1.out, hf]; rfl))
        go_wp2
        go_ret
        exact ⟨ret_bool (by rw [twiceB, H1'.out]; rfl), gain_ext ⟨_, rfl⟩ _⟩
      | false =>
        have H2 := Lib.hid (step_all (f := freshAt l) HN.out (by rw [H1.out, hf]; rfl))
        go_wp2
        go_roundw
        case rel => exact ⟨k + 1, by omega, by go_num, H2.out, gain_ext ⟨_, rfl⟩ _⟩
        case measure => simp [intOf]; omega
    · have HE := Lib.hid (allB_yes (n := l.length) (f := freshAt l) (fun j hj => HN.out j (by omega)))
      go_wp2
      go_ret
      exact ⟨ret_bool (by rw [twiceB, HE.out]; rfl), _, rfl⟩
end Go.Proofs.Ytloefghmidlceaa
/- spec.l1Has: a number stands in a list. Condition: at most 1048576 elements. -/
namespace Go.Proofs.Ytloefghmidlceaa
open Go.RowKit Go.Ori
theorem l1Has_any (v : Value) (l : List Int) (n : Int) (w : World) (h : w.sl intC 1 v l) (hl : l.length ≤ 1048576) :
    Calls Try.prog 144 #[v, .int .i64 n] w fun x w' => x = .returned (.bool (hasB l n)) ∧ ∃ d, w' = w.ext d := by
  obtain ⟨p, c, rfl, hp, hcap⟩ := h
  go_enter Try.func144, Try.ntmps144
  go_wp2
  go_loopw [5] (fun i wr => ∃ k : Nat, k ≤ l.length ∧ i = .int .i64 k ∧ (∀ (j : Nat) (hj : j < l.length), j < k → (n == l[j]) = false) ∧ ∃ d, wr = w.ext d) (fun i _ => l.length - (intOf i).toNat)
  case atStart => exact ⟨0, by omega, rfl, by simp, w.gained_refl⟩
  case round =>
    obtain ⟨k, hk, rfl, hno, d, rfl⟩ := hrel
    have HN := Lib.hid hno
    clear hno
    by_cases hlt : k < l.length
    · obtain ⟨b, o, rfl, hc⟩ := hp (by omega)
      have c0 := hc k hlt 0 (by omega)
      have H1 := Lib.hid (fun (h : (n == l[k]) = true) => hasB_yes hlt h)
      have H2 := Lib.hid (fun (h : (n == l[k]) = false) => (show ∀ (j : Nat) (hj : j < l.length), j < k + 1 → (n == l[j]) = false from fun j hj hjk => by
        by_cases e : j = k
        · subst e; exact h
        · exact HN.out j hj (by omega)))
      generalize l[k] = y at c0 H1 H2
      clear hc hp
      simp only [intC, List.getElem?_cons_zero, Nat.add_zero, Nat.mul_one] at c0
      have ob := World.oldB_of_cell c0
      cases hf : (y == n) with
      | true =>
        have H1' := Lib.hid (H1.out (by rw [BEq.comm]; exact hf))
        go_wp2
        go_ret
        exact ⟨ret_bool H1'.out.symm, _, rfl⟩
      | false =>
        have H2' := Lib.hid (H2.out (by rw [BEq.comm]; exact hf))
        go_wp2
        go_roundw
        case rel => exact ⟨k + 1, by omega, by go_num, H2'.out, _, rfl⟩
        case measure => simp [intOf]; omega
    · have HE := Lib.hid (hasB_no (l := l) (n := n) (fun j hj => HN.out j hj (by omega)))
      go_wp2
      go_ret
      exact ⟨ret_bool HE.out.symm, _, rfl⟩
end Go.Proofs.Ytloefghmidlceaa
/- spec.l8Twice: a number stands in a list twice. Condition: at most 1048576 elements. -/
namespace Go.Proofs.Ytloefghmidlceaa
open Go.RowKit Go.Ori
theorem l8Twice_any (v : Value) (l : List Int) (w : World) (h : w.sl intC 1 v l) (hl : l.length ≤ 1048576) :
    Calls Try.prog 103 #[v] w fun x w' => x = .returned (.bool (twiceB l)) ∧ ∃ d, w' = w.ext d := by
  have hs := Lib.hid h
  obtain ⟨p, c, rfl, hp, hcap⟩ := h
  go_enter Try.func103, Try.ntmps103
  go_wp2
  go_loopw [3] (fun i wr => ∃ k : Nat, k ≤ l.length ∧ i = .int .i64 k ∧ (∀ j, j < k → freshAt l j = true) ∧ ∃ d, wr = w.ext d) (fun i _ => l.length - (intOf i).toNat)
  case atStart => exact ⟨0, by omega, rfl, by simp, w.gained_refl⟩
  case round =>
    obtain ⟨k, hk, rfl, hno, d, rfl⟩ := hrel
    have HN := Lib.hid hno
    clear hno
    by_cases hlt : k < l.length
    · obtain ⟨b, o, rfl, hc⟩ := hp (by omega)
      have c0 := hc k hlt 0 (by omega)
      have H1 : Hid (freshAt l k = !hasB (l.take k) l[k]) := Lib.hid (freshAt_eq hlt)
      generalize l[k] = y at c0 H1
      have hck : k ≤ c := by omega
      clear hc hp
      simp only [intC, List.getElem?_cons_zero, Nat.add_zero, Nat.mul_one] at c0
      have ob := World.oldB_of_cell c0
      have HH := Lib.hid (fun w' hw' => l1Has_any (.slice (some ⟨b, o, none⟩) k c) (l.take k) y w' hw' (by rw [List.length_take]; omega))
      cases hf : hasB (l.take k) y with
      | true =>
        have H1' := Lib.hid (allB_no (f := freshAt l) hlt (by rw [H1.out, hf]; rfl))
        rw [hf] at HH
        go_wp2
        refine wp_region_gain (by kernel_rfl) (by kernel_rfl) ?_
        repeat (first | go_big_quiet_skip | (go_big_quiet_want; go_big_quiet_op; first | go_big_quiet_on | ((apply Exists.intro); (refine ⟨fun _ => ?_, ?_⟩); (· (go_at_call 144; exact Calls.gain (HH.out _ (sl_take (by with_reducible (repeat (first | exact hs.out | refine World.sl_ext intC_length ?_ _ | refine sl_alloc intC_length ?_ _ | refine sl_drew ?_))) hk)))); (go_big_quiet_on))))
        refine wpQuiet_nil ?_
        rintro _ ⟨d', rfl⟩
        go_wp2
        go_ret
        exact ⟨ret_bool (by rw [twiceB, H1'.out]; rfl), (by repeat (first | with_reducible (first | exact World.gained_refl _ | exact ⟨_, rfl⟩ | apply gain_ext | apply gain_alloc | apply gain_drewN | apply gain_drew) | (refine gain_setCell ?_ (by first | exact Nat.le_refl _ | exact World.size_ext _ _ | (simp; done) | (simp; omega)) _)))⟩
      | false =>
        have H2 := Lib.hid (step_all (f := freshAt l) HN.out (by rw [H1.out, hf]; rfl))
        rw [hf] at HH
        go_wp2
        refine wp_region_gain (by kernel_rfl) (by kernel_rfl) ?_
        repeat (first | go_big_quiet_skip | (go_big_quiet_want; go_big_quiet_op; first | go_big_quiet_on | ((apply Exists.intro); (refine ⟨fun _ => ?_, ?_⟩); (· (go_at_call 144; exact Calls.gain (HH.out _ (sl_take (by with_reducible (repeat (first | exact hs.out | refine World.sl_ext intC_length ?_ _ | refine sl_alloc intC_length ?_ _ | refine sl_drew ?_))) hk)))); (go_big_quiet_on))))
        refine wpQuiet_nil ?_
        rintro _ ⟨d', rfl⟩
        go_wp2
        go_roundw
        case rel => exact ⟨k + 1, by omega, by go_num, H2.out, (by repeat (first | with_reducible (first | exact World.gained_refl _ | exact ⟨_, rfl⟩ | apply gain_ext | apply gain_alloc | apply gain_drewN | apply gain_drew) | (refine gain_setCell ?_ (by first | exact Nat.le_refl _ | exact World.size_ext _ _ | (simp; done) | (simp; omega)) _)))⟩
        case measure => simp [intOf]; omega
    · have HE := Lib.hid (allB_yes (n := l.length) (f := freshAt l) (fun j hj => HN.out j (by omega)))
      go_wp2
      go_ret
      exact ⟨ret_bool (by rw [twiceB, HE.out]; rfl), _, rfl⟩
end Go.Proofs.Ytloefghmidlceaa
