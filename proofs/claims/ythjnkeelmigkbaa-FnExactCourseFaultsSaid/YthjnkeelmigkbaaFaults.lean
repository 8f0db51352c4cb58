/- impl.CourseFaults, spec.CourseFaults. Conditions: at most 1048576 numbers, controls, codes. -/
import Derived.Test.YthjnkeelmigkbaaBack
import Derived.Test.YthjnkeelmigkbaaLegsI
import Derived.Test.YthjnkeelmigkbaaLegsS
import Derived.Test.YthjnkeelmigkbaaLegTs
import Derived.Deep.DeepCutAuto
import Derived.Test.YthjnkeelmigkbaaRows
import Derived.Test.YthjnkeelmigkbaaPlain
/- slices.Index and slices.Contains over ints. Condition: at most 1048576 elements. -/
namespace Go.Proofs.Ythjnkeelmigkbaa
open Go.RowKit Go.Ori
theorem index_ints (v : Value) (l : List Int) (n : Int) (w : World) (h : w.sl intC 1 v l) (hl : l.length ≤ 1048576) :
    Calls Try.prog 210 #[v, .int .i64 n] w fun x w' => x = .returned (.int .i64 (idxB l fun x => n == x)) ∧ ∃ d, w' = w.ext d := by
  obtain ⟨p, c, rfl, hp, hcap⟩ := h
  go_enter Try.func210, Try.ntmps210
  go_wp2
  go_loopw [8] (fun i wr => ∃ k : Nat, k ≤ l.length ∧ i = .int .i64 k ∧ (∀ (j : Nat) (hj : j < l.length), j < k → (n == l[j]) = false) ∧ ∃ d, wr = w.ext d) (fun i _ => l.length - (intOf i).toNat)
  case atStart => exact ⟨0, by omega, rfl, by simp, w.gained_refl⟩
  case round =>
    obtain ⟨k, hk, rfl, hno, d, rfl⟩ := hrel
    have HN := Lib.hid hno
    clear hno
    by_cases hlt : k < l.length
    · obtain ⟨b, o, rfl, hc⟩ := hp (by omega)
      have c0 := hc k hlt 0 (by omega)
      have H1 := Lib.hid (fun (h : (n == l[k]) = true) => idxB_some (l := l) (p := fun x => n == x) hlt (fun j hj hjk => HN.out j hj hjk) h)
      have H2 := Lib.hid (fun (h : (n == l[k]) = false) => (show ∀ (j : Nat) (hj : j < l.length), j < k + 1 → (n == l[j]) = false from fun j hj hjk => by
        by_cases e : j = k
        · subst e; exact h
        · exact HN.out j hj (by omega)))
      generalize l[k] = y at c0 H1 H2
      clear hc hp
      simp only [intC, List.getElem?_cons_zero, Nat.add_zero, Nat.mul_one] at c0
      have ob := World.oldB_of_cell c0
      cases hf : (n == y) with
      | true =>
        have H1' := Lib.hid (H1.out hf)
        go_wp2
        go_ret
        exact ⟨ret_int H1'.out.symm, _, rfl⟩
      | false =>
        have H2' := Lib.hid (H2.out hf)
        go_wp2
        go_roundw
        case rel => exact ⟨k + 1, by omega, by go_num, H2'.out, _, rfl⟩
        case measure => simp [intOf]; omega
    · have HE := Lib.hid (idxB_none (l := l) (p := fun x => n == x) (fun j hj => HN.out j hj (by omega)))
      go_wp2
      go_ret
      exact ⟨ret_int HE.out.symm, _, rfl⟩
theorem contains_ints (v : Value) (l : List Int) (n : Int) (w : World) (h : w.sl intC 1 v l) (hl : l.length ≤ 1048576) :
    Calls Try.prog 148 #[v, .int .i64 n] w fun x w' => x = .returned (.bool (hasB l n)) ∧ ∃ d, w' = w.ext d := by
  have HI := Lib.hid (index_ints v l n w h hl)
  go_enter Try.func148, Try.ntmps148
  go_wp2_with fail
  refine HI.out.mono ?_
  rintro e w1 ⟨rfl, d1, rfl⟩
  have HA := Lib.hid (idxB_any l (fun x => n == x))
  go_wp2
  go_ret
  exact ⟨ret_bool HA.out, _, rfl⟩
end Go.Proofs.Ythjnkeelmigkbaa
/- impl.hasTwice: a number stands in a list twice. Condition: at most 1048576 elements. -/
namespace Go.Proofs.Ythjnkeelmigkbaa
open Go.RowKit Go.Ori
theorem hasTwice_any (v : Value) (l : List Int) (w : World) (h : w.sl intC 1 v l) (hl : l.length ≤ 1048576) :
    Calls Try.prog 132 #[v] w fun x w' => x = .returned (.bool (twiceB l)) ∧ ∃ d, w' = w.ext d := by
  have hs := Lib.hid h
  obtain ⟨p, c, rfl, hp, hcap⟩ := h
  go_enter Try.func132, Try.ntmps132
  go_wp2
  go_loopw [7] (fun i wr => ∃ k : Nat, k ≤ l.length ∧ i = .int .i64 k ∧ (∀ j, j < k → freshAt l j = true) ∧ ∃ d, wr = w.ext d) (fun i _ => l.length - (intOf i).toNat)
  case atStart => exact ⟨0, by omega, rfl, by simp, w.gained_refl⟩
  case round =>
    obtain ⟨k, hk, rfl, hno, d, rfl⟩ := hrel
    have HN := Lib.hid hno
    clear hno
    by_cases hlt : k < l.length
    · obtain ⟨b, o, rfl, hc⟩ := hp (by omega)
      have c0 := hc k hlt 0 (by omega)
      have H1 : Hid (freshAt l k = !hasB (l.take k) l[k]) := Lib.hid (freshAt_eq hlt)
      generalize l[k] = y at c0 H1
      have hck : k ≤ c := by omega
      clear hc hp
      simp only [intC, List.getElem?_cons_zero, Nat.add_zero, Nat.mul_one] at c0
      have ob := World.oldB_of_cell c0
      go_wp2_with fail
      refine (contains_ints _ (l.take k) y _ (World.sl_ext intC_length (sl_take hs.out hk) d) (by rw [List.length_take]; omega)).mono ?_
      rintro e w1 ⟨rfl, d1, rfl⟩
      cases hf : hasB (l.take k) y with
      | true =>
        have H1' := Lib.hid (allB_no (f := freshAt l) hlt (by rw [H1.out, hf]; rfl))
        go_wp2
        go_ret
        exact ⟨ret_bool (by rw [twiceB, H1'.out]; rfl), gain_ext ⟨_, rfl⟩ _⟩
      | false =>
        have H2 := Lib.hid (step_all (f := freshAt l) HN.out (by rw [H1.out, hf]; rfl))
        go_wp2
        go_roundw
        case rel => exact ⟨k + 1, by omega, by go_num, H2.out, gain_ext ⟨_, rfl⟩ _⟩
        case measure => simp [intOf]; omega
    · have HE := Lib.hid (allB_yes (n := l.length) (f := freshAt l) (fun j hj => HN.out j (by omega)))
      go_wp2
      go_ret
      exact ⟨ret_bool (by rw [twiceB, HE.out]; rfl), _, rfl⟩
end Go.Proofs.Ythjnkeelmigkbaa
/- spec.l1Has: a number stands in a list. Condition: at most 1048576 elements. -/
namespace Go.Proofs.Ythjnkeelmigkbaa
open Go.RowKit Go.Ori
theorem l1Has_any (v : Value) (l : List Int) (n : Int) (w : World) (h : w.sl intC 1 v l) (hl : l.length ≤ 1048576) :
    Calls Try.prog 198 #[v, .int .i64 n] w fun x w' => x = .returned (.bool (hasB l n)) ∧ ∃ d, w' = w.ext d := by
  obtain ⟨p, c, rfl, hp, hcap⟩ := h
  go_enter Try.func198, Try.ntmps198
  go_wp2
  go_loopw [5] (fun i wr => ∃ k : Nat, k ≤ l.length ∧ i = .int .i64 k ∧ (∀ (j : Nat) (hj : j < l.length), j < k → (n == l[j]) = false) ∧ ∃ d, wr = w.ext d) (fun i _ => l.length - (intOf i).toNat)
  case atStart => exact ⟨0, by omega, rfl, by simp, w.gained_refl⟩
  case round =>
    obtain ⟨k, hk, rfl, hno, d, rfl⟩ := hrel
    have HN := Lib.hid hno
    clear hno
    by_cases hlt : k < l.length
    · obtain ⟨b, o, rfl, hc⟩ := hp (by omega)
      have c0 := hc k hlt 0 (by omega)
      have H1 := Lib.hid (fun (h : (n == l[k]) = true) => hasB_yes hlt h)
      have H2 := Lib.hid (fun (h : (n == l[k]) = false) => (show ∀ (j : Nat) (hj : j < l.length), j < k + 1 → (n == l[j]) = false from fun j hj hjk => by
        by_cases e : j = k
        · subst e; exact h
        · exact HN.out j hj (by omega)))
      generalize l[k] = y at c0 H1 H2
      clear hc hp
      simp only [intC, List.getElem?_cons_zero, Nat.add_zero, Nat.mul_one] at c0
      have ob := World.oldB_of_cell c0
      cases hf : (y == n) with
      | true =>
        have H1' := Lib.hid (H1.out (by rw [BEq.comm]; exact hf))
        go_wp2
        go_ret
        exact ⟨ret_bool H1'.out.symm, _, rfl⟩
      | false =>
        have H2' := Lib.hid (H2.out (by rw [BEq.comm]; exact hf))
        go_wp2
        go_roundw
        case rel => exact ⟨k + 1, by omega, by go_num, H2'.out, _, rfl⟩
        case measure => simp [intOf]; omega
    · have HE := Lib.hid (hasB_no (l := l) (n := n) (fun j hj => HN.out j hj (by omega)))
      go_wp2
      go_ret
      exact ⟨ret_bool HE.out.symm, _, rfl⟩
end Go.Proofs.Ythjnkeelmigkbaa
/- spec.l8Twice: a number stands in a list twice. Condition: at most 1048576 elements. -/
namespace Go.Proofs.Ythjnkeelmigkbaa
open Go.RowKit Go.Ori
theorem l8Twice_any (v : Value) (l : List Int) (w : World) (h : w.sl intC 1 v l) (hl : l.length ≤ 1048576) :
    Calls Try.prog 130 #[v] w fun x w' => x = .returned (.bool (twiceB l)) ∧ ∃ d, w' = w.ext d := by
  have hs := Lib.hid h
  obtain ⟨p, c, rfl, hp, hcap⟩ := h
  go_enter Try.func130, Try.ntmps130
  go_wp2
  go_loopw [3] (fun i wr => ∃ k : Nat, k ≤ l.length ∧ i = .int .i64 k ∧ (∀ j, j < k → freshAt l j = true) ∧ ∃ d, wr = w.ext d) (fun i _ => l.length - (intOf i).toNat)
  case atStart => exact ⟨0, by omega, rfl, by simp, w.gained_refl⟩
  case round =>
    obtain ⟨k, hk, rfl, hno, d, rfl⟩ := hrel
    have HN := Lib.hid hno
    clear hno
    by_cases hlt : k < l.length
    · obtain ⟨b, o, rfl, hc⟩ := hp (by omega)
      have c0 := hc k hlt 0 (by omega)
      have H1 : Hid (freshAt l k = !hasB (l.take k) l[k]) := Lib.hid (freshAt_eq hlt)
      generalize l[k] = y at c0 H1
      have hck : k ≤ c := by omega
      clear hc hp
      simp only [intC, List.getElem?_cons_zero, Nat.add_zero, Nat.mul_one] at c0
      have ob := World.oldB_of_cell c0
      have HH := Lib.hid (fun w' hw' => l1Has_any (.slice (some ⟨b, o, none⟩) k c) (l.take k) y w' hw' (by rw [List.length_take]; omega))
      cases hf : hasB (l.take k) y with
      | true =>
        have H1' := Lib.hid (allB_no (f := freshAt l) hlt (by rw [H1.out, hf]; rfl))
        rw [hf] at HH
        go_wp2
        refine wp_region_gain (by kernel_rfl) (by kernel_rfl) ?_
        repeat (first | go_big_quiet_skip | (go_big_quiet_want; go_big_quiet_op; first | go_big_quiet_on | ((apply Exists.intro); (refine ⟨fun _ => ?_, ?_⟩); (· (go_at_call 198; exact Calls.gain (HH.out _ (sl_take (by with_reducible (repeat (first | exact hs.out | refine World.sl_ext intC_length ?_ _ | refine sl_alloc intC_length ?_ _ | refine sl_drew ?_))) hk)))); (go_big_quiet_on))))
        refine wpQuiet_nil ?_
        rintro _ ⟨d', rfl⟩
        go_wp2
        go_ret
        exact ⟨ret_bool (by rw [twiceB, H1'.out]; rfl), (by repeat (first | with_reducible (first | exact World.gained_refl _ | exact ⟨_, rfl⟩ | apply gain_ext | apply gain_alloc | apply gain_drewN | apply gain_drew) | (refine gain_setCell ?_ (by first | exact Nat.le_refl _ | exact World.size_ext _ _ | (simp; done) | (simp; omega)) _)))⟩
      | false =>
        have H2 := Lib.hid (step_all (f := freshAt l) HN.out (by rw [H1.out, hf]; rfl))
        rw [hf] at HH
        go_wp2
        refine wp_region_gain (by kernel_rfl) (by kernel_rfl) ?_
        repeat (first | go_big_quiet_skip | (go_big_quiet_want; go_big_quiet_op; first | go_big_quiet_on | ((apply Exists.intro); (refine ⟨fun _ => ?_, ?_⟩); (· (go_at_call 198; exact Calls.gain (HH.out _ (sl_take (by with_reducible (repeat (first | exact hs.out | refine World.sl_ext intC_length ?_ _ | refine sl_alloc intC_length ?_ _ | refine sl_drew ?_))) hk)))); (go_big_quiet_on))))
        refine wpQuiet_nil ?_
        rintro _ ⟨d', rfl⟩
        go_wp2
        go_roundw
        case rel => exact ⟨k + 1, by omega, by go_num, H2.out, (by repeat (first | with_reducible (first | exact World.gained_refl _ | exact ⟨_, rfl⟩ | apply gain_ext | apply gain_alloc | apply gain_drewN | apply gain_drew) | (refine gain_setCell ?_ (by first | exact Nat.le_refl _ | exact World.size_ext _ _ | (simp; done) | (simp; omega)) _)))⟩
        case measure => simp [intOf]; omega
    · have HE := Lib.hid (allB_yes (n := l.length) (f := freshAt l) (fun j hj => HN.out j (by omega)))
      go_wp2
      go_ret
      exact ⟨ret_bool (by rw [twiceB, HE.out]; rfl), _, rfl⟩
end Go.Proofs.Ythjnkeelmigkbaa
/- slices.Min over ints. Conditions: at least one and at most 1048576 elements. -/
namespace Go.Ori
/-- The least of the first k + 1. -/
def minN (l : List Int) : Nat → Int
  | 0 => l.getD 0 0
  | k + 1 => if l.getD (k + 1) 0 < minN l k then l.getD (k + 1) 0 else minN l k
theorem minN_lt (l : List Int) (c : Int) : ∀ k, k < l.length → (minN l k < c ↔ ∃ x ∈ l.take (k + 1), x < c)
  | 0, h => by
    rw [minN, List.getD_eq_getElem?_getD, List.getElem?_eq_getElem h, List.take_succ_eq_append_getElem h]
    simp
  | k + 1, h => by
    have ih := minN_lt l c k (by omega)
    rw [minN, List.getD_eq_getElem?_getD, List.getElem?_eq_getElem h, List.take_succ_eq_append_getElem h, Option.getD_some]
    simp only [List.mem_append, List.mem_singleton]
    constructor
    · intro h1
      split at h1
      · exact ⟨_, .inr rfl, h1⟩
      · obtain ⟨x, hx, hc⟩ := ih.1 h1
        exact ⟨x, .inl hx, hc⟩
    · rintro ⟨x, hx | rfl, hc⟩
      · have := ih.2 ⟨x, hx, hc⟩
        split <;> omega
      · split <;> omega
theorem min_any {l : List Int} (h : 0 < l.length) : decide (minN l (l.length - 1) < 3) = l.any fun x => decide (x < 3) := by
  rw [Bool.eq_iff_iff, decide_eq_true_eq, minN_lt l 3 _ (by omega), List.any_eq_true, show l.length - 1 + 1 = l.length by omega, List.take_length]
  simp
end Go.Ori
namespace Go.Proofs.Ythjnkeelmigkbaa
open Go.RowKit Go.Ori
theorem min_ints (v : Value) (l : List Int) (w : World) (h : w.sl intC 1 v l) (h0 : 0 < l.length) (hl : l.length ≤ 1048576) :
    Calls Try.prog 133 #[v] w fun x w' => x = .returned (.int .i64 (minN l (l.length - 1))) ∧ ∃ d, w' = w.ext d := by
  have hs := Lib.hid h
  obtain ⟨p, c, rfl, _⟩ := h
  obtain ⟨b, o, rfl⟩ := sl_some hs.out h0
  have hcell := fun k (hk : k < l.length) => sl_int hs.out hk
  have HCELL := Lib.hid hcell
  have c0 := hcell 0 h0
  have HZ := Lib.hid (show minN l 0 = l[0] by rw [minN, List.getD_eq_getElem?_getD, List.getElem?_eq_getElem h0]; rfl)
  generalize l[0] = y0 at c0 HZ
  clear hcell
  simp only [Nat.add_zero] at c0
  have ob := World.oldB_of_cell c0
  go_enter Try.func133, Try.ntmps133
  go_wp2
  clear c0
  go_loopw [3, 4] (fun t i wr => ∃ k : Nat, k + 1 ≤ l.length ∧ i = .int .i64 ((k : Int) + 1) ∧ t = .int .i64 (minN l k) ∧ ∃ d, wr = w.ext d) (fun _ i _ => l.length - (intOf i).toNat)
  case atStart => exact ⟨0, by omega, rfl, by rw [HZ.out], w.gained_refl⟩
  case round =>
    obtain ⟨k, hk, rfl, rfl, d, rfl⟩ := hrel
    by_cases hlt : k + 1 < l.length
    · have c1 := HCELL.out (k + 1) hlt
      have HS := Lib.hid (show minN l (k + 1) = if l[k + 1] < minN l k then l[k + 1] else minN l k by rw [minN, List.getD_eq_getElem?_getD, List.getElem?_eq_getElem hlt]; rfl)
      generalize l[k + 1] = y at c1 HS
      generalize hm : minN l k = m at HS
      clear hm
      by_cases hcmp : y < m
      · have HS' := Lib.hid (HS.out.trans (if_pos hcmp))
        go_wp2
        go_roundw
        case rel => exact ⟨k + 1, by omega, by go_num, by rw [HS'.out], _, rfl⟩
        case measure => simp [intOf]; omega
      · have HS' := Lib.hid (HS.out.trans (if_neg hcmp))
        go_wp2
        go_roundw
        case rel => exact ⟨k + 1, by omega, by go_num, by rw [HS'.out], _, rfl⟩
        case measure => simp [intOf]; omega
    · go_wp2
      go_ret
      obtain rfl : k = l.length - 1 := by omega
      exact ⟨rfl, _, rfl⟩
end Go.Proofs.Ythjnkeelmigkbaa
namespace Go.Ori
theorem take_any_step {α : Type} {l : List α} {f : α → Bool} {k : Nat} (h : k < l.length) : (l.take (k + 1)).any f = ((l.take k).any f || f l[k]) := by
  rw [List.take_succ_eq_append_getElem h, List.any_append]; simp
theorem faultL_yes {m : Mp} {l : List Ctl} {c : List Int} {A B : Bool} (h : crsB m l c = true) (hA : (legsT m l c (c.length - 1)).any (fun x => decide (x < 3)) = A) (hB : decide (0 < (backN m l c (c.length - 1)).length) = B) :
    faultL m l c = (((if c.length < 4 then [1] else []) ++ (if twiceB c then [2] else [])) ++ (if A then [3] else [])) ++ (if B then [4] else []) := by
  unfold faultL
  rw [if_pos h, hA]
  subst hB
  simp
end Go.Ori
namespace Go.Proofs.Ythjnkeelmigkbaa
open Go.RowKit Go.Ori
set_option maxHeartbeats 8000000 in
theorem impCourseFaults_any (m : Mp) (rv cv v u : Value) (l : List Ctl) (t : List Int) (w : World) (hmp : w.mp rv cv m) (h : w.sl Ctl.cells 2 v l) (hl : l.length ≤ 1048576) (h2 : w.sl intC 1 u t) (hl2 : t.length ≤ 1048576) :
    Calls Try.prog 37 #[.agg #[.int .i64 m.wd, .int .i64 m.ht, rv, cv], v, u] w fun x w' => ∃ r, x = .returned (.tuple #[r, .bool (crsB m l t)]) ∧ (∃ d, w' = w.ext d) ∧ w'.own w.heap.size 3 intC 1 r (faultL m l t) := by
  have hm := Lib.hid hmp
  have hs := Lib.hid h
  have ht := Lib.hid h2
  obtain ⟨p1, c1, p2, c2, rfl, rfl⟩ := mp_form hmp
  obtain ⟨p, c, rfl, _⟩ := id h
  obtain ⟨p', c', rfl, _⟩ := id h2
  have HGD := Lib.hid (fun w' hw' hv' hu' => isCourse_any m (.slice p1 m.rise.length c1) (.slice p2 m.cost.length c2) (.slice p l.length c) (.slice p' t.length c') l t w' hw' hv' hl hu' hl2)
  clear hmp h h2
  cases hB : crsB m l t with
  | false =>
    have HE := Lib.hid (show faultL m l t = [] by simp [faultL, hB])
    rw [hB] at HGD
    clear hB
    go_enter Try.func37, Try.ntmps37
    go_wp2_with (go_at_call 42; refine (HGD.out _ (mp_up (hm.out) (by repeat (first | with_reducible (first | exact World.gained_refl _ | exact ⟨_, rfl⟩ | apply gain_ext | apply gain_alloc | apply gain_drewN | apply gain_drew) | (refine gain_setCell ?_ (by first | exact Nat.le_refl _ | exact World.size_ext _ _ | (simp; done) | (simp; omega)) _)))) (by with_reducible (repeat (first | exact hs.out | refine World.sl_ext Ctl.cells_length ?_ _ | refine sl_alloc Ctl.cells_length ?_ _ | refine sl_drew ?_))) (by with_reducible (repeat (first | exact ht.out | refine World.sl_ext intC_length ?_ _ | refine sl_alloc intC_length ?_ _ | refine sl_drew ?_)))).mono ?_; rintro e w1 ⟨rfl, d1, rfl⟩)
    go_ret2
    rw [HE.out]
    exact ⟨_, rfl, (by repeat (first | with_reducible (first | exact World.gained_refl _ | exact ⟨_, rfl⟩ | apply gain_ext | apply gain_alloc | apply gain_drewN | apply gain_drew) | (refine gain_setCell ?_ (by first | exact Nat.le_refl _ | exact World.size_ext _ _ | (simp; done) | (simp; omega)) _))), own_nil _ _ _ _ _⟩
  | true =>
    have hC := crsB_true hB
    have HC := Lib.hid hC
    have ht8 := hC.hi
    have ht2 := hC.lo
    have HE := Lib.hid (fun A B hA hB' => faultL_yes (A := A) (B := B) hB hA hB')
    rw [hB] at HGD
    clear hB hC
    go_enter Try.func37, Try.ntmps37
    go_wp2_with fail
    generalize hW0 : w.alloc (.cells #[.int .i64 m.wd, .int .i64 m.ht, .slice p1 m.rise.length c1, .slice p2 m.cost.length c2] 31) = W0
    have hbx : MBox w W0 w.heap.size m (.slice p1 m.rise.length c1) (.slice p2 m.cost.length c2) := by rw [← hW0]; exact mbox
    have HG := Lib.hid hbx.up
    have hsz := hbx.sz
    have bx0 := hbx.c0
    have bx1 := hbx.c1
    have bx2 := hbx.c2
    have bx3 := hbx.c3
    have obx := hbx.ob
    have HSE := Lib.hid hbx.se
    have HM0 := Lib.hid (mp_up hm.out HG.out)
    have hs0 := Lib.hid (sl_up Ctl.cells_length hs.out HG.out)
    have ht0 := Lib.hid (sl_up intC_length ht.out HG.out)
    clear hW0 hbx
    go_upto_if 17 with (go_at_call 42; refine (HGD.out _ (mp_up (HM0.out) (by repeat (first | with_reducible (first | exact World.gained_refl _ | exact ⟨_, rfl⟩ | apply gain_ext | apply gain_alloc | apply gain_drewN | apply gain_drew) | (refine gain_setCell ?_ (by first | exact Nat.le_refl _ | exact World.size_ext _ _ | (simp; done) | (simp; omega)) _)))) (by with_reducible (repeat (first | exact hs0.out | refine World.sl_ext Ctl.cells_length ?_ _ | refine sl_alloc Ctl.cells_length ?_ _ | refine sl_drew ?_))) (by with_reducible (repeat (first | exact ht0.out | refine World.sl_ext intC_length ?_ _ | refine sl_alloc intC_length ?_ _ | refine sl_drew ?_)))).mono ?_; rintro e w1 ⟨rfl, d1, rfl⟩)
    have HNEW := Lib.hid (own_lit' (w := W0.ext d1) (base := W0.heap.size) (e := 3) (l := ([] : List Int)) intC_length rfl rfl (World.size_ext _ _))
    go_cut [8] (fun s wx => (∃ d, wx = W0.ext d) ∧ wx.own W0.heap.size 3 intC 1 s (if t.length < 4 then [1] else []))
    case first =>
      cases hy : decide ((t.length : Int) < 4) with
      | true =>
        have hy' : t.length < 4 := by have := of_decide_eq_true hy; omega
        go_wp2_with (at_builtin; go_must (refine wpList_append_gain (m := [(1 : Int)]) rfl (.tmp 18) (.tmp 19) rfl Try.underlying22 info_int (by rfl) (by omega) intC_length intC_one (by omega) (by repeat (first | with_reducible (first | exact World.gained_refl _ | exact ⟨_, rfl⟩ | apply gain_ext | apply gain_alloc | apply gain_drewN | apply gain_drew) | (refine gain_setCell ?_ (by first | exact Nat.le_refl _ | exact World.size_ext _ _ | (simp; done) | (simp; omega)) _))) (Nat.le_refl _) (gain_size (by repeat (first | with_reducible (first | exact World.gained_refl _ | exact ⟨_, rfl⟩ | apply gain_ext | apply gain_alloc | apply gain_drewN | apply gain_drew) | (refine gain_setCell ?_ (by first | exact Nat.le_refl _ | exact World.size_ext _ _ | (simp; done) | (simp; omega)) _)))) rfl rfl (own_up (HNEW.out) (by repeat (first | with_reducible (first | exact World.gained_refl _ | exact ⟨_, rfl⟩ | apply gain_ext | apply gain_alloc | apply gain_drewN | apply gain_drew) | (refine gain_setCell ?_ (by first | exact Nat.le_refl _ | exact World.size_ext _ _ | (simp; done) | (simp; omega)) _)))) (sl_lit (l := [(1 : Int)]) intC_length rfl (by simp)) (by simp) ?_); intro v' d' ho hg)
        go_meet
        exact ⟨⟨_, rfl⟩, by rw [if_pos hy']; exact ho⟩
      | false =>
        have hy' : ¬ t.length < 4 := by have := of_decide_eq_false hy; omega
        go_wp2_with fail
        go_meet
        exact ⟨(by repeat (first | with_reducible (first | exact World.gained_refl _ | exact ⟨_, rfl⟩ | apply gain_ext | apply gain_alloc | apply gain_drewN | apply gain_drew) | (refine gain_setCell ?_ (by first | exact Nat.le_refl _ | exact World.size_ext _ _ | (simp; done) | (simp; omega)) _))), by rw [if_neg hy']; exact (own_up (HNEW.out) (by repeat (first | with_reducible (first | exact World.gained_refl _ | exact ⟨_, rfl⟩ | apply gain_ext | apply gain_alloc | apply gain_drewN | apply gain_drew) | (refine gain_setCell ?_ (by first | exact Nat.le_refl _ | exact World.size_ext _ _ | (simp; done) | (simp; omega)) _))))⟩
    obtain ⟨⟨e1, rfl⟩, ho⟩ := hcut
    have HO1 := Lib.hid ho
    have HL1 := Lib.hid (show (if t.length < 4 then [(1 : Int)] else []).length ≤ 1 by split <;> simp)
    clear ho
    generalize (if t.length < 4 then [(1 : Int)] else []) = F1 at HO1 HL1 HE
    go_upto_if 22 with (go_at_call 132; refine (hasTwice_any _ t _ (by with_reducible (repeat (first | exact ht0.out | refine World.sl_ext intC_length ?_ _ | refine sl_alloc intC_length ?_ _ | refine sl_drew ?_))) hl2).mono ?_; rintro e w1 ⟨rfl, d2, rfl⟩)
    go_cut [8] (fun s wx => (∃ d, wx = W0.ext d) ∧ wx.own W0.heap.size 3 intC 1 s (F1 ++ if twiceB t then [2] else []))
    case first =>
      cases hy : twiceB t with
      | true =>
        skip
        go_wp2_with (at_builtin; go_must (refine wpList_append_gain (m := [(2 : Int)]) rfl (.tmp 23) (.tmp 24) rfl Try.underlying22 info_int (by rfl) (by omega) intC_length intC_one (by omega) (by repeat (first | with_reducible (first | exact World.gained_refl _ | exact ⟨_, rfl⟩ | apply gain_ext | apply gain_alloc | apply gain_drewN | apply gain_drew) | (refine gain_setCell ?_ (by first | exact Nat.le_refl _ | exact World.size_ext _ _ | (simp; done) | (simp; omega)) _))) (Nat.le_refl _) (gain_size (by repeat (first | with_reducible (first | exact World.gained_refl _ | exact ⟨_, rfl⟩ | apply gain_ext | apply gain_alloc | apply gain_drewN | apply gain_drew) | (refine gain_setCell ?_ (by first | exact Nat.le_refl _ | exact World.size_ext _ _ | (simp; done) | (simp; omega)) _)))) rfl rfl (own_up (HO1.out) (by repeat (first | with_reducible (first | exact World.gained_refl _ | exact ⟨_, rfl⟩ | apply gain_ext | apply gain_alloc | apply gain_drewN | apply gain_drew) | (refine gain_setCell ?_ (by first | exact Nat.le_refl _ | exact World.size_ext _ _ | (simp; done) | (simp; omega)) _)))) (sl_lit (l := [(2 : Int)]) intC_length rfl (by simp)) (by have := HL1.out; simp; omega) ?_); intro v' d' ho hg)
        go_meet
        exact ⟨⟨_, rfl⟩, by rw [if_pos hy]; exact ho⟩
      | false =>
        skip
        go_wp2_with fail
        go_meet
        exact ⟨(by repeat (first | with_reducible (first | exact World.gained_refl _ | exact ⟨_, rfl⟩ | apply gain_ext | apply gain_alloc | apply gain_drewN | apply gain_drew) | (refine gain_setCell ?_ (by first | exact Nat.le_refl _ | exact World.size_ext _ _ | (simp; done) | (simp; omega)) _))), by rw [if_neg (by rw [hy]; decide), List.append_nil]; exact (own_up (HO1.out) (by repeat (first | with_reducible (first | exact World.gained_refl _ | exact ⟨_, rfl⟩ | apply gain_ext | apply gain_alloc | apply gain_drewN | apply gain_drew) | (refine gain_setCell ?_ (by first | exact Nat.le_refl _ | exact World.size_ext _ _ | (simp; done) | (simp; omega)) _))))⟩
    obtain ⟨⟨e2, rfl⟩, ho⟩ := hcut
    have HO2 := Lib.hid ho
    have HL2 := Lib.hid (show (F1 ++ if twiceB t then [(2 : Int)] else []).length ≤ 2 by have := HL1.out; have := if1 (twiceB t = true) 2; rw [List.length_append]; omega)
    clear ho
    generalize (F1 ++ if twiceB t then [(2 : Int)] else []) = F2 at HO2 HL2 HE
    have HLL := Lib.hid (legsT_length m l t (t.length - 1))
    have HMA := Lib.hid (min_any (l := legsT m l t (t.length - 1)) (by rw [legsT_length]; omega))
    go_upto_if 31 with (first | (go_at_call 134; refine (legTimes_any m _ _ _ _ l t _ (mp_up (HM0.out) (by repeat (first | with_reducible (first | exact World.gained_refl _ | exact ⟨_, rfl⟩ | apply gain_ext | apply gain_alloc | apply gain_drewN | apply gain_drew) | (refine gain_setCell ?_ (by first | exact Nat.le_refl _ | exact World.size_ext _ _ | (simp; done) | (simp; omega)) _)))) (by with_reducible (repeat (first | exact hs0.out | refine World.sl_ext Ctl.cells_length ?_ _ | refine sl_alloc Ctl.cells_length ?_ _ | refine sl_drew ?_))) hl (by with_reducible (repeat (first | exact ht0.out | refine World.sl_ext intC_length ?_ _ | refine sl_alloc intC_length ?_ _ | refine sl_drew ?_))) HC.out).mono ?_; rintro e w1 ⟨r3, rfl, ⟨d3, rfl⟩, h3⟩) | (go_at_call 133; refine (min_ints _ _ _ (sl_of_own intC_length h3) (by rw [HLL.out]; omega) (by rw [HLL.out]; omega)).mono ?_; rintro e w1 ⟨rfl, d4, rfl⟩))
    rw [HMA.out] at *
    generalize hA : (legsT m l t (t.length - 1)).any (fun x => decide (x < 3)) = A at *
    go_cut [8] (fun s wx => (∃ d, wx = W0.ext d) ∧ wx.own W0.heap.size 3 intC 1 s (F2 ++ if A then [3] else []))
    case first =>
      cases hy : A with
      | true =>
        skip
        go_wp2_with (at_builtin; go_must (refine wpList_append_gain (m := [(3 : Int)]) rfl (.tmp 32) (.tmp 33) rfl Try.underlying22 info_int (by rfl) (by omega) intC_length intC_one (by omega) (by repeat (first | with_reducible (first | exact World.gained_refl _ | exact ⟨_, rfl⟩ | apply gain_ext | apply gain_alloc | apply gain_drewN | apply gain_drew) | (refine gain_setCell ?_ (by first | exact Nat.le_refl _ | exact World.size_ext _ _ | (simp; done) | (simp; omega)) _))) (Nat.le_refl _) (gain_size (by repeat (first | with_reducible (first | exact World.gained_refl _ | exact ⟨_, rfl⟩ | apply gain_ext | apply gain_alloc | apply gain_drewN | apply gain_drew) | (refine gain_setCell ?_ (by first | exact Nat.le_refl _ | exact World.size_ext _ _ | (simp; done) | (simp; omega)) _)))) rfl rfl (own_up (HO2.out) (by repeat (first | with_reducible (first | exact World.gained_refl _ | exact ⟨_, rfl⟩ | apply gain_ext | apply gain_alloc | apply gain_drewN | apply gain_drew) | (refine gain_setCell ?_ (by first | exact Nat.le_refl _ | exact World.size_ext _ _ | (simp; done) | (simp; omega)) _)))) (sl_lit (l := [(3 : Int)]) intC_length rfl (by simp)) (by have := HL2.out; simp; omega) ?_); intro v' d' ho hg)
        go_meet
        exact ⟨⟨_, rfl⟩, by rw [if_pos hy]; exact ho⟩
      | false =>
        skip
        go_wp2_with fail
        go_meet
        exact ⟨(by repeat (first | with_reducible (first | exact World.gained_refl _ | exact ⟨_, rfl⟩ | apply gain_ext | apply gain_alloc | apply gain_drewN | apply gain_drew) | (refine gain_setCell ?_ (by first | exact Nat.le_refl _ | exact World.size_ext _ _ | (simp; done) | (simp; omega)) _))), by rw [if_neg (by rw [hy]; decide), List.append_nil]; exact (own_up (HO2.out) (by repeat (first | with_reducible (first | exact World.gained_refl _ | exact ⟨_, rfl⟩ | apply gain_ext | apply gain_alloc | apply gain_drewN | apply gain_drew) | (refine gain_setCell ?_ (by first | exact Nat.le_refl _ | exact World.size_ext _ _ | (simp; done) | (simp; omega)) _))))⟩
    obtain ⟨⟨e3, rfl⟩, ho⟩ := hcut
    have HO3 := Lib.hid ho
    have HL3 := Lib.hid (show (F2 ++ if A then [(3 : Int)] else []).length ≤ 3 by have := HL2.out; have := if1 (A = true) 3; rw [List.length_append]; omega)
    clear ho
    have HE3 := Lib.hid (HE.out A _ rfl rfl)
    generalize (F2 ++ if A then [(3 : Int)] else []) = F3 at HO3 HL3 HE3
    go_upto_if 40 with (go_at_call 129; refine (backLegs_any m _ _ _ _ l t _ (mp_up (HM0.out) (by repeat (first | with_reducible (first | exact World.gained_refl _ | exact ⟨_, rfl⟩ | apply gain_ext | apply gain_alloc | apply gain_drewN | apply gain_drew) | (refine gain_setCell ?_ (by first | exact Nat.le_refl _ | exact World.size_ext _ _ | (simp; done) | (simp; omega)) _)))) (by with_reducible (repeat (first | exact hs0.out | refine World.sl_ext Ctl.cells_length ?_ _ | refine sl_alloc Ctl.cells_length ?_ _ | refine sl_drew ?_))) hl (by with_reducible (repeat (first | exact ht0.out | refine World.sl_ext intC_length ?_ _ | refine sl_alloc intC_length ?_ _ | refine sl_drew ?_))) HC.out).mono ?_; rintro e w1 ⟨r5, rfl, ⟨d5, rfl⟩, h5⟩; obtain ⟨p5, c5, rfl, _⟩ := sl_of_own intC_length h5)
    generalize hBN : backN m l t (t.length - 1) = RN at *
    have HRN := Lib.hid (show RN.length ≤ 8 by rw [← hBN]; have := backN_length m l t (t.length - 1); omega)
    cases hy : decide (0 < RN.length) with
    | true =>
      have hy2 : decide (0 < (RN.length : Int)) = true := by simpa using hy
      rw [hy] at HE3
      clear hBN
      go_wp2_with (at_builtin; go_must (refine wpList_append_gain (m := [(4 : Int)]) rfl (.tmp 41) (.tmp 42) rfl Try.underlying22 info_int (by rfl) (by omega) intC_length intC_one (by omega) (by repeat (first | with_reducible (first | exact World.gained_refl _ | exact ⟨_, rfl⟩ | apply gain_ext | apply gain_alloc | apply gain_drewN | apply gain_drew) | (refine gain_setCell ?_ (by first | exact Nat.le_refl _ | exact World.size_ext _ _ | (simp; done) | (simp; omega)) _))) (Nat.le_refl _) (gain_size (by repeat (first | with_reducible (first | exact World.gained_refl _ | exact ⟨_, rfl⟩ | apply gain_ext | apply gain_alloc | apply gain_drewN | apply gain_drew) | (refine gain_setCell ?_ (by first | exact Nat.le_refl _ | exact World.size_ext _ _ | (simp; done) | (simp; omega)) _)))) rfl rfl (own_up (HO3.out) (by repeat (first | with_reducible (first | exact World.gained_refl _ | exact ⟨_, rfl⟩ | apply gain_ext | apply gain_alloc | apply gain_drewN | apply gain_drew) | (refine gain_setCell ?_ (by first | exact Nat.le_refl _ | exact World.size_ext _ _ | (simp; done) | (simp; omega)) _)))) (sl_lit (l := [(4 : Int)]) intC_length rfl (by simp)) (by have := HL3.out; simp; omega) ?_); intro v' d' ho hg)
      go_ret2
      rw [HE3.out]
      exact ⟨_, rfl, gain_trans HG.out ⟨_, rfl⟩, own_base ho hsz⟩
    | false =>
      have hy2 : decide (0 < (RN.length : Int)) = false := by simpa using hy
      rw [hy] at HE3
      have HE4 := Lib.hid (HE3.out.trans (show _ = F3 by simp))
      clear hBN
      go_wp2
      go_ret2
      rw [HE4.out]
      exact ⟨_, rfl, gain_trans HG.out (by repeat (first | with_reducible (first | exact World.gained_refl _ | exact ⟨_, rfl⟩ | apply gain_ext | apply gain_alloc | apply gain_drewN | apply gain_drew) | (refine gain_setCell ?_ (by first | exact Nat.le_refl _ | exact World.size_ext _ _ | (simp; done) | (simp; omega)) _))), own_base (own_up (HO3.out) (by repeat (first | with_reducible (first | exact World.gained_refl _ | exact ⟨_, rfl⟩ | apply gain_ext | apply gain_alloc | apply gain_drewN | apply gain_drew) | (refine gain_setCell ?_ (by first | exact Nat.le_refl _ | exact World.size_ext _ _ | (simp; done) | (simp; omega)) _)))) hsz⟩
set_option maxHeartbeats 8000000 in
theorem specCourseFaults_any (m : Mp) (rv cv v u : Value) (l : List Ctl) (t : List Int) (w : World) (hmp : w.mp rv cv m) (h : w.sl Ctl.cells 2 v l) (hl : l.length ≤ 1048576) (h2 : w.sl intC 1 u t) (hl2 : t.length ≤ 1048576) :
    Calls Try.prog 36 #[.agg #[.int .i64 m.wd, .int .i64 m.ht, rv, cv], v, u] w fun x w' => ∃ r, x = .returned (.tuple #[r, .bool (crsB m l t)]) ∧ (∃ d, w' = w.ext d) ∧ w'.own w.heap.size 3 intC 1 r (faultL m l t) := by
  have hm := Lib.hid hmp
  have hs := Lib.hid h
  have ht := Lib.hid h2
  obtain ⟨p1, c1, p2, c2, rfl, rfl⟩ := mp_form hmp
  obtain ⟨p, c, rfl, _⟩ := id h
  obtain ⟨p', c', rfl, _⟩ := id h2
  have HGD := Lib.hid (fun w' hw' hv' hu' => l8Good_any m (.slice p1 m.rise.length c1) (.slice p2 m.cost.length c2) (.slice p l.length c) (.slice p' t.length c') l t w' hw' hv' hl hu' hl2)
  clear hmp h h2
  cases hB : crsB m l t with
  | false =>
    have HE := Lib.hid (show faultL m l t = [] by simp [faultL, hB])
    rw [hB] at HGD
    clear hB
    go_enter Try.func36, Try.ntmps36
    go_wp2_with (go_at_call 121; refine (HGD.out _ (mp_up (hm.out) (by repeat (first | with_reducible (first | exact World.gained_refl _ | exact ⟨_, rfl⟩ | apply gain_ext | apply gain_alloc | apply gain_drewN | apply gain_drew) | (refine gain_setCell ?_ (by first | exact Nat.le_refl _ | exact World.size_ext _ _ | (simp; done) | (simp; omega)) _)))) (by with_reducible (repeat (first | exact hs.out | refine World.sl_ext Ctl.cells_length ?_ _ | refine sl_alloc Ctl.cells_length ?_ _ | refine sl_drew ?_))) (by with_reducible (repeat (first | exact ht.out | refine World.sl_ext intC_length ?_ _ | refine sl_alloc intC_length ?_ _ | refine sl_drew ?_)))).mono ?_; rintro e w1 ⟨rfl, d1, rfl⟩)
    go_ret2
    rw [HE.out]
    exact ⟨_, rfl, (by repeat (first | with_reducible (first | exact World.gained_refl _ | exact ⟨_, rfl⟩ | apply gain_ext | apply gain_alloc | apply gain_drewN | apply gain_drew) | (refine gain_setCell ?_ (by first | exact Nat.le_refl _ | exact World.size_ext _ _ | (simp; done) | (simp; omega)) _))), own_up (own_lit' (w := w.alloc (.cells #[.int .i64 m.wd, .int .i64 m.ht, .slice p1 m.rise.length c1, .slice p2 m.cost.length c2] 31)) (l := ([] : List Int)) intC_length rfl (by simp [World.size_alloc]) (by simp [World.size_alloc])) (by repeat (first | with_reducible (first | exact World.gained_refl _ | exact ⟨_, rfl⟩ | apply gain_ext | apply gain_alloc | apply gain_drewN | apply gain_drew) | (refine gain_setCell ?_ (by first | exact Nat.le_refl _ | exact World.size_ext _ _ | (simp; done) | (simp; omega)) _)))⟩
  | true =>
    have hC := crsB_true hB
    have HC := Lib.hid hC
    have ht8 := hC.hi
    have ht2 := hC.lo
    have HE := Lib.hid (fun A B hA hB' => faultL_yes (A := A) (B := B) hB hA hB')
    rw [hB] at HGD
    clear hB hC
    go_enter Try.func36, Try.ntmps36
    go_wp2_with fail
    generalize hW0 : w.alloc (.cells #[.int .i64 m.wd, .int .i64 m.ht, .slice p1 m.rise.length c1, .slice p2 m.cost.length c2] 31) = W0
    have hbx : MBox w W0 w.heap.size m (.slice p1 m.rise.length c1) (.slice p2 m.cost.length c2) := by rw [← hW0]; exact mbox
    have HG := Lib.hid hbx.up
    have hsz := hbx.sz
    have bx0 := hbx.c0
    have bx1 := hbx.c1
    have bx2 := hbx.c2
    have bx3 := hbx.c3
    have obx := hbx.ob
    have HSE := Lib.hid hbx.se
    have HM0 := Lib.hid (mp_up hm.out HG.out)
    have hs0 := Lib.hid (sl_up Ctl.cells_length hs.out HG.out)
    have ht0 := Lib.hid (sl_up intC_length ht.out HG.out)
    clear hW0 hbx
    go_upto_if 21 with (go_at_call 121; refine (HGD.out _ (mp_up (HM0.out) (by repeat (first | with_reducible (first | exact World.gained_refl _ | exact ⟨_, rfl⟩ | apply gain_ext | apply gain_alloc | apply gain_drewN | apply gain_drew) | (refine gain_setCell ?_ (by first | exact Nat.le_refl _ | exact World.size_ext _ _ | (simp; done) | (simp; omega)) _)))) (by with_reducible (repeat (first | exact hs0.out | refine World.sl_ext Ctl.cells_length ?_ _ | refine sl_alloc Ctl.cells_length ?_ _ | refine sl_drew ?_))) (by with_reducible (repeat (first | exact ht0.out | refine World.sl_ext intC_length ?_ _ | refine sl_alloc intC_length ?_ _ | refine sl_drew ?_)))).mono ?_; rintro e w1 ⟨rfl, d1, rfl⟩)
    have HNEW := Lib.hid (own_ext (own_lit' (w := W0) (base := W0.heap.size) (e := 3) (l := ([] : List Int)) intC_length rfl HSE.out.symm (Nat.le_refl _)) d1)
    go_cut [8] (fun s wx => (∃ d, wx = W0.ext d) ∧ wx.own W0.heap.size 3 intC 1 s (if t.length < 4 then [1] else []))
    case first =>
      cases hy : decide ((t.length : Int) < 4) with
      | true =>
        have hy' : t.length < 4 := by have := of_decide_eq_true hy; omega
        go_wp2_with (at_builtin; go_must (refine wpList_append_gain (m := [(1 : Int)]) rfl (.tmp 22) (.tmp 23) rfl Try.underlying22 info_int (by rfl) (by omega) intC_length intC_one (by omega) (by repeat (first | with_reducible (first | exact World.gained_refl _ | exact ⟨_, rfl⟩ | apply gain_ext | apply gain_alloc | apply gain_drewN | apply gain_drew) | (refine gain_setCell ?_ (by first | exact Nat.le_refl _ | exact World.size_ext _ _ | (simp; done) | (simp; omega)) _))) (Nat.le_refl _) (gain_size (by repeat (first | with_reducible (first | exact World.gained_refl _ | exact ⟨_, rfl⟩ | apply gain_ext | apply gain_alloc | apply gain_drewN | apply gain_drew) | (refine gain_setCell ?_ (by first | exact Nat.le_refl _ | exact World.size_ext _ _ | (simp; done) | (simp; omega)) _)))) rfl rfl (own_up (HNEW.out) (by repeat (first | with_reducible (first | exact World.gained_refl _ | exact ⟨_, rfl⟩ | apply gain_ext | apply gain_alloc | apply gain_drewN | apply gain_drew) | (refine gain_setCell ?_ (by first | exact Nat.le_refl _ | exact World.size_ext _ _ | (simp; done) | (simp; omega)) _)))) (sl_lit (l := [(1 : Int)]) intC_length rfl (by simp)) (by simp) ?_); intro v' d' ho hg)
        go_meet
        exact ⟨⟨_, rfl⟩, by rw [if_pos hy']; exact ho⟩
      | false =>
        have hy' : ¬ t.length < 4 := by have := of_decide_eq_false hy; omega
        go_wp2_with fail
        go_meet
        exact ⟨(by repeat (first | with_reducible (first | exact World.gained_refl _ | exact ⟨_, rfl⟩ | apply gain_ext | apply gain_alloc | apply gain_drewN | apply gain_drew) | (refine gain_setCell ?_ (by first | exact Nat.le_refl _ | exact World.size_ext _ _ | (simp; done) | (simp; omega)) _))), by rw [if_neg hy']; exact (own_up (HNEW.out) (by repeat (first | with_reducible (first | exact World.gained_refl _ | exact ⟨_, rfl⟩ | apply gain_ext | apply gain_alloc | apply gain_drewN | apply gain_drew) | (refine gain_setCell ?_ (by first | exact Nat.le_refl _ | exact World.size_ext _ _ | (simp; done) | (simp; omega)) _))))⟩
    obtain ⟨⟨e1, rfl⟩, ho⟩ := hcut
    have HO1 := Lib.hid ho
    have HL1 := Lib.hid (show (if t.length < 4 then [(1 : Int)] else []).length ≤ 1 by split <;> simp)
    clear ho
    generalize (if t.length < 4 then [(1 : Int)] else []) = F1 at HO1 HL1 HE
    go_upto_if 26 with (go_at_call 130; refine (l8Twice_any _ t _ (by with_reducible (repeat (first | exact ht0.out | refine World.sl_ext intC_length ?_ _ | refine sl_alloc intC_length ?_ _ | refine sl_drew ?_))) hl2).mono ?_; rintro e w1 ⟨rfl, d2, rfl⟩)
    go_cut [8] (fun s wx => (∃ d, wx = W0.ext d) ∧ wx.own W0.heap.size 3 intC 1 s (F1 ++ if twiceB t then [2] else []))
    case first =>
      cases hy : twiceB t with
      | true =>
        skip
        go_wp2_with (at_builtin; go_must (refine wpList_append_gain (m := [(2 : Int)]) rfl (.tmp 27) (.tmp 28) rfl Try.underlying22 info_int (by rfl) (by omega) intC_length intC_one (by omega) (by repeat (first | with_reducible (first | exact World.gained_refl _ | exact ⟨_, rfl⟩ | apply gain_ext | apply gain_alloc | apply gain_drewN | apply gain_drew) | (refine gain_setCell ?_ (by first | exact Nat.le_refl _ | exact World.size_ext _ _ | (simp; done) | (simp; omega)) _))) (Nat.le_refl _) (gain_size (by repeat (first | with_reducible (first | exact World.gained_refl _ | exact ⟨_, rfl⟩ | apply gain_ext | apply gain_alloc | apply gain_drewN | apply gain_drew) | (refine gain_setCell ?_ (by first | exact Nat.le_refl _ | exact World.size_ext _ _ | (simp; done) | (simp; omega)) _)))) rfl rfl (own_up (HO1.out) (by repeat (first | with_reducible (first | exact World.gained_refl _ | exact ⟨_, rfl⟩ | apply gain_ext | apply gain_alloc | apply gain_drewN | apply gain_drew) | (refine gain_setCell ?_ (by first | exact Nat.le_refl _ | exact World.size_ext _ _ | (simp; done) | (simp; omega)) _)))) (sl_lit (l := [(2 : Int)]) intC_length rfl (by simp)) (by have := HL1.out; simp; omega) ?_); intro v' d' ho hg)
        go_meet
        exact ⟨⟨_, rfl⟩, by rw [if_pos hy]; exact ho⟩
      | false =>
        skip
        go_wp2_with fail
        go_meet
        exact ⟨(by repeat (first | with_reducible (first | exact World.gained_refl _ | exact ⟨_, rfl⟩ | apply gain_ext | apply gain_alloc | apply gain_drewN | apply gain_drew) | (refine gain_setCell ?_ (by first | exact Nat.le_refl _ | exact World.size_ext _ _ | (simp; done) | (simp; omega)) _))), by rw [if_neg (by rw [hy]; decide), List.append_nil]; exact (own_up (HO1.out) (by repeat (first | with_reducible (first | exact World.gained_refl _ | exact ⟨_, rfl⟩ | apply gain_ext | apply gain_alloc | apply gain_drewN | apply gain_drew) | (refine gain_setCell ?_ (by first | exact Nat.le_refl _ | exact World.size_ext _ _ | (simp; done) | (simp; omega)) _))))⟩
    obtain ⟨⟨e2, rfl⟩, ho⟩ := hcut
    have HO2 := Lib.hid ho
    have HL2 := Lib.hid (show (F1 ++ if twiceB t then [(2 : Int)] else []).length ≤ 2 by have := HL1.out; have := if1 (twiceB t = true) 2; rw [List.length_append]; omega)
    clear ho
    generalize (F1 ++ if twiceB t then [(2 : Int)] else []) = F2 at HO2 HL2 HE
    go_wp2_with (go_at_call 131; refine (l8Times_any m _ _ _ _ l t _ (mp_up (HM0.out) (by repeat (first | with_reducible (first | exact World.gained_refl _ | exact ⟨_, rfl⟩ | apply gain_ext | apply gain_alloc | apply gain_drewN | apply gain_drew) | (refine gain_setCell ?_ (by first | exact Nat.le_refl _ | exact World.size_ext _ _ | (simp; done) | (simp; omega)) _)))) (by with_reducible (repeat (first | exact hs0.out | refine World.sl_ext Ctl.cells_length ?_ _ | refine sl_alloc Ctl.cells_length ?_ _ | refine sl_drew ?_))) hl (by with_reducible (repeat (first | exact ht0.out | refine World.sl_ext intC_length ?_ _ | refine sl_alloc intC_length ?_ _ | refine sl_drew ?_))) HC.out).mono ?_; rintro e w1 ⟨r3, rfl, ⟨d3, rfl⟩, h3⟩)
    have HLL := Lib.hid (legsT_length m l t (t.length - 1))
    have H3 := Lib.hid (sl_of_own intC_length h3)
    clear h3
    generalize hLL : legsT m l t (t.length - 1) = L at *
    obtain ⟨p3, c3, rfl, hp3, hcap3⟩ := id H3.out
    go_loopw [9, 11] (fun s i wr => ∃ k : Nat, k ≤ L.length ∧ i = .int .i64 k ∧ s = .bool ((L.take k).any (fun x => decide (x < 3))) ∧ ∃ d, wr = ((W0.ext e2).ext d3).ext d) (fun _ i _ => L.length - (intOf i).toNat)
    case atStart => exact ⟨0, by omega, rfl, rfl, World.gained_refl _⟩
    case round =>
      obtain ⟨k, hk, rfl, rfl, d4, rfl⟩ := hrel
      have hLs : L.length ≤ 8 := by rw [HLL.out]; omega
      by_cases hlt : k < L.length
      · obtain ⟨b, o, rfl, hc⟩ := hp3 (by omega)
        have c0 := hc k hlt 0 (by omega)
        have HS := Lib.hid (take_any_step (f := fun x => decide (x < 3)) hlt)
        generalize L[k] = y at c0 HS
        generalize (L.take k).any (fun x => decide (x < 3)) = S0 at HS ⊢
        have hck : k ≤ c3 := by omega
        clear hc hp3
        simp only [intC, List.getElem?_cons_zero, Nat.add_zero, Nat.mul_one] at c0
        have ob := World.oldB_of_cell c0
        cases S0 with
        | true =>
          go_wp2_with fail
          go_roundw
          case rel => exact ⟨k + 1, by omega, by go_num, by rw [HS.out]; rfl, (by repeat (first | with_reducible (first | exact World.gained_refl _ | exact ⟨_, rfl⟩ | apply gain_ext | apply gain_alloc | apply gain_drewN | apply gain_drew) | (refine gain_setCell ?_ (by first | exact Nat.le_refl _ | exact World.size_ext _ _ | (simp; done) | (simp; omega)) _)))⟩
          case measure => simp [intOf]; omega
        | false =>
          go_wp2_with fail
          go_roundw
          case rel => exact ⟨k + 1, by omega, by go_num, by rw [HS.out]; simp, (by repeat (first | with_reducible (first | exact World.gained_refl _ | exact ⟨_, rfl⟩ | apply gain_ext | apply gain_alloc | apply gain_drewN | apply gain_drew) | (refine gain_setCell ?_ (by first | exact Nat.le_refl _ | exact World.size_ext _ _ | (simp; done) | (simp; omega)) _)))⟩
          case measure => simp [intOf]; omega
      · have hE : L.take k = L := List.take_of_length_le (by omega)
        rw [hE]
        clear hE
        generalize hA : L.any (fun x => decide (x < 3)) = A at *
        clear hp3
        go_upto_if 48 with fail
        go_cut [8, 9] (fun s q wx => q = .bool A ∧ (∃ d, wx = W0.ext d) ∧ wx.own W0.heap.size 3 intC 1 s (F2 ++ if A then [3] else []))
        case first =>
          cases hy : A with
          | true =>
            skip
            go_wp2_with (at_builtin; go_must (refine wpList_append_gain (m := [(3 : Int)]) rfl (.tmp 49) (.tmp 50) rfl Try.underlying22 info_int (by rfl) (by omega) intC_length intC_one (by omega) (by repeat (first | with_reducible (first | exact World.gained_refl _ | exact ⟨_, rfl⟩ | apply gain_ext | apply gain_alloc | apply gain_drewN | apply gain_drew) | (refine gain_setCell ?_ (by first | exact Nat.le_refl _ | exact World.size_ext _ _ | (simp; done) | (simp; omega)) _))) (Nat.le_refl _) (gain_size (by repeat (first | with_reducible (first | exact World.gained_refl _ | exact ⟨_, rfl⟩ | apply gain_ext | apply gain_alloc | apply gain_drewN | apply gain_drew) | (refine gain_setCell ?_ (by first | exact Nat.le_refl _ | exact World.size_ext _ _ | (simp; done) | (simp; omega)) _)))) rfl rfl (own_up (HO2.out) (by repeat (first | with_reducible (first | exact World.gained_refl _ | exact ⟨_, rfl⟩ | apply gain_ext | apply gain_alloc | apply gain_drewN | apply gain_drew) | (refine gain_setCell ?_ (by first | exact Nat.le_refl _ | exact World.size_ext _ _ | (simp; done) | (simp; omega)) _)))) (sl_lit (l := [(3 : Int)]) intC_length rfl (by simp)) (by have := HL2.out; simp; omega) ?_); intro v' d' ho hg)
            go_meet
            exact ⟨by rw [hy], ⟨_, rfl⟩, by rw [if_pos hy]; exact ho⟩
          | false =>
            skip
            go_wp2_with fail
            go_meet
            exact ⟨by rw [hy], (by repeat (first | with_reducible (first | exact World.gained_refl _ | exact ⟨_, rfl⟩ | apply gain_ext | apply gain_alloc | apply gain_drewN | apply gain_drew) | (refine gain_setCell ?_ (by first | exact Nat.le_refl _ | exact World.size_ext _ _ | (simp; done) | (simp; omega)) _))), by rw [if_neg (by rw [hy]; decide), List.append_nil]; exact (own_up (HO2.out) (by repeat (first | with_reducible (first | exact World.gained_refl _ | exact ⟨_, rfl⟩ | apply gain_ext | apply gain_alloc | apply gain_drewN | apply gain_drew) | (refine gain_setCell ?_ (by first | exact Nat.le_refl _ | exact World.size_ext _ _ | (simp; done) | (simp; omega)) _))))⟩
        obtain ⟨rfl, ⟨e3, rfl⟩, ho⟩ := hcut
        have HO3 := Lib.hid ho
        have HL3 := Lib.hid (show (F2 ++ if A then [(3 : Int)] else []).length ≤ 3 by have := HL2.out; have := if1 (A = true) 3; rw [List.length_append]; omega)
        clear ho
        have HE3 := Lib.hid (HE.out A _ rfl rfl)
        generalize (F2 ++ if A then [(3 : Int)] else []) = F3 at HO3 HL3 HE3
        go_upto_if 57 with (go_at_call 128; refine (l8Back_any m _ _ _ _ l t _ (mp_up (HM0.out) (by repeat (first | with_reducible (first | exact World.gained_refl _ | exact ⟨_, rfl⟩ | apply gain_ext | apply gain_alloc | apply gain_drewN | apply gain_drew) | (refine gain_setCell ?_ (by first | exact Nat.le_refl _ | exact World.size_ext _ _ | (simp; done) | (simp; omega)) _)))) (by with_reducible (repeat (first | exact hs0.out | refine World.sl_ext Ctl.cells_length ?_ _ | refine sl_alloc Ctl.cells_length ?_ _ | refine sl_drew ?_))) hl (by with_reducible (repeat (first | exact ht0.out | refine World.sl_ext intC_length ?_ _ | refine sl_alloc intC_length ?_ _ | refine sl_drew ?_))) HC.out).mono ?_; rintro e w1 ⟨r5, rfl, ⟨d5, rfl⟩, h5⟩; obtain ⟨p5, c5, rfl, _⟩ := sl_of_own intC_length h5)
        generalize hBN : backN m l t (t.length - 1) = RN at *
        have HRN := Lib.hid (show RN.length ≤ 8 by rw [← hBN]; have := backN_length m l t (t.length - 1); omega)
        cases hy : decide (0 < RN.length) with
        | true =>
          have hy2 : decide (0 < (RN.length : Int)) = true := by simpa using hy
          rw [hy] at HE3
          clear hBN
          go_wp2_with (at_builtin; go_must (refine wpList_append_gain (m := [(4 : Int)]) rfl (.tmp 58) (.tmp 59) rfl Try.underlying22 info_int (by rfl) (by omega) intC_length intC_one (by omega) (by repeat (first | with_reducible (first | exact World.gained_refl _ | exact ⟨_, rfl⟩ | apply gain_ext | apply gain_alloc | apply gain_drewN | apply gain_drew) | (refine gain_setCell ?_ (by first | exact Nat.le_refl _ | exact World.size_ext _ _ | (simp; done) | (simp; omega)) _))) (Nat.le_refl _) (gain_size (by repeat (first | with_reducible (first | exact World.gained_refl _ | exact ⟨_, rfl⟩ | apply gain_ext | apply gain_alloc | apply gain_drewN | apply gain_drew) | (refine gain_setCell ?_ (by first | exact Nat.le_refl _ | exact World.size_ext _ _ | (simp; done) | (simp; omega)) _)))) rfl rfl (own_up (HO3.out) (by repeat (first | with_reducible (first | exact World.gained_refl _ | exact ⟨_, rfl⟩ | apply gain_ext | apply gain_alloc | apply gain_drewN | apply gain_drew) | (refine gain_setCell ?_ (by first | exact Nat.le_refl _ | exact World.size_ext _ _ | (simp; done) | (simp; omega)) _)))) (sl_lit (l := [(4 : Int)]) intC_length rfl (by simp)) (by have := HL3.out; simp; omega) ?_); intro v' d' ho hg)
          go_ret2
          rw [HE3.out]
          exact ⟨_, rfl, gain_trans HG.out ⟨_, rfl⟩, own_base ho hsz⟩
        | false =>
          have hy2 : decide (0 < (RN.length : Int)) = false := by simpa using hy
          rw [hy] at HE3
          have HE4 := Lib.hid (HE3.out.trans (show _ = F3 by simp))
          clear hBN
          go_wp2
          go_ret2
          rw [HE4.out]
          exact ⟨_, rfl, gain_trans HG.out (by repeat (first | with_reducible (first | exact World.gained_refl _ | exact ⟨_, rfl⟩ | apply gain_ext | apply gain_alloc | apply gain_drewN | apply gain_drew) | (refine gain_setCell ?_ (by first | exact Nat.le_refl _ | exact World.size_ext _ _ | (simp; done) | (simp; omega)) _))), own_base (own_up (HO3.out) (by repeat (first | with_reducible (first | exact World.gained_refl _ | exact ⟨_, rfl⟩ | apply gain_ext | apply gain_alloc | apply gain_drewN | apply gain_drew) | (refine gain_setCell ?_ (by first | exact Nat.le_refl _ | exact World.size_ext _ _ | (simp; done) | (simp; omega)) _)))) hsz⟩
end Go.Proofs.Ythjnkeelmigkbaa
