/- Texts laid together: spec.l2Map, l2Cell, l2Open. Conditions: at most 1048576 numbers; a valid map for the last two.; impl.absOf, gapOf; spec.l1Most. Conditions: a valid map; cells of it. -/
import Derived.Test.YtmcimgnobimicaaGreatG8
/- spec.l2Map, l2Cell, l2Open. Conditions: at most 1048576 numbers; a valid map for the last two. -/
namespace Go.Proofs.YtmcimgnobimicaaGreat
open Go.RowKit Go.Ori
theorem all_in {l : List Int} (h : ∀ (j : Nat) (hj : j < l.length), insB l[j] 0 9 = true) : (l.all fun n => insB n 0 9) = true := by
  rw [List.all_eq_true]
  intro x hx
  obtain ⟨j, hj, rfl⟩ := List.getElem_of_mem hx
  exact h j hj
theorem step_in {l : List Int} {k : Nat} (h : ∀ (j : Nat) (hj : j < l.length), j < k → insB l[j] 0 9 = true) (hk : k < l.length) (q : insB l[k] 0 9 = true) : ∀ (j : Nat) (hj : j < l.length), j < k + 1 → insB l[j] 0 9 = true := by
  intro j hj hjk
  by_cases e : j = k
  · subst e; exact q
  · exact h j hj (by omega)
theorem all_out {l : List Int} {j : Nat} (hj : j < l.length) (h : insB l[j] 0 9 = false) : (l.all fun n => insB n 0 9) = false := by
  rw [List.all_eq_false]
  exact ⟨l[j], List.getElem_mem hj, by simp [h]⟩
set_option maxHeartbeats 2000000 in
theorem l2Map_any (m : Mp) (rv cv : Value) (w : World) (h : w.mp rv cv m) :
    Calls Tryz.prog 58 #[.agg #[.int .i64 m.wd, .int .i64 m.ht, rv, cv]] w fun x w' => x = .returned (.bool (mapB m)) ∧ ∃ d, w' = w.ext d := by
  have hm := Lib.hid h
  have hrl := h.rl
  have hcl := h.cl
  obtain ⟨p, c, p', c', rfl, rfl⟩ := mp_form h
  clear h
  cases h1 : insB m.wd 1 6 with
  | false =>
    have HE := Lib.hid (show mapB m = false by simp [mapB, h1])
    go_enter Tryz.func58, Tryz.ntmps58
    go_wp2_with (go_at_call 49; refine (l1In_any _ _ _ _).mono ?_; rintro e w1 ⟨rfl, rfl⟩)
    go_ret
    rw [HE.out]
    exact ⟨rfl, (by repeat (first | with_reducible (first | exact World.gained_refl _ | exact ⟨_, rfl⟩ | apply gain_ext | apply gain_alloc | apply gain_drewN | apply gain_drew) | (refine gain_setCell ?_ (by first | exact Nat.le_refl _ | exact World.size_ext _ _ | (simp; done) | (simp; omega)) _)))⟩
  | true =>
  cases h2 : insB m.ht 1 6 with
  | false =>
    have HE := Lib.hid (show mapB m = false by simp [mapB, h2])
    go_enter Tryz.func58, Tryz.ntmps58
    go_wp2_with (go_at_call 49; refine (l1In_any _ _ _ _).mono ?_; rintro e w1 ⟨rfl, rfl⟩)
    go_ret
    rw [HE.out]
    exact ⟨rfl, (by repeat (first | with_reducible (first | exact World.gained_refl _ | exact ⟨_, rfl⟩ | apply gain_ext | apply gain_alloc | apply gain_drewN | apply gain_drew) | (refine gain_setCell ?_ (by first | exact Nat.le_refl _ | exact World.size_ext _ _ | (simp; done) | (simp; omega)) _)))⟩
  | true =>
  obtain ⟨P, hP⟩ : ∃ P, P = m.wd * m.ht := ⟨_, rfl⟩
  have hwr : wrap64 (m.wd * m.ht) = P := by rw [hP]; exact (wrap_mul h1 h2).1
  by_cases e1 : ((m.rise.length : Int) != P) = true
  · have HE := Lib.hid (show mapB m = false by rw [hP] at e1; simp at e1; simp [mapB, e1])
    clear hP
    go_enter Tryz.func58, Tryz.ntmps58
    go_wp2_with (go_at_call 49; refine (l1In_any _ _ _ _).mono ?_; rintro e w1 ⟨rfl, rfl⟩)
    go_ret
    rw [HE.out]
    exact ⟨rfl, (by repeat (first | with_reducible (first | exact World.gained_refl _ | exact ⟨_, rfl⟩ | apply gain_ext | apply gain_alloc | apply gain_drewN | apply gain_drew) | (refine gain_setCell ?_ (by first | exact Nat.le_refl _ | exact World.size_ext _ _ | (simp; done) | (simp; omega)) _)))⟩
  by_cases e2 : ((m.cost.length : Int) != (m.rise.length : Int)) = true
  · have HE := Lib.hid (show mapB m = false by simp only [bne_iff_ne, ne_eq, Int.natCast_inj] at e2; simp [mapB, e2])
    clear hP
    replace e1 : ((m.rise.length : Int) != P) = false := by simpa using e1
    go_enter Tryz.func58, Tryz.ntmps58
    go_wp2_with (go_at_call 49; refine (l1In_any _ _ _ _).mono ?_; rintro e w1 ⟨rfl, rfl⟩)
    go_ret
    rw [HE.out]
    exact ⟨rfl, (by repeat (first | with_reducible (first | exact World.gained_refl _ | exact ⟨_, rfl⟩ | apply gain_ext | apply gain_alloc | apply gain_drewN | apply gain_drew) | (refine gain_setCell ?_ (by first | exact Nat.le_refl _ | exact World.size_ext _ _ | (simp; done) | (simp; omega)) _)))⟩
  replace e1 : ((m.rise.length : Int) != P) = false := by simpa using e1
  replace e2 : ((m.cost.length : Int) != (m.rise.length : Int)) = false := by simpa using e2
  have e1' : (m.rise.length : Int) = m.wd * m.ht := by rw [← hP]; simpa using e1
  have e2' : m.cost.length = m.rise.length := by simp only [bne_eq_false_iff_eq, Int.natCast_inj] at e2; exact e2
  clear hP
  have HE := Lib.hid (show mapB m = ((m.rise.all fun n => insB n 0 9) && (m.cost.all fun n => insB n 0 9)) by
    simp [mapB, h1, h2, e1', e2'])
  have HEQ := Lib.hid e2'
  clear e1' e2'
  go_enter Tryz.func58, Tryz.ntmps58
  go_wp2_with (go_at_call 49; refine (l1In_any _ _ _ _).mono ?_; rintro e w1 ⟨rfl, rfl⟩)
  clear h1 h2 hwr e1 e2
  go_loopw [3] (fun i wr => ∃ k : Nat, k ≤ m.rise.length ∧ i = .int .i64 k ∧ (∀ (j : Nat) (hj : j < m.rise.length), j < k → insB m.rise[j] 0 9 = true) ∧ (∀ (j : Nat) (hj : j < m.cost.length), j < k → insB m.cost[j] 0 9 = true) ∧ (∃ d, wr = (w.alloc (.cells #[.int .i64 m.wd, .int .i64 m.ht, .slice p m.rise.length c, .slice p' m.cost.length c'] 26)).ext d)) (fun i _ => m.rise.length - (intOf i).toNat)
  case atStart => exact ⟨0, by omega, rfl, by simp, by simp, (by repeat (first | with_reducible (first | exact World.gained_refl _ | exact ⟨_, rfl⟩ | apply gain_ext | apply gain_alloc | apply gain_drewN | apply gain_drew) | (refine gain_setCell ?_ (by first | exact Nat.le_refl _ | exact World.size_ext _ _ | (simp; done) | (simp; omega)) _)))⟩
  case round =>
    obtain ⟨k, hk, rfl, hr, hc, d, rfl⟩ := hrel
    have HR := Lib.hid hr
    have HC := Lib.hid hc
    clear hr hc
    by_cases hlt : k < m.rise.length
    · have hlt2 : k < m.cost.length := by have := HEQ.out; omega
      obtain ⟨b1, o1, rfl⟩ := sl_some hm.out.r (by omega)
      obtain ⟨b2, o2, rfl⟩ := sl_some hm.out.c (by have := HEQ.out; omega)
      have cr := sl_int hm.out.r hlt
      have cc := sl_int hm.out.c (k := k) (by have := HEQ.out; omega)
      have HR1 := Lib.hid (fun (q : insB m.rise[k] 0 9 = true) => step_in HR.out hlt q)
      have HC1 := Lib.hid (fun (q : insB (m.cost[k]'(by have := HEQ.out; omega)) 0 9 = true) => step_in HC.out (by have := HEQ.out; omega) q)
      have HR0 := Lib.hid (fun (q : insB m.rise[k] 0 9 = false) => all_out hlt q)
      have HC0 := Lib.hid (fun (q : insB (m.cost[k]'(by have := HEQ.out; omega)) 0 9 = false) => all_out (by have := HEQ.out; omega) q)
      generalize m.rise[k] = x at cr HR1 HR0
      generalize m.cost[k]'(by have := HEQ.out; omega) = y at cc HC1 HC0
      have ob1 := World.oldB_of_cell cr
      have ob2 := World.oldB_of_cell cc
      cases hx : insB x 0 9 with
      | false =>
        have HE' := Lib.hid (show mapB m = false by rw [HE.out, HR0.out hx]; rfl)
        go_wp2_with (go_at_call 49; refine (l1In_any _ _ _ _).mono ?_; rintro e w1 ⟨rfl, rfl⟩)
        go_ret
        rw [HE'.out]
        exact ⟨rfl, (by repeat (first | with_reducible (first | exact World.gained_refl _ | exact ⟨_, rfl⟩ | apply gain_ext | apply gain_alloc | apply gain_drewN | apply gain_drew) | (refine gain_setCell ?_ (by first | exact Nat.le_refl _ | exact World.size_ext _ _ | (simp; done) | (simp; omega)) _)))⟩
      | true =>
      cases hy : insB y 0 9 with
      | false =>
        have HE' := Lib.hid (show mapB m = false by rw [HE.out, HC0.out hy, Bool.and_false])
        go_wp2_with (go_at_call 49; refine (l1In_any _ _ _ _).mono ?_; rintro e w1 ⟨rfl, rfl⟩)
        go_ret
        rw [HE'.out]
        exact ⟨rfl, (by repeat (first | with_reducible (first | exact World.gained_refl _ | exact ⟨_, rfl⟩ | apply gain_ext | apply gain_alloc | apply gain_drewN | apply gain_drew) | (refine gain_setCell ?_ (by first | exact Nat.le_refl _ | exact World.size_ext _ _ | (simp; done) | (simp; omega)) _)))⟩
      | true =>
        have HR2 := Lib.hid (HR1.out hx)
        have HC2 := Lib.hid (HC1.out hy)
        go_wp2_with (go_at_call 49; refine (l1In_any _ _ _ _).mono ?_; rintro e w1 ⟨rfl, rfl⟩)
        go_roundw
        case rel => exact ⟨k + 1, by omega, by go_num, HR2.out, HC2.out, _, rfl⟩
        case measure => simp [intOf]; omega
    · have HE' := Lib.hid (show mapB m = true by rw [HE.out, all_in (fun j hj => HR.out j hj (by omega)), all_in (fun j hj => HC.out j hj (by have := HEQ.out; omega))]; rfl)
      go_wp2
      go_ret
      rw [HE'.out]
      exact ⟨rfl, (by repeat (first | with_reducible (first | exact World.gained_refl _ | exact ⟨_, rfl⟩ | apply gain_ext | apply gain_alloc | apply gain_drewN | apply gain_drew) | (refine gain_setCell ?_ (by first | exact Nat.le_refl _ | exact World.size_ext _ _ | (simp; done) | (simp; omega)) _)))⟩
set_option maxHeartbeats 2000000 in
theorem l2Cell_any (m : Mp) (rv cv : Value) (c : Int) (w : World) (hB : mapB m = true) :
    Calls Tryz.prog 105 #[.agg #[.int .i64 m.wd, .int .i64 m.ht, rv, cv], .int .i64 c] w fun x w' => x = .returned (.bool (cellB m c)) ∧ ∃ d, w' = w.ext d := by
  obtain ⟨W, H, hok⟩ := mapB_ok hB
  have hq : wrap64 (m.wd * m.ht) = (m.cost.length : Int) := by
    have h1 : insB m.wd 1 6 = true := by rw [insB_true, hok.wd]; have := hok.w1; have := hok.w6; omega
    have h2 : insB m.ht 1 6 = true := by rw [insB_true, hok.ht]; have := hok.h1; have := hok.h6; omega
    rw [(wrap_mul h1 h2).1, hok.cl, hok.wd, hok.ht]
    simp
  have hn := hok.n36
  have HE := Lib.hid (show cellB m c = insB c 0 ((m.cost.length : Int) - 1) by simp [cellB, hB])
  clear hok hB
  go_enter Tryz.func105, Tryz.ntmps105
  go_wp2_with (go_at_call 49; refine (l1In_any _ _ _ _).mono ?_; rintro e w1 ⟨rfl, rfl⟩)
  go_ret
  rw [HE.out]
  exact ⟨rfl, (by repeat (first | with_reducible (first | exact World.gained_refl _ | exact ⟨_, rfl⟩ | apply gain_ext | apply gain_alloc | apply gain_drewN | apply gain_drew) | (refine gain_setCell ?_ (by first | exact Nat.le_refl _ | exact World.size_ext _ _ | (simp; done) | (simp; omega)) _)))⟩
set_option maxHeartbeats 2000000 in
theorem l2Open_any (m : Mp) (rv cv : Value) (c : Int) (w : World) (h : w.mp rv cv m) (hM : mapB m = true) :
    Calls Tryz.prog 84 #[.agg #[.int .i64 m.wd, .int .i64 m.ht, rv, cv], .int .i64 c] w fun x w' => x = .returned (.bool (openB m c)) ∧ ∃ d, w' = w.ext d := by
  have hm := Lib.hid h
  have HM := Lib.hid hM
  cases hB : cellB m c with
  | false =>
    obtain ⟨p, k, p', k', rfl, rfl⟩ := mp_form h
    clear h hM
    have HE := Lib.hid (show openB m c = false by simp [openB, hB])
    go_enter Tryz.func84, Tryz.ntmps84
    go_wp2_with (go_at_call 105; refine (l2Cell_any m _ _ c _ HM.out).mono ?_; rw [hB]; rintro e w1 ⟨rfl, d1, rfl⟩)
    go_ret
    rw [HE.out]
    exact ⟨rfl, (by repeat (first | with_reducible (first | exact World.gained_refl _ | exact ⟨_, rfl⟩ | apply gain_ext | apply gain_alloc | apply gain_drewN | apply gain_drew) | (refine gain_setCell ?_ (by first | exact Nat.le_refl _ | exact World.size_ext _ _ | (simp; done) | (simp; omega)) _)))⟩
  | true =>
    obtain ⟨W, H, hok⟩ := mapB_ok hM
    obtain ⟨b1, o1, c1, b2, o2, c2, hin⟩ := mp_in h hok
    obtain ⟨k, rfl, hk⟩ : ∃ k : Nat, c = k ∧ k < m.cost.length := by
      simp only [cellB, Bool.and_eq_true, insB_true] at hB
      exact ⟨c.toNat, by omega, by omega⟩
    have HE := Lib.hid (show openB m k = decide (0 < costAt m k) by simp [openB, hB])
    have ck := hin.co k hk
    have ob := hin.ob2
    have hcl := h.cl
    obtain rfl := hin.rv
    obtain rfl := hin.cv
    clear h hin hok hM
    generalize costAt m k = x at ck HE
    go_enter Tryz.func84, Tryz.ntmps84
    go_wp2_with (go_at_call 105; refine (l2Cell_any m _ _ _ _ HM.out).mono ?_; rw [hB]; rintro e w1 ⟨rfl, d1, rfl⟩)
    go_ret
    rw [HE.out]
    exact ⟨rfl, (by repeat (first | with_reducible (first | exact World.gained_refl _ | exact ⟨_, rfl⟩ | apply gain_ext | apply gain_alloc | apply gain_drewN | apply gain_drew) | (refine gain_setCell ?_ (by first | exact Nat.le_refl _ | exact World.size_ext _ _ | (simp; done) | (simp; omega)) _)))⟩
end Go.Proofs.YtmcimgnobimicaaGreat
/- impl.absOf, gapOf; spec.l1Most. Conditions: a valid map; cells of it. -/
namespace Go.Proofs.YtmcimgnobimicaaGreat
open Go.RowKit Go.Ori
theorem absOf_any (n : Int) (w : World) (h1 : -1000000 ≤ n) (h2 : n ≤ 1000000) : Calls Tryz.prog 109 #[.int .i64 n] w fun x w' => x = .returned (.int .i64 (n.natAbs : Int)) ∧ w = w' := by
  go_enter Tryz.func109, Tryz.ntmps109
  go_wp2
  all_goals go_ret
  all_goals exact ⟨ret_int (by omega), rfl⟩
theorem l1Most_any (a b : Int) (w : World) : Calls Tryz.prog 59 #[.int .i64 a, .int .i64 b] w fun x w' => x = .returned (.int .i64 (max a b)) ∧ w = w' := by
  by_cases h : b < a
  · have HE := Lib.hid (show max a b = a by omega)
    go_enter Tryz.func59, Tryz.ntmps59
    go_wp2
    go_ret
    rw [HE.out]
    exact ⟨rfl, rfl⟩
  · have HE := Lib.hid (show max a b = b by omega)
    go_enter Tryz.func59, Tryz.ntmps59
    go_wp2
    go_ret
    rw [HE.out]
    exact ⟨rfl, rfl⟩
theorem wrap_nat {n : Nat} (h : n ≤ 36) : wrap64 (n : Int) = n := by unfold wrap64; omega
theorem wrap_sub {x y : Nat} (h : x ≤ 36) (h' : y ≤ 36) : wrap64 ((x : Int) - (y : Int)) = (x : Int) - (y : Int) := by unfold wrap64; omega
theorem sub_bd {x y : Nat} (h : x ≤ 36) (h' : y ≤ 36) : -1000000 ≤ (x : Int) - (y : Int) ∧ (x : Int) - (y : Int) ≤ 1000000 := by omega
theorem abs_bd2 {x y : Nat} (h : x ≤ 36) (h' : y ≤ 36) : 0 ≤ (((x : Int) - (y : Int)).natAbs : Int) ∧ (((x : Int) - (y : Int)).natAbs : Int) ≤ 36 := by omega
theorem abs_bd {x y : Nat} (h : x ≤ 36) (h' : y ≤ 36) : ((x : Int) - (y : Int)).natAbs ≤ 36 := by omega
theorem gap_facts {W a b : Nat} (h1 : 1 ≤ W) (h6 : W ≤ 6) (ha : a ≤ 36) (hb : b ≤ 36) : ∃ x1 x2 y1 y2 : Nat, x1 ≤ 36 ∧ x2 ≤ 36 ∧ y1 ≤ 36 ∧ y2 ≤ 36 ∧ x1 = a % W ∧ x2 = b % W ∧ y1 = a / W ∧ y2 = b / W ∧
    (a : Int) % (W : Int) = (x1 : Int) ∧ (b : Int) % (W : Int) = (x2 : Int) ∧ wrap64 ((a : Int) / (W : Int)) = (y1 : Int) ∧ wrap64 ((b : Int) / (W : Int)) = (y2 : Int) := by
  have q1 := Nat.lt_of_lt_of_le (Nat.mod_lt a h1) h6
  have q2 := Nat.lt_of_lt_of_le (Nat.mod_lt b h1) h6
  have q3 := Nat.le_trans (Nat.div_le_self a W) ha
  have q4 := Nat.le_trans (Nat.div_le_self b W) hb
  have e3 : (a : Int) / (W : Int) = ((a / W : Nat) : Int) := rfl
  have e4 : (b : Int) / (W : Int) = ((b / W : Nat) : Int) := rfl
  exact ⟨a % W, b % W, a / W, b / W, Nat.le_trans (Nat.le_of_lt q1) (by decide), Nat.le_trans (Nat.le_of_lt q2) (by decide), q3, q4, rfl, rfl, rfl, rfl, rfl, rfl, by rw [e3]; exact wrap_nat q3, by rw [e4]; exact wrap_nat q4⟩
theorem absOf_sub {x y : Nat} {A : Int} (h : x ≤ 36) (h' : y ≤ 36) (hA : A = (((x : Int) - (y : Int)).natAbs : Int)) (w : World) : Calls Tryz.prog 109 #[.int .i64 (wrap64 ((x : Int) - (y : Int)))] w fun x w' => x = .returned (.int .i64 A) ∧ w = w' := by
  rw [hA, wrap_sub h h']; exact absOf_any _ w (sub_bd h h').1 (sub_bd h h').2
set_option maxHeartbeats 2000000 in
theorem gapOf_any (m : Mp) (rv cv : Value) (W H a b : Nat) (w : World) (hok : MapOk m W H) (ha : a < m.cost.length) (hb : b < m.cost.length) :
    Calls Tryz.prog 104 #[.agg #[.int .i64 m.wd, .int .i64 m.ht, rv, cv], .int .i64 a, .int .i64 b] w fun x w' => x = .returned (.int .i64 (gapN m.wd.toNat a b)) ∧ ∃ d, w' = w.ext d := by
  have hn := hok.n36
  have hW := hok.w1
  have hW6 := hok.w6
  obtain ⟨x1, x2, y1, y2, q1, q2, q3, q4, e1, e2, e3, e4, r1, r2, r3, r4⟩ := gap_facts hW hW6 (a := a) (b := b) (by omega) (by omega)
  obtain ⟨A1, hA1⟩ : ∃ A : Int, A = (((x1 : Int) - (x2 : Int)).natAbs : Int) := ⟨_, rfl⟩
  obtain ⟨A2, hA2⟩ : ∃ A : Int, A = (((y1 : Int) - (y2 : Int)).natAbs : Int) := ⟨_, rfl⟩
  have HE := Lib.hid (show gapN (W : Int).toNat a b = A1 + A2 by rw [hA1, hA2, e1, e2, e3, e4]; rfl)
  rw [hok.wd]
  have HA1 := Lib.hid (absOf_sub q1 q2 hA1)
  have HA2 := Lib.hid (absOf_sub q3 q4 hA2)
  obtain ⟨n1, n1'⟩ : 0 ≤ A1 ∧ A1 ≤ 36 := by rw [hA1]; exact abs_bd2 q1 q2
  obtain ⟨n2, n2'⟩ : 0 ≤ A2 ∧ A2 ≤ 36 := by rw [hA2]; exact abs_bd2 q3 q4
  clear hA1 hA2 q1 q2 q3 q4
  clear hok e1 e2 e3 e4
  go_enter Tryz.func104, Tryz.ntmps104
  go_wp2
  refine wp_region_gain (by kernel_rfl) (by kernel_rfl) ?_
  repeat (first | go_big_quiet_skip | (go_big_quiet_want; go_big_quiet_op; first | go_big_quiet_on | ((apply Exists.intro); (refine ⟨fun _ => ?_, ?_⟩); (· (first | (go_at_call 109; ((with_reducible exact Calls.gain_same (HA1.out _)))) | (go_at_call 109; ((with_reducible exact Calls.gain_same (HA2.out _)))))); (go_big_quiet_on))))
  refine wpQuiet_nil ?_
  rintro _ ⟨d', rfl⟩
  clear r1 r2 r3 r4
  go_wp2
  go_ret
  rw [HE.out]
  exact ⟨rfl, (by repeat (first | with_reducible (first | exact World.gained_refl _ | exact ⟨_, rfl⟩ | apply gain_ext | apply gain_alloc | apply gain_drewN | apply gain_drew) | (refine gain_setCell ?_ (by first | exact Nat.le_refl _ | exact World.size_ext _ _ | (simp; done) | (simp; omega)) _)))⟩
end Go.Proofs.YtmcimgnobimicaaGreat
