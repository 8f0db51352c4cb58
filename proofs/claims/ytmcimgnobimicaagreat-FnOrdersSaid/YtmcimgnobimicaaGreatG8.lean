/- impl.IsMap, isCell, isOpen; spec.l2Map, l2Cell, l2Open. Condition: at most 1048576 numbers. -/
import Derived.Test.YtmcimgnobimicaaGreatG6
import Derived.Test.YtmcimgnobimicaaGreatG7
namespace Go.Proofs.YtmcimgnobimicaaGreat
open Go.RowKit Go.Ori
theorem isMap1_any (n : Int) (w : World) : Calls Tryz.prog 94 #[.int .i64 n] w fun x w' => x = .returned (.bool (!insB n 0 9)) ∧ ∃ d, w' = w.ext d := by
  go_enter Tryz.func94, Tryz.ntmps94
  go_wp2_with (go_at_call 42; refine (inside_any _ _ _ _).mono ?_; rintro e w1 ⟨rfl, rfl⟩)
  go_ret
  exact ⟨rfl, w.gained_refl⟩
theorem isMap2_any (n : Int) (w : World) : Calls Tryz.prog 95 #[.int .i64 n] w fun x w' => x = .returned (.bool (!insB n 0 9)) ∧ ∃ d, w' = w.ext d := by
  go_enter Tryz.func95, Tryz.ntmps95
  go_wp2_with (go_at_call 42; refine (inside_any _ _ _ _).mono ?_; rintro e w1 ⟨rfl, rfl⟩)
  go_ret
  exact ⟨rfl, w.gained_refl⟩
theorem isMapR_any (v : Value) (l : List Int) (w : World) (h : w.sl intC 1 v l) (hl : l.length ≤ 1048576) : Calls Tryz.prog 93 #[v, .func (.func 94) #[] #[]] w fun x w' => x = .returned (.bool (l.any fun n => !insB n 0 9)) ∧ ∃ d, w' = w.ext d :=
  containsFunc_ints 94 #[] (fun n => !insB n 0 9) v l w h hl (fun _ _ => by kernel_rfl) (fun n d => isMap1_any n _)
theorem isMapC_any (v : Value) (l : List Int) (w : World) (h : w.sl intC 1 v l) (hl : l.length ≤ 1048576) : Calls Tryz.prog 93 #[v, .func (.func 95) #[] #[]] w fun x w' => x = .returned (.bool (l.any fun n => !insB n 0 9)) ∧ ∃ d, w' = w.ext d :=
  containsFunc_ints 95 #[] (fun n => !insB n 0 9) v l w h hl (fun _ _ => by kernel_rfl) (fun n d => isMap2_any n _)
theorem wrap_mul {a b : Int} (h1 : insB a 1 6 = true) (h2 : insB b 1 6 = true) : wrap64 (a * b) = a * b ∧ 1 ≤ a * b ∧ a * b ≤ 36 := by
  rw [insB_true] at h1 h2
  have e1 : a * b ≤ 6 * 6 := Int.mul_le_mul h1.2 h2.2 (by omega) (by omega)
  have e2 : 1 * 1 ≤ a * b := Int.mul_le_mul h1.1 h2.1 (by omega) (by omega)
  exact ⟨by unfold wrap64; omega, by omega, by omega⟩
set_option maxHeartbeats 2000000 in
theorem isMap_any (m : Mp) (rv cv : Value) (w : World) (h : w.mp rv cv m) :
    Calls Tryz.prog 64 #[.agg #[.int .i64 m.wd, .int .i64 m.ht, rv, cv]] w fun x w' => x = .returned (.bool (mapB m)) ∧ ∃ d, w' = w.ext d := by
  have hm := Lib.hid h
  have hrl := h.rl
  have hcl := h.cl
  obtain ⟨p, c, p', c', rfl, rfl⟩ := mp_form h
  clear h
  cases h1 : insB m.wd 1 6 with
  | false =>
    have HE := Lib.hid (show mapB m = false by simp [mapB, h1])
    go_enter Tryz.func64, Tryz.ntmps64
    go_wp2_with (go_at_call 42; refine (inside_any _ _ _ _).mono ?_; rintro e w1 ⟨rfl, rfl⟩)
    go_ret
    rw [HE.out]
    exact ⟨rfl, (by repeat (first | with_reducible (first | exact World.gained_refl _ | exact ⟨_, rfl⟩ | apply gain_ext | apply gain_alloc | apply gain_drewN | apply gain_drew) | (refine gain_setCell ?_ (by first | exact Nat.le_refl _ | exact World.size_ext _ _ | (simp; done) | (simp; omega)) _)))⟩
  | true =>
  cases h2 : insB m.ht 1 6 with
  | false =>
    have HE := Lib.hid (show mapB m = false by simp [mapB, h2])
    go_enter Tryz.func64, Tryz.ntmps64
    go_wp2_with (go_at_call 42; refine (inside_any _ _ _ _).mono ?_; rintro e w1 ⟨rfl, rfl⟩)
    go_ret
    rw [HE.out]
    exact ⟨rfl, (by repeat (first | with_reducible (first | exact World.gained_refl _ | exact ⟨_, rfl⟩ | apply gain_ext | apply gain_alloc | apply gain_drewN | apply gain_drew) | (refine gain_setCell ?_ (by first | exact Nat.le_refl _ | exact World.size_ext _ _ | (simp; done) | (simp; omega)) _)))⟩
  | true =>
  obtain ⟨P, hP⟩ : ∃ P, P = m.wd * m.ht := ⟨_, rfl⟩
  have hwr : wrap64 (m.wd * m.ht) = P := by rw [hP]; exact (wrap_mul h1 h2).1
  by_cases e1 : ((m.rise.length : Int) != P) = true
  · have HE := Lib.hid (show mapB m = false by rw [hP] at e1; simp at e1; simp [mapB, e1])
    clear hP
    go_enter Tryz.func64, Tryz.ntmps64
    go_wp2_with (go_at_call 42; refine (inside_any _ _ _ _).mono ?_; rintro e w1 ⟨rfl, rfl⟩)
    go_ret
    rw [HE.out]
    exact ⟨rfl, (by repeat (first | with_reducible (first | exact World.gained_refl _ | exact ⟨_, rfl⟩ | apply gain_ext | apply gain_alloc | apply gain_drewN | apply gain_drew) | (refine gain_setCell ?_ (by first | exact Nat.le_refl _ | exact World.size_ext _ _ | (simp; done) | (simp; omega)) _)))⟩
  by_cases e2 : ((m.cost.length : Int) != (m.rise.length : Int)) = true
  · have HE := Lib.hid (show mapB m = false by simp only [bne_iff_ne, ne_eq, Int.natCast_inj] at e2; simp [mapB, e2])
    clear hP
    replace e1 : ((m.rise.length : Int) != P) = false := by simpa using e1
    go_enter Tryz.func64, Tryz.ntmps64
    go_wp2_with (go_at_call 42; refine (inside_any _ _ _ _).mono ?_; rintro e w1 ⟨rfl, rfl⟩)
    go_ret
    rw [HE.out]
    exact ⟨rfl, (by repeat (first | with_reducible (first | exact World.gained_refl _ | exact ⟨_, rfl⟩ | apply gain_ext | apply gain_alloc | apply gain_drewN | apply gain_drew) | (refine gain_setCell ?_ (by first | exact Nat.le_refl _ | exact World.size_ext _ _ | (simp; done) | (simp; omega)) _)))⟩
  replace e1 : ((m.rise.length : Int) != P) = false := by simpa using e1
  replace e2 : ((m.cost.length : Int) != (m.rise.length : Int)) = false := by simpa using e2
  have e1' : (m.rise.length : Int) = m.wd * m.ht := by rw [← hP]; simpa using e1
  have e2' : m.cost.length = m.rise.length := by simp only [bne_eq_false_iff_eq, Int.natCast_inj] at e2; exact e2
  clear hP
  have HE := Lib.hid (show mapB m = (!(m.rise.any fun n => !insB n 0 9) && !(m.cost.any fun n => !insB n 0 9)) by
    simp [mapB, h1, h2, e1', e2', List.any_eq_not_all_not])
  clear e1' e2'
  go_enter Tryz.func64, Tryz.ntmps64
  go_wp2_with (go_at_call 42; refine (inside_any _ _ _ _).mono ?_; rintro e w1 ⟨rfl, rfl⟩)
  refine (isMapR_any _ m.rise _ (mp_up (hm.out) (by repeat (first | with_reducible (first | exact World.gained_refl _ | exact ⟨_, rfl⟩ | apply gain_ext | apply gain_alloc | apply gain_drewN | apply gain_drew) | (refine gain_setCell ?_ (by first | exact Nat.le_refl _ | exact World.size_ext _ _ | (simp; done) | (simp; omega)) _)))).r hrl).mono ?_
  rintro e w1 ⟨rfl, d1, rfl⟩
  cases hA : (m.rise.any fun n => !insB n 0 9) with
  | true =>
    go_wp2
    go_ret
    rw [HE.out, hA]
    exact ⟨rfl, (by repeat (first | with_reducible (first | exact World.gained_refl _ | exact ⟨_, rfl⟩ | apply gain_ext | apply gain_alloc | apply gain_drewN | apply gain_drew) | (refine gain_setCell ?_ (by first | exact Nat.le_refl _ | exact World.size_ext _ _ | (simp; done) | (simp; omega)) _)))⟩
  | false =>
    go_wp2_with fail
    refine (isMapC_any _ m.cost _ (mp_up (hm.out) (by repeat (first | with_reducible (first | exact World.gained_refl _ | exact ⟨_, rfl⟩ | apply gain_ext | apply gain_alloc | apply gain_drewN | apply gain_drew) | (refine gain_setCell ?_ (by first | exact Nat.le_refl _ | exact World.size_ext _ _ | (simp; done) | (simp; omega)) _)))).c hcl).mono ?_
    rintro e w1 ⟨rfl, d2, rfl⟩
    cases hB : (m.cost.any fun n => !insB n 0 9) <;>
    · go_wp2
      go_ret
      rw [HE.out, hA, hB]
      exact ⟨rfl, (by repeat (first | with_reducible (first | exact World.gained_refl _ | exact ⟨_, rfl⟩ | apply gain_ext | apply gain_alloc | apply gain_drewN | apply gain_drew) | (refine gain_setCell ?_ (by first | exact Nat.le_refl _ | exact World.size_ext _ _ | (simp; done) | (simp; omega)) _)))⟩
set_option maxHeartbeats 2000000 in
theorem isCell_any (m : Mp) (rv cv : Value) (c : Int) (w : World) (h : w.mp rv cv m) :
    Calls Tryz.prog 96 #[.agg #[.int .i64 m.wd, .int .i64 m.ht, rv, cv], .int .i64 c] w fun x w' => x = .returned (.bool (cellB m c)) ∧ ∃ d, w' = w.ext d := by
  have hm := Lib.hid h
  have hcl := h.cl
  obtain ⟨p, k, p', k', rfl, rfl⟩ := mp_form h
  clear h
  cases hB : mapB m with
  | false =>
    have HE := Lib.hid (show cellB m c = false by simp [cellB, hB])
    go_enter Tryz.func96, Tryz.ntmps96
    go_wp2_with (go_at_call 64; refine (isMap_any m _ _ _ (mp_up (hm.out) (by repeat (first | with_reducible (first | exact World.gained_refl _ | exact ⟨_, rfl⟩ | apply gain_ext | apply gain_alloc | apply gain_drewN | apply gain_drew) | (refine gain_setCell ?_ (by first | exact Nat.le_refl _ | exact World.size_ext _ _ | (simp; done) | (simp; omega)) _))))).mono ?_; rw [hB]; rintro e w1 ⟨rfl, d1, rfl⟩)
    go_ret
    rw [HE.out]
    exact ⟨rfl, (by repeat (first | with_reducible (first | exact World.gained_refl _ | exact ⟨_, rfl⟩ | apply gain_ext | apply gain_alloc | apply gain_drewN | apply gain_drew) | (refine gain_setCell ?_ (by first | exact Nat.le_refl _ | exact World.size_ext _ _ | (simp; done) | (simp; omega)) _)))⟩
  | true =>
    have HE := Lib.hid (show cellB m c = insB c 0 ((m.cost.length : Int) - 1) by simp [cellB, hB])
    go_enter Tryz.func96, Tryz.ntmps96
    go_wp2_with (first | (go_at_call 42; refine (inside_any _ _ _ _).mono ?_; rintro e w1 ⟨rfl, rfl⟩) | (go_at_call 64; refine (isMap_any m _ _ _ (mp_up (hm.out) (by repeat (first | with_reducible (first | exact World.gained_refl _ | exact ⟨_, rfl⟩ | apply gain_ext | apply gain_alloc | apply gain_drewN | apply gain_drew) | (refine gain_setCell ?_ (by first | exact Nat.le_refl _ | exact World.size_ext _ _ | (simp; done) | (simp; omega)) _))))).mono ?_; rw [hB]; rintro e w1 ⟨rfl, d1, rfl⟩))
    go_ret
    rw [HE.out]
    exact ⟨rfl, (by repeat (first | with_reducible (first | exact World.gained_refl _ | exact ⟨_, rfl⟩ | apply gain_ext | apply gain_alloc | apply gain_drewN | apply gain_drew) | (refine gain_setCell ?_ (by first | exact Nat.le_refl _ | exact World.size_ext _ _ | (simp; done) | (simp; omega)) _)))⟩
set_option maxHeartbeats 2000000 in
theorem isOpen_any (m : Mp) (rv cv : Value) (c : Int) (w : World) (h : w.mp rv cv m) :
    Calls Tryz.prog 66 #[.agg #[.int .i64 m.wd, .int .i64 m.ht, rv, cv], .int .i64 c] w fun x w' => x = .returned (.bool (openB m c)) ∧ ∃ d, w' = w.ext d := by
  have hm := Lib.hid h
  cases hB : cellB m c with
  | false =>
    obtain ⟨p, k, p', k', rfl, rfl⟩ := mp_form h
    clear h
    have HE := Lib.hid (show openB m c = false by simp [openB, hB])
    go_enter Tryz.func66, Tryz.ntmps66
    go_wp2_with (go_at_call 96; refine (isCell_any m _ _ c _ (mp_up (hm.out) (by repeat (first | with_reducible (first | exact World.gained_refl _ | exact ⟨_, rfl⟩ | apply gain_ext | apply gain_alloc | apply gain_drewN | apply gain_drew) | (refine gain_setCell ?_ (by first | exact Nat.le_refl _ | exact World.size_ext _ _ | (simp; done) | (simp; omega)) _))))).mono ?_; rw [hB]; rintro e w1 ⟨rfl, d1, rfl⟩)
    go_ret
    rw [HE.out]
    exact ⟨rfl, (by repeat (first | with_reducible (first | exact World.gained_refl _ | exact ⟨_, rfl⟩ | apply gain_ext | apply gain_alloc | apply gain_drewN | apply gain_drew) | (refine gain_setCell ?_ (by first | exact Nat.le_refl _ | exact World.size_ext _ _ | (simp; done) | (simp; omega)) _)))⟩
  | true =>
    obtain ⟨W, H, hok⟩ := mapB_ok (show mapB m = true by simp only [cellB, Bool.and_eq_true] at hB; exact hB.1)
    obtain ⟨b1, o1, c1, b2, o2, c2, hin⟩ := mp_in h hok
    obtain ⟨k, rfl, hk⟩ : ∃ k : Nat, c = k ∧ k < m.cost.length := by
      simp only [cellB, Bool.and_eq_true, insB_true] at hB
      exact ⟨c.toNat, by omega, by omega⟩
    have HE := Lib.hid (show openB m k = decide (0 < costAt m k) by simp [openB, hB])
    have ck := hin.co k hk
    have ob := hin.ob2
    have hcl := h.cl
    obtain rfl := hin.rv
    obtain rfl := hin.cv
    clear h hin hok
    generalize costAt m k = x at ck HE
    go_enter Tryz.func66, Tryz.ntmps66
    go_wp2_with (go_at_call 96; refine (isCell_any m _ _ _ _ (mp_up (hm.out) (by repeat (first | with_reducible (first | exact World.gained_refl _ | exact ⟨_, rfl⟩ | apply gain_ext | apply gain_alloc | apply gain_drewN | apply gain_drew) | (refine gain_setCell ?_ (by first | exact Nat.le_refl _ | exact World.size_ext _ _ | (simp; done) | (simp; omega)) _))))).mono ?_; rw [hB]; rintro e w1 ⟨rfl, d1, rfl⟩)
    go_ret
    rw [HE.out]
    exact ⟨rfl, (by repeat (first | with_reducible (first | exact World.gained_refl _ | exact ⟨_, rfl⟩ | apply gain_ext | apply gain_alloc | apply gain_drewN | apply gain_drew) | (refine gain_setCell ?_ (by first | exact Nat.le_refl _ | exact World.size_ext _ _ | (simp; done) | (simp; omega)) _)))⟩
end Go.Proofs.YtmcimgnobimicaaGreat
