/- impl.DetourTime, CrossedBy; spec.DetourTime, CrossedBy. Condition: a map in memory. -/
import Derived.Test.YtfpobghllfoijaaRouteC
import Derived.Deep.DeepCutAuto
namespace Go.Ori
theorem three_open {m : Mp} {a y b : Int} (h : ((openB m a && openB m y) && openB m b) = true) : ∃ A Y B : Nat, a = A ∧ y = Y ∧ b = B ∧ A < m.cost.length ∧ Y < m.cost.length ∧ B < m.cost.length ∧ mapB m = true ∧ ∃ W H, MapOk m W H := by
  simp only [Bool.and_eq_true] at h
  obtain ⟨W, H, hm⟩ := mapB_ok (openB_map h.1.1)
  have hb := openB_map h.1.1
  obtain ⟨A, rfl, a1, _⟩ := openB_true h.1.1
  obtain ⟨Y, rfl, y1, _⟩ := openB_true h.1.2
  obtain ⟨B, rfl, b1, _⟩ := openB_true h.2
  exact ⟨A, Y, B, rfl, rfl, rfl, a1, y1, b1, hb, W, H, hm⟩
theorem det_no {m : Mp} {a y b : Int} (h : ((openB m a && openB m y) && openB m b) = false) : detB m a y b = false ∧ detI m a y b = 0 := by
  have : detB m a y b = false := by rw [detB, h, Bool.false_and]
  exact ⟨this, by rw [detI, this]; rfl⟩
theorem det_eq {m : Mp} {A Y B : Nat} (h : ((openB m A && openB m Y) && openB m B) = true) : detB m A Y B = (decide (timeB m A Y < 1073741824) && decide (timeB m Y B < 1073741824)) := by
  rw [detB, h, Bool.true_and]
  rfl
/-- The three times of a detour that can be made. -/
theorem det_bd {m : Mp} {W H A Y B : Nat} (hm : MapOk m W H) (hA : A < m.cost.length) (hY : Y < m.cost.length) (hB : B < m.cost.length) :
    (0 ≤ timeB m A Y ∧ timeB m A Y ≤ 1073741824) ∧ (0 ≤ timeB m Y B ∧ timeB m Y B ≤ 1073741824) ∧ (0 ≤ timeB m A B ∧ timeB m A B ≤ 1073741824) ∧ (timeB m A Y < 1073741824 → timeB m Y B < 1073741824 → timeB m A Y ≤ 945 ∧ timeB m Y B ≤ 945 ∧ timeB m A B ≤ 1890) := by
  refine ⟨time_hi hm hY A, time_hi hm hB Y, time_hi hm hB A, fun h1 h2 => ?_⟩
  have b1 := time_bd hm hY hA h1
  have b2 := time_bd hm hB hY h2
  have := time_tri hm hA hY hB h1 h2
  omega
end Go.Ori
namespace Go.Proofs.Ytfpobghllfoijaa
open Go.RowKit Go.Ori
set_option maxHeartbeats 4000000 in
theorem detourTime_any (m : Mp) (rv cv : Value) (a y b : Int) (w : World) (hmp : w.mp rv cv m) :
    Calls Try.prog 31 #[.agg #[.int .i64 m.wd, .int .i64 m.ht, rv, cv], .int .i64 a, .int .i64 y, .int .i64 b] w fun x w' => x = .returned (.tuple #[.int .i64 (detI m a y b), .bool (detB m a y b)]) ∧ ∃ d, w' = w.ext d := by
  have hm := Lib.hid hmp
  obtain ⟨p1, c1, p2, c2, rfl, rfl⟩ := mp_form hmp
  have HCN := Lib.hid (fun W v hW hv => by have := canRoute_any m (.slice p1 m.rise.length c1) (.slice p2 m.cost.length c2) v [a, y, b] W hW hv (by simp); rw [can3] at this; exact this)
  clear hmp
  cases hO : ((openB m a && openB m y) && openB m b) with
  | false =>
    obtain ⟨e1, e2⟩ := det_no hO
    rw [hO] at HCN
    rw [e1, e2]
    clear e1 e2 hO
    go_enter Try.func31, Try.ntmps31
    go_wp2_with (go_at_call 22; refine (HCN.out _ _ (mp_up (hm.out) (by repeat (first | with_reducible (first | exact World.gained_refl _ | exact ⟨_, rfl⟩ | apply gain_ext | apply gain_alloc | apply gain_drewN | apply gain_drew) | (refine gain_setCell ?_ (by first | exact Nat.le_refl _ | exact World.size_ext _ _ | (simp; done) | (simp; omega)) _)))) (sl_lit (l := [a, y, b]) intC_length rfl (by simp))).mono ?_; rintro e w1 ⟨rfl, d1, rfl⟩)
    go_ret2
    exact ⟨rfl, (by repeat (first | with_reducible (first | exact World.gained_refl _ | exact ⟨_, rfl⟩ | apply gain_ext | apply gain_alloc | apply gain_drewN | apply gain_drew) | (refine gain_setCell ?_ (by first | exact Nat.le_refl _ | exact World.size_ext _ _ | (simp; done) | (simp; omega)) _)))⟩
  | true =>
    obtain ⟨A, Y, B, rfl, rfl, rfl, hA, hY, hB, hmb, WW, HH, hok⟩ := three_open hO
    have HE := Lib.hid (det_eq hO)
    have HI : Hid (detI m A Y B = if detB m A Y B then timeB m A Y + timeB m Y B - timeB m A B else 0) := Lib.hid rfl
    have HL1 := Lib.hid (fun W hW => leastTime_any m (.slice p1 m.rise.length c1) (.slice p2 m.cost.length c2) WW HH A Y W hok hW hA hY)
    have HL2 := Lib.hid (fun W hW => leastTime_any m (.slice p1 m.rise.length c1) (.slice p2 m.cost.length c2) WW HH Y B W hok hW hY hB)
    have HL3 := Lib.hid (fun W hW => leastTime_any m (.slice p1 m.rise.length c1) (.slice p2 m.cost.length c2) WW HH A B W hok hW hA hB)
    obtain ⟨⟨q1, q2⟩, ⟨q3, q4⟩, ⟨q5, q6⟩, q7⟩ := det_bd hok hA hY hB
    rw [hO] at HCN
    rw [HI.out, HE.out]
    generalize timeB m A Y = z1 at HL1 q1 q2 q7 ⊢
    generalize timeB m Y B = z2 at HL2 q3 q4 q7 ⊢
    generalize timeB m A B = z3 at HL3 q5 q6 q7 ⊢
    clear hO hok HE HI hA hY hB hmb
    by_cases h1 : z1 < 1073741824
    · have hz1 : (z1 == 1073741824) = false := by simp; omega
      have hd1 : decide (z1 < 1073741824) = true := decide_eq_true h1
      rw [hd1]
      by_cases h2 : z2 < 1073741824
      · have hz2 : (z2 == 1073741824) = false := by simp; omega
        have hd2 : decide (z2 < 1073741824) = true := decide_eq_true h2
        rw [hd2]
        obtain ⟨q8, q9, q10⟩ := q7 h1 h2
        have hw1 : IntKind.i64.wrap (z1 + z2) = z1 + z2 := IntWalk.i64_in _ (by omega)
        have hw2 : IntKind.i64.wrap (z1 + z2 - z3) = z1 + z2 - z3 := IntWalk.i64_in _ (by omega)
        clear q7
        go_enter Try.func31, Try.ntmps31
        go_wp2_with (first | (go_at_call 22; refine (HCN.out _ _ (mp_up (hm.out) (by repeat (first | with_reducible (first | exact World.gained_refl _ | exact ⟨_, rfl⟩ | apply gain_ext | apply gain_alloc | apply gain_drewN | apply gain_drew) | (refine gain_setCell ?_ (by first | exact Nat.le_refl _ | exact World.size_ext _ _ | (simp; done) | (simp; omega)) _)))) (sl_lit (l := [(A : Int), (Y : Int), (B : Int)]) intC_length rfl (by simp))).mono ?_; rintro e w1 ⟨rfl, d1, rfl⟩) | (go_at_call 23; first | ((with_reducible refine (HL1.out _ (mp_up (hm.out) (by repeat (first | with_reducible (first | exact World.gained_refl _ | exact ⟨_, rfl⟩ | apply gain_ext | apply gain_alloc | apply gain_drewN | apply gain_drew) | (refine gain_setCell ?_ (by first | exact Nat.le_refl _ | exact World.size_ext _ _ | (simp; done) | (simp; omega)) _))))).mono ?_); rintro e w1 ⟨rfl, d1, rfl⟩) | ((with_reducible refine (HL2.out _ (mp_up (hm.out) (by repeat (first | with_reducible (first | exact World.gained_refl _ | exact ⟨_, rfl⟩ | apply gain_ext | apply gain_alloc | apply gain_drewN | apply gain_drew) | (refine gain_setCell ?_ (by first | exact Nat.le_refl _ | exact World.size_ext _ _ | (simp; done) | (simp; omega)) _))))).mono ?_); rintro e w1 ⟨rfl, d1, rfl⟩)))
        refine wp_region_gain (by kernel_rfl) (by kernel_rfl) ?_
        repeat (first | go_big_quiet_skip | (go_big_quiet_want; go_big_quiet_op; first | go_big_quiet_on | ((apply Exists.intro); (refine ⟨fun _ => ?_, ?_⟩); (· (go_at_call 23; (first | ((with_reducible exact Calls.gain (HL1.out _ (mp_up (hm.out) (by repeat (first | with_reducible (first | exact World.gained_refl _ | exact ⟨_, rfl⟩ | apply gain_ext | apply gain_alloc | apply gain_drewN | apply gain_drew) | (refine gain_setCell ?_ (by first | exact Nat.le_refl _ | exact World.size_ext _ _ | (simp; done) | (simp; omega)) _))))))) | ((with_reducible exact Calls.gain (HL2.out _ (mp_up (hm.out) (by repeat (first | with_reducible (first | exact World.gained_refl _ | exact ⟨_, rfl⟩ | apply gain_ext | apply gain_alloc | apply gain_drewN | apply gain_drew) | (refine gain_setCell ?_ (by first | exact Nat.le_refl _ | exact World.size_ext _ _ | (simp; done) | (simp; omega)) _))))))) | ((with_reducible exact Calls.gain (HL3.out _ (mp_up (hm.out) (by repeat (first | with_reducible (first | exact World.gained_refl _ | exact ⟨_, rfl⟩ | apply gain_ext | apply gain_alloc | apply gain_drewN | apply gain_drew) | (refine gain_setCell ?_ (by first | exact Nat.le_refl _ | exact World.size_ext _ _ | (simp; done) | (simp; omega)) _)))))))))); (go_big_quiet_on))))
        refine wpQuiet_nil ?_
        rintro _ ⟨d', rfl⟩
        go_wp2
        go_ret2
        exact ⟨by simp, (by repeat (first | with_reducible (first | exact World.gained_refl _ | exact ⟨_, rfl⟩ | apply gain_ext | apply gain_alloc | apply gain_drewN | apply gain_drew) | (refine gain_setCell ?_ (by first | exact Nat.le_refl _ | exact World.size_ext _ _ | (simp; done) | (simp; omega)) _)))⟩
      · have hz2 : (z2 == 1073741824) = true := by simp; omega
        have hd2 : decide (z2 < 1073741824) = false := decide_eq_false h2
        rw [hd2]
        go_enter Try.func31, Try.ntmps31
        go_wp2_with (first | (go_at_call 22; refine (HCN.out _ _ (mp_up (hm.out) (by repeat (first | with_reducible (first | exact World.gained_refl _ | exact ⟨_, rfl⟩ | apply gain_ext | apply gain_alloc | apply gain_drewN | apply gain_drew) | (refine gain_setCell ?_ (by first | exact Nat.le_refl _ | exact World.size_ext _ _ | (simp; done) | (simp; omega)) _)))) (sl_lit (l := [(A : Int), (Y : Int), (B : Int)]) intC_length rfl (by simp))).mono ?_; rintro e w1 ⟨rfl, d1, rfl⟩) | (go_at_call 23; first | ((with_reducible refine (HL1.out _ (mp_up (hm.out) (by repeat (first | with_reducible (first | exact World.gained_refl _ | exact ⟨_, rfl⟩ | apply gain_ext | apply gain_alloc | apply gain_drewN | apply gain_drew) | (refine gain_setCell ?_ (by first | exact Nat.le_refl _ | exact World.size_ext _ _ | (simp; done) | (simp; omega)) _))))).mono ?_); rintro e w1 ⟨rfl, d1, rfl⟩) | ((with_reducible refine (HL2.out _ (mp_up (hm.out) (by repeat (first | with_reducible (first | exact World.gained_refl _ | exact ⟨_, rfl⟩ | apply gain_ext | apply gain_alloc | apply gain_drewN | apply gain_drew) | (refine gain_setCell ?_ (by first | exact Nat.le_refl _ | exact World.size_ext _ _ | (simp; done) | (simp; omega)) _))))).mono ?_); rintro e w1 ⟨rfl, d1, rfl⟩)))
        go_ret2
        exact ⟨by simp, (by repeat (first | with_reducible (first | exact World.gained_refl _ | exact ⟨_, rfl⟩ | apply gain_ext | apply gain_alloc | apply gain_drewN | apply gain_drew) | (refine gain_setCell ?_ (by first | exact Nat.le_refl _ | exact World.size_ext _ _ | (simp; done) | (simp; omega)) _)))⟩
    · have hz1 : (z1 == 1073741824) = true := by simp; omega
      have hd1 : decide (z1 < 1073741824) = false := decide_eq_false h1
      rw [hd1]
      go_enter Try.func31, Try.ntmps31
      go_wp2_with (first | (go_at_call 22; refine (HCN.out _ _ (mp_up (hm.out) (by repeat (first | with_reducible (first | exact World.gained_refl _ | exact ⟨_, rfl⟩ | apply gain_ext | apply gain_alloc | apply gain_drewN | apply gain_drew) | (refine gain_setCell ?_ (by first | exact Nat.le_refl _ | exact World.size_ext _ _ | (simp; done) | (simp; omega)) _)))) (sl_lit (l := [(A : Int), (Y : Int), (B : Int)]) intC_length rfl (by simp))).mono ?_; rintro e w1 ⟨rfl, d1, rfl⟩) | (go_at_call 23; first | ((with_reducible refine (HL1.out _ (mp_up (hm.out) (by repeat (first | with_reducible (first | exact World.gained_refl _ | exact ⟨_, rfl⟩ | apply gain_ext | apply gain_alloc | apply gain_drewN | apply gain_drew) | (refine gain_setCell ?_ (by first | exact Nat.le_refl _ | exact World.size_ext _ _ | (simp; done) | (simp; omega)) _))))).mono ?_); rintro e w1 ⟨rfl, d1, rfl⟩) | ((with_reducible refine (HL2.out _ (mp_up (hm.out) (by repeat (first | with_reducible (first | exact World.gained_refl _ | exact ⟨_, rfl⟩ | apply gain_ext | apply gain_alloc | apply gain_drewN | apply gain_drew) | (refine gain_setCell ?_ (by first | exact Nat.le_refl _ | exact World.size_ext _ _ | (simp; done) | (simp; omega)) _))))).mono ?_); rintro e w1 ⟨rfl, d1, rfl⟩)))
      go_ret2
      exact ⟨by simp, (by repeat (first | with_reducible (first | exact World.gained_refl _ | exact ⟨_, rfl⟩ | apply gain_ext | apply gain_alloc | apply gain_drewN | apply gain_drew) | (refine gain_setCell ?_ (by first | exact Nat.le_refl _ | exact World.size_ext _ _ | (simp; done) | (simp; omega)) _)))⟩
set_option maxHeartbeats 4000000 in
theorem crossedBy_any (m : Mp) (rv cv : Value) (a b c : Int) (w : World) (hmp : w.mp rv cv m) :
    Calls Try.prog 13 #[.agg #[.int .i64 m.wd, .int .i64 m.ht, rv, cv], .int .i64 a, .int .i64 b, .int .i64 c] w fun x w' => x = .returned (.tuple #[.bool (crossB m a b c), .bool (crossT m a b c)]) ∧ ∃ d, w' = w.ext d := by
  have hm := Lib.hid hmp
  obtain ⟨p1, c1, p2, c2, rfl, rfl⟩ := mp_form hmp
  have HDT := Lib.hid (fun W hW => detourTime_any m (.slice p1 m.rise.length c1) (.slice p2 m.cost.length c2) a c b W hW)
  clear hmp
  have HCN := Lib.hid (fun W v hW hv => by have := canRoute_any m (.slice p1 m.rise.length c1) (.slice p2 m.cost.length c2) v [a, b, c] W hW hv (by simp); rw [can3] at this; exact this)
  cases hO : ((openB m a && openB m b) && openB m c) with
  | false =>
    have e1 : crossT m a b c = false := by rw [crossT, hO, Bool.false_and]
    have e2 : crossB m a b c = false := by rw [crossB, e1, Bool.false_and]
    rw [hO] at HCN
    rw [e1, e2]
    clear e1 e2 hO
    go_enter Try.func13, Try.ntmps13
    go_wp2_with (go_at_call 22; refine (HCN.out _ _ (mp_up (hm.out) (by repeat (first | with_reducible (first | exact World.gained_refl _ | exact ⟨_, rfl⟩ | apply gain_ext | apply gain_alloc | apply gain_drewN | apply gain_drew) | (refine gain_setCell ?_ (by first | exact Nat.le_refl _ | exact World.size_ext _ _ | (simp; done) | (simp; omega)) _)))) (sl_lit (l := [a, b, c]) intC_length rfl (by simp))).mono ?_; rintro e w1 ⟨rfl, d1, rfl⟩)
    go_ret2
    exact ⟨rfl, (by repeat (first | with_reducible (first | exact World.gained_refl _ | exact ⟨_, rfl⟩ | apply gain_ext | apply gain_alloc | apply gain_drewN | apply gain_drew) | (refine gain_setCell ?_ (by first | exact Nat.le_refl _ | exact World.size_ext _ _ | (simp; done) | (simp; omega)) _)))⟩
  | true =>
    obtain ⟨A, B, C, rfl, rfl, rfl, hA, hB, hC, hmb, WW, HH, hok⟩ := three_open hO
    have e2 : crossB m A B C = (crossT m A B C && (detB m A C B && (detI m A C B == 0))) := rfl
    have e1 : crossT m A B C = decide (timeB m A B < 1073741824) := by rw [crossT, hO, Bool.true_and]; rfl
    rw [e2, e1]
    generalize detB m A C B = DB at HDT ⊢
    generalize detI m A C B = DI at HDT ⊢
    have HLT := Lib.hid (fun W hW => leastTime_any m (.slice p1 m.rise.length c1) (.slice p2 m.cost.length c2) WW HH A B W hok hW hA hB)
    have hi := (time_hi hok hB A).2
    rw [hO] at HCN
    generalize timeB m A B = z at HLT hi ⊢
    clear hO hok e1 e2
    by_cases h1 : z < 1073741824
    · have hz1 : (z == 1073741824) = false := by simp; omega
      rw [decide_eq_true h1]
      cases DB <;>
      · go_enter Try.func13, Try.ntmps13
        go_wp2_with (first | (go_at_call 22; refine (HCN.out _ _ (mp_up (hm.out) (by repeat (first | with_reducible (first | exact World.gained_refl _ | exact ⟨_, rfl⟩ | apply gain_ext | apply gain_alloc | apply gain_drewN | apply gain_drew) | (refine gain_setCell ?_ (by first | exact Nat.le_refl _ | exact World.size_ext _ _ | (simp; done) | (simp; omega)) _)))) (sl_lit (l := [(A : Int), (B : Int), (C : Int)]) intC_length rfl (by simp))).mono ?_; rintro e w1 ⟨rfl, d1, rfl⟩) | (go_at_call 23; refine (HLT.out _ (mp_up (hm.out) (by repeat (first | with_reducible (first | exact World.gained_refl _ | exact ⟨_, rfl⟩ | apply gain_ext | apply gain_alloc | apply gain_drewN | apply gain_drew) | (refine gain_setCell ?_ (by first | exact Nat.le_refl _ | exact World.size_ext _ _ | (simp; done) | (simp; omega)) _))))).mono ?_; rintro e w1 ⟨rfl, d1, rfl⟩) | (go_at_call 31; refine (HDT.out _ (mp_up (hm.out) (by repeat (first | with_reducible (first | exact World.gained_refl _ | exact ⟨_, rfl⟩ | apply gain_ext | apply gain_alloc | apply gain_drewN | apply gain_drew) | (refine gain_setCell ?_ (by first | exact Nat.le_refl _ | exact World.size_ext _ _ | (simp; done) | (simp; omega)) _))))).mono ?_; rintro e w1 ⟨rfl, d1, rfl⟩))
        go_ret2
        exact ⟨by simp, (by repeat (first | with_reducible (first | exact World.gained_refl _ | exact ⟨_, rfl⟩ | apply gain_ext | apply gain_alloc | apply gain_drewN | apply gain_drew) | (refine gain_setCell ?_ (by first | exact Nat.le_refl _ | exact World.size_ext _ _ | (simp; done) | (simp; omega)) _)))⟩
    · have hz1 : (z == 1073741824) = true := by simp; omega
      rw [decide_eq_false h1]
      go_enter Try.func13, Try.ntmps13
      go_wp2_with (first | (go_at_call 22; refine (HCN.out _ _ (mp_up (hm.out) (by repeat (first | with_reducible (first | exact World.gained_refl _ | exact ⟨_, rfl⟩ | apply gain_ext | apply gain_alloc | apply gain_drewN | apply gain_drew) | (refine gain_setCell ?_ (by first | exact Nat.le_refl _ | exact World.size_ext _ _ | (simp; done) | (simp; omega)) _)))) (sl_lit (l := [(A : Int), (B : Int), (C : Int)]) intC_length rfl (by simp))).mono ?_; rintro e w1 ⟨rfl, d1, rfl⟩) | (go_at_call 23; refine (HLT.out _ (mp_up (hm.out) (by repeat (first | with_reducible (first | exact World.gained_refl _ | exact ⟨_, rfl⟩ | apply gain_ext | apply gain_alloc | apply gain_drewN | apply gain_drew) | (refine gain_setCell ?_ (by first | exact Nat.le_refl _ | exact World.size_ext _ _ | (simp; done) | (simp; omega)) _))))).mono ?_; rintro e w1 ⟨rfl, d1, rfl⟩))
      go_ret2
      exact ⟨by simp, (by repeat (first | with_reducible (first | exact World.gained_refl _ | exact ⟨_, rfl⟩ | apply gain_ext | apply gain_alloc | apply gain_drewN | apply gain_drew) | (refine gain_setCell ?_ (by first | exact Nat.le_refl _ | exact World.size_ext _ _ | (simp; done) | (simp; omega)) _)))⟩
end Go.Proofs.Ytfpobghllfoijaa
