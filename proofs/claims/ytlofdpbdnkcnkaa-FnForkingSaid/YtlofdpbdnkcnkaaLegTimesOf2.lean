/- impl.LegTimesOf, spec.LegTimesOf. Condition: sizes of at most 1048576. -/
import Derived.Test.YtlofdpbdnkcnkaaLegTimes
namespace Go.Proofs.Ytlofdpbdnkcnkaa
open Go.RowKit Go.Ori
set_option maxHeartbeats 2000000 in
theorem legTimesOf_any (v v2 : Value) (l : List (List (List Int))) (ts : List (List Int)) (legs forks leg : Int) (w : World) (h : w.sl3 v l) (hT : tot3 l ≤ 1048576) (h2 : w.sl2 v2 ts) (hT2 : tot2 ts ≤ 1048576) :
    Calls Try.prog 16 #[v, .int .i64 legs, .int .i64 forks, v2, .int .i64 leg] w fun x w' => ∃ r, x = .returned (.tuple #[r, .bool (legB' l legs forks ts leg)]) ∧ (∃ d, w' = w.ext d) ∧ w'.own w.heap.size 3 intC 1 r (legL l legs forks ts leg) := by
  have hs := Lib.hid h
  have hst := Lib.hid h2
  have hl : l.length ≤ 1048576 := by have := tot3_len l; omega
  obtain ⟨p, c, rfl⟩ := sl3_form h
  obtain ⟨p2, c2, rfl⟩ := sl2_form h2
  clear h h2
  have HG := Lib.hid (fun W hW hW2 => isTimed_any (.slice p l.length c) (.slice p2 ts.length c2) l ts legs forks W hW hT hW2 hT2)
  have HP := Lib.hid (fun W hW => l9Good_any (.slice p l.length c) l legs forks W hW hT)
  cases hP : timedB l legs forks ts with
  | false =>
    have HE := Lib.hid (leg_no (l := l) (legs := legs) (forks := forks) (ts := ts) (leg := leg) (by simp [legB', hP]))
    go_enter Try.func16, Try.ntmps16
    go_wp2_with (first | (go_at_call 43; refine (HG.out _ (sl3_up hs.out (by repeat (first | with_reducible (first | exact World.gained_refl _ | exact ⟨_, rfl⟩ | apply gain_ext | apply gain_alloc | apply gain_drewN | apply gain_drew) | (refine gain_setCell ?_ (by first | exact Nat.le_refl _ | exact World.size_ext _ _ | (simp; done) | (simp; omega)) _)))) (sl2_up hst.out (by repeat (first | with_reducible (first | exact World.gained_refl _ | exact ⟨_, rfl⟩ | apply gain_ext | apply gain_alloc | apply gain_drewN | apply gain_drew) | (refine gain_setCell ?_ (by first | exact Nat.le_refl _ | exact World.size_ext _ _ | (simp; done) | (simp; omega)) _))))).mono ?_; rintro e w1 ⟨rfl, d1, rfl⟩) | (go_at_call 51; refine (inside_any _ _ _ _).mono ?_; rintro e w1 ⟨rfl, rfl⟩))
    go_ret2
    rw [HE.out.1, HE.out.2]
    exact ⟨_, rfl, (by repeat (first | with_reducible (first | exact World.gained_refl _ | exact ⟨_, rfl⟩ | apply gain_ext | apply gain_alloc | apply gain_drewN | apply gain_drew) | (refine gain_setCell ?_ (by first | exact Nat.le_refl _ | exact World.size_ext _ _ | (simp; done) | (simp; omega)) _))), own_nil _ _ _ _ _⟩
  | true =>
    have hPP := hP
    simp only [timedB, Bool.and_eq_true] at hPP
    obtain ⟨L, F, rfl, rfl, a1, a2, a3, a4, a5, hall⟩ := planB_true hPP.1
    have HALL := Lib.hid hall
    have HTB := Lib.hid hPP.2
    clear hall hPP
    cases hA : insB leg 0 ((L : Int) - 1) with
    | false =>
      have HE := Lib.hid (leg_no (l := l) (legs := L) (forks := F) (ts := ts) (leg := leg) (by simp [legB', hA]))
      go_enter Try.func16, Try.ntmps16
      go_wp2_with (first | (go_at_call 43; refine (HG.out _ (sl3_up hs.out (by repeat (first | with_reducible (first | exact World.gained_refl _ | exact ⟨_, rfl⟩ | apply gain_ext | apply gain_alloc | apply gain_drewN | apply gain_drew) | (refine gain_setCell ?_ (by first | exact Nat.le_refl _ | exact World.size_ext _ _ | (simp; done) | (simp; omega)) _)))) (sl2_up hst.out (by repeat (first | with_reducible (first | exact World.gained_refl _ | exact ⟨_, rfl⟩ | apply gain_ext | apply gain_alloc | apply gain_drewN | apply gain_drew) | (refine gain_setCell ?_ (by first | exact Nat.le_refl _ | exact World.size_ext _ _ | (simp; done) | (simp; omega)) _))))).mono ?_; rintro e w1 ⟨rfl, d1, rfl⟩) | (go_at_call 51; refine (inside_any _ _ _ _).mono ?_; rintro e w1 ⟨rfl, rfl⟩))
      go_ret2
      rw [HE.out.1, HE.out.2]
      exact ⟨_, rfl, (by repeat (first | with_reducible (first | exact World.gained_refl _ | exact ⟨_, rfl⟩ | apply gain_ext | apply gain_alloc | apply gain_drewN | apply gain_drew) | (refine gain_setCell ?_ (by first | exact Nat.le_refl _ | exact World.size_ext _ _ | (simp; done) | (simp; omega)) _))), own_nil _ _ _ _ _⟩
    | true =>
      have hB : legB' l L F ts leg = true := by simp [legB', hP, hA]
      have hA' := insB_true.1 hA
      obtain ⟨G, rfl⟩ : ∃ n : Nat, leg = n := ⟨leg.toNat, by omega⟩
      have hGl : G < L := by omega
      have HE : Hid (legL l L F ts G = legN l F ts G l.length ∧ legB' l L F ts G = true) := Lib.hid ⟨by rw [legL, if_pos hB]; simp, hB⟩
      go_enter Try.func16, Try.ntmps16
      go_wp2_with (first | (go_at_call 43; refine (HG.out _ (sl3_up hs.out (by repeat (first | with_reducible (first | exact World.gained_refl _ | exact ⟨_, rfl⟩ | apply gain_ext | apply gain_alloc | apply gain_drewN | apply gain_drew) | (refine gain_setCell ?_ (by first | exact Nat.le_refl _ | exact World.size_ext _ _ | (simp; done) | (simp; omega)) _)))) (sl2_up hst.out (by repeat (first | with_reducible (first | exact World.gained_refl _ | exact ⟨_, rfl⟩ | apply gain_ext | apply gain_alloc | apply gain_drewN | apply gain_drew) | (refine gain_setCell ?_ (by first | exact Nat.le_refl _ | exact World.size_ext _ _ | (simp; done) | (simp; omega)) _))))).mono ?_; rintro e w1 ⟨rfl, d1, rfl⟩) | (go_at_call 51; refine (inside_any _ _ _ _).mono ?_; rintro e w1 ⟨rfl, rfl⟩))
      clear hP hA hA' hB
      go_loopw [12, 31] (fun ov i wr => ∃ t : Nat, t ≤ l.length ∧ i = .int .i64 t ∧ (∃ d, wr = w.ext d) ∧ wr.own w.heap.size 3 intC 1 ov (legN l F ts G t)) (fun _ i _ => l.length - (intOf i).toNat)
      case atStart => exact ⟨0, by omega, rfl, (by repeat (first | with_reducible (first | exact World.gained_refl _ | exact ⟨_, rfl⟩ | apply gain_ext | apply gain_alloc | apply gain_drewN | apply gain_drew) | (refine gain_setCell ?_ (by first | exact Nat.le_refl _ | exact World.size_ext _ _ | (simp; done) | (simp; omega)) _))), by rw [legN_zero]; exact own_lit' (l := ([] : List Int)) intC_length rfl rfl (gain_size (by repeat (first | with_reducible (first | exact World.gained_refl _ | exact ⟨_, rfl⟩ | apply gain_ext | apply gain_alloc | apply gain_drewN | apply gain_drew) | (refine gain_setCell ?_ (by first | exact Nat.le_refl _ | exact World.size_ext _ _ | (simp; done) | (simp; omega)) _))))⟩
      case round =>
        obtain ⟨t, ht, rfl, ⟨d, rfl⟩, ho⟩ := hrel
        have HO := Lib.hid ho
        clear ho
        by_cases hlt : t < l.length
        · obtain ⟨b0, o0, rfl⟩ := slOf_some hs.out (by omega)
          obtain ⟨u, c0, hu⟩ := slOf_at hs.out hlt
          have hlr := (HALL.out t hlt).1
          have hok : RowOk (l[t].getD G []) ts L F := by
            rw [List.getD_eq_getElem?_getD, List.getElem?_eq_getElem (by omega : G < l[t].length)]
            exact rowOk_of HALL.out HTB.out hlt (q := G) (by omega)
          have HS0 := Lib.hid (legN_succ (F := F) (ts := ts) (G := G) hlt)
          generalize l[t] = rows at hu hlr hok HS0
          obtain ⟨p1, c1, rfl⟩ := sl2_form hu
          obtain ⟨b1, o1, rfl⟩ := slOf_some hu (by omega)
          obtain ⟨u1, e0, hu1⟩ := slOf_at hu (k := G) (by omega)
          rw [show rows[G]'(by omega) = rows.getD G [] by rw [List.getD_eq_getElem?_getD, List.getElem?_eq_getElem (by omega : G < rows.length)]; rfl] at hu1
          generalize rows.getD G [] = row at hu1 hok HS0
          have HU1 := Lib.hid hu1
          have hGr : G < rows.length := by omega
          have obt := World.oldB_of_cell c0
          have obg := World.oldB_of_cell e0
          have hbd := rowT_bd hok F (Nat.le_refl _)
          have HR := Lib.hid (fun W hW hW2 => rowTime_any u1 (.slice p2 ts.length c2) row ts L F W hW hW2 hok a3 a2)
          generalize rowT row ts F = T at HS0 HR hbd
          clear hu hu1 hlr
          obtain ⟨hb1, hb2⟩ := hbd
          go_wp2_with fail
          refine (HR.out _ (sl1_up HU1.out (by repeat (first | with_reducible (first | exact World.gained_refl _ | exact ⟨_, rfl⟩ | apply gain_ext | apply gain_alloc | apply gain_drewN | apply gain_drew) | (refine gain_setCell ?_ (by first | exact Nat.le_refl _ | exact World.size_ext _ _ | (simp; done) | (simp; omega)) _)))) (sl2_up hst.out (by repeat (first | with_reducible (first | exact World.gained_refl _ | exact ⟨_, rfl⟩ | apply gain_ext | apply gain_alloc | apply gain_drewN | apply gain_drew) | (refine gain_setCell ?_ (by first | exact Nat.le_refl _ | exact World.size_ext _ _ | (simp; done) | (simp; omega)) _))))).mono ?_
          rintro e w1 ⟨rfl, d1, rfl⟩
          go_wp2_with (at_builtin; go_must (refine wpList_append_gain (m := [T]) rfl (.tmp 35) (.tmp 42) rfl Try.underlying28 info_int (by rfl) (by omega) intC_length intC_one (by omega) (by repeat (first | with_reducible (first | exact World.gained_refl _ | exact ⟨_, rfl⟩ | apply gain_ext | apply gain_alloc | apply gain_drewN | apply gain_drew) | (refine gain_setCell ?_ (by first | exact Nat.le_refl _ | exact World.size_ext _ _ | (simp; done) | (simp; omega)) _))) (Nat.le_refl _) (gain_size (by repeat (first | with_reducible (first | exact World.gained_refl _ | exact ⟨_, rfl⟩ | apply gain_ext | apply gain_alloc | apply gain_drewN | apply gain_drew) | (refine gain_setCell ?_ (by first | exact Nat.le_refl _ | exact World.size_ext _ _ | (simp; done) | (simp; omega)) _)))) rfl rfl (own_up (HO.out) (by repeat (first | with_reducible (first | exact World.gained_refl _ | exact ⟨_, rfl⟩ | apply gain_ext | apply gain_alloc | apply gain_drewN | apply gain_drew) | (refine gain_setCell ?_ (by first | exact Nat.le_refl _ | exact World.size_ext _ _ | (simp; done) | (simp; omega)) _)))) (sl_lit (l := [T]) intC_length rfl (by simp)) (by have := legN_length l F ts G t; simp; omega) ?_); intro v' d' ho hg)
          go_roundw
          case rel => exact ⟨t + 1, by omega, by go_num, ⟨_, rfl⟩, by rw [HS0.out]; exact ho⟩
          case measure => simp [intOf]; omega
        · go_wp2
          go_ret2
          obtain rfl : t = l.length := by omega
          rw [HE.out.1, HE.out.2]
          exact ⟨_, rfl, ⟨_, rfl⟩, HO.out⟩
set_option maxHeartbeats 2000000 in
theorem specLegTimesOf_any (v v2 : Value) (l : List (List (List Int))) (ts : List (List Int)) (legs forks leg : Int) (w : World) (h : w.sl3 v l) (hT : tot3 l ≤ 1048576) (h2 : w.sl2 v2 ts) (hT2 : tot2 ts ≤ 1048576) :
    Calls Try.prog 32 #[v, .int .i64 legs, .int .i64 forks, v2, .int .i64 leg] w fun x w' => ∃ r, x = .returned (.tuple #[r, .bool (legB' l legs forks ts leg)]) ∧ (∃ d, w' = w.ext d) ∧ w'.own w.heap.size 3 intC 1 r (legL l legs forks ts leg) := by
  have hs := Lib.hid h
  have hst := Lib.hid h2
  have hl : l.length ≤ 1048576 := by have := tot3_len l; omega
  obtain ⟨p, c, rfl⟩ := sl3_form h
  obtain ⟨p2, c2, rfl⟩ := sl2_form h2
  clear h h2
  have HG := Lib.hid (fun W hW hW2 => isTimed_any (.slice p l.length c) (.slice p2 ts.length c2) l ts legs forks W hW hT hW2 hT2)
  have HP := Lib.hid (fun W hW => l9Good_any (.slice p l.length c) l legs forks W hW hT)
  cases hP : planB l legs forks with
  | false =>
    have HE := Lib.hid (leg_no (l := l) (legs := legs) (forks := forks) (ts := ts) (leg := leg) (by simp [legB', timedB, hP]))
    go_enter Try.func32, Try.ntmps32
    go_wp2_with (go_at_call 45; refine (HP.out _ (sl3_up hs.out (by repeat (first | with_reducible (first | exact World.gained_refl _ | exact ⟨_, rfl⟩ | apply gain_ext | apply gain_alloc | apply gain_drewN | apply gain_drew) | (refine gain_setCell ?_ (by first | exact Nat.le_refl _ | exact World.size_ext _ _ | (simp; done) | (simp; omega)) _))))).mono ?_; rintro e w1 ⟨rfl, d1, rfl⟩)
    go_ret2
    rw [HE.out.1, HE.out.2]
    exact ⟨_, rfl, (by repeat (first | with_reducible (first | exact World.gained_refl _ | exact ⟨_, rfl⟩ | apply gain_ext | apply gain_alloc | apply gain_drewN | apply gain_drew) | (refine gain_setCell ?_ (by first | exact Nat.le_refl _ | exact World.size_ext _ _ | (simp; done) | (simp; omega)) _))), own_lit' (l := ([] : List Int)) intC_length rfl rfl (gain_size (by repeat (first | with_reducible (first | exact World.gained_refl _ | exact ⟨_, rfl⟩ | apply gain_ext | apply gain_alloc | apply gain_drewN | apply gain_drew) | (refine gain_setCell ?_ (by first | exact Nat.le_refl _ | exact World.size_ext _ _ | (simp; done) | (simp; omega)) _))))⟩
  | true =>
    obtain ⟨L, F, rfl, rfl, a1, a2, a3, a4, a5, hall⟩ := planB_true hP
    have HALL := Lib.hid hall
    clear hall
    cases hQ : timesB ts L F with
    | false =>
      have HE := Lib.hid (leg_no (l := l) (legs := L) (forks := F) (ts := ts) (leg := leg) (by simp [legB', timedB, hQ]))
      go_enter Try.func32, Try.ntmps32
      go_wp2_with (first | (go_at_call 45; refine (HP.out _ (sl3_up hs.out (by repeat (first | with_reducible (first | exact World.gained_refl _ | exact ⟨_, rfl⟩ | apply gain_ext | apply gain_alloc | apply gain_drewN | apply gain_drew) | (refine gain_setCell ?_ (by first | exact Nat.le_refl _ | exact World.size_ext _ _ | (simp; done) | (simp; omega)) _))))).mono ?_; rintro e w1 ⟨rfl, d1, rfl⟩) | (go_at_call 46; refine (l9Times_any _ ts _ _ _ (sl2_up hst.out (by repeat (first | with_reducible (first | exact World.gained_refl _ | exact ⟨_, rfl⟩ | apply gain_ext | apply gain_alloc | apply gain_drewN | apply gain_drew) | (refine gain_setCell ?_ (by first | exact Nat.le_refl _ | exact World.size_ext _ _ | (simp; done) | (simp; omega)) _)))) hT2 (by omega) (by omega)).mono ?_; rintro e w1 ⟨rfl, d1, rfl⟩) | (go_at_call 57; refine (l1In_any _ _ _ _).mono ?_; rintro e w1 ⟨rfl, rfl⟩))
      go_ret2
      rw [HE.out.1, HE.out.2]
      exact ⟨_, rfl, (by repeat (first | with_reducible (first | exact World.gained_refl _ | exact ⟨_, rfl⟩ | apply gain_ext | apply gain_alloc | apply gain_drewN | apply gain_drew) | (refine gain_setCell ?_ (by first | exact Nat.le_refl _ | exact World.size_ext _ _ | (simp; done) | (simp; omega)) _))), own_lit' (l := ([] : List Int)) intC_length rfl rfl (gain_size (by repeat (first | with_reducible (first | exact World.gained_refl _ | exact ⟨_, rfl⟩ | apply gain_ext | apply gain_alloc | apply gain_drewN | apply gain_drew) | (refine gain_setCell ?_ (by first | exact Nat.le_refl _ | exact World.size_ext _ _ | (simp; done) | (simp; omega)) _))))⟩
    | true =>
    have HTB := Lib.hid hQ
    cases hA : insB leg 0 ((L : Int) - 1) with
    | false =>
      have HE := Lib.hid (leg_no (l := l) (legs := L) (forks := F) (ts := ts) (leg := leg) (by simp [legB', hA]))
      go_enter Try.func32, Try.ntmps32
      go_wp2_with (first | (go_at_call 45; refine (HP.out _ (sl3_up hs.out (by repeat (first | with_reducible (first | exact World.gained_refl _ | exact ⟨_, rfl⟩ | apply gain_ext | apply gain_alloc | apply gain_drewN | apply gain_drew) | (refine gain_setCell ?_ (by first | exact Nat.le_refl _ | exact World.size_ext _ _ | (simp; done) | (simp; omega)) _))))).mono ?_; rintro e w1 ⟨rfl, d1, rfl⟩) | (go_at_call 46; refine (l9Times_any _ ts _ _ _ (sl2_up hst.out (by repeat (first | with_reducible (first | exact World.gained_refl _ | exact ⟨_, rfl⟩ | apply gain_ext | apply gain_alloc | apply gain_drewN | apply gain_drew) | (refine gain_setCell ?_ (by first | exact Nat.le_refl _ | exact World.size_ext _ _ | (simp; done) | (simp; omega)) _)))) hT2 (by omega) (by omega)).mono ?_; rintro e w1 ⟨rfl, d1, rfl⟩) | (go_at_call 57; refine (l1In_any _ _ _ _).mono ?_; rintro e w1 ⟨rfl, rfl⟩))
      go_ret2
      rw [HE.out.1, HE.out.2]
      exact ⟨_, rfl, (by repeat (first | with_reducible (first | exact World.gained_refl _ | exact ⟨_, rfl⟩ | apply gain_ext | apply gain_alloc | apply gain_drewN | apply gain_drew) | (refine gain_setCell ?_ (by first | exact Nat.le_refl _ | exact World.size_ext _ _ | (simp; done) | (simp; omega)) _))), own_lit' (l := ([] : List Int)) intC_length rfl rfl (gain_size (by repeat (first | with_reducible (first | exact World.gained_refl _ | exact ⟨_, rfl⟩ | apply gain_ext | apply gain_alloc | apply gain_drewN | apply gain_drew) | (refine gain_setCell ?_ (by first | exact Nat.le_refl _ | exact World.size_ext _ _ | (simp; done) | (simp; omega)) _))))⟩
    | true =>
      have hB : legB' l L F ts leg = true := by simp [legB', timedB, hP, hQ, hA]
      have hA' := insB_true.1 hA
      obtain ⟨G, rfl⟩ : ∃ n : Nat, leg = n := ⟨leg.toNat, by omega⟩
      have hGl : G < L := by omega
      have HE : Hid (legL l L F ts G = legN l F ts G l.length ∧ legB' l L F ts G = true) := Lib.hid ⟨by rw [legL, if_pos hB]; simp, hB⟩
      clear hA' hB
      go_enter Try.func32, Try.ntmps32
      go_wp2_with (first | (go_at_call 45; refine (HP.out _ (sl3_up hs.out (by repeat (first | with_reducible (first | exact World.gained_refl _ | exact ⟨_, rfl⟩ | apply gain_ext | apply gain_alloc | apply gain_drewN | apply gain_drew) | (refine gain_setCell ?_ (by first | exact Nat.le_refl _ | exact World.size_ext _ _ | (simp; done) | (simp; omega)) _))))).mono ?_; rintro e w1 ⟨rfl, d1, rfl⟩) | (go_at_call 46; refine (l9Times_any _ ts _ _ _ (sl2_up hst.out (by repeat (first | with_reducible (first | exact World.gained_refl _ | exact ⟨_, rfl⟩ | apply gain_ext | apply gain_alloc | apply gain_drewN | apply gain_drew) | (refine gain_setCell ?_ (by first | exact Nat.le_refl _ | exact World.size_ext _ _ | (simp; done) | (simp; omega)) _)))) hT2 (by omega) (by omega)).mono ?_; rintro e w1 ⟨rfl, d1, rfl⟩) | (go_at_call 57; refine (l1In_any _ _ _ _).mono ?_; rintro e w1 ⟨rfl, rfl⟩))
      refine (l9Leg_own _ _ l ts L F G _ (sl3_up hs.out (by repeat (first | with_reducible (first | exact World.gained_refl _ | exact ⟨_, rfl⟩ | apply gain_ext | apply gain_alloc | apply gain_drewN | apply gain_drew) | (refine gain_setCell ?_ (by first | exact Nat.le_refl _ | exact World.size_ext _ _ | (simp; done) | (simp; omega)) _)))) (sl2_up hst.out (by repeat (first | with_reducible (first | exact World.gained_refl _ | exact ⟨_, rfl⟩ | apply gain_ext | apply gain_alloc | apply gain_drewN | apply gain_drew) | (refine gain_setCell ?_ (by first | exact Nat.le_refl _ | exact World.size_ext _ _ | (simp; done) | (simp; omega)) _)))) a5 a2 a3 hGl HALL.out HTB.out).mono ?_
      rintro e w1 ⟨q, rfl, ⟨d3, rfl⟩, ho⟩
      go_wp2
      go_ret2
      rw [HE.out.1, HE.out.2]
      exact ⟨_, rfl, (by repeat (first | with_reducible (first | exact World.gained_refl _ | exact ⟨_, rfl⟩ | apply gain_ext | apply gain_alloc | apply gain_drewN | apply gain_drew) | (refine gain_setCell ?_ (by first | exact Nat.le_refl _ | exact World.size_ext _ _ | (simp; done) | (simp; omega)) _))), own_base ho (gain_size (by repeat (first | with_reducible (first | exact World.gained_refl _ | exact ⟨_, rfl⟩ | apply gain_ext | apply gain_alloc | apply gain_drewN | apply gain_drew) | (refine gain_setCell ?_ (by first | exact Nat.le_refl _ | exact World.size_ext _ _ | (simp; done) | (simp; omega)) _))))⟩
end Go.Proofs.Ytlofdpbdnkcnkaa
