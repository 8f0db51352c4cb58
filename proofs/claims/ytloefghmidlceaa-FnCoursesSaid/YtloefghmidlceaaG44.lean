/- impl.CourseFaults, spec.CourseFaults. Conditions: at most 1048576 numbers, controls, codes. -/
import Derived.Test.YtloefghmidlceaaG42
import Derived.Test.YtloefghmidlceaaG43
import Derived.Test.YtloefghmidlceaaG28
import Derived.Test.YtloefghmidlceaaG30
import Derived.Test.YtloefghmidlceaaG32
import Derived.Deep.DeepCutAuto
namespace Go.Ori
theorem take_any_step {α : Type} {l : List α} {f : α → Bool} {k : Nat} (h : k < l.length) : (l.take (k + 1)).any f = ((l.take k).any f || f l[k]) := by
  rw [List.take_succ_eq_append_getElem h, List.any_append]; simp
theorem faultL_yes {m : Mp} {l : List Ctl} {c : List Int} {A B : Bool} (h : crsB m l c = true) (hA : (legsT m l c (c.length - 1)).any (fun x => decide (x < 3)) = A) (hB : decide (0 < (backN m l c (c.length - 1)).length) = B) :
    faultL m l c = (((if c.length < 4 then [1] else []) ++ (if twiceB c then [2] else [])) ++ (if A then [3] else [])) ++ (if B then [4] else []) := by
  unfold faultL
  rw [if_pos h, hA]
  subst hB
  simp
end Go.Ori
namespace Go.Proofs.Ytloefghmidlceaa
open Go.RowKit Go.Ori
set_option maxHeartbeats 8000000 in
theorem impCourseFaults_any (m : Mp) (rv cv v u : Value) (l : List Ctl) (t : List Int) (w : World) (hmp : w.mp rv cv m) (h : w.sl Ctl.cells 2 v l) (hl : l.length ≤ 1048576) (h2 : w.sl intC 1 u t) (hl2 : t.length ≤ 1048576) :
    Calls Try.prog 22 #[.agg #[.int .i64 m.wd, .int .i64 m.ht, rv, cv], v, u] w fun x w' => ∃ r, x = .returned (.tuple #[r, .bool (crsB m l t)]) ∧ (∃ d, w' = w.ext d) ∧ w'.own w.heap.size 3 intC 1 r (faultL m l t) := by
  have hm := Lib.hid hmp
  have hs := Lib.hid h
  have ht := Lib.hid h2
  obtain ⟨p1, c1, p2, c2, rfl, rfl⟩ := mp_form hmp
  obtain ⟨p, c, rfl, _⟩ := id h
  obtain ⟨p', c', rfl, _⟩ := id h2
  have HGD := Lib.hid (fun w' hw' hv' hu' => isCourse_any m (.slice p1 m.rise.length c1) (.slice p2 m.cost.length c2) (.slice p l.length c) (.slice p' t.length c') l t w' hw' hv' hl hu' hl2)
  clear hmp h h2
  cases hB : crsB m l t with
  | false =>
    have HE := Lib.hid (show faultL m l t = [] by simp [faultL, hB])
    rw [hB] at HGD
    clear hB
    go_enter Try.func22, Try.ntmps22
    go_wp2_with (go_at_call 13; refine (HGD.out _ (mp_up (hm.out) (by repeat (first | with_reducible (first | exact World.gained_refl _ | exact ⟨_, rfl⟩ | apply gain_ext | apply gain_alloc | apply gain_drewN | apply gain_drew) | (refine gain_setCell ?_ (by first | exact Nat.le_refl _ | exact World.size_ext _ _ | (simp; done) | (simp; omega)) _)))) (by with_reducible (repeat (first | exact hs.out | refine World.sl_ext Ctl.cells_length ?_ _ | refine sl_alloc Ctl.cells_length ?_ _ | refine sl_drew ?_))) (by with_reducible (repeat (first | exact ht.out | refine World.sl_ext intC_length ?_ _ | refine sl_alloc intC_length ?_ _ | refine sl_drew ?_)))).mono ?_; rintro e w1 ⟨rfl, d1, rfl⟩)
    go_ret2
    rw [HE.out]
    exact ⟨_, rfl, (by repeat (first | with_reducible (first | exact World.gained_refl _ | exact ⟨_, rfl⟩ | apply gain_ext | apply gain_alloc | apply gain_drewN | apply gain_drew) | (refine gain_setCell ?_ (by first | exact Nat.le_refl _ | exact World.size_ext _ _ | (simp; done) | (simp; omega)) _))), own_nil _ _ _ _ _⟩
  | true =>
    have hC := crsB_true hB
    have HC := Lib.hid hC
    have ht8 := hC.hi
    have ht2 := hC.lo
    have HE := Lib.hid (fun A B hA hB' => faultL_yes (A := A) (B := B) hB hA hB')
    rw [hB] at HGD
    clear hB hC
    go_enter Try.func22, Try.ntmps22
    go_wp2_with fail
    generalize hW0 : w.alloc (.cells #[.int .i64 m.wd, .int .i64 m.ht, .slice p1 m.rise.length c1, .slice p2 m.cost.length c2] 26) = W0
    have hbx : MBox w W0 w.heap.size m (.slice p1 m.rise.length c1) (.slice p2 m.cost.length c2) := by rw [← hW0]; exact mbox
    have HG := Lib.hid hbx.up
    have hsz := hbx.sz
    have bx0 := hbx.c0
    have bx1 := hbx.c1
    have bx2 := hbx.c2
    have bx3 := hbx.c3
    have obx := hbx.ob
    have HSE := Lib.hid hbx.se
    have HM0 := Lib.hid (mp_up hm.out HG.out)
    have hs0 := Lib.hid (sl_up Ctl.cells_length hs.out HG.out)
    have ht0 := Lib.hid (sl_up intC_length ht.out HG.out)
    clear hW0 hbx
    go_upto_if 17 with (go_at_call 13; refine (HGD.out _ (mp_up (HM0.out) (by repeat (first | with_reducible (first | exact World.gained_refl _ | exact ⟨_, rfl⟩ | apply gain_ext | apply gain_alloc | apply gain_drewN | apply gain_drew) | (refine gain_setCell ?_ (by first | exact Nat.le_refl _ | exact World.size_ext _ _ | (simp; done) | (simp; omega)) _)))) (by with_reducible (repeat (first | exact hs0.out | refine World.sl_ext Ctl.cells_length ?_ _ | refine sl_alloc Ctl.cells_length ?_ _ | refine sl_drew ?_))) (by with_reducible (repeat (first | exact ht0.out | refine World.sl_ext intC_length ?_ _ | refine sl_alloc intC_length ?_ _ | refine sl_drew ?_)))).mono ?_; rintro e w1 ⟨rfl, d1, rfl⟩)
    have HNEW := Lib.hid (own_lit' (w := W0.ext d1) (base := W0.heap.size) (e := 3) (l := ([] : List Int)) intC_length rfl rfl (World.size_ext _ _))
    go_cut [8] (fun s wx => (∃ d, wx = W0.ext d) ∧ wx.own W0.heap.size 3 intC 1 s (if t.length < 4 then [1] else []))
    case first =>
      cases hy : decide ((t.length : Int) < 4) with
      | true =>
        have hy' : t.length < 4 := by have := of_decide_eq_true hy; omega
        go_wp2_with (at_builtin; go_must (refine wpList_append_gain (m := [(1 : Int)]) rfl (.tmp 18) (.tmp 19) rfl Try.underlying24 info_int (by rfl) (by omega) intC_length intC_one (by omega) (by repeat (first | with_reducible (first | exact World.gained_refl _ | exact ⟨_, rfl⟩ | apply gain_ext | apply gain_alloc | apply gain_drewN | apply gain_drew) | (refine gain_setCell ?_ (by first | exact Nat.le_refl _ | exact World.size_ext _ _ | (simp; done) | (simp; omega)) _))) (Nat.le_refl _) (gain_size (by repeat (first | with_reducible (first | exact World.gained_refl _ | exact ⟨_, rfl⟩ | apply gain_ext | apply gain_alloc | apply gain_drewN | apply gain_drew) | (refine gain_setCell ?_ (by first | exact Nat.le_refl _ | exact World.size_ext _ _ | (simp; done) | (simp; omega)) _)))) rfl rfl (own_up (HNEW.out) (by repeat (first | with_reducible (first | exact World.gained_refl _ | exact ⟨_, rfl⟩ | apply gain_ext | apply gain_alloc | apply gain_drewN | apply gain_drew) | (refine gain_setCell ?_ (by first | exact Nat.le_refl _ | exact World.size_ext _ _ | (simp; done) | (simp; omega)) _)))) (sl_lit (l := [(1 : Int)]) intC_length rfl (by simp)) (by simp) ?_); intro v' d' ho hg)
        go_meet
        exact ⟨⟨_, rfl⟩, by rw [if_pos hy']; exact ho⟩
      | false =>
        have hy' : ¬ t.length < 4 := by have := of_decide_eq_false hy; omega
        go_wp2_with fail
        go_meet
        exact ⟨(by repeat (first | with_reducible (first | exact World.gained_refl _ | exact ⟨_, rfl⟩ | apply gain_ext | apply gain_alloc | apply gain_drewN | apply gain_drew) | (refine gain_setCell ?_ (by first | exact Nat.le_refl _ | exact World.size_ext _ _ | (simp; done) | (simp; omega)) _))), by rw [if_neg hy']; exact (own_up (HNEW.out) (by repeat (first | with_reducible (first | exact World.gained_refl _ | exact ⟨_, rfl⟩ | apply gain_ext | apply gain_alloc | apply gain_drewN | apply gain_drew) | (refine gain_setCell ?_ (by first | exact Nat.le_refl _ | exact World.size_ext _ _ | (simp; done) | (simp; omega)) _))))⟩
    obtain ⟨⟨e1, rfl⟩, ho⟩ := hcut
    have HO1 := Lib.hid ho
    have HL1 := Lib.hid (show (if t.length < 4 then [(1 : Int)] else []).length ≤ 1 by split <;> simp)
    clear ho
    generalize (if t.length < 4 then [(1 : Int)] else []) = F1 at HO1 HL1 HE
    go_upto_if 22 with (go_at_call 100; refine (hasTwice_any _ t _ (by with_reducible (repeat (first | exact ht0.out | refine World.sl_ext intC_length ?_ _ | refine sl_alloc intC_length ?_ _ | refine sl_drew ?_))) hl2).mono ?_; rintro e w1 ⟨rfl, d2, rfl⟩)
    go_cut [8] (fun s wx => (∃ d, wx = W0.ext d) ∧ wx.own W0.heap.size 3 intC 1 s (F1 ++ if twiceB t then [2] else []))
    case first =>
      cases hy : twiceB t with
      | true =>
        skip
        go_wp2_with (at_builtin; go_must (refine wpList_append_gain (m := [(2 : Int)]) rfl (.tmp 23) (.tmp 24) rfl Try.underlying24 info_int (by rfl) (by omega) intC_length intC_one (by omega) (by repeat (first | with_reducible (first | exact World.gained_refl _ | exact ⟨_, rfl⟩ | apply gain_ext | apply gain_alloc | apply gain_drewN | apply gain_drew) | (refine gain_setCell ?_ (by first | exact Nat.le_refl _ | exact World.size_ext _ _ | (simp; done) | (simp; omega)) _))) (Nat.le_refl _) (gain_size (by repeat (first | with_reducible (first | exact World.gained_refl _ | exact ⟨_, rfl⟩ | apply gain_ext | apply gain_alloc | apply gain_drewN | apply gain_drew) | (refine gain_setCell ?_ (by first | exact Nat.le_refl _ | exact World.size_ext _ _ | (simp; done) | (simp; omega)) _)))) rfl rfl (own_up (HO1.out) (by repeat (first | with_reducible (first | exact World.gained_refl _ | exact ⟨_, rfl⟩ | apply gain_ext | apply gain_alloc | apply gain_drewN | apply gain_drew) | (refine gain_setCell ?_ (by first | exact Nat.le_refl _ | exact World.size_ext _ _ | (simp; done) | (simp; omega)) _)))) (sl_lit (l := [(2 : Int)]) intC_length rfl (by simp)) (by have := HL1.out; simp; omega) ?_); intro v' d' ho hg)
        go_meet
        exact ⟨⟨_, rfl⟩, by rw [if_pos hy]; exact ho⟩
      | false =>
        skip
        go_wp2_with fail
        go_meet
        exact ⟨(by repeat (first | with_reducible (first | exact World.gained_refl _ | exact ⟨_, rfl⟩ | apply gain_ext | apply gain_alloc | apply gain_drewN | apply gain_drew) | (refine gain_setCell ?_ (by first | exact Nat.le_refl _ | exact World.size_ext _ _ | (simp; done) | (simp; omega)) _))), by rw [if_neg (by rw [hy]; decide), List.append_nil]; exact (own_up (HO1.out) (by repeat (first | with_reducible (first | exact World.gained_refl _ | exact ⟨_, rfl⟩ | apply gain_ext | apply gain_alloc | apply gain_drewN | apply gain_drew) | (refine gain_setCell ?_ (by first | exact Nat.le_refl _ | exact World.size_ext _ _ | (simp; done) | (simp; omega)) _))))⟩
    obtain ⟨⟨e2, rfl⟩, ho⟩ := hcut
    have HO2 := Lib.hid ho
    have HL2 := Lib.hid (show (F1 ++ if twiceB t then [(2 : Int)] else []).length ≤ 2 by have := HL1.out; have := if1 (twiceB t = true) 2; rw [List.length_append]; omega)
    clear ho
    generalize (F1 ++ if twiceB t then [(2 : Int)] else []) = F2 at HO2 HL2 HE
    have HLL := Lib.hid (legsT_length m l t (t.length - 1))
    have HMA := Lib.hid (min_any (l := legsT m l t (t.length - 1)) (by rw [legsT_length]; omega))
    go_upto_if 31 with (first | (go_at_call 93; refine (legTimes_any m _ _ _ _ l t _ (mp_up (HM0.out) (by repeat (first | with_reducible (first | exact World.gained_refl _ | exact ⟨_, rfl⟩ | apply gain_ext | apply gain_alloc | apply gain_drewN | apply gain_drew) | (refine gain_setCell ?_ (by first | exact Nat.le_refl _ | exact World.size_ext _ _ | (simp; done) | (simp; omega)) _)))) (by with_reducible (repeat (first | exact hs0.out | refine World.sl_ext Ctl.cells_length ?_ _ | refine sl_alloc Ctl.cells_length ?_ _ | refine sl_drew ?_))) hl (by with_reducible (repeat (first | exact ht0.out | refine World.sl_ext intC_length ?_ _ | refine sl_alloc intC_length ?_ _ | refine sl_drew ?_))) HC.out).mono ?_; rintro e w1 ⟨r3, rfl, ⟨d3, rfl⟩, h3⟩) | (go_at_call 101; refine (min_ints _ _ _ (sl_of_own intC_length h3) (by rw [HLL.out]; omega) (by rw [HLL.out]; omega)).mono ?_; rintro e w1 ⟨rfl, d4, rfl⟩))
    rw [HMA.out] at *
    generalize hA : (legsT m l t (t.length - 1)).any (fun x => decide (x < 3)) = A at *
    go_cut [8] (fun s wx => (∃ d, wx = W0.ext d) ∧ wx.own W0.heap.size 3 intC 1 s (F2 ++ if A then [3] else []))
    case first =>
      cases hy : A with
      | true =>
        skip
        go_wp2_with (at_builtin; go_must (refine wpList_append_gain (m := [(3 : Int)]) rfl (.tmp 32) (.tmp 33) rfl Try.underlying24 info_int (by rfl) (by omega) intC_length intC_one (by omega) (by repeat (first | with_reducible (first | exact World.gained_refl _ | exact ⟨_, rfl⟩ | apply gain_ext | apply gain_alloc | apply gain_drewN | apply gain_drew) | (refine gain_setCell ?_ (by first | exact Nat.le_refl _ | exact World.size_ext _ _ | (simp; done) | (simp; omega)) _))) (Nat.le_refl _) (gain_size (by repeat (first | with_reducible (first | exact World.gained_refl _ | exact ⟨_, rfl⟩ | apply gain_ext | apply gain_alloc | apply gain_drewN | apply gain_drew) | (refine gain_setCell ?_ (by first | exact Nat.le_refl _ | exact World.size_ext _ _ | (simp; done) | (simp; omega)) _)))) rfl rfl (own_up (HO2.out) (by repeat (first | with_reducible (first | exact World.gained_refl _ | exact ⟨_, rfl⟩ | apply gain_ext | apply gain_alloc | apply gain_drewN | apply gain_drew) | (refine gain_setCell ?_ (by first | exact Nat.le_refl _ | exact World.size_ext _ _ | (simp; done) | (simp; omega)) _)))) (sl_lit (l := [(3 : Int)]) intC_length rfl (by simp)) (by have := HL2.out; simp; omega) ?_); intro v' d' ho hg)
        go_meet
        exact ⟨⟨_, rfl⟩, by rw [if_pos hy]; exact ho⟩
      | false =>
        skip
        go_wp2_with fail
        go_meet
        exact ⟨(by repeat (first | with_reducible (first | exact World.gained_refl _ | exact ⟨_, rfl⟩ | apply gain_ext | apply gain_alloc | apply gain_drewN | apply gain_drew) | (refine gain_setCell ?_ (by first | exact Nat.le_refl _ | exact World.size_ext _ _ | (simp; done) | (simp; omega)) _))), by rw [if_neg (by rw [hy]; decide), List.append_nil]; exact (own_up (HO2.out) (by repeat (first | with_reducible (first | exact World.gained_refl _ | exact ⟨_, rfl⟩ | apply gain_ext | apply gain_alloc | apply gain_drewN | apply gain_drew) | (refine gain_setCell ?_ (by first | exact Nat.le_refl _ | exact World.size_ext _ _ | (simp; done) | (simp; omega)) _))))⟩
    obtain ⟨⟨e3, rfl⟩, ho⟩ := hcut
    have HO3 := Lib.hid ho
    have HL3 := Lib.hid (show (F2 ++ if A then [(3 : Int)] else []).length ≤ 3 by have := HL2.out; have := if1 (A = true) 3; rw [List.length_append]; omega)
    clear ho
    have HE3 := Lib.hid (HE.out A _ rfl rfl)
    generalize (F2 ++ if A then [(3 : Int)] else []) = F3 at HO3 HL3 HE3
    go_upto_if 40 with (go_at_call 102; refine (backLegs_any m _ _ _ _ l t _ (mp_up (HM0.out) (by repeat (first | with_reducible (first | exact World.gained_refl _ | exact ⟨_, rfl⟩ | apply gain_ext | apply gain_alloc | apply gain_drewN | apply gain_drew) | (refine gain_setCell ?_ (by first | exact Nat.le_refl _ | exact World.size_ext _ _ | (simp; done) | (simp; omega)) _)))) (by with_reducible (repeat (first | exact hs0.out | refine World.sl_ext Ctl.cells_length ?_ _ | refine sl_alloc Ctl.cells_length ?_ _ | refine sl_drew ?_))) hl (by with_reducible (repeat (first | exact ht0.out | refine World.sl_ext intC_length ?_ _ | refine sl_alloc intC_length ?_ _ | refine sl_drew ?_))) HC.out).mono ?_; rintro e w1 ⟨r5, rfl, ⟨d5, rfl⟩, h5⟩; obtain ⟨p5, c5, rfl, _⟩ := sl_of_own intC_length h5)
    generalize hBN : backN m l t (t.length - 1) = RN at *
    have HRN := Lib.hid (show RN.length ≤ 8 by rw [← hBN]; have := backN_length m l t (t.length - 1); omega)
    cases hy : decide (0 < RN.length) with
    | true =>
      have hy2 : decide (0 < (RN.length : Int)) = true := by simpa using hy
      rw [hy] at HE3
      clear hBN
      go_wp2_with (at_builtin; go_must (refine wpList_append_gain (m := [(4 : Int)]) rfl (.tmp 41) (.tmp 42) rfl Try.underlying24 info_int (by rfl) (by omega) intC_length intC_one (by omega) (by repeat (first | with_reducible (first | exact World.gained_refl _ | exact ⟨_, rfl⟩ | apply gain_ext | apply gain_alloc | apply gain_drewN | apply gain_drew) | (refine gain_setCell ?_ (by first | exact Nat.le_refl _ | exact World.size_ext _ _ | (simp; done) | (simp; omega)) _))) (Nat.le_refl _) (gain_size (by repeat (first | with_reducible (first | exact World.gained_refl _ | exact ⟨_, rfl⟩ | apply gain_ext | apply gain_alloc | apply gain_drewN | apply gain_drew) | (refine gain_setCell ?_ (by first | exact Nat.le_refl _ | exact World.size_ext _ _ | (simp; done) | (simp; omega)) _)))) rfl rfl (own_up (HO3.out) (by repeat (first | with_reducible (first | exact World.gained_refl _ | exact ⟨_, rfl⟩ | apply gain_ext | apply gain_alloc | apply gain_drewN | apply gain_drew) | (refine gain_setCell ?_ (by first | exact Nat.le_refl _ | exact World.size_ext _ _ | (simp; done) | (simp; omega)) _)))) (sl_lit (l := [(4 : Int)]) intC_length rfl (by simp)) (by have := HL3.out; simp; omega) ?_); intro v' d' ho hg)
      go_ret2
      rw [HE3.out]
      exact ⟨_, rfl, gain_trans HG.out ⟨_, rfl⟩, own_base ho hsz⟩
    | false =>
      have hy2 : decide (0 < (RN.length : Int)) = false := by simpa using hy
      rw [hy] at HE3
      have HE4 := Lib.hid (HE3.out.trans (show _ = F3 by simp))
      clear hBN
      go_wp2
      go_ret2
      rw [HE4.out]
      exact ⟨_, rfl, gain_trans HG.out (by repeat (first | with_reducible (first | exact World.gained_refl _ | exact ⟨_, rfl⟩ | apply gain_ext | apply gain_alloc | apply gain_drewN | apply gain_drew) | (refine gain_setCell ?_ (by first | exact Nat.le_refl _ | exact World.size_ext _ _ | (simp; done) | (simp; omega)) _))), own_base (own_up (HO3.out) (by repeat (first | with_reducible (first | exact World.gained_refl _ | exact ⟨_, rfl⟩ | apply gain_ext | apply gain_alloc | apply gain_drewN | apply gain_drew) | (refine gain_setCell ?_ (by first | exact Nat.le_refl _ | exact World.size_ext _ _ | (simp; done) | (simp; omega)) _)))) hsz⟩
set_option maxHeartbeats 8000000 in
theorem specCourseFaults_any (m : Mp) (rv cv v u : Value) (l : List Ctl) (t : List Int) (w : World) (hmp : w.mp rv cv m) (h : w.sl Ctl.cells 2 v l) (hl : l.length ≤ 1048576) (h2 : w.sl intC 1 u t) (hl2 : t.length ≤ 1048576) :
    Calls Try.prog 26 #[.agg #[.int .i64 m.wd, .int .i64 m.ht, rv, cv], v, u] w fun x w' => ∃ r, x = .returned (.tuple #[r, .bool (crsB m l t)]) ∧ (∃ d, w' = w.ext d) ∧ w'.own w.heap.size 3 intC 1 r (faultL m l t) := by
  have hm := Lib.hid hmp
  have hs := Lib.hid h
  have ht := Lib.hid h2
  obtain ⟨p1, c1, p2, c2, rfl, rfl⟩ := mp_form hmp
  obtain ⟨p, c, rfl, _⟩ := id h
  obtain ⟨p', c', rfl, _⟩ := id h2
  have HGD := Lib.hid (fun w' hw' hv' hu' => l8Good_any m (.slice p1 m.rise.length c1) (.slice p2 m.cost.length c2) (.slice p l.length c) (.slice p' t.length c') l t w' hw' hv' hl hu' hl2)
  clear hmp h h2
  cases hB : crsB m l t with
  | false =>
    have HE := Lib.hid (show faultL m l t = [] by simp [faultL, hB])
    rw [hB] at HGD
    clear hB
    go_enter Try.func26, Try.ntmps26
    go_wp2_with (go_at_call 86; refine (HGD.out _ (mp_up (hm.out) (by repeat (first | with_reducible (first | exact World.gained_refl _ | exact ⟨_, rfl⟩ | apply gain_ext | apply gain_alloc | apply gain_drewN | apply gain_drew) | (refine gain_setCell ?_ (by first | exact Nat.le_refl _ | exact World.size_ext _ _ | (simp; done) | (simp; omega)) _)))) (by with_reducible (repeat (first | exact hs.out | refine World.sl_ext Ctl.cells_length ?_ _ | refine sl_alloc Ctl.cells_length ?_ _ | refine sl_drew ?_))) (by with_reducible (repeat (first | exact ht.out | refine World.sl_ext intC_length ?_ _ | refine sl_alloc intC_length ?_ _ | refine sl_drew ?_)))).mono ?_; rintro e w1 ⟨rfl, d1, rfl⟩)
    go_ret2
    rw [HE.out]
    exact ⟨_, rfl, (by repeat (first | with_reducible (first | exact World.gained_refl _ | exact ⟨_, rfl⟩ | apply gain_ext | apply gain_alloc | apply gain_drewN | apply gain_drew) | (refine gain_setCell ?_ (by first | exact Nat.le_refl _ | exact World.size_ext _ _ | (simp; done) | (simp; omega)) _))), own_up (own_lit' (w := w.alloc (.cells #[.int .i64 m.wd, .int .i64 m.ht, .slice p1 m.rise.length c1, .slice p2 m.cost.length c2] 26)) (l := ([] : List Int)) intC_length rfl (by simp [World.size_alloc]) (by simp [World.size_alloc])) (by repeat (first | with_reducible (first | exact World.gained_refl _ | exact ⟨_, rfl⟩ | apply gain_ext | apply gain_alloc | apply gain_drewN | apply gain_drew) | (refine gain_setCell ?_ (by first | exact Nat.le_refl _ | exact World.size_ext _ _ | (simp; done) | (simp; omega)) _)))⟩
  | true =>
    have hC := crsB_true hB
    have HC := Lib.hid hC
    have ht8 := hC.hi
    have ht2 := hC.lo
    have HE := Lib.hid (fun A B hA hB' => faultL_yes (A := A) (B := B) hB hA hB')
    rw [hB] at HGD
    clear hB hC
    go_enter Try.func26, Try.ntmps26
    go_wp2_with fail
    generalize hW0 : w.alloc (.cells #[.int .i64 m.wd, .int .i64 m.ht, .slice p1 m.rise.length c1, .slice p2 m.cost.length c2] 26) = W0
    have hbx : MBox w W0 w.heap.size m (.slice p1 m.rise.length c1) (.slice p2 m.cost.length c2) := by rw [← hW0]; exact mbox
    have HG := Lib.hid hbx.up
    have hsz := hbx.sz
    have bx0 := hbx.c0
    have bx1 := hbx.c1
    have bx2 := hbx.c2
    have bx3 := hbx.c3
    have obx := hbx.ob
    have HSE := Lib.hid hbx.se
    have HM0 := Lib.hid (mp_up hm.out HG.out)
    have hs0 := Lib.hid (sl_up Ctl.cells_length hs.out HG.out)
    have ht0 := Lib.hid (sl_up intC_length ht.out HG.out)
    clear hW0 hbx
    go_upto_if 21 with (go_at_call 86; refine (HGD.out _ (mp_up (HM0.out) (by repeat (first | with_reducible (first | exact World.gained_refl _ | exact ⟨_, rfl⟩ | apply gain_ext | apply gain_alloc | apply gain_drewN | apply gain_drew) | (refine gain_setCell ?_ (by first | exact Nat.le_refl _ | exact World.size_ext _ _ | (simp; done) | (simp; omega)) _)))) (by with_reducible (repeat (first | exact hs0.out | refine World.sl_ext Ctl.cells_length ?_ _ | refine sl_alloc Ctl.cells_length ?_ _ | refine sl_drew ?_))) (by with_reducible (repeat (first | exact ht0.out | refine World.sl_ext intC_length ?_ _ | refine sl_alloc intC_length ?_ _ | refine sl_drew ?_)))).mono ?_; rintro e w1 ⟨rfl, d1, rfl⟩)
    have HNEW := Lib.hid (own_ext (own_lit' (w := W0) (base := W0.heap.size) (e := 3) (l := ([] : List Int)) intC_length rfl HSE.out.symm (Nat.le_refl _)) d1)
    go_cut [8] (fun s wx => (∃ d, wx = W0.ext d) ∧ wx.own W0.heap.size 3 intC 1 s (if t.length < 4 then [1] else []))
    case first =>
      cases hy : decide ((t.length : Int) < 4) with
      | true =>
        have hy' : t.length < 4 := by have := of_decide_eq_true hy; omega
        go_wp2_with (at_builtin; go_must (refine wpList_append_gain (m := [(1 : Int)]) rfl (.tmp 22) (.tmp 23) rfl Try.underlying24 info_int (by rfl) (by omega) intC_length intC_one (by omega) (by repeat (first | with_reducible (first | exact World.gained_refl _ | exact ⟨_, rfl⟩ | apply gain_ext | apply gain_alloc | apply gain_drewN | apply gain_drew) | (refine gain_setCell ?_ (by first | exact Nat.le_refl _ | exact World.size_ext _ _ | (simp; done) | (simp; omega)) _))) (Nat.le_refl _) (gain_size (by repeat (first | with_reducible (first | exact World.gained_refl _ | exact ⟨_, rfl⟩ | apply gain_ext | apply gain_alloc | apply gain_drewN | apply gain_drew) | (refine gain_setCell ?_ (by first | exact Nat.le_refl _ | exact World.size_ext _ _ | (simp; done) | (simp; omega)) _)))) rfl rfl (own_up (HNEW.out) (by repeat (first | with_reducible (first | exact World.gained_refl _ | exact ⟨_, rfl⟩ | apply gain_ext | apply gain_alloc | apply gain_drewN | apply gain_drew) | (refine gain_setCell ?_ (by first | exact Nat.le_refl _ | exact World.size_ext _ _ | (simp; done) | (simp; omega)) _)))) (sl_lit (l := [(1 : Int)]) intC_length rfl (by simp)) (by simp) ?_); intro v' d' ho hg)
        go_meet
        exact ⟨⟨_, rfl⟩, by rw [if_pos hy']; exact ho⟩
      | false =>
        have hy' : ¬ t.length < 4 := by have := of_decide_eq_false hy; omega
        go_wp2_with fail
        go_meet
        exact ⟨(by repeat (first | with_reducible (first | exact World.gained_refl _ | exact ⟨_, rfl⟩ | apply gain_ext | apply gain_alloc | apply gain_drewN | apply gain_drew) | (refine gain_setCell ?_ (by first | exact Nat.le_refl _ | exact World.size_ext _ _ | (simp; done) | (simp; omega)) _))), by rw [if_neg hy']; exact (own_up (HNEW.out) (by repeat (first | with_reducible (first | exact World.gained_refl _ | exact ⟨_, rfl⟩ | apply gain_ext | apply gain_alloc | apply gain_drewN | apply gain_drew) | (refine gain_setCell ?_ (by first | exact Nat.le_refl _ | exact World.size_ext _ _ | (simp; done) | (simp; omega)) _))))⟩
    obtain ⟨⟨e1, rfl⟩, ho⟩ := hcut
    have HO1 := Lib.hid ho
    have HL1 := Lib.hid (show (if t.length < 4 then [(1 : Int)] else []).length ≤ 1 by split <;> simp)
    clear ho
    generalize (if t.length < 4 then [(1 : Int)] else []) = F1 at HO1 HL1 HE
    go_upto_if 26 with (go_at_call 103; refine (l8Twice_any _ t _ (by with_reducible (repeat (first | exact ht0.out | refine World.sl_ext intC_length ?_ _ | refine sl_alloc intC_length ?_ _ | refine sl_drew ?_))) hl2).mono ?_; rintro e w1 ⟨rfl, d2, rfl⟩)
    go_cut [8] (fun s wx => (∃ d, wx = W0.ext d) ∧ wx.own W0.heap.size 3 intC 1 s (F1 ++ if twiceB t then [2] else []))
    case first =>
      cases hy : twiceB t with
      | true =>
        skip
        go_wp2_with (at_builtin; go_must (refine wpList_append_gain (m := [(2 : Int)]) rfl (.tmp 27) (.tmp 28) rfl Try.underlying24 info_int (by rfl) (by omega) intC_length intC_one (by omega) (by repeat (first | with_reducible (first | exact World.gained_refl _ | exact ⟨_, rfl⟩ | apply gain_ext | apply gain_alloc | apply gain_drewN | apply gain_drew) | (refine gain_setCell ?_ (by first | exact Nat.le_refl _ | exact World.size_ext _ _ | (simp; done) | (simp; omega)) _))) (Nat.le_refl _) (gain_size (by repeat (first | with_reducible (first | exact World.gained_refl _ | exact ⟨_, rfl⟩ | apply gain_ext | apply gain_alloc | apply gain_drewN | apply gain_drew) | (refine gain_setCell ?_ (by first | exact Nat.le_refl _ | exact World.size_ext _ _ | (simp; done) | (simp; omega)) _)))) rfl rfl (own_up (HO1.out) (by repeat (first | with_reducible (first | exact World.gained_refl _ | exact ⟨_, rfl⟩ | apply gain_ext | apply gain_alloc | apply gain_drewN | apply gain_drew) | (refine gain_setCell ?_ (by first | exact Nat.le_refl _ | exact World.size_ext _ _ | (simp; done) | (simp; omega)) _)))) (sl_lit (l := [(2 : Int)]) intC_length rfl (by simp)) (by have := HL1.out; simp; omega) ?_); intro v' d' ho hg)
        go_meet
        exact ⟨⟨_, rfl⟩, by rw [if_pos hy]; exact ho⟩
      | false =>
        skip
        go_wp2_with fail
        go_meet
        exact ⟨(by repeat (first | with_reducible (first | exact World.gained_refl _ | exact ⟨_, rfl⟩ | apply gain_ext | apply gain_alloc | apply gain_drewN | apply gain_drew) | (refine gain_setCell ?_ (by first | exact Nat.le_refl _ | exact World.size_ext _ _ | (simp; done) | (simp; omega)) _))), by rw [if_neg (by rw [hy]; decide), List.append_nil]; exact (own_up (HO1.out) (by repeat (first | with_reducible (first | exact World.gained_refl _ | exact ⟨_, rfl⟩ | apply gain_ext | apply gain_alloc | apply gain_drewN | apply gain_drew) | (refine gain_setCell ?_ (by first | exact Nat.le_refl _ | exact World.size_ext _ _ | (simp; done) | (simp; omega)) _))))⟩
    obtain ⟨⟨e2, rfl⟩, ho⟩ := hcut
    have HO2 := Lib.hid ho
    have HL2 := Lib.hid (show (F1 ++ if twiceB t then [(2 : Int)] else []).length ≤ 2 by have := HL1.out; have := if1 (twiceB t = true) 2; rw [List.length_append]; omega)
    clear ho
    generalize (F1 ++ if twiceB t then [(2 : Int)] else []) = F2 at HO2 HL2 HE
    go_wp2_with (go_at_call 88; refine (l8Times_any m _ _ _ _ l t _ (mp_up (HM0.out) (by repeat (first | with_reducible (first | exact World.gained_refl _ | exact ⟨_, rfl⟩ | apply gain_ext | apply gain_alloc | apply gain_drewN | apply gain_drew) | (refine gain_setCell ?_ (by first | exact Nat.le_refl _ | exact World.size_ext _ _ | (simp; done) | (simp; omega)) _)))) (by with_reducible (repeat (first | exact hs0.out | refine World.sl_ext Ctl.cells_length ?_ _ | refine sl_alloc Ctl.cells_length ?_ _ | refine sl_drew ?_))) hl (by with_reducible (repeat (first | exact ht0.out | refine World.sl_ext intC_length ?_ _ | refine sl_alloc intC_length ?_ _ | refine sl_drew ?_))) HC.out).mono ?_; rintro e w1 ⟨r3, rfl, ⟨d3, rfl⟩, h3⟩)
    have HLL := Lib.hid (legsT_length m l t (t.length - 1))
    have H3 := Lib.hid (sl_of_own intC_length h3)
    clear h3
    generalize hLL : legsT m l t (t.length - 1) = L at *
    obtain ⟨p3, c3, rfl, hp3, hcap3⟩ := id H3.out
    go_loopw [9, 11] (fun s i wr => ∃ k : Nat, k ≤ L.length ∧ i = .int .i64 k ∧ s = .bool ((L.take k).any (fun x => decide (x < 3))) ∧ ∃ d, wr = ((W0.ext e2).ext d3).ext d) (fun _ i _ => L.length - (intOf i).toNat)
    case atStart => exact ⟨0, by omega, rfl, rfl, World.gained_refl _⟩
    case round =>
      obtain ⟨k, hk, rfl, rfl, d4, rfl⟩ := hrel
      have hLs : L.length ≤ 8 := by rw [HLL.out]; omega
      by_cases hlt : k < L.length
      · obtain ⟨b, o, rfl, hc⟩ := hp3 (by omega)
        have c0 := hc k hlt 0 (by omega)
        have HS := Lib.hid (take_any_step (f := fun x => decide (x < 3)) hlt)
        generalize L[k] = y at c0 HS
        generalize (L.take k).any (fun x => decide (x < 3)) = S0 at HS ⊢
        have hck : k ≤ c3 := by omega
        clear hc hp3
        simp only [intC, List.getElem?_cons_zero, Nat.add_zero, Nat.mul_one] at c0
        have ob := World.oldB_of_cell c0
        cases S0 with
        | true =>
          go_wp2_with fail
          go_roundw
          case rel => exact ⟨k + 1, by omega, by go_num, by rw [HS.out]; rfl, (by repeat (first | with_reducible (first | exact World.gained_refl _ | exact ⟨_, rfl⟩ | apply gain_ext | apply gain_alloc | apply gain_drewN | apply gain_drew) | (refine gain_setCell ?_ (by first | exact Nat.le_refl _ | exact World.size_ext _ _ | (simp; done) | (simp; omega)) _)))⟩
          case measure => simp [intOf]; omega
        | false =>
          go_wp2_with fail
          go_roundw
          case rel => exact ⟨k + 1, by omega, by go_num, by rw [HS.out]; simp, (by repeat (first | with_reducible (first | exact World.gained_refl _ | exact ⟨_, rfl⟩ | apply gain_ext | apply gain_alloc | apply gain_drewN | apply gain_drew) | (refine gain_setCell ?_ (by first | exact Nat.le_refl _ | exact World.size_ext _ _ | (simp; done) | (simp; omega)) _)))⟩
          case measure => simp [intOf]; omega
      · have hE : L.take k = L := List.take_of_length_le (by omega)
        rw [hE]
        clear hE
        generalize hA : L.any (fun x => decide (x < 3)) = A at *
        clear hp3
        go_upto_if 48 with fail
        go_cut [8, 9] (fun s q wx => q = .bool A ∧ (∃ d, wx = W0.ext d) ∧ wx.own W0.heap.size 3 intC 1 s (F2 ++ if A then [3] else []))
        case first =>
          cases hy : A with
          | true =>
            skip
            go_wp2_with (at_builtin; go_must (refine wpList_append_gain (m := [(3 : Int)]) rfl (.tmp 49) (.tmp 50) rfl Try.underlying24 info_int (by rfl) (by omega) intC_length intC_one (by omega) (by repeat (first | with_reducible (first | exact World.gained_refl _ | exact ⟨_, rfl⟩ | apply gain_ext | apply gain_alloc | apply gain_drewN | apply gain_drew) | (refine gain_setCell ?_ (by first | exact Nat.le_refl _ | exact World.size_ext _ _ | (simp; done) | (simp; omega)) _))) (Nat.le_refl _) (gain_size (by repeat (first | with_reducible (first | exact World.gained_refl _ | exact ⟨_, rfl⟩ | apply gain_ext | apply gain_alloc | apply gain_drewN | apply gain_drew) | (refine gain_setCell ?_ (by first | exact Nat.le_refl _ | exact World.size_ext _ _ | (simp; done) | (simp; omega)) _)))) rfl rfl (own_up (HO2.out) (by repeat (first | with_reducible (first | exact World.gained_refl _ | exact ⟨_, rfl⟩ | apply gain_ext | apply gain_alloc | apply gain_drewN | apply gain_drew) | (refine gain_setCell ?_ (by first | exact Nat.le_refl _ | exact World.size_ext _ _ | (simp; done) | (simp; omega)) _)))) (sl_lit (l := [(3 : Int)]) intC_length rfl (by simp)) (by have := HL2.out; simp; omega) ?_); intro v' d' ho hg)
            go_meet
            exact ⟨by rw [hy], ⟨_, rfl⟩, by rw [if_pos hy]; exact ho⟩
          | false =>
            skip
            go_wp2_with fail
            go_meet
            exact ⟨by rw [hy], (by repeat (first | with_reducible (first | exact World.gained_refl _ | exact ⟨_, rfl⟩ | apply gain_ext | apply gain_alloc | apply gain_drewN | apply gain_drew) | (refine gain_setCell ?_ (by first | exact Nat.le_refl _ | exact World.size_ext _ _ | (simp; done) | (simp; omega)) _))), by rw [if_neg (by rw [hy]; decide), List.append_nil]; exact (own_up (HO2.out) (by repeat (first | with_reducible (first | exact World.gained_refl _ | exact ⟨_, rfl⟩ | apply gain_ext | apply gain_alloc | apply gain_drewN | apply gain_drew) | (refine gain_setCell ?_ (by first | exact Nat.le_refl _ | exact World.size_ext _ _ | (simp; done) | (simp; omega)) _))))⟩
        obtain ⟨rfl, ⟨e3, rfl⟩, ho⟩ := hcut
        have HO3 := Lib.hid ho
        have HL3 := Lib.hid (show (F2 ++ if A then [(3 : Int)] else []).length ≤ 3 by have := HL2.out; have := if1 (A = true) 3; rw [List.length_append]; omega)
        clear ho
        have HE3 := Lib.hid (HE.out A _ rfl rfl)
        generalize (F2 ++ if A then [(3 : Int)] else []) = F3 at HO3 HL3 HE3
        go_upto_if 57 with (go_at_call 104; refine (l8Back_any m _ _ _ _ l t _ (mp_up (HM0.out) (by repeat (first | with_reducible (first | exact World.gained_refl _ | exact ⟨_, rfl⟩ | apply gain_ext | apply gain_alloc | apply gain_drewN | apply gain_drew) | (refine gain_setCell ?_ (by first | exact Nat.le_refl _ | exact World.size_ext _ _ | (simp; done) | (simp; omega)) _)))) (by with_reducible (repeat (first | exact hs0.out | refine World.sl_ext Ctl.cells_length ?_ _ | refine sl_alloc Ctl.cells_length ?_ _ | refine sl_drew ?_))) hl (by with_reducible (repeat (first | exact ht0.out | refine World.sl_ext intC_length ?_ _ | refine sl_alloc intC_length ?_ _ | refine sl_drew ?_))) HC.out).mono ?_; rintro e w1 ⟨r5, rfl, ⟨d5, rfl⟩, h5⟩; obtain ⟨p5, c5, rfl, _⟩ := sl_of_own intC_length h5)
        generalize hBN : backN m l t (t.length - 1) = RN at *
        have HRN := Lib.hid (show RN.length ≤ 8 by rw [← hBN]; have := backN_length m l t (t.length - 1); omega)
        cases hy : decide (0 < RN.length) with
        | true =>
          have hy2 : decide (0 < (RN.length : Int)) = true := by simpa using hy
          rw [hy] at HE3
          clear hBN
          go_wp2_with (at_builtin; go_must (refine wpList_append_gain (m := [(4 : Int)]) rfl (.tmp 58) (.tmp 59) rfl Try.underlying24 info_int (by rfl) (by omega) intC_length intC_one (by omega) (by repeat (first | with_reducible (first | exact World.gained_refl _ | exact ⟨_, rfl⟩ | apply gain_ext | apply gain_alloc | apply gain_drewN | apply gain_drew) | (refine gain_setCell ?_ (by first | exact Nat.le_refl _ | exact World.size_ext _ _ | (simp; done) | (simp; omega)) _))) (Nat.le_refl _) (gain_size (by repeat (first | with_reducible (first | exact World.gained_refl _ | exact ⟨_, rfl⟩ | apply gain_ext | apply gain_alloc | apply gain_drewN | apply gain_drew) | (refine gain_setCell ?_ (by first | exact Nat.le_refl _ | exact World.size_ext _ _ | (simp; done) | (simp; omega)) _)))) rfl rfl (own_up (HO3.out) (by repeat (first | with_reducible (first | exact World.gained_refl _ | exact ⟨_, rfl⟩ | apply gain_ext | apply gain_alloc | apply gain_drewN | apply gain_drew) | (refine gain_setCell ?_ (by first | exact Nat.le_refl _ | exact World.size_ext _ _ | (simp; done) | (simp; omega)) _)))) (sl_lit (l := [(4 : Int)]) intC_length rfl (by simp)) (by have := HL3.out; simp; omega) ?_); intro v' d' ho hg)
          go_ret2
          rw [HE3.out]
          exact ⟨_, rfl, gain_trans HG.out ⟨_, rfl⟩, own_base ho hsz⟩
        | false =>
          have hy2 : decide (0 < (RN.length : Int)) = false := by simpa using hy
          rw [hy] at HE3
          have HE4 := Lib.hid (HE3.out.trans (show _ = F3 by simp))
          clear hBN
          go_wp2
          go_ret2
          rw [HE4.out]
          exact ⟨_, rfl, gain_trans HG.out (by repeat (first | with_reducible (first | exact World.gained_refl _ | exact ⟨_, rfl⟩ | apply gain_ext | apply gain_alloc | apply gain_drewN | apply gain_drew) | (refine gain_setCell ?_ (by first | exact Nat.le_refl _ | exact World.size_ext _ _ | (simp; done) | (simp; omega)) _))), own_base (own_up (HO3.out) (by repeat (first | with_reducible (first | exact World.gained_refl _ | exact ⟨_, rfl⟩ | apply gain_ext | apply gain_alloc | apply gain_drewN | apply gain_drew) | (refine gain_setCell ?_ (by first | exact Nat.le_refl _ | exact World.size_ext _ _ | (simp; done) | (simp; omega)) _)))) hsz⟩
end Go.Proofs.Ytloefghmidlceaa
