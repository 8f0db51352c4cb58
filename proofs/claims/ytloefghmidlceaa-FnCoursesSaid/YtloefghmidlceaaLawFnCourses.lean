/- FnCourses returns true for every argument. No condition. -/
import Derived.Test.YtloefghmidlceaaG23
import Derived.Test.YtloefghmidlceaaG32
import Derived.Test.YtloefghmidlceaaG33
import Derived.Test.YtloefghmidlceaaG40
import Derived.Test.YtloefghmidlceaaG44
import Derived.Test.YtloefghmidlceaaG42
import Derived.Test.YtloefghmidlceaaG31
import Derived.Test.YtloefghmidlceaaG45
import Derived.Test.YtloefghmidlceaaG46
import Derived.Deep.DeepCutAuto
namespace Go.Ori
theorem rev_facts {m : Mp} {l : List Ctl} {t : List Int} (h : crsB m l t = true) : crsB m l (revL m l t) = true ∧ revL m l (revL m l t) = t := by
  have h1 := crs_rev h
  have h2 : revL m l t = t.reverse := by rw [revL, if_pos h]
  rw [h2]
  exact ⟨h1, by rw [revL, if_pos h1, List.reverse_reverse]⟩
theorem backC_has {m : Mp} {l : List Ctl} {t : List Int} (h : crsB m l t = true) : hasB (faultL m l t) 4 = decide (0 < (backC m l t).length) ∧ hasB (faultL m l t) 1 = decide (t.length < 4) := by
  obtain ⟨h1, h2⟩ := fault_has h
  refine ⟨?_, h2⟩
  rw [h1, backC, if_pos h]
end Go.Ori
namespace Go.Proofs.Ytloefghmidlceaa
open Go.ChangeShapes Go.WideShapes Go.ChangeAt Go.RowKit Go.Ori
set_option maxRecDepth 100000 in
set_option maxHeartbeats 8000000 in
theorem fnCourses_walk (v : Value) (L : List Int) (w : World) (h : w.sl byteC 1 v L) (hq : ∀ x ∈ L, 0 ≤ x ∧ x ≤ 255) (hn : L.length ≤ 9223372036854775807) :
    Calls Try.prog 3 #[v] w fun x w' => x = .returned (.bool true) ∧ ∃ d, w' = w.ext d := by
  have hs := Lib.hid h
  have HQ := Lib.hid hq
  obtain ⟨p, c, rfl, _⟩ := h
  clear hq
  by_cases hbig : 65536 < L.length
  · have hbb : decide (65536 < L.length) = true := decide_eq_true hbig
    go_enter Try.func3, Try.ntmps3
    go_wp2_with (go_at_call 9; refine (vBig_any _ _ _ _ hn).mono ?_; rw [hbb]; rintro e w1 ⟨rfl, rfl⟩)
    go_ret
    exact ⟨rfl, (by repeat (first | with_reducible (first | exact World.gained_refl _ | exact ⟨_, rfl⟩ | apply gain_ext | apply gain_alloc | apply gain_drewN | apply gain_drew) | (refine gain_setCell ?_ (by first | exact Nat.le_refl _ | exact World.size_ext _ _ | (simp; done) | (simp; omega)) _)))⟩
  have hbb : decide (65536 < L.length) = false := decide_eq_false hbig
  have hl : L.length ≤ 1048576 := by omega
  go_enter Try.func3, Try.ntmps3
  go_wp2_with (go_at_call 9; refine (vBig_any _ _ _ _ hn).mono ?_; rw [hbb]; rintro e w1 ⟨rfl, rfl⟩)
  refine (drawCourseTime_any _ L _ hs.out HQ.out hl).mono ?_
  rintro e w1 ⟨m, rv, cv, lv, l, x0, t, rfl, ⟨d1, rfl⟩, ho1, ho2, hrl, hcl, ho3, hll, ho4, htl⟩
  have HM := Lib.hid (show World.mp (w.ext d1) _ _ m from ⟨sl_of_own intC_length ho1, sl_of_own intC_length ho2, by omega, by omega⟩)
  have HL := Lib.hid (sl_of_own Ctl.cells_length ho3)
  have HT := Lib.hid (sl_of_own intC_length ho4)
  obtain ⟨p1, c1, p2, c2, rfl, rfl⟩ := mp_form HM.out
  obtain ⟨p3, c3, rfl, _⟩ := HL.out
  obtain ⟨p4, c4, rfl, _⟩ := HT.out
  clear ho1 ho2 ho3 ho4
  go_wp2_with fail
  generalize hW0 : World.alloc (w.ext d1) (.cells #[.int .i64 m.wd, .int .i64 m.ht, .slice p1 m.rise.length c1, .slice p2 m.cost.length c2] 26) = W0
  have hbx : MBox (w.ext d1) W0 (w.ext d1).heap.size m (.slice p1 m.rise.length c1) (.slice p2 m.cost.length c2) := by rw [← hW0]; exact mbox
  have HGW : ∃ d, W0 = w.ext d := gain_trans (by repeat (first | with_reducible (first | exact World.gained_refl _ | exact ⟨_, rfl⟩ | apply gain_ext | apply gain_alloc | apply gain_drewN | apply gain_drew) | (refine gain_setCell ?_ (by first | exact Nat.le_refl _ | exact World.size_ext _ _ | (simp; done) | (simp; omega)) _))) hbx.up
  have HM0 := Lib.hid (mp_up HM.out hbx.up)
  have HL0 := Lib.hid (sl_up Ctl.cells_length HL.out hbx.up)
  have HT0 := Lib.hid (sl_up intC_length HT.out hbx.up)
  have bx0 := hbx.c0
  have bx1 := hbx.c1
  have bx2 := hbx.c2
  have bx3 := hbx.c3
  have obx := hbx.ob
  generalize ((w.ext d1)).heap.size = gB at bx0 bx1 bx2 bx3 obx ⊢
  clear hW0 hbx HM HL HT
  obtain ⟨dz, rfl⟩ := HGW
  have hl20 : l.length ≤ 1048576 := by omega
  have ht20 : t.length ≤ 1048576 := by omega
  have HYES := Lib.hid (fun (h : crsB m l t = true) => And.intro (rev_facts h) (And.intro (legTimes_len h) (backC_has h)))
  have HBD := Lib.hid (legTimesL_bd (m := m) (l := l) (c := t))
  have HK8 := Lib.hid (legTimesL_length m l t)
  have HCL := climb_ge m l t
  have HRL := Lib.hid (revL_length m l t ht20)
  have HIC := Lib.hid (fun W hM hL hT => isCourse_any m (.slice p1 m.rise.length c1) (.slice p2 m.cost.length c2) (.slice p3 l.length c3) (.slice p4 t.length c4) l t W hM hL hl20 hT ht20)
  have HCT := Lib.hid (fun W hM hL hT => courseTime_any m (.slice p1 m.rise.length c1) (.slice p2 m.cost.length c2) (.slice p3 l.length c3) (.slice p4 t.length c4) l t W hM hL hl20 hT ht20)
  have HSCT := Lib.hid (fun W hM hL hT => specCourseTime_any m (.slice p1 m.rise.length c1) (.slice p2 m.cost.length c2) (.slice p3 l.length c3) (.slice p4 t.length c4) l t W hM hL hl20 hT ht20)
  have HLT := Lib.hid (fun W hM hL hT => impLegTimes_any m (.slice p1 m.rise.length c1) (.slice p2 m.cost.length c2) (.slice p3 l.length c3) (.slice p4 t.length c4) l t W hM hL hl20 hT ht20)
  have HSLT := Lib.hid (fun W hM hL hT => specLegTimes_any m (.slice p1 m.rise.length c1) (.slice p2 m.cost.length c2) (.slice p3 l.length c3) (.slice p4 t.length c4) l t W hM hL hl20 hT ht20)
  have HRV := Lib.hid (fun W hM hL hT => impReverse_any m (.slice p1 m.rise.length c1) (.slice p2 m.cost.length c2) (.slice p3 l.length c3) (.slice p4 t.length c4) l t W hM hL hl20 hT ht20)
  have HSRV := Lib.hid (fun W hM hL hT => specReverse_any m (.slice p1 m.rise.length c1) (.slice p2 m.cost.length c2) (.slice p3 l.length c3) (.slice p4 t.length c4) l t W hM hL hl20 hT ht20)
  have HCC := Lib.hid (fun W hM hL hT => courseClimb_any m (.slice p1 m.rise.length c1) (.slice p2 m.cost.length c2) (.slice p3 l.length c3) (.slice p4 t.length c4) l t W hM hL hl20 hT ht20)
  have HSCC := Lib.hid (fun W hM hL hT => specCourseClimb_any m (.slice p1 m.rise.length c1) (.slice p2 m.cost.length c2) (.slice p3 l.length c3) (.slice p4 t.length c4) l t W hM hL hl20 hT ht20)
  have HCF := Lib.hid (fun W hM hL hT => impCourseFaults_any m (.slice p1 m.rise.length c1) (.slice p2 m.cost.length c2) (.slice p3 l.length c3) (.slice p4 t.length c4) l t W hM hL hl20 hT ht20)
  have HBK := Lib.hid (fun W hM hL hT => impBackLegs_any m (.slice p1 m.rise.length c1) (.slice p2 m.cost.length c2) (.slice p3 l.length c3) (.slice p4 t.length c4) l t W hM hL hl20 hT ht20)
  have HRV2 := Lib.hid (fun W hM hL pq cq hB => impReverse_any m (.slice p1 m.rise.length c1) (.slice p2 m.cost.length c2) (.slice p3 l.length c3) (.slice pq (revL m l t).length cq) l (revL m l t) W hM hL hl20 hB HRL.out)
  have HFL := Lib.hid (faultL_length m l t)
  have HNK : Hid (sumZ (legTimesL m l t) = ctimeI m l t) := Lib.hid rfl
  generalize crsB m l t = G at HYES HIC HCT HSCT HLT HSLT HRV HSRV HCC HSCC HCF HBK
  generalize ctimeI m l t = N at HCT HSCT HNK
  generalize climbC m l t = C at HCC HSCC HCL
  have hGG : (G != G) = false := by simp
  have hNN : (N != N) = false := by simp
  have hCC : (C != C) = false := by simp
  have hC0 : decide (C < 0) = false := decide_eq_false (by omega)
  go_wp2_with (first | (go_at_call 11; refine (HCT.out _ (mp_up (HM0.out) (by repeat (first | with_reducible (first | exact World.gained_refl _ | exact ⟨_, rfl⟩ | apply gain_ext | apply gain_alloc | apply gain_drewN | apply gain_drew) | (refine gain_setCell ?_ (by first | exact Nat.le_refl _ | exact World.size_ext _ _ | (simp; done) | (simp; omega)) _)))) (by with_reducible (repeat (first | exact HL0.out | refine World.sl_ext Ctl.cells_length ?_ _ | refine sl_alloc Ctl.cells_length ?_ _ | refine sl_drew ?_))) (by with_reducible (repeat (first | exact HT0.out | refine World.sl_ext intC_length ?_ _ | refine sl_alloc intC_length ?_ _ | refine sl_drew ?_)))).mono ?_; rintro e w1 ⟨rfl, d2, rfl⟩) | (go_at_call 12; refine (HSCT.out _ (mp_up (HM0.out) (by repeat (first | with_reducible (first | exact World.gained_refl _ | exact ⟨_, rfl⟩ | apply gain_ext | apply gain_alloc | apply gain_drewN | apply gain_drew) | (refine gain_setCell ?_ (by first | exact Nat.le_refl _ | exact World.size_ext _ _ | (simp; done) | (simp; omega)) _)))) (by with_reducible (repeat (first | exact HL0.out | refine World.sl_ext Ctl.cells_length ?_ _ | refine sl_alloc Ctl.cells_length ?_ _ | refine sl_drew ?_))) (by with_reducible (repeat (first | exact HT0.out | refine World.sl_ext intC_length ?_ _ | refine sl_alloc intC_length ?_ _ | refine sl_drew ?_)))).mono ?_; rintro e w1 ⟨rfl, d3, rfl⟩) | (go_at_call 13; refine (HIC.out _ (mp_up (HM0.out) (by repeat (first | with_reducible (first | exact World.gained_refl _ | exact ⟨_, rfl⟩ | apply gain_ext | apply gain_alloc | apply gain_drewN | apply gain_drew) | (refine gain_setCell ?_ (by first | exact Nat.le_refl _ | exact World.size_ext _ _ | (simp; done) | (simp; omega)) _)))) (by with_reducible (repeat (first | exact HL0.out | refine World.sl_ext Ctl.cells_length ?_ _ | refine sl_alloc Ctl.cells_length ?_ _ | refine sl_drew ?_))) (by with_reducible (repeat (first | exact HT0.out | refine World.sl_ext intC_length ?_ _ | refine sl_alloc intC_length ?_ _ | refine sl_drew ?_)))).mono ?_; rintro e w1 ⟨rfl, d4, rfl⟩))
  refine (HLT.out _ (mp_up (HM0.out) (by repeat (first | with_reducible (first | exact World.gained_refl _ | exact ⟨_, rfl⟩ | apply gain_ext | apply gain_alloc | apply gain_drewN | apply gain_drew) | (refine gain_setCell ?_ (by first | exact Nat.le_refl _ | exact World.size_ext _ _ | (simp; done) | (simp; omega)) _)))) (by with_reducible (repeat (first | exact HL0.out | refine World.sl_ext Ctl.cells_length ?_ _ | refine sl_alloc Ctl.cells_length ?_ _ | refine sl_drew ?_))) (by with_reducible (repeat (first | exact HT0.out | refine World.sl_ext intC_length ?_ _ | refine sl_alloc intC_length ?_ _ | refine sl_drew ?_)))).mono ?_
  rintro e w1 ⟨r1, rfl, ⟨d5, rfl⟩, o1⟩
  have O1 := Lib.hid (sl_of_own intC_length o1)
  clear o1
  generalize legTimesL m l t = K at O1 HYES HBD HK8 HNK HSLT
  obtain ⟨p5, c5, rfl, _⟩ := O1.out
  go_wp2_with fail
  refine (HSLT.out _ (mp_up (HM0.out) (by repeat (first | with_reducible (first | exact World.gained_refl _ | exact ⟨_, rfl⟩ | apply gain_ext | apply gain_alloc | apply gain_drewN | apply gain_drew) | (refine gain_setCell ?_ (by first | exact Nat.le_refl _ | exact World.size_ext _ _ | (simp; done) | (simp; omega)) _)))) (by with_reducible (repeat (first | exact HL0.out | refine World.sl_ext Ctl.cells_length ?_ _ | refine sl_alloc Ctl.cells_length ?_ _ | refine sl_drew ?_))) (by with_reducible (repeat (first | exact HT0.out | refine World.sl_ext intC_length ?_ _ | refine sl_alloc intC_length ?_ _ | refine sl_drew ?_)))).mono ?_
  rintro e w1 ⟨r2, rfl, ⟨d6, rfl⟩, o2⟩
  have O2 := Lib.hid (sl_of_own intC_length o2)
  clear o2 HIC HCT HSCT HLT HSLT
  go_wp2_with (go_at_call 16; refine (vInts_same _ _ K _ (by with_reducible (repeat (first | exact O1.out | refine World.sl_ext intC_length ?_ _ | refine sl_alloc intC_length ?_ _ | refine sl_drew ?_))) (by with_reducible (repeat (first | exact O2.out | refine World.sl_ext intC_length ?_ _ | refine sl_alloc intC_length ?_ _ | refine sl_drew ?_))) (by have := HK8.out; omega)).mono ?_; rintro e w1 ⟨rfl, d7, rfl⟩)
  clear O2
  refine (HRV.out _ (mp_up (HM0.out) (by repeat (first | with_reducible (first | exact World.gained_refl _ | exact ⟨_, rfl⟩ | apply gain_ext | apply gain_alloc | apply gain_drewN | apply gain_drew) | (refine gain_setCell ?_ (by first | exact Nat.le_refl _ | exact World.size_ext _ _ | (simp; done) | (simp; omega)) _)))) (by with_reducible (repeat (first | exact HL0.out | refine World.sl_ext Ctl.cells_length ?_ _ | refine sl_alloc Ctl.cells_length ?_ _ | refine sl_drew ?_))) (by with_reducible (repeat (first | exact HT0.out | refine World.sl_ext intC_length ?_ _ | refine sl_alloc intC_length ?_ _ | refine sl_drew ?_)))).mono ?_
  rintro e w1 ⟨r3, rfl, ⟨d8, rfl⟩, o3⟩
  have O3 := Lib.hid (sl_of_own intC_length o3)
  clear o3
  generalize revL m l t = B at O3 HYES HRL HSRV HRV2
  obtain ⟨p6, c6, rfl, _⟩ := O3.out
  go_wp2_with fail
  refine (HSRV.out _ (mp_up (HM0.out) (by repeat (first | with_reducible (first | exact World.gained_refl _ | exact ⟨_, rfl⟩ | apply gain_ext | apply gain_alloc | apply gain_drewN | apply gain_drew) | (refine gain_setCell ?_ (by first | exact Nat.le_refl _ | exact World.size_ext _ _ | (simp; done) | (simp; omega)) _)))) (by with_reducible (repeat (first | exact HL0.out | refine World.sl_ext Ctl.cells_length ?_ _ | refine sl_alloc Ctl.cells_length ?_ _ | refine sl_drew ?_))) (by with_reducible (repeat (first | exact HT0.out | refine World.sl_ext intC_length ?_ _ | refine sl_alloc intC_length ?_ _ | refine sl_drew ?_)))).mono ?_
  rintro e w1 ⟨r4, rfl, ⟨d9, rfl⟩, o4⟩
  have O4 := Lib.hid (sl_of_own intC_length o4)
  clear o4 HRV HSRV
  go_wp2_with (go_at_call 16; refine (vInts_same _ _ B _ (by with_reducible (repeat (first | exact O3.out | refine World.sl_ext intC_length ?_ _ | refine sl_alloc intC_length ?_ _ | refine sl_drew ?_))) (by with_reducible (repeat (first | exact O4.out | refine World.sl_ext intC_length ?_ _ | refine sl_alloc intC_length ?_ _ | refine sl_drew ?_))) HRL.out).mono ?_; rintro e w1 ⟨rfl, d10, rfl⟩)
  clear O4
  refine (HCC.out _ (mp_up (HM0.out) (by repeat (first | with_reducible (first | exact World.gained_refl _ | exact ⟨_, rfl⟩ | apply gain_ext | apply gain_alloc | apply gain_drewN | apply gain_drew) | (refine gain_setCell ?_ (by first | exact Nat.le_refl _ | exact World.size_ext _ _ | (simp; done) | (simp; omega)) _)))) (by with_reducible (repeat (first | exact HL0.out | refine World.sl_ext Ctl.cells_length ?_ _ | refine sl_alloc Ctl.cells_length ?_ _ | refine sl_drew ?_))) (by with_reducible (repeat (first | exact HT0.out | refine World.sl_ext intC_length ?_ _ | refine sl_alloc intC_length ?_ _ | refine sl_drew ?_)))).mono ?_
  rintro e w1 ⟨rfl, d11, rfl⟩
  go_upto_if 156 with (go_at_call 20; refine (HSCC.out _ (mp_up (HM0.out) (by repeat (first | with_reducible (first | exact World.gained_refl _ | exact ⟨_, rfl⟩ | apply gain_ext | apply gain_alloc | apply gain_drewN | apply gain_drew) | (refine gain_setCell ?_ (by first | exact Nat.le_refl _ | exact World.size_ext _ _ | (simp; done) | (simp; omega)) _)))) (by with_reducible (repeat (first | exact HL0.out | refine World.sl_ext Ctl.cells_length ?_ _ | refine sl_alloc Ctl.cells_length ?_ _ | refine sl_drew ?_))) (by with_reducible (repeat (first | exact HT0.out | refine World.sl_ext intC_length ?_ _ | refine sl_alloc intC_length ?_ _ | refine sl_drew ?_)))).mono ?_; rintro e w1 ⟨rfl, d12, rfl⟩)
  go_cut [22, 23, 24, 25, 26, 27] (fun _ _ _ _ _ _ wx => ∃ d, wx = w.ext d)
  case first =>
    cases G with
    | false =>
      go_wp2_with fail
      go_meet
      exact (by repeat (first | with_reducible (first | exact World.gained_refl _ | exact ⟨_, rfl⟩ | apply gain_ext | apply gain_alloc | apply gain_drewN | apply gain_drew) | (refine gain_setCell ?_ (by first | exact Nat.le_refl _ | exact World.size_ext _ _ | (simp; done) | (simp; omega)) _)))
    | true =>
      obtain ⟨⟨f1, f2⟩, f3, f4, f5⟩ := HYES.out rfl
      have hKt : ((K.length : Int) != (t.length : Int) - 1) = false := by simp [f3]
      have hwt : IntKind.i64.wrap ((t.length : Int) - 1) = (t.length : Int) - 1 := IntWalk.i64_in _ (by omega)
      have HR2 : Hid (∀ W : World, W.mp (.slice p1 m.rise.length c1) (.slice p2 m.cost.length c2) m → W.sl Ctl.cells 2 (.slice p3 l.length c3) l → W.sl intC 1 (.slice p6 B.length c6) B → Calls Try.prog 17 #[.agg #[.int .i64 m.wd, .int .i64 m.ht, .slice p1 m.rise.length c1, .slice p2 m.cost.length c2], .slice p3 l.length c3, .slice p6 B.length c6] W fun x w' => ∃ r, x = .returned (.tuple #[r, .bool true]) ∧ (∃ d, w' = W.ext d) ∧ w'.own W.heap.size 3 intC 1 r t) := Lib.hid (fun W hM hL hB => by
        have h := HRV2.out W hM hL p6 c6 hB
        rw [f1, f2] at h
        exact h)
      have HVS : Hid (∀ W : World, W.sl intC 1 (.slice p5 K.length c5) K → Calls Try.prog 21 #[.slice p5 K.length c5] W fun x w' => x = .returned (.int .i64 N) ∧ ∃ d, w' = W.ext d) := Lib.hid (fun W hK => by
        have h := vSumZ_any (.slice p5 K.length c5) K W hK HK8.out HBD.out
        rw [HNK.out] at h
        exact h)
      clear f1 f2 f3 HYES HRV2
      go_wp2_with fail
      refine (HR2.out _ (mp_up (HM0.out) (by repeat (first | with_reducible (first | exact World.gained_refl _ | exact ⟨_, rfl⟩ | apply gain_ext | apply gain_alloc | apply gain_drewN | apply gain_drew) | (refine gain_setCell ?_ (by first | exact Nat.le_refl _ | exact World.size_ext _ _ | (simp; done) | (simp; omega)) _)))) (by with_reducible (repeat (first | exact HL0.out | refine World.sl_ext Ctl.cells_length ?_ _ | refine sl_alloc Ctl.cells_length ?_ _ | refine sl_drew ?_))) (by with_reducible (repeat (first | exact O3.out | refine World.sl_ext intC_length ?_ _ | refine sl_alloc intC_length ?_ _ | refine sl_drew ?_)))).mono ?_
      rintro e w1 ⟨r7, rfl, ⟨d13, rfl⟩, o7⟩
      have O7 := Lib.hid (sl_of_own intC_length o7)
      clear o7 HR2
      obtain ⟨p7, c7, rfl, _⟩ := O7.out
      go_wp2_with (first | (go_at_call 21; refine (HVS.out _ (by with_reducible (repeat (first | exact O1.out | refine World.sl_ext intC_length ?_ _ | refine sl_alloc intC_length ?_ _ | refine sl_drew ?_)))).mono ?_; rintro e w1 ⟨rfl, d14, rfl⟩) | (go_at_call 16; refine (vInts_same _ _ t _ (by with_reducible (repeat (first | exact O7.out | refine World.sl_ext intC_length ?_ _ | refine sl_alloc intC_length ?_ _ | refine sl_drew ?_))) (by with_reducible (repeat (first | exact HT0.out | refine World.sl_ext intC_length ?_ _ | refine sl_alloc intC_length ?_ _ | refine sl_drew ?_))) ht20).mono ?_; rintro e w1 ⟨rfl, d15, rfl⟩))
      refine (HCF.out _ (mp_up (HM0.out) (by repeat (first | with_reducible (first | exact World.gained_refl _ | exact ⟨_, rfl⟩ | apply gain_ext | apply gain_alloc | apply gain_drewN | apply gain_drew) | (refine gain_setCell ?_ (by first | exact Nat.le_refl _ | exact World.size_ext _ _ | (simp; done) | (simp; omega)) _)))) (by with_reducible (repeat (first | exact HL0.out | refine World.sl_ext Ctl.cells_length ?_ _ | refine sl_alloc Ctl.cells_length ?_ _ | refine sl_drew ?_))) (by with_reducible (repeat (first | exact HT0.out | refine World.sl_ext intC_length ?_ _ | refine sl_alloc intC_length ?_ _ | refine sl_drew ?_)))).mono ?_
      rintro e w1 ⟨r8, rfl, ⟨d16, rfl⟩, o8⟩
      have O8 := Lib.hid (sl_of_own intC_length o8)
      clear o8 HVS O7 O3 O1 HCF
      have F4 := Lib.hid f4
      have F5 := Lib.hid f5
      clear f4 f5
      generalize faultL m l t = F at O8 F4 F5 HFL
      obtain ⟨p8, c8, rfl, _⟩ := O8.out
      go_wp2_with fail
      refine (HBK.out _ (mp_up (HM0.out) (by repeat (first | with_reducible (first | exact World.gained_refl _ | exact ⟨_, rfl⟩ | apply gain_ext | apply gain_alloc | apply gain_drewN | apply gain_drew) | (refine gain_setCell ?_ (by first | exact Nat.le_refl _ | exact World.size_ext _ _ | (simp; done) | (simp; omega)) _)))) (by with_reducible (repeat (first | exact HL0.out | refine World.sl_ext Ctl.cells_length ?_ _ | refine sl_alloc Ctl.cells_length ?_ _ | refine sl_drew ?_))) (by with_reducible (repeat (first | exact HT0.out | refine World.sl_ext intC_length ?_ _ | refine sl_alloc intC_length ?_ _ | refine sl_drew ?_)))).mono ?_
      rintro e w1 ⟨r9, rfl, ⟨d17, rfl⟩, o9⟩
      have O9 := Lib.hid (sl_of_own intC_length o9)
      clear o9 HBK
      generalize backC m l t = Bk at O9 F4
      obtain ⟨p9, c9, rfl, _⟩ := O9.out
      clear O9
      by_cases hb0 : 0 < Bk.length
      · have hb : decide (0 < Bk.length) = true := decide_eq_true hb0
        have hbi : decide (0 < (Bk.length : Int)) = true := decide_eq_true (by omega)
        by_cases h40 : t.length < 4
        · have h4 : decide (t.length < 4) = true := decide_eq_true h40
          have h4i : decide ((t.length : Int) < 4) = true := decide_eq_true (by omega)
          have HV4 : Hid (∀ W : World, W.sl intC 1 (.slice p8 F.length c8) F → Calls Try.prog 24 #[.slice p8 F.length c8, .int .i64 4] W fun x w' => x = .returned (.bool true) ∧ ∃ d, w' = W.ext d) := Lib.hid (fun W hF => by
            have h := vHas_any (.slice p8 F.length c8) F 4 W hF HFL.out
            rw [F4.out, hb] at h
            exact h)
          have HV1 : Hid (∀ W : World, W.sl intC 1 (.slice p8 F.length c8) F → Calls Try.prog 24 #[.slice p8 F.length c8, .int .i64 1] W fun x w' => x = .returned (.bool true) ∧ ∃ d, w' = W.ext d) := Lib.hid (fun W hF => by
            have h := vHas_any (.slice p8 F.length c8) F 1 W hF HFL.out
            rw [F5.out, h4] at h
            exact h)
          go_wp2_with fail
          refine (HV4.out _ (by with_reducible (repeat (first | exact O8.out | refine World.sl_ext intC_length ?_ _ | refine sl_alloc intC_length ?_ _ | refine sl_drew ?_)))).mono ?_
          rintro e w1 ⟨rfl, d18, rfl⟩
          go_wp2_with fail
          refine (HV1.out _ (by with_reducible (repeat (first | exact O8.out | refine World.sl_ext intC_length ?_ _ | refine sl_alloc intC_length ?_ _ | refine sl_drew ?_)))).mono ?_
          rintro e w1 ⟨rfl, d19, rfl⟩
          go_wp2_with fail
          go_meet
          exact (by repeat (first | with_reducible (first | exact World.gained_refl _ | exact ⟨_, rfl⟩ | apply gain_ext | apply gain_alloc | apply gain_drewN | apply gain_drew) | (refine gain_setCell ?_ (by first | exact Nat.le_refl _ | exact World.size_ext _ _ | (simp; done) | (simp; omega)) _)))
        · have h4 : decide (t.length < 4) = false := decide_eq_false h40
          have h4i : decide ((t.length : Int) < 4) = false := decide_eq_false (by omega)
          have HV4 : Hid (∀ W : World, W.sl intC 1 (.slice p8 F.length c8) F → Calls Try.prog 24 #[.slice p8 F.length c8, .int .i64 4] W fun x w' => x = .returned (.bool true) ∧ ∃ d, w' = W.ext d) := Lib.hid (fun W hF => by
            have h := vHas_any (.slice p8 F.length c8) F 4 W hF HFL.out
            rw [F4.out, hb] at h
            exact h)
          have HV1 : Hid (∀ W : World, W.sl intC 1 (.slice p8 F.length c8) F → Calls Try.prog 24 #[.slice p8 F.length c8, .int .i64 1] W fun x w' => x = .returned (.bool false) ∧ ∃ d, w' = W.ext d) := Lib.hid (fun W hF => by
            have h := vHas_any (.slice p8 F.length c8) F 1 W hF HFL.out
            rw [F5.out, h4] at h
            exact h)
          go_wp2_with fail
          refine (HV4.out _ (by with_reducible (repeat (first | exact O8.out | refine World.sl_ext intC_length ?_ _ | refine sl_alloc intC_length ?_ _ | refine sl_drew ?_)))).mono ?_
          rintro e w1 ⟨rfl, d18, rfl⟩
          go_wp2_with fail
          refine (HV1.out _ (by with_reducible (repeat (first | exact O8.out | refine World.sl_ext intC_length ?_ _ | refine sl_alloc intC_length ?_ _ | refine sl_drew ?_)))).mono ?_
          rintro e w1 ⟨rfl, d19, rfl⟩
          go_wp2_with fail
          go_meet
          exact (by repeat (first | with_reducible (first | exact World.gained_refl _ | exact ⟨_, rfl⟩ | apply gain_ext | apply gain_alloc | apply gain_drewN | apply gain_drew) | (refine gain_setCell ?_ (by first | exact Nat.le_refl _ | exact World.size_ext _ _ | (simp; done) | (simp; omega)) _)))
      · have hb : decide (0 < Bk.length) = false := decide_eq_false hb0
        have hbi : decide (0 < (Bk.length : Int)) = false := decide_eq_false (by omega)
        by_cases h40 : t.length < 4
        · have h4 : decide (t.length < 4) = true := decide_eq_true h40
          have h4i : decide ((t.length : Int) < 4) = true := decide_eq_true (by omega)
          have HV4 : Hid (∀ W : World, W.sl intC 1 (.slice p8 F.length c8) F → Calls Try.prog 24 #[.slice p8 F.length c8, .int .i64 4] W fun x w' => x = .returned (.bool false) ∧ ∃ d, w' = W.ext d) := Lib.hid (fun W hF => by
            have h := vHas_any (.slice p8 F.length c8) F 4 W hF HFL.out
            rw [F4.out, hb] at h
            exact h)
          have HV1 : Hid (∀ W : World, W.sl intC 1 (.slice p8 F.length c8) F → Calls Try.prog 24 #[.slice p8 F.length c8, .int .i64 1] W fun x w' => x = .returned (.bool true) ∧ ∃ d, w' = W.ext d) := Lib.hid (fun W hF => by
            have h := vHas_any (.slice p8 F.length c8) F 1 W hF HFL.out
            rw [F5.out, h4] at h
            exact h)
          go_wp2_with fail
          refine (HV4.out _ (by with_reducible (repeat (first | exact O8.out | refine World.sl_ext intC_length ?_ _ | refine sl_alloc intC_length ?_ _ | refine sl_drew ?_)))).mono ?_
          rintro e w1 ⟨rfl, d18, rfl⟩
          go_wp2_with fail
          refine (HV1.out _ (by with_reducible (repeat (first | exact O8.out | refine World.sl_ext intC_length ?_ _ | refine sl_alloc intC_length ?_ _ | refine sl_drew ?_)))).mono ?_
          rintro e w1 ⟨rfl, d19, rfl⟩
          go_wp2_with fail
          go_meet
          exact (by repeat (first | with_reducible (first | exact World.gained_refl _ | exact ⟨_, rfl⟩ | apply gain_ext | apply gain_alloc | apply gain_drewN | apply gain_drew) | (refine gain_setCell ?_ (by first | exact Nat.le_refl _ | exact World.size_ext _ _ | (simp; done) | (simp; omega)) _)))
        · have h4 : decide (t.length < 4) = false := decide_eq_false h40
          have h4i : decide ((t.length : Int) < 4) = false := decide_eq_false (by omega)
          have HV4 : Hid (∀ W : World, W.sl intC 1 (.slice p8 F.length c8) F → Calls Try.prog 24 #[.slice p8 F.length c8, .int .i64 4] W fun x w' => x = .returned (.bool false) ∧ ∃ d, w' = W.ext d) := Lib.hid (fun W hF => by
            have h := vHas_any (.slice p8 F.length c8) F 4 W hF HFL.out
            rw [F4.out, hb] at h
            exact h)
          have HV1 : Hid (∀ W : World, W.sl intC 1 (.slice p8 F.length c8) F → Calls Try.prog 24 #[.slice p8 F.length c8, .int .i64 1] W fun x w' => x = .returned (.bool false) ∧ ∃ d, w' = W.ext d) := Lib.hid (fun W hF => by
            have h := vHas_any (.slice p8 F.length c8) F 1 W hF HFL.out
            rw [F5.out, h4] at h
            exact h)
          go_wp2_with fail
          refine (HV4.out _ (by with_reducible (repeat (first | exact O8.out | refine World.sl_ext intC_length ?_ _ | refine sl_alloc intC_length ?_ _ | refine sl_drew ?_)))).mono ?_
          rintro e w1 ⟨rfl, d18, rfl⟩
          go_wp2_with fail
          refine (HV1.out _ (by with_reducible (repeat (first | exact O8.out | refine World.sl_ext intC_length ?_ _ | refine sl_alloc intC_length ?_ _ | refine sl_drew ?_)))).mono ?_
          rintro e w1 ⟨rfl, d19, rfl⟩
          go_wp2_with fail
          go_meet
          exact (by repeat (first | with_reducible (first | exact World.gained_refl _ | exact ⟨_, rfl⟩ | apply gain_ext | apply gain_alloc | apply gain_drewN | apply gain_drew) | (refine gain_setCell ?_ (by first | exact Nat.le_refl _ | exact World.size_ext _ _ | (simp; done) | (simp; omega)) _)))
  obtain ⟨dB, rfl⟩ := hcut
  clear HYES HBD HK8 HCL HRL HSCC HCF HBK HRV2 HFL HNK hGG hNN hCC hC0 HM0 HL0 HT0 O1 O3 bx0 bx1 bx2 bx3 obx hl20 ht20 hrl hcl hll htl
  go_wp2_with fail
  refine (drawCourseFaults_any _ L _ (by with_reducible (repeat (first | exact hs.out | refine World.sl_ext byteC_length ?_ _ | refine sl_alloc byteC_length ?_ _ | refine sl_drew ?_))) HQ.out hl).mono ?_
  rintro e w1 ⟨m, rv, cv, lv, l, x0, t, rfl, ⟨d1, rfl⟩, ho1, ho2, hrl, hcl, ho3, hll, ho4, htl⟩
  have HM := Lib.hid (show World.mp ((w.ext dB).ext d1) _ _ m from ⟨sl_of_own intC_length ho1, sl_of_own intC_length ho2, by omega, by omega⟩)
  have HL := Lib.hid (sl_of_own Ctl.cells_length ho3)
  have HT := Lib.hid (sl_of_own intC_length ho4)
  obtain ⟨p1, c1, p2, c2, rfl, rfl⟩ := mp_form HM.out
  obtain ⟨p3, c3, rfl, _⟩ := HL.out
  obtain ⟨p4, c4, rfl, _⟩ := HT.out
  clear ho1 ho2 ho3 ho4
  go_wp2_with fail
  generalize hW0 : World.alloc ((w.ext dB).ext d1) (.cells #[.int .i64 m.wd, .int .i64 m.ht, .slice p1 m.rise.length c1, .slice p2 m.cost.length c2] 26) = W0
  have hbx : MBox ((w.ext dB).ext d1) W0 ((w.ext dB).ext d1).heap.size m (.slice p1 m.rise.length c1) (.slice p2 m.cost.length c2) := by rw [← hW0]; exact mbox
  have HGW : ∃ d, W0 = w.ext d := gain_trans (by repeat (first | with_reducible (first | exact World.gained_refl _ | exact ⟨_, rfl⟩ | apply gain_ext | apply gain_alloc | apply gain_drewN | apply gain_drew) | (refine gain_setCell ?_ (by first | exact Nat.le_refl _ | exact World.size_ext _ _ | (simp; done) | (simp; omega)) _))) hbx.up
  have HM0 := Lib.hid (mp_up HM.out hbx.up)
  have HL0 := Lib.hid (sl_up Ctl.cells_length HL.out hbx.up)
  have HT0 := Lib.hid (sl_up intC_length HT.out hbx.up)
  have bx0 := hbx.c0
  have bx1 := hbx.c1
  have bx2 := hbx.c2
  have bx3 := hbx.c3
  have obx := hbx.ob
  generalize (((w.ext dB).ext d1)).heap.size = gB at bx0 bx1 bx2 bx3 obx ⊢
  clear hW0 hbx HM HL HT
  obtain ⟨dz, rfl⟩ := HGW
  have hl20 : l.length ≤ 1048576 := by omega
  have ht20 : t.length ≤ 1048576 := by omega
  refine (impCourseFaults_any m _ _ _ _ l t _ (mp_up (HM0.out) (by repeat (first | with_reducible (first | exact World.gained_refl _ | exact ⟨_, rfl⟩ | apply gain_ext | apply gain_alloc | apply gain_drewN | apply gain_drew) | (refine gain_setCell ?_ (by first | exact Nat.le_refl _ | exact World.size_ext _ _ | (simp; done) | (simp; omega)) _)))) (by with_reducible (repeat (first | exact HL0.out | refine World.sl_ext Ctl.cells_length ?_ _ | refine sl_alloc Ctl.cells_length ?_ _ | refine sl_drew ?_))) hl20 (by with_reducible (repeat (first | exact HT0.out | refine World.sl_ext intC_length ?_ _ | refine sl_alloc intC_length ?_ _ | refine sl_drew ?_))) ht20).mono ?_
  rintro e w1 ⟨r1, rfl, ⟨d2, rfl⟩, o1⟩
  have O1 := Lib.hid (sl_of_own intC_length o1)
  clear o1
  obtain ⟨p5, c5, rfl, _⟩ := O1.out
  go_wp2_with fail
  refine (specCourseFaults_any m _ _ _ _ l t _ (mp_up (HM0.out) (by repeat (first | with_reducible (first | exact World.gained_refl _ | exact ⟨_, rfl⟩ | apply gain_ext | apply gain_alloc | apply gain_drewN | apply gain_drew) | (refine gain_setCell ?_ (by first | exact Nat.le_refl _ | exact World.size_ext _ _ | (simp; done) | (simp; omega)) _)))) (by with_reducible (repeat (first | exact HL0.out | refine World.sl_ext Ctl.cells_length ?_ _ | refine sl_alloc Ctl.cells_length ?_ _ | refine sl_drew ?_))) hl20 (by with_reducible (repeat (first | exact HT0.out | refine World.sl_ext intC_length ?_ _ | refine sl_alloc intC_length ?_ _ | refine sl_drew ?_))) ht20).mono ?_
  rintro e w1 ⟨r2, rfl, ⟨d3, rfl⟩, o2⟩
  have O2 := Lib.hid (sl_of_own intC_length o2)
  clear o2
  have HFL := Lib.hid (faultL_length m l t)
  generalize crsB m l t = G
  have hG2 : (G == G) = true := by simp
  go_wp2_with (go_at_call 16; refine (vInts_same _ _ (faultL m l t) _ (by with_reducible (repeat (first | exact O1.out | refine World.sl_ext intC_length ?_ _ | refine sl_alloc intC_length ?_ _ | refine sl_drew ?_))) (by with_reducible (repeat (first | exact O2.out | refine World.sl_ext intC_length ?_ _ | refine sl_alloc intC_length ?_ _ | refine sl_drew ?_))) HFL.out).mono ?_; rintro e w1 ⟨rfl, d4, rfl⟩)
  go_ret
  exact ⟨rfl, (by repeat (first | with_reducible (first | exact World.gained_refl _ | exact ⟨_, rfl⟩ | apply gain_ext | apply gain_alloc | apply gain_drewN | apply gain_drew) | (refine gain_setCell ?_ (by first | exact Nat.le_refl _ | exact World.size_ext _ _ | (simp; done) | (simp; omega)) _)))⟩
set_option maxRecDepth 100000 in
theorem fnCourses_lifted (os : Os) (started : os.Started) (H : Type) (enc : TypeId × Value → H) :
    ReturnsInHanded {} Try.checked os 3 .any (Rows.fnCoursesSpec.pre6 enc Try.prog Try.f3 Rows.fnCoursesRow.domain false) (Rows.fnCoursesSpec.post enc Try.prog Try.f3 false true false false) := by
  refine returnsInHanded_of_change (C := Try.checked) (by kernel_rfl) started (by kernel_rfl) Try.func3
    (ChangeSpec.witness6 (enc := enc) (C := Try.checked) false ⟨#[], #[.slice none 0 0], []⟩ 8 (by kernel_rfl) (by kernel_rfl) (by kernel_rfl) (by kernel_rfl)) ?_
  intro W base args ds gs before hval0 hW _ _
  have hval : ∀ (j : Nat) t v, Try.f3.params[j]? = some t → args[j]? = some v → Value.okWide Try.prog W .any base t v := hval0
  clear hval0
  have laidOut : laidOutB Try.prog = true := by as_aux_lemma => kernel_rfl
  have hWc := hW
  obtain ⟨p, q, hA0, hV, rfl, _, _⟩ := hWc
  have hA : DataW.TrodAll enc Try.prog W 0 (fun _ => true) true Try.f3.params.toList args.toList ds p := hA0
  clear hA0
  rw [Try.params3] at hA hval
  obtain ⟨v0, vs0, d0, ds0, p0, q0, hargs, rfl, rfl, h0, r0⟩ := trodAll_cons hA
  obtain ⟨rfl, rfl, rfl⟩ := trodAll_nil r0
  obtain rfl : args = #[v0] := by cases args; simp_all
  obtain ⟨rfl, rfl⟩ := trodVars_none hV
  obtain ⟨L, hs, hq, hn⟩ := read_Bytes (hval 0 22 v0 rfl rfl) h0
  refine (fnCourses_walk v0 L W hs hq hn).mono fun e W1 ⟨he, hg⟩ => ?_
  subst he
  exact ⟨_, rfl, law_post (tb := 4) laidOut (by kernel_rfl) hW rfl rfl (by kernel_rfl) Try.underlying4 hg⟩
theorem fnCourses_holds : Rows.FnCoursesSaid :=
  OpenClaim.holds_of_wide 3 Try.f3 rfl rfl rfl rfl rfl rfl rfl ⟨rfl, rfl, rfl, rfl, rfl⟩ rfl rfl rfl rfl rfl (by kernel_rfl) Try.func3 (by kernel_rfl)
    (of_decide_eq_true (by kernel_rfl)) (by unfold Func.isWrapper; first | (rw [if_pos (by decide +kernel)]; kernel_rfl) | (rw [if_neg (by decide +kernel)]; exact ⟨rfl, rfl⟩))
    (fun os started H enc _ => fnCourses_lifted os started H enc)
#print axioms fnCourses_holds
end Go.Proofs.Ytloefghmidlceaa
