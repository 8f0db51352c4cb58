/- FnDetours returns true for every argument. No condition. -/
import Derived.Test.YtddbbbmamoficaaDrawDet
import Derived.Test.YtddbbbmamoficaaRouteD
import Derived.Test.YtddbbbmamoficaaRouteW
import Derived.Test.YtddbbbmamoficaaVWithin
import Derived.Test.YtddbbbmamoficaaRdBytes
import Derived.Deep.DeepCutAuto
namespace Go.Ori
theorem within_len (m : Mp) (a t : Int) (h : m.cost.length ≤ 1048576) : (withinL m a t).length ≤ 1048576 := by
  unfold withinL
  split
  · exact Nat.le_trans (withinN_len _ _ _ _) h
  · simp
theorem within_open {m : Mp} {a t : Int} (h : withinB m a t = true) : openB m a = true ∧ 0 ≤ t := by
  simpa [withinB] using h
end Go.Ori
namespace Go.Proofs.Ytddbbbmamoficaa
open Go.ChangeShapes Go.WideShapes Go.ChangeAt Go.RowKit Go.Ori
set_option maxRecDepth 100000 in
set_option maxHeartbeats 4000000 in
theorem fnDetours_walk (v : Value) (L : List Int) (w : World) (h : w.sl byteC 1 v L) (hq : ∀ x ∈ L, 0 ≤ x ∧ x ≤ 255) (hn : L.length ≤ 9223372036854775807) :
    Calls Try.prog 5 #[v] w fun x w' => x = .returned (.bool true) ∧ ∃ d, w' = w.ext d := by
  have hs := Lib.hid h
  have HQ := Lib.hid hq
  obtain ⟨p, c, rfl, _⟩ := h
  clear hq
  by_cases hbig : 65536 < L.length
  · have hbb : decide (65536 < L.length) = true := decide_eq_true hbig
    go_enter Try.func5, Try.ntmps5
    go_wp2_with (go_at_call 6; refine (vBig_any _ _ _ _ hn).mono ?_; rw [hbb]; rintro e w1 ⟨rfl, rfl⟩)
    go_ret
    exact ⟨rfl, (by repeat (first | with_reducible (first | exact World.gained_refl _ | exact ⟨_, rfl⟩ | apply gain_ext | apply gain_alloc | apply gain_drewN | apply gain_drew) | (refine gain_setCell ?_ (by first | exact Nat.le_refl _ | exact World.size_ext _ _ | (simp; done) | (simp; omega)) _)))⟩
  have hbb : decide (65536 < L.length) = false := decide_eq_false hbig
  have hl : L.length ≤ 1048576 := by omega
  go_enter Try.func5, Try.ntmps5
  go_wp2_with (go_at_call 6; refine (vBig_any _ _ _ _ hn).mono ?_; rw [hbb]; rintro e w1 ⟨rfl, rfl⟩)
  refine (drawDetour_any _ L _ hs.out HQ.out hl).mono ?_
  rintro e w1 ⟨m, rv, cv, a, y, b, rfl, ⟨d1, rfl⟩, hmp⟩
  obtain ⟨p1, c1, p2, c2, rfl, rfl⟩ := mp_form hmp
  have HM := Lib.hid hmp
  clear hmp
  go_wp2_with fail
  generalize hW0 : (w.ext d1).alloc (.cells #[.int .i64 m.wd, .int .i64 m.ht, .slice p1 m.rise.length c1, .slice p2 m.cost.length c2] 26) = W0
  have hbx : MBox (w.ext d1) W0 (w.ext d1).heap.size m (.slice p1 m.rise.length c1) (.slice p2 m.cost.length c2) := by rw [← hW0]; exact mbox
  have HGW : ∃ d, W0 = w.ext d := gain_trans (by repeat (first | with_reducible (first | exact World.gained_refl _ | exact ⟨_, rfl⟩ | apply gain_ext | apply gain_alloc | apply gain_drewN | apply gain_drew) | (refine gain_setCell ?_ (by first | exact Nat.le_refl _ | exact World.size_ext _ _ | (simp; done) | (simp; omega)) _))) hbx.up
  have HM0 := Lib.hid (mp_up HM.out hbx.up)
  have bx0 := hbx.c0
  have bx1 := hbx.c1
  have bx2 := hbx.c2
  have bx3 := hbx.c3
  have obx := hbx.ob
  generalize (w.ext d1).heap.size = gB at bx0 bx1 bx2 bx3 obx ⊢
  clear hW0 hbx HM
  obtain ⟨dz, rfl⟩ := HGW
  refine (detourTime_any m _ _ a y b _ (mp_up (HM0.out) (by repeat (first | with_reducible (first | exact World.gained_refl _ | exact ⟨_, rfl⟩ | apply gain_ext | apply gain_alloc | apply gain_drewN | apply gain_drew) | (refine gain_setCell ?_ (by first | exact Nat.le_refl _ | exact World.size_ext _ _ | (simp; done) | (simp; omega)) _))))).mono ?_
  rintro e w1 ⟨rfl, d2, rfl⟩
  go_wp2_with fail
  refine (specDetourTime_any m _ _ a y b _ (mp_up (HM0.out) (by repeat (first | with_reducible (first | exact World.gained_refl _ | exact ⟨_, rfl⟩ | apply gain_ext | apply gain_alloc | apply gain_drewN | apply gain_drew) | (refine gain_setCell ?_ (by first | exact Nat.le_refl _ | exact World.size_ext _ _ | (simp; done) | (simp; omega)) _))))).mono ?_
  rintro e w1 ⟨rfl, d3, rfl⟩
  have HD := det_ge m a y b
  have HC1 := Lib.hid (fun W hW => crossedBy_any m (.slice p1 m.rise.length c1) (.slice p2 m.cost.length c2) a b y W hW)
  have HC2 := Lib.hid (fun W hW => specCrossedBy_any m (.slice p1 m.rise.length c1) (.slice p2 m.cost.length c2) a b y W hW)
  generalize detI m a y b = N at HD ⊢
  generalize detB m a y b = DB at HD ⊢
  generalize crossB m a b y = CB at HD HC1 HC2
  generalize crossT m a b y = CT at HD HC1 HC2
  obtain ⟨hN0, hD⟩ := HD
  have HD := Lib.hid hD
  have hNN : (N != N) = false := by simp
  have hDD : (DB != DB) = false := by simp
  have hCB : (CB != CB) = false := by simp
  have hCT : (CT != CT) = false := by simp
  have hNd : decide (N < 0) = false := decide_eq_false (by omega)
  clear hD
  go_upto_region 12 with (first | (go_at_call 31; refine (HC1.out _ (mp_up (HM0.out) (by repeat (first | with_reducible (first | exact World.gained_refl _ | exact ⟨_, rfl⟩ | apply gain_ext | apply gain_alloc | apply gain_drewN | apply gain_drew) | (refine gain_setCell ?_ (by first | exact Nat.le_refl _ | exact World.size_ext _ _ | (simp; done) | (simp; omega)) _))))).mono ?_; rintro e w1 ⟨rfl, d4, rfl⟩) | (go_at_call 42; refine (HC2.out _ (mp_up (HM0.out) (by repeat (first | with_reducible (first | exact World.gained_refl _ | exact ⟨_, rfl⟩ | apply gain_ext | apply gain_alloc | apply gain_drewN | apply gain_drew) | (refine gain_setCell ?_ (by first | exact Nat.le_refl _ | exact World.size_ext _ _ | (simp; done) | (simp; omega)) _))))).mono ?_; rintro e w1 ⟨rfl, d5, rfl⟩))
  go_cut [8, 10, 11, 12, 13, 14, 106] (fun _ _ _ _ _ _ t wx => t = .bool false ∧ ∃ d, wx = w.ext d)
  case first =>
    as_aux_lemma =>
      cases DB with
      | false =>
        go_wp2_with fail
        go_meet
        exact ⟨rfl, (by repeat (first | with_reducible (first | exact World.gained_refl _ | exact ⟨_, rfl⟩ | apply gain_ext | apply gain_alloc | apply gain_drewN | apply gain_drew) | (refine gain_setCell ?_ (by first | exact Nat.le_refl _ | exact World.size_ext _ _ | (simp; done) | (simp; omega)) _)))⟩
      | true =>
        obtain ⟨e1, e2⟩ := HD.out rfl
        clear HD HC1 HC2 hCB hCT
        subst e1 e2
        have hEE : ((N == 0) != (N == 0)) = false := by simp
        go_wp2_with fail
        go_meet
        exact ⟨by first | rfl | simp, (by repeat (first | with_reducible (first | exact World.gained_refl _ | exact ⟨_, rfl⟩ | apply gain_ext | apply gain_alloc | apply gain_drewN | apply gain_drew) | (refine gain_setCell ?_ (by first | exact Nat.le_refl _ | exact World.size_ext _ _ | (simp; done) | (simp; omega)) _)))⟩
  obtain ⟨rfl, dA, rfl⟩ := hcut
  clear HD HC1 HC2 hNN hDD hCB hCT hNd HM0 bx0 bx1 bx2 bx3 obx hN0
  go_wp2_with fail
  refine (drawWithin_any _ L _ (by with_reducible (repeat (first | exact hs.out | refine World.sl_ext byteC_length ?_ _ | refine sl_alloc byteC_length ?_ _ | refine sl_drew ?_))) HQ.out hl).mono ?_
  rintro e w1 ⟨m, rv, cv, s, t, rfl, ⟨d1, rfl⟩, hmp, htm⟩
  obtain ⟨p1, c1, p2, c2, rfl, rfl⟩ := mp_form hmp
  have HM := Lib.hid hmp
  have HCL := Lib.hid hmp.cl
  clear hmp
  go_wp2_with fail
  generalize hW0 : ((w.ext dA).ext d1).alloc (.cells #[.int .i64 m.wd, .int .i64 m.ht, .slice p1 m.rise.length c1, .slice p2 m.cost.length c2] 26) = W0
  have hbx : MBox ((w.ext dA).ext d1) W0 ((w.ext dA).ext d1).heap.size m (.slice p1 m.rise.length c1) (.slice p2 m.cost.length c2) := by rw [← hW0]; exact mbox
  have HGW : ∃ d, W0 = w.ext d := gain_trans (by repeat (first | with_reducible (first | exact World.gained_refl _ | exact ⟨_, rfl⟩ | apply gain_ext | apply gain_alloc | apply gain_drewN | apply gain_drew) | (refine gain_setCell ?_ (by first | exact Nat.le_refl _ | exact World.size_ext _ _ | (simp; done) | (simp; omega)) _))) hbx.up
  have HM0 := Lib.hid (mp_up HM.out hbx.up)
  have bx0 := hbx.c0
  have bx1 := hbx.c1
  have bx2 := hbx.c2
  have bx3 := hbx.c3
  have obx := hbx.ob
  generalize ((w.ext dA).ext d1).heap.size = gB at bx0 bx1 bx2 bx3 obx ⊢
  clear hW0 hbx HM
  obtain ⟨dz, rfl⟩ := HGW
  refine (cellsWithin_any m _ _ s t _ (mp_up (HM0.out) (by repeat (first | with_reducible (first | exact World.gained_refl _ | exact ⟨_, rfl⟩ | apply gain_ext | apply gain_alloc | apply gain_drewN | apply gain_drew) | (refine gain_setCell ?_ (by first | exact Nat.le_refl _ | exact World.size_ext _ _ | (simp; done) | (simp; omega)) _))))).mono ?_
  rintro e w1 ⟨r1, rfl, ⟨d2, rfl⟩, o1⟩
  have O1 := Lib.hid (sl_of_own intC_length o1)
  clear o1
  obtain ⟨p3, c3, rfl, _⟩ := O1.out
  go_wp2_with fail
  refine (specCellsWithin_any m _ _ s t _ (mp_up (HM0.out) (by repeat (first | with_reducible (first | exact World.gained_refl _ | exact ⟨_, rfl⟩ | apply gain_ext | apply gain_alloc | apply gain_drewN | apply gain_drew) | (refine gain_setCell ?_ (by first | exact Nat.le_refl _ | exact World.size_ext _ _ | (simp; done) | (simp; omega)) _))))).mono ?_
  rintro e w1 ⟨r2, rfl, ⟨d3, rfl⟩, o2⟩
  have O2 := Lib.hid (sl_of_own intC_length o2)
  clear o2
  have HWL := Lib.hid (within_len m s t HCL.out)
  have HWL2 := Lib.hid (within_len m s (t + 1) HCL.out)
  have HWB := Lib.hid (fun (h : withinB m s t = true) => And.intro (within_open h) (And.intro (within_more h) (And.intro (within_self h) (within_far h))))
  have HW1 := Lib.hid (fun W hW => cellsWithin_any m (.slice p1 m.rise.length c1) (.slice p2 m.cost.length c2) s (t + 1) W hW)
  have HFC := Lib.hid (fun W hW => farthestCell_any m (.slice p1 m.rise.length c1) (.slice p2 m.cost.length c2) s W hW)
  generalize withinB m s t = WB at HWB ⊢
  have hWW : (WB != WB) = false := by simp
  go_upto_if 136 with (go_at_call 13; refine (vInts_same _ _ (withinL m s t) _ (by with_reducible (repeat (first | exact O1.out | refine World.sl_ext intC_length ?_ _ | refine sl_alloc intC_length ?_ _ | refine sl_drew ?_))) (by with_reducible (repeat (first | exact O2.out | refine World.sl_ext intC_length ?_ _ | refine sl_alloc intC_length ?_ _ | refine sl_drew ?_))) HWL.out).mono ?_; rintro e w1 ⟨rfl, d4, rfl⟩)
  clear O2
  go_cut [19, 21] (fun _ _ wx => ∃ d, wx = w.ext d)
  case first =>
    as_aux_lemma =>
      cases WB with
      | false =>
        go_wp2_with fail
        go_meet
        exact (by repeat (first | with_reducible (first | exact World.gained_refl _ | exact ⟨_, rfl⟩ | apply gain_ext | apply gain_alloc | apply gain_drewN | apply gain_drew) | (refine gain_setCell ?_ (by first | exact Nat.le_refl _ | exact World.size_ext _ _ | (simp; done) | (simp; omega)) _)))
      | true =>
        obtain ⟨⟨e1, e2⟩, ⟨e3, e4⟩, e5, e6⟩ := HWB.out rfl
        have HIN := Lib.hid e4
        rw [e1] at HFC
        rw [e3] at HW1
        have hwt : IntKind.i64.wrap (t + 1) = t + 1 := IntWalk.i64_in _ (by omega)
        have HV1 := Lib.hid (fun W hW => by have := vHas_any (.slice p3 (withinL m s t).length c3) (withinL m s t) s W hW HWL.out; rw [hasB_iff.2 e5] at this; exact this)
        have HV2 := Lib.hid (fun W hW => by have := vHas_any (.slice p3 (withinL m s t).length c3) (withinL m s t) (farI m s).1 W hW HWL.out; rw [e6] at this; exact this)
        clear e1 e2 e3 e4 e5 e6 HWB
        generalize (farI m s).1 = F1 at HFC HV2
        generalize (farI m s).2 = F2 at HFC HV2
        have hFF : (decide (F2 ≤ t) != decide (F2 ≤ t)) = false := by simp
        go_wp2_with fail
        refine (HW1.out _ (mp_up (HM0.out) (by repeat (first | with_reducible (first | exact World.gained_refl _ | exact ⟨_, rfl⟩ | apply gain_ext | apply gain_alloc | apply gain_drewN | apply gain_drew) | (refine gain_setCell ?_ (by first | exact Nat.le_refl _ | exact World.size_ext _ _ | (simp; done) | (simp; omega)) _))))).mono ?_
        rintro e w1 ⟨r3, rfl, ⟨d5, rfl⟩, o3⟩
        have O3 := Lib.hid (sl_of_own intC_length o3)
        clear o3
        go_wp2_with fail
        refine (HFC.out _ (mp_up (HM0.out) (by repeat (first | with_reducible (first | exact World.gained_refl _ | exact ⟨_, rfl⟩ | apply gain_ext | apply gain_alloc | apply gain_drewN | apply gain_drew) | (refine gain_setCell ?_ (by first | exact Nat.le_refl _ | exact World.size_ext _ _ | (simp; done) | (simp; omega)) _))))).mono ?_
        rintro e w1 ⟨rfl, d6, rfl⟩
        go_wp2_with (first | (go_at_call 47; refine (vWithin_yes _ _ (withinL m s t) (withinL m s (t + 1)) _ (by with_reducible (repeat (first | exact O1.out | refine World.sl_ext intC_length ?_ _ | refine sl_alloc intC_length ?_ _ | refine sl_drew ?_))) (by with_reducible (repeat (first | exact O3.out | refine World.sl_ext intC_length ?_ _ | refine sl_alloc intC_length ?_ _ | refine sl_drew ?_))) HWL.out HWL2.out HIN.out).mono ?_; rintro e w1 ⟨rfl, d7, rfl⟩) | (go_at_call 21; first | ((with_reducible refine (HV1.out _ (by with_reducible (repeat (first | exact O1.out | refine World.sl_ext intC_length ?_ _ | refine sl_alloc intC_length ?_ _ | refine sl_drew ?_)))).mono ?_); rintro e w1 ⟨rfl, d8, rfl⟩) | ((with_reducible refine (HV2.out _ (by with_reducible (repeat (first | exact O1.out | refine World.sl_ext intC_length ?_ _ | refine sl_alloc intC_length ?_ _ | refine sl_drew ?_)))).mono ?_); rintro e w1 ⟨rfl, d9, rfl⟩)))
        go_meet
        exact (by repeat (first | with_reducible (first | exact World.gained_refl _ | exact ⟨_, rfl⟩ | apply gain_ext | apply gain_alloc | apply gain_drewN | apply gain_drew) | (refine gain_setCell ?_ (by first | exact Nat.le_refl _ | exact World.size_ext _ _ | (simp; done) | (simp; omega)) _)))
  obtain ⟨dB, rfl⟩ := hcut
  clear HM0 O1 HWL HWL2 HWB HW1 HFC hWW HCL bx0 bx1 bx2 bx3 obx
  go_wp2_with fail
  refine (drawFarthest_any _ L _ (by with_reducible (repeat (first | exact hs.out | refine World.sl_ext byteC_length ?_ _ | refine sl_alloc byteC_length ?_ _ | refine sl_drew ?_))) HQ.out hl).mono ?_
  rintro e w1 ⟨m, rv, cv, s, rfl, ⟨d1, rfl⟩, hmp⟩
  obtain ⟨p1, c1, p2, c2, rfl, rfl⟩ := mp_form hmp
  have HM := Lib.hid hmp
  clear hmp
  go_wp2_with fail
  generalize hW0 : ((w.ext dB).ext d1).alloc (.cells #[.int .i64 m.wd, .int .i64 m.ht, .slice p1 m.rise.length c1, .slice p2 m.cost.length c2] 26) = W0
  have hbx : MBox ((w.ext dB).ext d1) W0 ((w.ext dB).ext d1).heap.size m (.slice p1 m.rise.length c1) (.slice p2 m.cost.length c2) := by rw [← hW0]; exact mbox
  have HGW : ∃ d, W0 = w.ext d := gain_trans (by repeat (first | with_reducible (first | exact World.gained_refl _ | exact ⟨_, rfl⟩ | apply gain_ext | apply gain_alloc | apply gain_drewN | apply gain_drew) | (refine gain_setCell ?_ (by first | exact Nat.le_refl _ | exact World.size_ext _ _ | (simp; done) | (simp; omega)) _))) hbx.up
  have HM0 := Lib.hid (mp_up HM.out hbx.up)
  have bx0 := hbx.c0
  have bx1 := hbx.c1
  have bx2 := hbx.c2
  have bx3 := hbx.c3
  have obx := hbx.ob
  generalize ((w.ext dB).ext d1).heap.size = gB at bx0 bx1 bx2 bx3 obx ⊢
  clear hW0 hbx HM
  obtain ⟨dz, rfl⟩ := HGW
  refine (farthestCell_any m _ _ s _ (mp_up (HM0.out) (by repeat (first | with_reducible (first | exact World.gained_refl _ | exact ⟨_, rfl⟩ | apply gain_ext | apply gain_alloc | apply gain_drewN | apply gain_drew) | (refine gain_setCell ?_ (by first | exact Nat.le_refl _ | exact World.size_ext _ _ | (simp; done) | (simp; omega)) _))))).mono ?_
  rintro e w1 ⟨rfl, d2, rfl⟩
  go_wp2_with fail
  refine (specFarthestCell_any m _ _ s _ (mp_up (HM0.out) (by repeat (first | with_reducible (first | exact World.gained_refl _ | exact ⟨_, rfl⟩ | apply gain_ext | apply gain_alloc | apply gain_drewN | apply gain_drew) | (refine gain_setCell ?_ (by first | exact Nat.le_refl _ | exact World.size_ext _ _ | (simp; done) | (simp; omega)) _))))).mono ?_
  rintro e w1 ⟨rfl, d3, rfl⟩
  generalize (farI m s).1 = F1
  generalize (farI m s).2 = F2
  generalize openB m s = OB
  have h1 : (F1 == F1) = true := by simp
  have h2 : (F2 == F2) = true := by simp
  have h3 : (OB == OB) = true := by simp
  go_wp2
  go_ret
  exact ⟨by first | rfl | simp, (by repeat (first | with_reducible (first | exact World.gained_refl _ | exact ⟨_, rfl⟩ | apply gain_ext | apply gain_alloc | apply gain_drewN | apply gain_drew) | (refine gain_setCell ?_ (by first | exact Nat.le_refl _ | exact World.size_ext _ _ | (simp; done) | (simp; omega)) _)))⟩
set_option maxRecDepth 100000 in
theorem fnDetours_lifted (os : Os) (started : os.Started) (H : Type) (enc : TypeId × Value → H) :
    ReturnsInHanded {} Try.checked os 5 .any (Rows.fnDetoursSpec.pre6 enc Try.prog Try.f5 Rows.fnDetoursRow.domain false) (Rows.fnDetoursSpec.post enc Try.prog Try.f5 false true false false) := by
  refine returnsInHanded_of_change (C := Try.checked) (by kernel_rfl) started (by kernel_rfl) Try.func5
    (ChangeSpec.witness6 (enc := enc) (C := Try.checked) false ⟨#[], #[.slice none 0 0], []⟩ 8 (by kernel_rfl) (by kernel_rfl) (by kernel_rfl) (by kernel_rfl)) ?_
  intro W base args ds gs before hval0 hW _ _
  have hval : ∀ (j : Nat) t v, Try.f5.params[j]? = some t → args[j]? = some v → Value.okWide Try.prog W .any base t v := hval0
  clear hval0
  have laidOut : laidOutB Try.prog = true := by as_aux_lemma => kernel_rfl
  have hWc := hW
  obtain ⟨p, q, hA0, hV, rfl, _, _⟩ := hWc
  have hA : DataW.TrodAll enc Try.prog W 0 (fun _ => true) true Try.f5.params.toList args.toList ds p := hA0
  clear hA0
  rw [Try.params5] at hA hval
  obtain ⟨v0, vs0, d0, ds0, p0, q0, hargs, rfl, rfl, h0, r0⟩ := trodAll_cons hA
  obtain ⟨rfl, rfl, rfl⟩ := trodAll_nil r0
  obtain rfl : args = #[v0] := by cases args; simp_all
  obtain ⟨rfl, rfl⟩ := trodVars_none hV
  obtain ⟨L, hs, hq, hn⟩ := read_Bytes (hval 0 22 v0 rfl rfl) h0
  refine (fnDetours_walk v0 L W hs hq hn).mono fun e W1 ⟨he, hg⟩ => ?_
  subst he
  exact ⟨_, rfl, law_post (tb := 4) laidOut (by kernel_rfl) hW rfl rfl (by kernel_rfl) Try.underlying4 hg⟩
theorem fnDetours_holds : Rows.FnDetoursSaid :=
  OpenClaim.holds_of_wide 5 Try.f5 rfl rfl rfl rfl rfl rfl rfl ⟨rfl, rfl, rfl, rfl, rfl⟩ rfl rfl rfl rfl rfl (by kernel_rfl) Try.func5 (by kernel_rfl)
    (of_decide_eq_true (by kernel_rfl)) (by unfold Func.isWrapper; first | (rw [if_pos (by decide +kernel)]; kernel_rfl) | (rw [if_neg (by decide +kernel)]; exact ⟨rfl, rfl⟩))
    (fun os started H enc _ => fnDetours_lifted os started H enc)
#print axioms fnDetours_holds
end Go.Proofs.Ytddbbbmamoficaa
