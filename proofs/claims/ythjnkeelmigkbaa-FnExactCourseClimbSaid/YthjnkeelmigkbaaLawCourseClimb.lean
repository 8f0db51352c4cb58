/- FnExactCourseClimb returns true for every argument. No condition. -/
import Derived.Test.YthjnkeelmigkbaaClimb
import Derived.Test.YthjnkeelmigkbaaLawMap
import Derived.Test.YthjnkeelmigkbaaToCtlS
import Derived.Test.YthjnkeelmigkbaaEqCtlS
import Derived.Test.YthjnkeelmigkbaaSzCtlS
import Derived.Test.YthjnkeelmigkbaaRdCtl
import Derived.Test.YthjnkeelmigkbaaRdMap
namespace Go.Proofs.Ythjnkeelmigkbaa
open Go.ChangeShapes Go.WideShapes Go.ChangeAt Go.RowKit Go.Ori
set_option maxHeartbeats 4000000 in
theorem fnExactCourseClimb_walk (m : Mp) (rv cv v u : Value) (l : List Ctl) (t : List Int) (w : World) (h1 : w.sl intC 1 rv m.rise) (n1 : m.rise.length ≤ 9223372036854775807) (h2 : w.sl intC 1 cv m.cost) (n2 : m.cost.length ≤ 9223372036854775807)
    (h3 : w.sl Ctl.cells 2 v l) (n3 : l.length ≤ 9223372036854775807) (h4 : w.sl intC 1 u t) (n4 : t.length ≤ 9223372036854775807) :
    Calls Try.prog 4 #[.agg #[.int .i64 m.wd, .int .i64 m.ht, rv, cv], v, u] w fun x w' => x = .returned (.bool true) ∧ ∃ d, w' = w.ext d := by
  obtain ⟨p1, c1, rfl, _⟩ := id h1
  obtain ⟨p2, c2, rfl, _⟩ := id h2
  obtain ⟨p3, c3, rfl, _⟩ := id h3
  obtain ⟨p4, c4, rfl, _⟩ := id h4
  by_cases hl4 : ¬ t.length ≤ 1048576
  · go_enter Try.func4, Try.ntmps4
    go_wp2
    go_ret
    exact ⟨rfl, (by repeat (first | with_reducible (first | exact World.gained_refl _ | exact ⟨_, rfl⟩ | apply gain_ext | apply gain_alloc | apply gain_drewN | apply gain_drew) | (refine gain_setCell ?_ (by first | exact Nat.le_refl _ | exact World.size_ext _ _ | (simp; done) | (simp; omega)) _)))⟩
  replace hl4 : t.length ≤ 1048576 := by omega
  clear n4
  have H3 := Lib.hid h3
  have H4 := Lib.hid h4
  go_enter Try.func4, Try.ntmps4
  go_wp2_with fail
  refine (szMap_any m _ _ _ _ ⟨_, _, rfl⟩ ⟨_, _, rfl⟩ n1 n2 (by omega) (by omega)).mono ?_
  rintro e w1 ⟨r, rfl, ⟨d1, rfl⟩, hr, hx⟩
  by_cases hp : ¬ 0 ≤ r
  · go_wp2
    go_ret
    exact ⟨rfl, (by repeat (first | with_reducible (first | exact World.gained_refl _ | exact ⟨_, rfl⟩ | apply gain_ext | apply gain_alloc | apply gain_drewN | apply gain_drew) | (refine gain_setCell ?_ (by first | exact Nat.le_refl _ | exact World.size_ext _ _ | (simp; done) | (simp; omega)) _)))⟩
  replace hp : 0 ≤ r := by omega
  have HM := Lib.hid (World.mp.mk h1 h2 (by have := hx hp; omega) (by have := hx hp; omega))
  clear hx n1 n2 h1 h2 h3 h4
  go_wp2_with fail
  refine (szControlS_any _ _ _ _ _ n3 hp (by omega)).mono ?_
  rintro e w1 ⟨r2, rfl, rfl, hr2, hx2⟩
  by_cases hp2 : ¬ 0 ≤ r2
  · go_wp2
    go_ret
    exact ⟨rfl, (by repeat (first | with_reducible (first | exact World.gained_refl _ | exact ⟨_, rfl⟩ | apply gain_ext | apply gain_alloc | apply gain_drewN | apply gain_drew) | (refine gain_setCell ?_ (by first | exact Nat.le_refl _ | exact World.size_ext _ _ | (simp; done) | (simp; omega)) _)))⟩
  replace hp2 : 0 ≤ r2 := by omega
  have hl3 : l.length ≤ 1048576 := by have := hx2 hp2; omega
  clear hx2 n3
  go_wp2_with fail
  refine (toMap_any m _ _ _ (mp_up (HM.out) (by repeat (first | with_reducible (first | exact World.gained_refl _ | exact ⟨_, rfl⟩ | apply gain_ext | apply gain_alloc | apply gain_drewN | apply gain_drew) | (refine gain_setCell ?_ (by first | exact Nat.le_refl _ | exact World.size_ext _ _ | (simp; done) | (simp; omega)) _))))).mono ?_
  rintro e w1 ⟨a1, a2, rfl, ⟨d2, rfl⟩, ha1, ha2, -⟩
  have HA := Lib.hid (World.mp.mk (sl_of_own intC_length ha1) (sl_of_own intC_length ha2) HM.out.rl HM.out.cl)
  clear ha1 ha2
  go_wp2_with fail
  refine (toControlS_any _ l _ (by with_reducible (repeat (first | exact H3.out | refine World.sl_ext Ctl.cells_length ?_ _ | refine sl_alloc Ctl.cells_length ?_ _ | refine sl_drew ?_))) hl3).mono ?_
  rintro e w1 ⟨a3, rfl, ⟨d3, rfl⟩, ha3⟩
  have HA3 := Lib.hid (sl_of_own Ctl.cells_length ha3)
  clear ha3
  go_wp2_with fail
  refine (toIntS_any _ t _ (by with_reducible (repeat (first | exact H4.out | refine World.sl_ext intC_length ?_ _ | refine sl_alloc intC_length ?_ _ | refine sl_drew ?_))) hl4).mono ?_
  rintro e w1 ⟨a4, rfl, ⟨d4, rfl⟩, ha4⟩
  have HA4 := Lib.hid (sl_of_own intC_length ha4)
  clear ha4
  go_wp2_with fail
  refine (specCourseClimb_any m _ _ _ _ l t _ (mp_up (HA.out) (by repeat (first | with_reducible (first | exact World.gained_refl _ | exact ⟨_, rfl⟩ | apply gain_ext | apply gain_alloc | apply gain_drewN | apply gain_drew) | (refine gain_setCell ?_ (by first | exact Nat.le_refl _ | exact World.size_ext _ _ | (simp; done) | (simp; omega)) _)))) (by with_reducible (repeat (first | exact HA3.out | refine World.sl_ext Ctl.cells_length ?_ _ | refine sl_alloc Ctl.cells_length ?_ _ | refine sl_drew ?_))) hl3 (by with_reducible (repeat (first | exact HA4.out | refine World.sl_ext intC_length ?_ _ | refine sl_alloc intC_length ?_ _ | refine sl_drew ?_))) hl4).mono ?_
  rintro e w1 ⟨rfl, d5, rfl⟩
  clear HA HA3 HA4
  go_wp2_with fail
  refine (toMap_any m _ _ _ (mp_up (HM.out) (by repeat (first | with_reducible (first | exact World.gained_refl _ | exact ⟨_, rfl⟩ | apply gain_ext | apply gain_alloc | apply gain_drewN | apply gain_drew) | (refine gain_setCell ?_ (by first | exact Nat.le_refl _ | exact World.size_ext _ _ | (simp; done) | (simp; omega)) _))))).mono ?_
  rintro e w1 ⟨x1, x2, rfl, ⟨d6, rfl⟩, hx1, hx2, -⟩
  obtain ⟨px1, cx1, rfl, _⟩ := id (sl_of_own intC_length hx1)
  obtain ⟨px2, cx2, rfl, _⟩ := id (sl_of_own intC_length hx2)
  have HX := Lib.hid (World.mp.mk (sl_of_own intC_length hx1) (sl_of_own intC_length hx2) HM.out.rl HM.out.cl)
  clear hx1 hx2
  go_wp2_with fail
  have hb1 := mbox (w := w) (m := m) (rv := .slice p1 m.rise.length c1) (cv := .slice p2 m.cost.length c2) (e := 24)
  have hb2 := mbox (w := ((((((w.alloc (.cells #[.int .i64 m.wd, .int .i64 m.ht, .slice p1 m.rise.length c1, .slice p2 m.cost.length c2] 24)).ext d1).ext d2).ext d3).ext d4).ext d5).ext d6) (m := m) (rv := .slice px1 m.rise.length cx1) (cv := .slice px2 m.cost.length cx2) (e := 31)
  have HG1 : Hid (∃ d, (((((((w.alloc (.cells #[.int .i64 m.wd, .int .i64 m.ht, .slice p1 m.rise.length c1, .slice p2 m.cost.length c2] 24)).ext d1).ext d2).ext d3).ext d4).ext d5).ext d6).alloc (.cells #[.int .i64 m.wd, .int .i64 m.ht, .slice px1 m.rise.length cx1, .slice px2 m.cost.length cx2] 31) = w.ext d) := Lib.hid (by repeat (first | with_reducible (first | exact World.gained_refl _ | exact ⟨_, rfl⟩ | apply gain_ext | apply gain_alloc | apply gain_drewN | apply gain_drew) | (refine gain_setCell ?_ (by first | exact Nat.le_refl _ | exact World.size_ext _ _ | (simp; done) | (simp; omega)) _)))
  have a0 := cell_up hb1.c0 (w' := (((((((w.alloc (.cells #[.int .i64 m.wd, .int .i64 m.ht, .slice p1 m.rise.length c1, .slice p2 m.cost.length c2] 24)).ext d1).ext d2).ext d3).ext d4).ext d5).ext d6).alloc (.cells #[.int .i64 m.wd, .int .i64 m.ht, .slice px1 m.rise.length cx1, .slice px2 m.cost.length cx2] 31)) (by repeat (first | with_reducible (first | exact World.gained_refl _ | exact ⟨_, rfl⟩ | apply gain_ext | apply gain_alloc | apply gain_drewN | apply gain_drew) | (refine gain_setCell ?_ (by first | exact Nat.le_refl _ | exact World.size_ext _ _ | (simp; done) | (simp; omega)) _)))
  have a1 := cell_up hb1.c1 (w' := (((((((w.alloc (.cells #[.int .i64 m.wd, .int .i64 m.ht, .slice p1 m.rise.length c1, .slice p2 m.cost.length c2] 24)).ext d1).ext d2).ext d3).ext d4).ext d5).ext d6).alloc (.cells #[.int .i64 m.wd, .int .i64 m.ht, .slice px1 m.rise.length cx1, .slice px2 m.cost.length cx2] 31)) (by repeat (first | with_reducible (first | exact World.gained_refl _ | exact ⟨_, rfl⟩ | apply gain_ext | apply gain_alloc | apply gain_drewN | apply gain_drew) | (refine gain_setCell ?_ (by first | exact Nat.le_refl _ | exact World.size_ext _ _ | (simp; done) | (simp; omega)) _)))
  have a2 := cell_up hb1.c2 (w' := (((((((w.alloc (.cells #[.int .i64 m.wd, .int .i64 m.ht, .slice p1 m.rise.length c1, .slice p2 m.cost.length c2] 24)).ext d1).ext d2).ext d3).ext d4).ext d5).ext d6).alloc (.cells #[.int .i64 m.wd, .int .i64 m.ht, .slice px1 m.rise.length cx1, .slice px2 m.cost.length cx2] 31)) (by repeat (first | with_reducible (first | exact World.gained_refl _ | exact ⟨_, rfl⟩ | apply gain_ext | apply gain_alloc | apply gain_drewN | apply gain_drew) | (refine gain_setCell ?_ (by first | exact Nat.le_refl _ | exact World.size_ext _ _ | (simp; done) | (simp; omega)) _)))
  have a3 := cell_up hb1.c3 (w' := (((((((w.alloc (.cells #[.int .i64 m.wd, .int .i64 m.ht, .slice p1 m.rise.length c1, .slice p2 m.cost.length c2] 24)).ext d1).ext d2).ext d3).ext d4).ext d5).ext d6).alloc (.cells #[.int .i64 m.wd, .int .i64 m.ht, .slice px1 m.rise.length cx1, .slice px2 m.cost.length cx2] 31)) (by repeat (first | with_reducible (first | exact World.gained_refl _ | exact ⟨_, rfl⟩ | apply gain_ext | apply gain_alloc | apply gain_drewN | apply gain_drew) | (refine gain_setCell ?_ (by first | exact Nat.le_refl _ | exact World.size_ext _ _ | (simp; done) | (simp; omega)) _)))
  have b0 := hb2.c0
  have b1 := hb2.c1
  have b2 := hb2.c2
  have b3 := hb2.c3
  replace HX := Lib.hid (mp_up HX.out hb2.up)
  clear hb1 hb2
  generalize (((((((w.alloc (.cells #[.int .i64 m.wd, .int .i64 m.ht, .slice p1 m.rise.length c1, .slice p2 m.cost.length c2] 24)).ext d1).ext d2).ext d3).ext d4).ext d5).ext d6).heap.size = XB at *
  generalize (((((((w.alloc (.cells #[.int .i64 m.wd, .int .i64 m.ht, .slice p1 m.rise.length c1, .slice p2 m.cost.length c2] 24)).ext d1).ext d2).ext d3).ext d4).ext d5).ext d6).alloc (.cells #[.int .i64 m.wd, .int .i64 m.ht, .slice px1 m.rise.length cx1, .slice px2 m.cost.length cx2] 31) = W1 at *
  have HM1 := Lib.hid (mp_up HM.out HG1.out)
  have H31 := Lib.hid (sl_up Ctl.cells_length H3.out HG1.out)
  have H41 := Lib.hid (sl_up intC_length H4.out HG1.out)
  have oba := World.oldB_of_cell a0
  have obb := World.oldB_of_cell b0
  clear HM H3 H4
  refine (toControlS_any _ l _ (by with_reducible (repeat (first | exact H31.out | refine World.sl_ext Ctl.cells_length ?_ _ | refine sl_alloc Ctl.cells_length ?_ _ | refine sl_drew ?_))) hl3).mono ?_
  rintro e w1 ⟨x3, rfl, ⟨d7, rfl⟩, hx3⟩
  have HX3 := Lib.hid (sl_of_own Ctl.cells_length hx3)
  clear hx3
  go_wp2_with fail
  refine (toIntS_any _ t _ (by with_reducible (repeat (first | exact H41.out | refine World.sl_ext intC_length ?_ _ | refine sl_alloc intC_length ?_ _ | refine sl_drew ?_))) hl4).mono ?_
  rintro e w1 ⟨x4, rfl, ⟨d8, rfl⟩, hx4⟩
  have HX4 := Lib.hid (sl_of_own intC_length hx4)
  clear hx4
  go_wp2_with fail
  refine (courseClimb_any m _ _ _ _ l t _ (mp_up (HX.out) (by repeat (first | with_reducible (first | exact World.gained_refl _ | exact ⟨_, rfl⟩ | apply gain_ext | apply gain_alloc | apply gain_drewN | apply gain_drew) | (refine gain_setCell ?_ (by first | exact Nat.le_refl _ | exact World.size_ext _ _ | (simp; done) | (simp; omega)) _)))) (by with_reducible (repeat (first | exact HX3.out | refine World.sl_ext Ctl.cells_length ?_ _ | refine sl_alloc Ctl.cells_length ?_ _ | refine sl_drew ?_))) hl3 (by with_reducible (repeat (first | exact HX4.out | refine World.sl_ext intC_length ?_ _ | refine sl_alloc intC_length ?_ _ | refine sl_drew ?_))) hl4).mono ?_
  rintro e w1 ⟨rfl, d9, rfl⟩
  go_upto_region 17 with fail
  go_region_held (fun w' => w'.cell? ⟨w.heap.size, 0, none⟩ = some (.int .i64 m.wd) ∧ w'.cell? ⟨w.heap.size, 1, none⟩ = some (.int .i64 m.ht) ∧ w'.cell? ⟨w.heap.size, 2, none⟩ = some (.slice p1 m.rise.length c1) ∧ w'.cell? ⟨w.heap.size, 3, none⟩ = some (.slice p2 m.cost.length c2) ∧ w'.cell? ⟨XB, 0, none⟩ = some (.int .i64 m.wd) ∧ w'.cell? ⟨XB, 1, none⟩ = some (.int .i64 m.ht) ∧ w'.cell? ⟨XB, 2, none⟩ = some (.slice px1 m.rise.length cx1) ∧ w'.cell? ⟨XB, 3, none⟩ = some (.slice px2 m.cost.length cx2)) (refine ⟨?_, ?_, ?_, ?_, ?_, ?_, ?_, ?_⟩ <;> (with_reducible (repeat (first | assumption | refine cell_ext ?_ _ | refine cell_drew ?_ | refine cell_alloc ?_ _)))) (first | (go_at_call 18; ((with_reducible refine (toMap_any m _ _ _ (mp_up (HM1.out) (by repeat (first | with_reducible (first | exact World.gained_refl _ | exact ⟨_, rfl⟩ | apply gain_ext | apply gain_alloc | apply gain_drewN | apply gain_drew) | (refine gain_setCell ?_ (by first | exact Nat.le_refl _ | exact World.size_ext _ _ | (simp; done) | (simp; omega)) _))))).mono ?_); rintro e w1 ⟨t1, t2, rfl, ⟨d10, rfl⟩, ht1, ht2, -⟩); have HT := Lib.hid (World.mp.mk (sl_of_own intC_length ht1) (sl_of_own intC_length ht2) HM1.out.rl HM1.out.cl); clear ht1 ht2) | (go_at_call 23; ((with_reducible refine (eqMap_same m _ _ _ _ _ (mp_up (HX.out) (by repeat (first | with_reducible (first | exact World.gained_refl _ | exact ⟨_, rfl⟩ | apply gain_ext | apply gain_alloc | apply gain_drewN | apply gain_drew) | (refine gain_setCell ?_ (by first | exact Nat.le_refl _ | exact World.size_ext _ _ | (simp; done) | (simp; omega)) _)))) (mp_up (HT.out) (by repeat (first | with_reducible (first | exact World.gained_refl _ | exact ⟨_, rfl⟩ | apply gain_ext | apply gain_alloc | apply gain_drewN | apply gain_drew) | (refine gain_setCell ?_ (by first | exact Nat.le_refl _ | exact World.size_ext _ _ | (simp; done) | (simp; omega)) _))))).mono ?_); rintro e w1 ⟨rfl, d11, rfl⟩)))
  go_wp2_with fail
  refine (toControlS_any _ l _ (by with_reducible (repeat (first | exact H31.out | refine World.sl_ext Ctl.cells_length ?_ _ | refine sl_alloc Ctl.cells_length ?_ _ | refine sl_drew ?_))) hl3).mono ?_
  rintro e w1 ⟨t3, rfl, ⟨d12, rfl⟩, ht3⟩
  go_wp2_with fail
  refine (eqControlS_same _ _ l _ (by with_reducible (repeat (first | exact HX3.out | refine World.sl_ext Ctl.cells_length ?_ _ | refine sl_alloc Ctl.cells_length ?_ _ | refine sl_drew ?_))) (by with_reducible (repeat (first | exact sl_of_own Ctl.cells_length ht3 | refine World.sl_ext Ctl.cells_length ?_ _ | refine sl_alloc Ctl.cells_length ?_ _ | refine sl_drew ?_))) hl3).mono ?_
  rintro e w1 ⟨rfl, d13, rfl⟩
  clear ht3
  go_wp2_with fail
  refine (toIntS_any _ t _ (by with_reducible (repeat (first | exact H41.out | refine World.sl_ext intC_length ?_ _ | refine sl_alloc intC_length ?_ _ | refine sl_drew ?_))) hl4).mono ?_
  rintro e w1 ⟨t4, rfl, ⟨d14, rfl⟩, ht4⟩
  go_wp2_with fail
  refine (eqIntS_same _ _ t _ (by with_reducible (repeat (first | exact HX4.out | refine World.sl_ext intC_length ?_ _ | refine sl_alloc intC_length ?_ _ | refine sl_drew ?_))) (by with_reducible (repeat (first | exact sl_of_own intC_length ht4 | refine World.sl_ext intC_length ?_ _ | refine sl_alloc intC_length ?_ _ | refine sl_drew ?_))) hl4).mono ?_
  rintro e w1 ⟨rfl, d15, rfl⟩
  go_wp2
  go_ret
  exact ⟨rfl, gain_trans HG1.out (by repeat (first | with_reducible (first | exact World.gained_refl _ | exact ⟨_, rfl⟩ | apply gain_ext | apply gain_alloc | apply gain_drewN | apply gain_drew) | (refine gain_setCell ?_ (by first | exact Nat.le_refl _ | exact World.size_ext _ _ | (simp; done) | (simp; omega)) _)))⟩
set_option maxRecDepth 100000 in
theorem fnExactCourseClimb_lifted (os : Os) (started : os.Started) (H : Type) (enc : TypeId × Value → H) :
    ReturnsInHanded {} Try.checked os 4 .any (Rows.fnExactCourseClimbSpec.pre6 enc Try.prog Try.f4 Rows.fnExactCourseClimbRow.domain false) (Rows.fnExactCourseClimbSpec.post enc Try.prog Try.f4 false true false false) := by
  refine returnsInHanded_of_change (C := Try.checked) (by kernel_rfl) started (by kernel_rfl) Try.func4
    (ChangeSpec.witness6 (enc := enc) (C := Try.checked) false ⟨#[], #[.agg #[.int .i64 0, .int .i64 0, .slice none 0 0, .slice none 0 0], .slice none 0 0, .slice none 0 0], []⟩ 8 (by kernel_rfl) (by kernel_rfl) (by kernel_rfl) (by kernel_rfl)) ?_
  intro W base args ds gs before hval0 hW _ _
  have hval : ∀ (j : Nat) t v, Try.f4.params[j]? = some t → args[j]? = some v → Value.okWide Try.prog W .any base t v := hval0
  clear hval0
  have laidOut : laidOutB Try.prog = true := by as_aux_lemma => kernel_rfl
  have hWc := hW
  obtain ⟨p, q, hA0, hV, rfl, _, _⟩ := hWc
  have hA : DataW.TrodAll enc Try.prog W 0 (fun _ => true) true Try.f4.params.toList args.toList ds p := hA0
  clear hA0
  rw [Try.params4] at hA hval
  obtain ⟨v0, vs0, d0, ds0, p0, q0, hargs, rfl, rfl, h0, r0⟩ := trodAll_cons hA
  obtain ⟨v1, vs1, d1, ds1, p1, q1, rfl, rfl, rfl, h1, r1⟩ := trodAll_cons r0
  obtain ⟨v2, vs2, d2, ds2, p2, q2, rfl, rfl, rfl, h2, r2⟩ := trodAll_cons r1
  obtain ⟨rfl, rfl, rfl⟩ := trodAll_nil r2
  obtain rfl : args = #[v0, v1, v2] := by cases args; simp_all
  obtain ⟨rfl, rfl⟩ := trodVars_none hV
  obtain ⟨m, rv, cv, rfl, g1, g2, g3, g4⟩ := read_Map (hval 0 24 v0 rfl rfl) h0
  obtain ⟨l1, hs1, hm1⟩ := read_Ctls (hval 1 25 v1 rfl rfl) h1
  obtain ⟨l2, hs2, hm2⟩ := read_Ints (hval 2 22 v2 rfl rfl) h2
  refine (fnExactCourseClimb_walk m rv cv v1 v2 l1 l2 W g1 g2 g3 g4 hs1 hm1 hs2 hm2).mono fun e W1 ⟨he, hg⟩ => ?_
  subst he
  exact ⟨_, rfl, law_post (tb := 4) laidOut (by kernel_rfl) hW rfl rfl (by kernel_rfl) Try.underlying4 hg⟩
theorem fnExactCourseClimb_holds : Rows.FnExactCourseClimbSaid :=
  OpenClaim.holds_of_wide 4 Try.f4 rfl rfl rfl rfl rfl rfl rfl ⟨rfl, rfl, rfl, rfl, rfl⟩ rfl rfl rfl rfl rfl (by kernel_rfl) Try.func4 (by kernel_rfl)
    (of_decide_eq_true (by kernel_rfl)) (by unfold Func.isWrapper; first | (rw [if_pos (by decide +kernel)]; kernel_rfl) | (rw [if_neg (by decide +kernel)]; exact ⟨rfl, rfl⟩))
    (fun os started H enc _ => fnExactCourseClimb_lifted os started H enc)
#print axioms fnExactCourseClimb_holds
end Go.Proofs.Ythjnkeelmigkbaa
