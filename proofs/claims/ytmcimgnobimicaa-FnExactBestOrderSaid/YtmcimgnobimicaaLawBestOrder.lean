/- FnExactBestOrder returns true for every argument. No condition. -/
import Derived.Test.YtmcimgnobimicaaG32
import Derived.Test.YtmcimgnobimicaaG35
import Derived.Test.YtmcimgnobimicaaG36
import Derived.Test.YtmcimgnobimicaaG37
import Derived.Test.YtmcimgnobimicaaG38
import Derived.Test.YtmcimgnobimicaaG39
namespace Go.Proofs.Ytmcimgnobimicaa
open Go.ChangeShapes Go.WideShapes Go.ChangeAt Go.RowKit Go.Ori
set_option maxRecDepth 20000 in
set_option maxHeartbeats 8000000 in
theorem fnExactBestOrder_walk (m : Mp) (rv cv v u : Value) (l : List Ctl) (t : List Int) (w : World) (h1 : w.sl intC 1 rv m.rise) (n1 : m.rise.length ≤ 9223372036854775807) (h2 : w.sl intC 1 cv m.cost) (n2 : m.cost.length ≤ 9223372036854775807)
    (h3 : w.sl Ctl.cells 2 v l) (n3 : l.length ≤ 9223372036854775807) (h4 : w.sl intC 1 u t) (n4 : t.length ≤ 9223372036854775807) :
    Calls Try.prog 3 #[.agg #[.int .i64 m.wd, .int .i64 m.ht, rv, cv], v, u] w fun x w' => x = .returned (.bool true) ∧ ∃ d, w' = w.ext d := by
  obtain ⟨p1, c1, rfl, _⟩ := id h1
  obtain ⟨p2, c2, rfl, _⟩ := id h2
  obtain ⟨p3, c3, rfl, _⟩ := id h3
  obtain ⟨p4, c4, rfl, _⟩ := id h4
  by_cases hl4 : ¬ t.length ≤ 1048576
  · go_enter Try.func3, Try.ntmps3
    go_wp2
    go_ret
    exact ⟨rfl, (by repeat (first | with_reducible (first | exact World.gained_refl _ | exact ⟨_, rfl⟩ | apply gain_ext | apply gain_alloc | apply gain_drewN | apply gain_drew) | (refine gain_setCell ?_ (by first | exact Nat.le_refl _ | exact World.size_ext _ _ | (simp; done) | (simp; omega)) _)))⟩
  replace hl4 : t.length ≤ 1048576 := by omega
  clear n4
  have H3 := Lib.hid h3
  have H4 := Lib.hid h4
  go_enter Try.func3, Try.ntmps3
  go_wp2_with fail
  have hb1 := mbox (w := w) (m := m) (rv := .slice p1 m.rise.length c1) (cv := .slice p2 m.cost.length c2) (e := 24)
  generalize (w.alloc (.cells #[.int .i64 m.wd, .int .i64 m.ht, .slice p1 m.rise.length c1, .slice p2 m.cost.length c2] 24)) = W0 at hb1 ⊢
  have HG := Lib.hid hb1.up
  have bx0 := hb1.c0
  have bx1 := hb1.c1
  have bx2 := hb1.c2
  have bx3 := hb1.c3
  have obx := hb1.ob
  clear hb1
  refine (szMap_any m _ _ _ _ ⟨_, _, rfl⟩ ⟨_, _, rfl⟩ n1 n2 (by omega) (by omega)).mono ?_
  rintro e w1 ⟨r, rfl, ⟨d1, rfl⟩, hr, hx⟩
  by_cases hp : ¬ 0 ≤ r
  · go_wp2
    go_ret
    exact ⟨rfl, gain_trans HG.out (by repeat (first | with_reducible (first | exact World.gained_refl _ | exact ⟨_, rfl⟩ | apply gain_ext | apply gain_alloc | apply gain_drewN | apply gain_drew) | (refine gain_setCell ?_ (by first | exact Nat.le_refl _ | exact World.size_ext _ _ | (simp; done) | (simp; omega)) _)))⟩
  replace hp : 0 ≤ r := by omega
  have hm1 : m.rise.length ≤ 1048576 := by have := hx hp; omega
  have hm2 : m.cost.length ≤ 1048576 := by have := hx hp; omega
  have HM := Lib.hid (mp_up (World.mp.mk h1 h2 hm1 hm2) HG.out)
  replace H3 := Lib.hid (sl_up Ctl.cells_length H3.out HG.out)
  replace H4 := Lib.hid (sl_up intC_length H4.out HG.out)
  clear hx n1 n2 h1 h2 h3 h4
  go_wp2_with fail
  refine (szControlS_any _ _ _ _ _ n3 hp (by omega)).mono ?_
  rintro e w1 ⟨r2, rfl, rfl, hr2, hx2⟩
  by_cases hp2 : ¬ 0 ≤ r2
  · go_wp2
    go_ret
    exact ⟨rfl, gain_trans HG.out (by repeat (first | with_reducible (first | exact World.gained_refl _ | exact ⟨_, rfl⟩ | apply gain_ext | apply gain_alloc | apply gain_drewN | apply gain_drew) | (refine gain_setCell ?_ (by first | exact Nat.le_refl _ | exact World.size_ext _ _ | (simp; done) | (simp; omega)) _)))⟩
  replace hp2 : 0 ≤ r2 := by omega
  have hl3 : l.length ≤ 1048576 := by have := hx2 hp2; omega
  clear hx2 n3
  go_wp2_with fail
  refine (toMap_any m _ _ _ (mp_up (HM.out) (by repeat (first | with_reducible (first | exact World.gained_refl _ | exact ⟨_, rfl⟩ | apply gain_ext | apply gain_alloc | apply gain_drewN | apply gain_drew) | (refine gain_setCell ?_ (by first | exact Nat.le_refl _ | exact World.size_ext _ _ | (simp; done) | (simp; omega)) _))))).mono ?_
  rintro e w1 ⟨a1, a2, rfl, ⟨d2, rfl⟩, ha1, ha2, -⟩
  have HA := Lib.hid (World.mp.mk (sl_of_own intC_length ha1) (sl_of_own intC_length ha2) HM.out.rl HM.out.cl)
  clear ha1 ha2
  go_wp2_with fail
  refine (toControlS_any _ l _ (by with_reducible (repeat (first | exact H3.out | refine World.sl_ext Ctl.cells_length ?_ _ | refine sl_alloc Ctl.cells_length ?_ _ | refine sl_drew ?_))) hl3).mono ?_
  rintro e w1 ⟨a3, rfl, ⟨d3, rfl⟩, ha3⟩
  have HA3 := Lib.hid (sl_of_own Ctl.cells_length ha3)
  clear ha3
  go_wp2_with fail
  refine (toIntS_any _ t _ (by with_reducible (repeat (first | exact H4.out | refine World.sl_ext intC_length ?_ _ | refine sl_alloc intC_length ?_ _ | refine sl_drew ?_))) hl4).mono ?_
  rintro e w1 ⟨a4, rfl, ⟨d4, rfl⟩, ha4⟩
  have HA4 := Lib.hid (sl_of_own intC_length ha4)
  clear ha4
  go_wp2_with fail
  refine (specBestOrder_any m _ _ _ _ l t _ (mp_up (HA.out) (by repeat (first | with_reducible (first | exact World.gained_refl _ | exact ⟨_, rfl⟩ | apply gain_ext | apply gain_alloc | apply gain_drewN | apply gain_drew) | (refine gain_setCell ?_ (by first | exact Nat.le_refl _ | exact World.size_ext _ _ | (simp; done) | (simp; omega)) _)))) (by with_reducible (repeat (first | exact HA3.out | refine World.sl_ext Ctl.cells_length ?_ _ | refine sl_alloc Ctl.cells_length ?_ _ | refine sl_drew ?_))) hl3 (by with_reducible (repeat (first | exact HA4.out | refine World.sl_ext intC_length ?_ _ | refine sl_alloc intC_length ?_ _ | refine sl_drew ?_))) hl4).mono ?_
  rintro e w1 ⟨r0, rfl, ⟨d5, rfl⟩, hw0⟩
  clear HA HA3 HA4
  go_wp2_with fail
  refine (toMap_any m _ _ _ (mp_up (HM.out) (by repeat (first | with_reducible (first | exact World.gained_refl _ | exact ⟨_, rfl⟩ | apply gain_ext | apply gain_alloc | apply gain_drewN | apply gain_drew) | (refine gain_setCell ?_ (by first | exact Nat.le_refl _ | exact World.size_ext _ _ | (simp; done) | (simp; omega)) _))))).mono ?_
  rintro e w1 ⟨x1, x2, rfl, ⟨d6, rfl⟩, hx1, hx2, hap⟩
  obtain ⟨px1, cx1, rfl, _⟩ := id (sl_of_own intC_length hx1)
  obtain ⟨px2, cx2, rfl, _⟩ := id (sl_of_own intC_length hx2)
  have AW1 := Lib.hid (apart2_new hw0 hx1)
  have AW2 := Lib.hid (apart2_new hw0 hx2)
  have A12 := Lib.hid hap
  have HW := Lib.hid hw0
  have HX1 := Lib.hid (own_base (b := W0.heap.size) hx1 (gain_size (by repeat (first | with_reducible (first | exact World.gained_refl _ | exact ⟨_, rfl⟩ | apply gain_ext | apply gain_alloc | apply gain_drewN | apply gain_drew) | (refine gain_setCell ?_ (by first | exact Nat.le_refl _ | exact World.size_ext _ _ | (simp; done) | (simp; omega)) _)))))
  have HX2 := Lib.hid (own_base (b := W0.heap.size) hx2 (gain_size (by repeat (first | with_reducible (first | exact World.gained_refl _ | exact ⟨_, rfl⟩ | apply gain_ext | apply gain_alloc | apply gain_drewN | apply gain_drew) | (refine gain_setCell ?_ (by first | exact Nat.le_refl _ | exact World.size_ext _ _ | (simp; done) | (simp; omega)) _)))))
  clear hx1 hx2 hap hw0
  go_wp2_with fail
  have hb2 := mbox (w := ((((((W0).ext d1).ext d2).ext d3).ext d4).ext d5).ext d6) (m := m) (rv := .slice px1 m.rise.length cx1) (cv := .slice px2 m.cost.length cx2) (e := 30)
  have HG1 : Hid (∃ d, (((((((W0).ext d1).ext d2).ext d3).ext d4).ext d5).ext d6).alloc (.cells #[.int .i64 m.wd, .int .i64 m.ht, .slice px1 m.rise.length cx1, .slice px2 m.cost.length cx2] 30) = W0.ext d) := Lib.hid (by repeat (first | with_reducible (first | exact World.gained_refl _ | exact ⟨_, rfl⟩ | apply gain_ext | apply gain_alloc | apply gain_drewN | apply gain_drew) | (refine gain_setCell ?_ (by first | exact Nat.le_refl _ | exact World.size_ext _ _ | (simp; done) | (simp; omega)) _)))
  have b0 := hb2.c0
  have b1 := hb2.c1
  have b2 := hb2.c2
  have b3 := hb2.c3
  replace HX1 := Lib.hid (own_up HX1.out hb2.up)
  replace HX2 := Lib.hid (own_up HX2.out hb2.up)
  replace HW := Lib.hid (own_up (own_up HW.out ⟨_, rfl⟩) hb2.up)
  clear hb2
  generalize (((((((W0).ext d1).ext d2).ext d3).ext d4).ext d5).ext d6).heap.size = XB at *
  generalize (((((((W0).ext d1).ext d2).ext d3).ext d4).ext d5).ext d6).alloc (.cells #[.int .i64 m.wd, .int .i64 m.ht, .slice px1 m.rise.length cx1, .slice px2 m.cost.length cx2] 30) = W1 at *
  have HM1 := Lib.hid (mp_up HM.out HG1.out)
  have H31 := Lib.hid (sl_up Ctl.cells_length H3.out HG1.out)
  have H41 := Lib.hid (sl_up intC_length H4.out HG1.out)
  have a0 := cell_up bx0 HG1.out
  have a1 := cell_up bx1 HG1.out
  have a2 := cell_up bx2 HG1.out
  have a3 := cell_up bx3 HG1.out
  have oba := World.oldB_of_cell a0
  have obb := World.oldB_of_cell b0
  have hsz1 := gain_size HG1.out
  refine (toControlS_any _ l _ (by with_reducible (repeat (first | exact H31.out | refine World.sl_ext Ctl.cells_length ?_ _ | refine sl_alloc Ctl.cells_length ?_ _ | refine sl_drew ?_))) hl3).mono ?_
  rintro e w1 ⟨x3, rfl, ⟨d7, rfl⟩, hx3⟩
  have AW3 := Lib.hid (apart2_new HW.out hx3)
  have A13 := Lib.hid (apart2_new HX1.out hx3)
  have A23 := Lib.hid (apart2_new HX2.out hx3)
  have HX3 := Lib.hid (own_base (b := W0.heap.size) hx3 hsz1)
  clear hx3
  go_wp2_with fail
  refine (toIntS_any _ t _ (by with_reducible (repeat (first | exact H41.out | refine World.sl_ext intC_length ?_ _ | refine sl_alloc intC_length ?_ _ | refine sl_drew ?_))) hl4).mono ?_
  rintro e w1 ⟨x4, rfl, ⟨d8, rfl⟩, hx4⟩
  have AW4 := Lib.hid (apart2_new (own_up HW.out ⟨_, rfl⟩) hx4)
  have A14 := Lib.hid (apart2_new (own_up HX1.out ⟨_, rfl⟩) hx4)
  have A24 := Lib.hid (apart2_new (own_up HX2.out ⟨_, rfl⟩) hx4)
  have A34 := Lib.hid (apart2_new HX3.out hx4)
  have HX4 := Lib.hid (own_base (b := W0.heap.size) hx4 (Nat.le_trans hsz1 (gain_size (by repeat (first | with_reducible (first | exact World.gained_refl _ | exact ⟨_, rfl⟩ | apply gain_ext | apply gain_alloc | apply gain_drewN | apply gain_drew) | (refine gain_setCell ?_ (by first | exact Nat.le_refl _ | exact World.size_ext _ _ | (simp; done) | (simp; omega)) _))))))
  clear hx4
  go_wp2_with fail
  refine (implBestOrder_any m _ _ _ _ l t _ (mp_up (World.mp.mk (sl_of_own intC_length HX1.out) (sl_of_own intC_length HX2.out) hm1 hm2) (by repeat (first | with_reducible (first | exact World.gained_refl _ | exact ⟨_, rfl⟩ | apply gain_ext | apply gain_alloc | apply gain_drewN | apply gain_drew) | (refine gain_setCell ?_ (by first | exact Nat.le_refl _ | exact World.size_ext _ _ | (simp; done) | (simp; omega)) _)))) (by with_reducible (repeat (first | exact sl_of_own Ctl.cells_length HX3.out | refine World.sl_ext Ctl.cells_length ?_ _ | refine sl_alloc Ctl.cells_length ?_ _ | refine sl_drew ?_))) hl3 (by with_reducible (repeat (first | exact sl_of_own intC_length HX4.out | refine World.sl_ext intC_length ?_ _ | refine sl_alloc intC_length ?_ _ | refine sl_drew ?_))) hl4).mono ?_
  rintro e w1 ⟨g0, rfl, ⟨d9, rfl⟩, hg0⟩
  have AWG := Lib.hid (apart2_new (own_up HW.out (by repeat (first | with_reducible (first | exact World.gained_refl _ | exact ⟨_, rfl⟩ | apply gain_ext | apply gain_alloc | apply gain_drewN | apply gain_drew) | (refine gain_setCell ?_ (by first | exact Nat.le_refl _ | exact World.size_ext _ _ | (simp; done) | (simp; omega)) _)))) hg0)
  have A1G := Lib.hid (apart2_new (own_up HX1.out (by repeat (first | with_reducible (first | exact World.gained_refl _ | exact ⟨_, rfl⟩ | apply gain_ext | apply gain_alloc | apply gain_drewN | apply gain_drew) | (refine gain_setCell ?_ (by first | exact Nat.le_refl _ | exact World.size_ext _ _ | (simp; done) | (simp; omega)) _)))) hg0)
  have A2G := Lib.hid (apart2_new (own_up HX2.out (by repeat (first | with_reducible (first | exact World.gained_refl _ | exact ⟨_, rfl⟩ | apply gain_ext | apply gain_alloc | apply gain_drewN | apply gain_drew) | (refine gain_setCell ?_ (by first | exact Nat.le_refl _ | exact World.size_ext _ _ | (simp; done) | (simp; omega)) _)))) hg0)
  have A3G := Lib.hid (apart2_new (own_up HX3.out (by repeat (first | with_reducible (first | exact World.gained_refl _ | exact ⟨_, rfl⟩ | apply gain_ext | apply gain_alloc | apply gain_drewN | apply gain_drew) | (refine gain_setCell ?_ (by first | exact Nat.le_refl _ | exact World.size_ext _ _ | (simp; done) | (simp; omega)) _)))) hg0)
  have A4G := Lib.hid (apart2_new (own_up HX4.out (by repeat (first | with_reducible (first | exact World.gained_refl _ | exact ⟨_, rfl⟩ | apply gain_ext | apply gain_alloc | apply gain_drewN | apply gain_drew) | (refine gain_setCell ?_ (by first | exact Nat.le_refl _ | exact World.size_ext _ _ | (simp; done) | (simp; omega)) _)))) hg0)
  have HGG := Lib.hid (own_base (b := W0.heap.size) hg0 (Nat.le_trans hsz1 (gain_size (by repeat (first | with_reducible (first | exact World.gained_refl _ | exact ⟨_, rfl⟩ | apply gain_ext | apply gain_alloc | apply gain_drewN | apply gain_drew) | (refine gain_setCell ?_ (by first | exact Nat.le_refl _ | exact World.size_ext _ _ | (simp; done) | (simp; omega)) _))))))
  clear hg0
  have HRL := Lib.hid (boL_length m l t)
  generalize hR : boL m l t = R at *
  generalize hN : boI m l t = N at *
  have hNN : (N != N) = false := by simp
  generalize hB : boB m l t = B at *
  have hBB : (B != B) = false := by simp
  go_wp2_with fail
  refine (eqIntS_same _ _ R _ (by with_reducible (repeat (first | exact sl_of_own intC_length HGG.out | refine World.sl_ext intC_length ?_ _ | refine sl_alloc intC_length ?_ _ | refine sl_drew ?_))) (sl_up intC_length (sl_of_own intC_length HW.out) (by repeat (first | with_reducible (first | exact World.gained_refl _ | exact ⟨_, rfl⟩ | apply gain_ext | apply gain_alloc | apply gain_drewN | apply gain_drew) | (refine gain_setCell ?_ (by first | exact Nat.le_refl _ | exact World.size_ext _ _ | (simp; done) | (simp; omega)) _)))) HRL.out).mono ?_
  rintro e w1 ⟨rfl, d10, rfl⟩
  go_upto_region 17 with fail
  go_region_held (fun w' => w'.cell? ⟨w.heap.size, 0, none⟩ = some (.int .i64 m.wd) ∧ w'.cell? ⟨w.heap.size, 1, none⟩ = some (.int .i64 m.ht) ∧ w'.cell? ⟨w.heap.size, 2, none⟩ = some (.slice p1 m.rise.length c1) ∧ w'.cell? ⟨w.heap.size, 3, none⟩ = some (.slice p2 m.cost.length c2) ∧ w'.cell? ⟨XB, 0, none⟩ = some (.int .i64 m.wd) ∧ w'.cell? ⟨XB, 1, none⟩ = some (.int .i64 m.ht) ∧ w'.cell? ⟨XB, 2, none⟩ = some (.slice px1 m.rise.length cx1) ∧ w'.cell? ⟨XB, 3, none⟩ = some (.slice px2 m.cost.length cx2)) (refine ⟨?_, ?_, ?_, ?_, ?_, ?_, ?_, ?_⟩ <;> (with_reducible (repeat (first | assumption | refine cell_ext ?_ _ | refine cell_drew ?_ | refine cell_alloc ?_ _)))) (first | (go_at_call 7; ((with_reducible refine (toMap_any m _ _ _ (mp_up (HM1.out) (by repeat (first | with_reducible (first | exact World.gained_refl _ | exact ⟨_, rfl⟩ | apply gain_ext | apply gain_alloc | apply gain_drewN | apply gain_drew) | (refine gain_setCell ?_ (by first | exact Nat.le_refl _ | exact World.size_ext _ _ | (simp; done) | (simp; omega)) _))))).mono ?_); rintro e w1 ⟨t1, t2, rfl, ⟨d11, rfl⟩, ht1, ht2, -⟩); have HT := Lib.hid (World.mp.mk (sl_of_own intC_length ht1) (sl_of_own intC_length ht2) HM1.out.rl HM1.out.cl); clear ht1 ht2) | (go_at_call 12; ((with_reducible refine (eqMap_same m _ _ _ _ _ (mp_up (World.mp.mk (sl_of_own intC_length HX1.out) (sl_of_own intC_length HX2.out) hm1 hm2) (by repeat (first | with_reducible (first | exact World.gained_refl _ | exact ⟨_, rfl⟩ | apply gain_ext | apply gain_alloc | apply gain_drewN | apply gain_drew) | (refine gain_setCell ?_ (by first | exact Nat.le_refl _ | exact World.size_ext _ _ | (simp; done) | (simp; omega)) _)))) (mp_up (HT.out) (by repeat (first | with_reducible (first | exact World.gained_refl _ | exact ⟨_, rfl⟩ | apply gain_ext | apply gain_alloc | apply gain_drewN | apply gain_drew) | (refine gain_setCell ?_ (by first | exact Nat.le_refl _ | exact World.size_ext _ _ | (simp; done) | (simp; omega)) _))))).mono ?_); rintro e w1 ⟨rfl, d12, rfl⟩)))
  go_wp2_with fail
  refine (toControlS_any _ l _ (by with_reducible (repeat (first | exact H31.out | refine World.sl_ext Ctl.cells_length ?_ _ | refine sl_alloc Ctl.cells_length ?_ _ | refine sl_drew ?_))) hl3).mono ?_
  rintro e w1 ⟨t3, rfl, ⟨d13, rfl⟩, ht3⟩
  go_wp2_with fail
  refine (eqControlS_same _ _ l _ (sl_up Ctl.cells_length (sl_of_own Ctl.cells_length HX3.out) (by repeat (first | with_reducible (first | exact World.gained_refl _ | exact ⟨_, rfl⟩ | apply gain_ext | apply gain_alloc | apply gain_drewN | apply gain_drew) | (refine gain_setCell ?_ (by first | exact Nat.le_refl _ | exact World.size_ext _ _ | (simp; done) | (simp; omega)) _)))) (by with_reducible (repeat (first | exact sl_of_own Ctl.cells_length ht3 | refine World.sl_ext Ctl.cells_length ?_ _ | refine sl_alloc Ctl.cells_length ?_ _ | refine sl_drew ?_))) hl3).mono ?_
  rintro e w1 ⟨rfl, d14, rfl⟩
  clear ht3
  go_wp2_with fail
  refine (toIntS_any _ t _ (by with_reducible (repeat (first | exact H41.out | refine World.sl_ext intC_length ?_ _ | refine sl_alloc intC_length ?_ _ | refine sl_drew ?_))) hl4).mono ?_
  rintro e w1 ⟨t4, rfl, ⟨d15, rfl⟩, ht4⟩
  go_wp2_with fail
  refine (eqIntS_same _ _ t _ (sl_up intC_length (sl_of_own intC_length HX4.out) (by repeat (first | with_reducible (first | exact World.gained_refl _ | exact ⟨_, rfl⟩ | apply gain_ext | apply gain_alloc | apply gain_drewN | apply gain_drew) | (refine gain_setCell ?_ (by first | exact Nat.le_refl _ | exact World.size_ext _ _ | (simp; done) | (simp; omega)) _)))) (by with_reducible (repeat (first | exact sl_of_own intC_length ht4 | refine World.sl_ext intC_length ?_ _ | refine sl_alloc intC_length ?_ _ | refine sl_drew ?_))) hl4).mono ?_
  rintro e w1 ⟨rfl, d16, rfl⟩
  clear ht4
  go_wp2_with fail
  refine (markMap_any W0 m _ _ _ W0.heap.size 1 (by omega) (by omega) hm1 hm2 (own_up HX1.out (by repeat (first | with_reducible (first | exact World.gained_refl _ | exact ⟨_, rfl⟩ | apply gain_ext | apply gain_alloc | apply gain_drewN | apply gain_drew) | (refine gain_setCell ?_ (by first | exact Nat.le_refl _ | exact World.size_ext _ _ | (simp; done) | (simp; omega)) _)))) (own_up HX2.out (by repeat (first | with_reducible (first | exact World.gained_refl _ | exact ⟨_, rfl⟩ | apply gain_ext | apply gain_alloc | apply gain_drewN | apply gain_drew) | (refine gain_setCell ?_ (by first | exact Nat.le_refl _ | exact World.size_ext _ _ | (simp; done) | (simp; omega)) _)))) A12.out (gain_trans HG1.out (by repeat (first | with_reducible (first | exact World.gained_refl _ | exact ⟨_, rfl⟩ | apply gain_ext | apply gain_alloc | apply gain_drewN | apply gain_drew) | (refine gain_setCell ?_ (by first | exact Nat.le_refl _ | exact World.size_ext _ _ | (simp; done) | (simp; omega)) _)))) (Nat.le_refl _)).mono ?_
  rintro e w1 ⟨rfl, ⟨V, g1, g2⟩, d17, rfl⟩
  replace HW := Lib.hid (own_mark (own_mark (own_up HW.out (by repeat (first | with_reducible (first | exact World.gained_refl _ | exact ⟨_, rfl⟩ | apply gain_ext | apply gain_alloc | apply gain_drewN | apply gain_drew) | (refine gain_setCell ?_ (by first | exact Nat.le_refl _ | exact World.size_ext _ _ | (simp; done) | (simp; omega)) _)))) g1 AW1.out) g2 AW2.out)
  replace HX3 := Lib.hid (own_mark (own_mark (own_up HX3.out (by repeat (first | with_reducible (first | exact World.gained_refl _ | exact ⟨_, rfl⟩ | apply gain_ext | apply gain_alloc | apply gain_drewN | apply gain_drew) | (refine gain_setCell ?_ (by first | exact Nat.le_refl _ | exact World.size_ext _ _ | (simp; done) | (simp; omega)) _)))) g1 A13.out.symm) g2 A23.out.symm)
  replace HX4 := Lib.hid (own_mark (own_mark (own_up HX4.out (by repeat (first | with_reducible (first | exact World.gained_refl _ | exact ⟨_, rfl⟩ | apply gain_ext | apply gain_alloc | apply gain_drewN | apply gain_drew) | (refine gain_setCell ?_ (by first | exact Nat.le_refl _ | exact World.size_ext _ _ | (simp; done) | (simp; omega)) _)))) g1 A14.out.symm) g2 A24.out.symm)
  replace HGG := Lib.hid (own_mark (own_mark (own_up HGG.out (by repeat (first | with_reducible (first | exact World.gained_refl _ | exact ⟨_, rfl⟩ | apply gain_ext | apply gain_alloc | apply gain_drewN | apply gain_drew) | (refine gain_setCell ?_ (by first | exact Nat.le_refl _ | exact World.size_ext _ _ | (simp; done) | (simp; omega)) _)))) g1 A1G.out.symm) g2 A2G.out.symm)
  clear g1 g2 HX1 HX2 A12 A13 A23 A14 A24 A1G A2G AW1 AW2 a0 a1 a2 a3 b0 b1 b2 b3 oba obb HM1 H31 H41 HT
  go_wp2_with fail
  refine (markControlS_any W0 _ _ l _ W0.heap.size _ (by omega) (by omega) hl3 rfl (own_up HX3.out (by repeat (first | with_reducible (first | exact World.gained_refl _ | exact ⟨_, rfl⟩ | apply gain_ext | apply gain_alloc | apply gain_drewN | apply gain_drew) | (refine gain_setCell ?_ (by first | exact Nat.le_refl _ | exact World.size_ext _ _ | (simp; done) | (simp; omega)) _)))) (by repeat (first | with_reducible (first | exact World.gained_refl _ | exact ⟨_, rfl⟩ | apply gain_ext | apply gain_alloc | apply gain_drewN | apply gain_drew) | (refine gain_setCell ?_ (by first | exact Nat.le_refl _ | exact World.size_ext _ _ | (simp; done) | (simp; omega)) _))) (Nat.le_refl _)).mono ?_
  rintro e w1 ⟨rfl, -, g3, d18, rfl⟩
  replace HW := Lib.hid (own_mark (own_up HW.out (by repeat (first | with_reducible (first | exact World.gained_refl _ | exact ⟨_, rfl⟩ | apply gain_ext | apply gain_alloc | apply gain_drewN | apply gain_drew) | (refine gain_setCell ?_ (by first | exact Nat.le_refl _ | exact World.size_ext _ _ | (simp; done) | (simp; omega)) _)))) g3 AW3.out)
  replace HX4 := Lib.hid (own_mark (own_up HX4.out (by repeat (first | with_reducible (first | exact World.gained_refl _ | exact ⟨_, rfl⟩ | apply gain_ext | apply gain_alloc | apply gain_drewN | apply gain_drew) | (refine gain_setCell ?_ (by first | exact Nat.le_refl _ | exact World.size_ext _ _ | (simp; done) | (simp; omega)) _)))) g3 A34.out.symm)
  replace HGG := Lib.hid (own_mark (own_up HGG.out (by repeat (first | with_reducible (first | exact World.gained_refl _ | exact ⟨_, rfl⟩ | apply gain_ext | apply gain_alloc | apply gain_drewN | apply gain_drew) | (refine gain_setCell ?_ (by first | exact Nat.le_refl _ | exact World.size_ext _ _ | (simp; done) | (simp; omega)) _)))) g3 A3G.out.symm)
  clear g3 HX3 A34 A3G AW3
  go_wp2_with fail
  refine (markIntS_any W0 _ _ t _ W0.heap.size _ (by omega) (by omega) hl4 rfl (own_up HX4.out (by repeat (first | with_reducible (first | exact World.gained_refl _ | exact ⟨_, rfl⟩ | apply gain_ext | apply gain_alloc | apply gain_drewN | apply gain_drew) | (refine gain_setCell ?_ (by first | exact Nat.le_refl _ | exact World.size_ext _ _ | (simp; done) | (simp; omega)) _)))) (by repeat (first | with_reducible (first | exact World.gained_refl _ | exact ⟨_, rfl⟩ | apply gain_ext | apply gain_alloc | apply gain_drewN | apply gain_drew) | (refine gain_setCell ?_ (by first | exact Nat.le_refl _ | exact World.size_ext _ _ | (simp; done) | (simp; omega)) _))) (Nat.le_refl _)).mono ?_
  rintro e w1 ⟨rfl, -, g4, d19, rfl⟩
  replace HW := Lib.hid (own_mark (own_up HW.out (by repeat (first | with_reducible (first | exact World.gained_refl _ | exact ⟨_, rfl⟩ | apply gain_ext | apply gain_alloc | apply gain_drewN | apply gain_drew) | (refine gain_setCell ?_ (by first | exact Nat.le_refl _ | exact World.size_ext _ _ | (simp; done) | (simp; omega)) _)))) g4 AW4.out)
  replace HGG := Lib.hid (own_mark (own_up HGG.out (by repeat (first | with_reducible (first | exact World.gained_refl _ | exact ⟨_, rfl⟩ | apply gain_ext | apply gain_alloc | apply gain_drewN | apply gain_drew) | (refine gain_setCell ?_ (by first | exact Nat.le_refl _ | exact World.size_ext _ _ | (simp; done) | (simp; omega)) _)))) g4 A4G.out.symm)
  clear g4 HX4 A4G AW4
  go_wp2_with fail
  refine (eqIntS_same _ _ R _ (by with_reducible (repeat (first | exact sl_of_own intC_length HGG.out | refine World.sl_ext intC_length ?_ _ | refine sl_alloc intC_length ?_ _ | refine sl_drew ?_))) (by with_reducible (repeat (first | exact sl_of_own intC_length HW.out | refine World.sl_ext intC_length ?_ _ | refine sl_alloc intC_length ?_ _ | refine sl_drew ?_))) HRL.out).mono ?_
  rintro e w1 ⟨rfl, d20, rfl⟩
  go_wp2_with fail
  refine (markIntS_any W0 _ _ R _ W0.heap.size 1 (by omega) (by omega) HRL.out rfl (own_up HGG.out (by repeat (first | with_reducible (first | exact World.gained_refl _ | exact ⟨_, rfl⟩ | apply gain_ext | apply gain_alloc | apply gain_drewN | apply gain_drew) | (refine gain_setCell ?_ (by first | exact Nat.le_refl _ | exact World.size_ext _ _ | (simp; done) | (simp; omega)) _)))) (by repeat (first | with_reducible (first | exact World.gained_refl _ | exact ⟨_, rfl⟩ | apply gain_ext | apply gain_alloc | apply gain_drewN | apply gain_drew) | (refine gain_setCell ?_ (by first | exact Nat.le_refl _ | exact World.size_ext _ _ | (simp; done) | (simp; omega)) _))) (Nat.le_refl _)).mono ?_
  rintro e w1 ⟨rfl, hm, g5, d21, rfl⟩
  replace HW := Lib.hid (own_mark (own_up HW.out (by repeat (first | with_reducible (first | exact World.gained_refl _ | exact ⟨_, rfl⟩ | apply gain_ext | apply gain_alloc | apply gain_drewN | apply gain_drew) | (refine gain_setCell ?_ (by first | exact Nat.le_refl _ | exact World.size_ext _ _ | (simp; done) | (simp; omega)) _)))) g5 AWG.out)
  replace HGG := Lib.hid (sl_of_own intC_length hm)
  clear hm g5 AWG
  go_wp2_with fail
  refine (heldIntS_any _ _ _ 1 (by omega) (by omega) HRL.out (by with_reducible (repeat (first | exact HGG.out | refine World.sl_ext intC_length ?_ _ | refine sl_alloc intC_length ?_ _ | refine sl_drew ?_)))).mono ?_
  rintro e w1 ⟨rfl, d22, rfl⟩
  go_wp2_with fail
  refine (toMap_any m _ _ _ (mp_up (HM.out) (by repeat (first | with_reducible (first | exact World.gained_refl _ | exact ⟨_, rfl⟩ | apply gain_ext | apply gain_alloc | apply gain_drewN | apply gain_drew) | (refine gain_setCell ?_ (by first | exact Nat.le_refl _ | exact World.size_ext _ _ | (simp; done) | (simp; omega)) _))))).mono ?_
  rintro e w1 ⟨y1, y2, rfl, ⟨d23, rfl⟩, hy1, hy2, -⟩
  have HY := Lib.hid (World.mp.mk (sl_of_own intC_length hy1) (sl_of_own intC_length hy2) hm1 hm2)
  clear hy1 hy2
  go_wp2_with fail
  refine (toControlS_any _ l _ (by with_reducible (repeat (first | exact H3.out | refine World.sl_ext Ctl.cells_length ?_ _ | refine sl_alloc Ctl.cells_length ?_ _ | refine sl_drew ?_))) hl3).mono ?_
  rintro e w1 ⟨y3, rfl, ⟨d24, rfl⟩, hy3⟩
  have HY3 := Lib.hid (sl_of_own Ctl.cells_length hy3)
  clear hy3
  go_wp2_with fail
  refine (toIntS_any _ t _ (by with_reducible (repeat (first | exact H4.out | refine World.sl_ext intC_length ?_ _ | refine sl_alloc intC_length ?_ _ | refine sl_drew ?_))) hl4).mono ?_
  rintro e w1 ⟨y4, rfl, ⟨d25, rfl⟩, hy4⟩
  have HY4 := Lib.hid (sl_of_own intC_length hy4)
  clear hy4
  go_wp2_with fail
  refine (implBestOrder_any m _ _ _ _ l t _ (mp_up (HY.out) (by repeat (first | with_reducible (first | exact World.gained_refl _ | exact ⟨_, rfl⟩ | apply gain_ext | apply gain_alloc | apply gain_drewN | apply gain_drew) | (refine gain_setCell ?_ (by first | exact Nat.le_refl _ | exact World.size_ext _ _ | (simp; done) | (simp; omega)) _)))) (by with_reducible (repeat (first | exact HY3.out | refine World.sl_ext Ctl.cells_length ?_ _ | refine sl_alloc Ctl.cells_length ?_ _ | refine sl_drew ?_))) hl3 (by with_reducible (repeat (first | exact HY4.out | refine World.sl_ext intC_length ?_ _ | refine sl_alloc intC_length ?_ _ | refine sl_drew ?_))) hl4).mono ?_
  rintro e w1 ⟨k0, rfl, ⟨d26, rfl⟩, hk0⟩
  rw [hR] at hk0
  rw [hN, hB]
  have HK := Lib.hid (sl_of_own intC_length hk0)
  clear hk0 HY HY3 HY4
  go_wp2_with fail
  refine (eqIntS_same _ _ R _ (by with_reducible (repeat (first | exact HK.out | refine World.sl_ext intC_length ?_ _ | refine sl_alloc intC_length ?_ _ | refine sl_drew ?_))) (by with_reducible (repeat (first | exact sl_of_own intC_length HW.out | refine World.sl_ext intC_length ?_ _ | refine sl_alloc intC_length ?_ _ | refine sl_drew ?_))) HRL.out).mono ?_
  rintro e w1 ⟨rfl, d27, rfl⟩
  go_wp2_with fail
  refine (heldIntS_any _ _ _ 1 (by omega) (by omega) HRL.out (by with_reducible (repeat (first | exact HGG.out | refine World.sl_ext intC_length ?_ _ | refine sl_alloc intC_length ?_ _ | refine sl_drew ?_)))).mono ?_
  rintro e w1 ⟨rfl, d28, rfl⟩
  go_wp2
  go_ret
  exact ⟨rfl, gain_trans HG.out (by repeat (first | with_reducible (first | exact World.gained_refl _ | exact ⟨_, rfl⟩ | apply gain_ext | apply gain_alloc | apply gain_drewN | apply gain_drew) | (refine gain_setCell ?_ (by first | exact Nat.le_refl _ | exact World.size_ext _ _ | (simp; done) | (simp; omega)) _)))⟩
set_option maxRecDepth 100000 in
theorem fnExactBestOrder_lifted (os : Os) (started : os.Started) (H : Type) (enc : TypeId × Value → H) :
    ReturnsInHanded {} Try.checked os 3 .any (Rows.fnExactBestOrderSpec.pre6 enc Try.prog Try.f3 Rows.fnExactBestOrderRow.domain false) (Rows.fnExactBestOrderSpec.post enc Try.prog Try.f3 false true false false) := by
  refine returnsInHanded_of_change (C := Try.checked) (by kernel_rfl) started (by kernel_rfl) Try.func3
    (ChangeSpec.witness6 (enc := enc) (C := Try.checked) false ⟨#[], #[.agg #[.int .i64 0, .int .i64 0, .slice none 0 0, .slice none 0 0], .slice none 0 0, .slice none 0 0], []⟩ 8 (by kernel_rfl) (by kernel_rfl) (by kernel_rfl) (by kernel_rfl)) ?_
  intro W base args ds gs before hval0 hW _ _
  have hval : ∀ (j : Nat) t v, Try.f3.params[j]? = some t → args[j]? = some v → Value.okWide Try.prog W .any base t v := hval0
  clear hval0
  have laidOut : laidOutB Try.prog = true := by as_aux_lemma => kernel_rfl
  have hWc := hW
  obtain ⟨p, q, hA0, hV, rfl, _, _⟩ := hWc
  have hA : DataW.TrodAll enc Try.prog W 0 (fun _ => true) true Try.f3.params.toList args.toList ds p := hA0
  clear hA0
  rw [Try.params3] at hA hval
  obtain ⟨v0, vs0, d0, ds0, p0, q0, hargs, rfl, rfl, h0, r0⟩ := trodAll_cons hA
  obtain ⟨v1, vs1, d1, ds1, p1, q1, rfl, rfl, rfl, h1, r1⟩ := trodAll_cons r0
  obtain ⟨v2, vs2, d2, ds2, p2, q2, rfl, rfl, rfl, h2, r2⟩ := trodAll_cons r1
  obtain ⟨rfl, rfl, rfl⟩ := trodAll_nil r2
  obtain rfl : args = #[v0, v1, v2] := by cases args; simp_all
  obtain ⟨rfl, rfl⟩ := trodVars_none hV
  obtain ⟨m, rv, cv, rfl, g1, g2, g3, g4⟩ := read_Map (hval 0 24 v0 rfl rfl) h0
  obtain ⟨l1, hs1, hm1⟩ := read_Ctls (hval 1 25 v1 rfl rfl) h1
  obtain ⟨l2, hs2, hm2⟩ := read_Ints (hval 2 22 v2 rfl rfl) h2
  refine (fnExactBestOrder_walk m rv cv v1 v2 l1 l2 W g1 g2 g3 g4 hs1 hm1 hs2 hm2).mono fun e W1 ⟨he, hg⟩ => ?_
  subst he
  exact ⟨_, rfl, law_post (tb := 4) laidOut (by kernel_rfl) hW rfl rfl (by kernel_rfl) Try.underlying4 hg⟩
theorem fnExactBestOrder_holds : Rows.FnExactBestOrderSaid :=
  OpenClaim.holds_of_wide 3 Try.f3 rfl rfl rfl rfl rfl rfl rfl ⟨rfl, rfl, rfl, rfl, rfl⟩ rfl rfl rfl rfl rfl (by kernel_rfl) Try.func3 (by kernel_rfl)
    (of_decide_eq_true (by kernel_rfl)) (by unfold Func.isWrapper; first | (rw [if_pos (by decide +kernel)]; kernel_rfl) | (rw [if_neg (by decide +kernel)]; exact ⟨rfl, rfl⟩))
    (fun os started H enc _ => fnExactBestOrder_lifted os started H enc)
#print axioms fnExactBestOrder_holds
end Go.Proofs.Ytmcimgnobimicaa
