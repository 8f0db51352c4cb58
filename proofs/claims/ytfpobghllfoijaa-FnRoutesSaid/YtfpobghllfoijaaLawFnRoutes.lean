/- FnRoutes returns true for every argument. No condition. -/
import Derived.Test.YtfpobghllfoijaaDrawRt
import Derived.Test.YtfpobghllfoijaaRouteB
import Derived.Test.YtfpobghllfoijaaRouteS
import Derived.Test.YtfpobghllfoijaaRouteD
import Derived.Test.YtfpobghllfoijaaPBest
import Derived.Test.YtfpobghllfoijaaVLaws
import Derived.Test.YtfpobghllfoijaaRdBytes
import Derived.Deep.DeepCutAuto
namespace Go.Proofs.Ytfpobghllfoijaa
open Go.ChangeShapes Go.WideShapes Go.ChangeAt Go.RowKit Go.Ori
set_option maxRecDepth 100000 in
set_option maxHeartbeats 8000000 in
theorem fnRoutes_walk (v : Value) (L : List Int) (w : World) (h : w.sl byteC 1 v L) (hq : ∀ x ∈ L, 0 ≤ x ∧ x ≤ 255) (hn : L.length ≤ 9223372036854775807) :
    Calls Try.prog 3 #[v] w fun x w' => x = .returned (.bool true) ∧ ∃ d, w' = w.ext d := by
  have hs := Lib.hid h
  have HQ := Lib.hid hq
  obtain ⟨p, c, rfl, _⟩ := h
  clear hq
  by_cases hbig : 65536 < L.length
  · have hbb : decide (65536 < L.length) = true := decide_eq_true hbig
    go_enter Try.func3, Try.ntmps3
    go_wp2_with (go_at_call 4; refine (vBig_any _ _ _ _ hn).mono ?_; rw [hbb]; rintro e w1 ⟨rfl, rfl⟩)
    go_ret
    exact ⟨rfl, (by repeat (first | with_reducible (first | exact World.gained_refl _ | exact ⟨_, rfl⟩ | apply gain_ext | apply gain_alloc | apply gain_drewN | apply gain_drew) | (refine gain_setCell ?_ (by first | exact Nat.le_refl _ | exact World.size_ext _ _ | (simp; done) | (simp; omega)) _)))⟩
  have hbb : decide (65536 < L.length) = false := decide_eq_false hbig
  have hl : L.length ≤ 1048576 := by omega
  go_enter Try.func3, Try.ntmps3
  go_wp2_with (go_at_call 4; refine (vBig_any _ _ _ _ hn).mono ?_; rw [hbb]; rintro e w1 ⟨rfl, rfl⟩)
  refine (drawBest_any _ L _ hs.out HQ.out hl).mono ?_
  rintro e w1 ⟨m, rv, cv, a, b, rfl, ⟨d1, rfl⟩, ho1, ho2, hrl, hcl⟩
  obtain ⟨p1, c1, rfl, _⟩ := sl_of_own intC_length ho1
  obtain ⟨p2, c2, rfl, _⟩ := sl_of_own intC_length ho2
  have HM : Hid (World.mp (w.ext d1) (.slice p1 m.rise.length c1) (.slice p2 m.cost.length c2) m) := Lib.hid ⟨sl_of_own intC_length ho1, sl_of_own intC_length ho2, hrl, hcl⟩
  clear ho1 ho2
  go_wp2_with fail
  generalize hW0 : (w.ext d1).alloc (.cells #[.int .i64 m.wd, .int .i64 m.ht, .slice p1 m.rise.length c1, .slice p2 m.cost.length c2] 26) = W0
  have hbx : MBox (w.ext d1) W0 (w.ext d1).heap.size m (.slice p1 m.rise.length c1) (.slice p2 m.cost.length c2) := by rw [← hW0]; exact mbox
  have HGW : ∃ d, W0 = w.ext d := gain_trans (by repeat (first | with_reducible (first | exact World.gained_refl _ | exact ⟨_, rfl⟩ | apply gain_ext | apply gain_alloc | apply gain_drewN | apply gain_drew) | (refine gain_setCell ?_ (by first | exact Nat.le_refl _ | exact World.size_ext _ _ | (simp; done) | (simp; omega)) _))) hbx.up
  have HM0 := Lib.hid (mp_up HM.out hbx.up)
  skip
  have bx0 := hbx.c0
  have bx1 := hbx.c1
  have bx2 := hbx.c2
  have bx3 := hbx.c3
  have obx := hbx.ob
  generalize (w.ext d1).heap.size = gB at bx0 bx1 bx2 bx3 obx ⊢
  clear hW0 hbx HM
  obtain ⟨dz, rfl⟩ := HGW
  refine (bestRouteF_any m _ _ a b _ (mp_up (HM0.out) (by repeat (first | with_reducible (first | exact World.gained_refl _ | exact ⟨_, rfl⟩ | apply gain_ext | apply gain_alloc | apply gain_drewN | apply gain_drew) | (refine gain_setCell ?_ (by first | exact Nat.le_refl _ | exact World.size_ext _ _ | (simp; done) | (simp; omega)) _))))).mono ?_
  rintro e w1 ⟨r1, rfl, ⟨d2, rfl⟩, o1⟩
  have O1 := Lib.hid (sl_of_own intC_length o1)
  clear o1
  obtain ⟨p3, c3, rfl, _⟩ := O1.out
  go_wp2_with fail
  refine (specBestRoute_any m _ _ a b _ (mp_up (HM0.out) (by repeat (first | with_reducible (first | exact World.gained_refl _ | exact ⟨_, rfl⟩ | apply gain_ext | apply gain_alloc | apply gain_drewN | apply gain_drew) | (refine gain_setCell ?_ (by first | exact Nat.le_refl _ | exact World.size_ext _ _ | (simp; done) | (simp; omega)) _))))).mono ?_
  rintro e w1 ⟨r2, rfl, ⟨d3, rfl⟩, o2⟩
  have O2 := Lib.hid (sl_of_own intC_length o2)
  clear o2
  have HBL := Lib.hid (show (bestL m a b).length ≤ 1048576 from Nat.le_trans bestL_len (by omega))
  have HF := Lib.hid (fun (h : goB m a b = true) => best_facts h)
  have HL1 := Lib.hid (fun W hW => leastTimeF_any m (.slice p1 m.rise.length c1) (.slice p2 m.cost.length c2) a b W hW)
  have HL2 := Lib.hid (fun W hW => specLeastTime_any m (.slice p1 m.rise.length c1) (.slice p2 m.cost.length c2) a b W hW)
  generalize goB m a b = G at HF HL1 HL2 ⊢
  generalize leastI m a b = N at HF HL1 HL2
  generalize bestL m a b = R at O1 O2 HBL HF ⊢
  have hGG : (G != G) = false := by simp
  have hNN : (N != N) = false := by simp
  go_upto_if 104 with (first | (go_at_call 8; refine (vInts_same _ _ R _ (by with_reducible (repeat (first | exact O1.out | refine World.sl_ext intC_length ?_ _ | refine sl_alloc intC_length ?_ _ | refine sl_drew ?_))) (by with_reducible (repeat (first | exact O2.out | refine World.sl_ext intC_length ?_ _ | refine sl_alloc intC_length ?_ _ | refine sl_drew ?_))) HBL.out).mono ?_; rintro e w1 ⟨rfl, d4, rfl⟩) | (go_at_call 9; refine (HL1.out _ (mp_up (HM0.out) (by repeat (first | with_reducible (first | exact World.gained_refl _ | exact ⟨_, rfl⟩ | apply gain_ext | apply gain_alloc | apply gain_drewN | apply gain_drew) | (refine gain_setCell ?_ (by first | exact Nat.le_refl _ | exact World.size_ext _ _ | (simp; done) | (simp; omega)) _))))).mono ?_; rintro e w1 ⟨rfl, d5, rfl⟩) | (go_at_call 10; refine (HL2.out _ (mp_up (HM0.out) (by repeat (first | with_reducible (first | exact World.gained_refl _ | exact ⟨_, rfl⟩ | apply gain_ext | apply gain_alloc | apply gain_drewN | apply gain_drew) | (refine gain_setCell ?_ (by first | exact Nat.le_refl _ | exact World.size_ext _ _ | (simp; done) | (simp; omega)) _))))).mono ?_; rintro e w1 ⟨rfl, d6, rfl⟩))
  clear O2 HL1 HL2
  go_cut [7, 9, 11, 13] (fun _ _ _ _ wx => ∃ d, wx = w.ext d)
  case first =>
    cases G with
    | false =>
      go_wp2_with fail
      go_meet
      exact (by repeat (first | with_reducible (first | exact World.gained_refl _ | exact ⟨_, rfl⟩ | apply gain_ext | apply gain_alloc | apply gain_drewN | apply gain_drew) | (refine gain_setCell ?_ (by first | exact Nat.le_refl _ | exact World.size_ext _ _ | (simp; done) | (simp; omega)) _)))
    | true =>
      obtain ⟨f1, f2, f3, f4, f5, f6⟩ := HF.out rfl
      have H6 := Lib.hid f6
      have HRT := Lib.hid (fun W hW hu => by have := routeTime_any m (.slice p1 m.rise.length c1) (.slice p2 m.cost.length c2) (.slice p3 R.length c3) R W hW hu HBL.out; rw [f1, f2] at this; exact this)
      have HIR := Lib.hid (fun W hW hu => by have := isRouteF_any m (.slice p1 m.rise.length c1) (.slice p2 m.cost.length c2) (.slice p3 R.length c3) R W hW hu HBL.out; rw [f2, f3] at this; exact this)
      obtain ⟨K, hK⟩ : ∃ K : Nat, K = R.length / 2 := ⟨_, rfl⟩
      have hKq : (R.length : Int) / 2 = (K : Int) := by omega
      have hKt : Int.tdiv (R.length : Int) 2 = (K : Int) := by rw [Int.tdiv_eq_ediv_of_nonneg (by omega)]; exact hKq
      have hKl : K < R.length := by omega
      clear HF f1 f2 f3 f6 hK
      go_wp2_with fail
      refine (HRT.out _ (mp_up (HM0.out) (by repeat (first | with_reducible (first | exact World.gained_refl _ | exact ⟨_, rfl⟩ | apply gain_ext | apply gain_alloc | apply gain_drewN | apply gain_drew) | (refine gain_setCell ?_ (by first | exact Nat.le_refl _ | exact World.size_ext _ _ | (simp; done) | (simp; omega)) _)))) (by with_reducible (repeat (first | exact O1.out | refine World.sl_ext intC_length ?_ _ | refine sl_alloc intC_length ?_ _ | refine sl_drew ?_)))).mono ?_
      rintro e w1 ⟨rfl, d7, rfl⟩
      go_wp2_with fail
      refine (HIR.out _ (mp_up (HM0.out) (by repeat (first | with_reducible (first | exact World.gained_refl _ | exact ⟨_, rfl⟩ | apply gain_ext | apply gain_alloc | apply gain_drewN | apply gain_drew) | (refine gain_setCell ?_ (by first | exact Nat.le_refl _ | exact World.size_ext _ _ | (simp; done) | (simp; omega)) _)))) (by with_reducible (repeat (first | exact O1.out | refine World.sl_ext intC_length ?_ _ | refine sl_alloc intC_length ?_ _ | refine sl_drew ?_)))).mono ?_
      rintro e w1 ⟨rfl, d8, rfl⟩
      obtain ⟨b3, o3, rfl⟩ := sl_some O1.out f4
      have ck := sl_int O1.out hKl
      obtain ⟨g1, g2, g3, -, -, g4, g5⟩ := H6.out _ (List.getElem_mem hKl)
      generalize R[K] = x at ck g1 g2 g3 g4 g5
      have ob3 := World.oldB_of_cell ck
      have HX1 := Lib.hid (fun W hW => by have := leastTimeF_any m (.slice p1 m.rise.length c1) (.slice p2 m.cost.length c2) a x W hW; rw [g1] at this; exact this)
      have HX2 := Lib.hid (fun W hW => by have := leastTimeF_any m (.slice p1 m.rise.length c1) (.slice p2 m.cost.length c2) x b W hW; rw [g2] at this; exact this)
      generalize leastI m a x = X at HX1 g3 g4
      generalize leastI m x b = Y at HX2 g3 g5
      have hw : IntKind.i64.wrap (X + Y) = X + Y := IntWalk.i64_in _ (by omega)
      have hXY : (X + Y != N) = false := by simp [g3]
      clear g1 g2
      go_wp2
      refine wp_region_gain (by kernel_rfl) (by kernel_rfl) ?_
      repeat (first | go_big_quiet_skip | (go_big_quiet_want; go_big_quiet_op; first | go_big_quiet_on | ((apply Exists.intro); (refine ⟨fun _ => ?_, ?_⟩); (· (go_at_call 9; (first | ((with_reducible exact Calls.gain (HX1.out _ (mp_up (HM0.out) (by repeat (first | with_reducible (first | exact World.gained_refl _ | exact ⟨_, rfl⟩ | apply gain_ext | apply gain_alloc | apply gain_drewN | apply gain_drew) | (refine gain_setCell ?_ (by first | exact Nat.le_refl _ | exact World.size_ext _ _ | (simp; done) | (simp; omega)) _))))))) | ((with_reducible exact Calls.gain (HX2.out _ (mp_up (HM0.out) (by repeat (first | with_reducible (first | exact World.gained_refl _ | exact ⟨_, rfl⟩ | apply gain_ext | apply gain_alloc | apply gain_drewN | apply gain_drew) | (refine gain_setCell ?_ (by first | exact Nat.le_refl _ | exact World.size_ext _ _ | (simp; done) | (simp; omega)) _)))))))))); (go_big_quiet_on))))
      refine wpQuiet_nil ?_
      rintro _ ⟨d', rfl⟩
      go_wp2
      refine wp_region_gain (by kernel_rfl) (by kernel_rfl) ?_
      repeat (first | go_big_quiet_skip | (go_big_quiet_want; go_big_quiet_op; first | go_big_quiet_on | ((apply Exists.intro); (refine ⟨fun _ => ?_, ?_⟩); (· (go_at_call 9; (first | ((with_reducible exact Calls.gain (HX1.out _ (mp_up (HM0.out) (by repeat (first | with_reducible (first | exact World.gained_refl _ | exact ⟨_, rfl⟩ | apply gain_ext | apply gain_alloc | apply gain_drewN | apply gain_drew) | (refine gain_setCell ?_ (by first | exact Nat.le_refl _ | exact World.size_ext _ _ | (simp; done) | (simp; omega)) _))))))) | ((with_reducible exact Calls.gain (HX2.out _ (mp_up (HM0.out) (by repeat (first | with_reducible (first | exact World.gained_refl _ | exact ⟨_, rfl⟩ | apply gain_ext | apply gain_alloc | apply gain_drewN | apply gain_drew) | (refine gain_setCell ?_ (by first | exact Nat.le_refl _ | exact World.size_ext _ _ | (simp; done) | (simp; omega)) _)))))))))); (go_big_quiet_on))))
      refine wpQuiet_nil ?_
      rintro _ ⟨d', rfl⟩
      go_wp2
      clear ck ob3
      go_loopw [23] (fun i wr => ∃ k : Nat, k ≤ R.length ∧ i = .int .i64 k ∧ ∃ d, wr = ((w.ext dz).ext d2).ext d) (fun i _ => R.length - (intOf i).toNat)
      case atStart => exact ⟨0, by omega, rfl, (by repeat (first | with_reducible (first | exact World.gained_refl _ | exact ⟨_, rfl⟩ | apply gain_ext | apply gain_alloc | apply gain_drewN | apply gain_drew) | (refine gain_setCell ?_ (by first | exact Nat.le_refl _ | exact World.size_ext _ _ | (simp; done) | (simp; omega)) _)))⟩
      case round =>
        obtain ⟨k, hk, rfl, d, rfl⟩ := hrel
        by_cases hlt : k < R.length
        · have ck := sl_int O1.out hlt
          obtain ⟨-, -, -, g1, g2, -, -⟩ := H6.out _ (List.getElem_mem hlt)
          generalize R[k] = x at ck g1 g2
          have ob3 := World.oldB_of_cell ck
          have HCB := Lib.hid (fun W hW => by have := crossedBy_any m (.slice p1 m.rise.length c1) (.slice p2 m.cost.length c2) a b x W hW; rw [g1, g2] at this; exact this)
          clear g1 g2
          go_wp2
          refine wp_region_gain (by kernel_rfl) (by kernel_rfl) ?_
          repeat (first | go_big_quiet_skip | (go_big_quiet_want; go_big_quiet_op; first | go_big_quiet_on | ((apply Exists.intro); (refine ⟨fun _ => ?_, ?_⟩); (· (go_at_call 13; exact Calls.gain (HCB.out _ (mp_up (HM0.out) (by repeat (first | with_reducible (first | exact World.gained_refl _ | exact ⟨_, rfl⟩ | apply gain_ext | apply gain_alloc | apply gain_drewN | apply gain_drew) | (refine gain_setCell ?_ (by first | exact Nat.le_refl _ | exact World.size_ext _ _ | (simp; done) | (simp; omega)) _))))))); (go_big_quiet_on))))
          refine wpQuiet_nil ?_
          rintro _ ⟨d', rfl⟩
          go_wp2
          go_roundw
          case rel => exact ⟨k + 1, by omega, by go_num, (by repeat (first | with_reducible (first | exact World.gained_refl _ | exact ⟨_, rfl⟩ | apply gain_ext | apply gain_alloc | apply gain_drewN | apply gain_drew) | (refine gain_setCell ?_ (by first | exact Nat.le_refl _ | exact World.size_ext _ _ | (simp; done) | (simp; omega)) _)))⟩
          case measure => simp [intOf]; omega
        · go_wp2
          go_meet
          exact (by repeat (first | with_reducible (first | exact World.gained_refl _ | exact ⟨_, rfl⟩ | apply gain_ext | apply gain_alloc | apply gain_drewN | apply gain_drew) | (refine gain_setCell ?_ (by first | exact Nat.le_refl _ | exact World.size_ext _ _ | (simp; done) | (simp; omega)) _)))
  obtain ⟨dB, rfl⟩ := hcut
  clear HM0 O1 HBL HF hGG hNN bx0 bx1 bx2 bx3 obx hrl hcl
  go_wp2_with fail
  refine (drawRouteTime_any _ L _ (by with_reducible (repeat (first | exact hs.out | refine World.sl_ext byteC_length ?_ _ | refine sl_alloc byteC_length ?_ _ | refine sl_drew ?_))) HQ.out hl).mono ?_
  rintro e w1 ⟨m, rv, cv, v0, l0, rfl, ⟨d1, rfl⟩, ho1, ho2, hrl, hcl, ho3, hl0⟩
  obtain ⟨p1, c1, rfl, _⟩ := sl_of_own intC_length ho1
  obtain ⟨p2, c2, rfl, _⟩ := sl_of_own intC_length ho2
  have HM : Hid (World.mp ((w.ext dB).ext d1) (.slice p1 m.rise.length c1) (.slice p2 m.cost.length c2) m) := Lib.hid ⟨sl_of_own intC_length ho1, sl_of_own intC_length ho2, hrl, hcl⟩
  clear ho1 ho2
  obtain ⟨p3, c3, rfl, _⟩ := sl_of_own intC_length ho3
  have HT := Lib.hid (sl_of_own intC_length ho3)
  have hl0 : l0.length ≤ 1048576 := by omega
  clear ho3
  go_wp2_with fail
  generalize hW0 : ((w.ext dB).ext d1).alloc (.cells #[.int .i64 m.wd, .int .i64 m.ht, .slice p1 m.rise.length c1, .slice p2 m.cost.length c2] 26) = W0
  have hbx : MBox ((w.ext dB).ext d1) W0 ((w.ext dB).ext d1).heap.size m (.slice p1 m.rise.length c1) (.slice p2 m.cost.length c2) := by rw [← hW0]; exact mbox
  have HGW : ∃ d, W0 = w.ext d := gain_trans (by repeat (first | with_reducible (first | exact World.gained_refl _ | exact ⟨_, rfl⟩ | apply gain_ext | apply gain_alloc | apply gain_drewN | apply gain_drew) | (refine gain_setCell ?_ (by first | exact Nat.le_refl _ | exact World.size_ext _ _ | (simp; done) | (simp; omega)) _))) hbx.up
  have HM0 := Lib.hid (mp_up HM.out hbx.up)
  replace HT := Lib.hid (sl_up intC_length HT.out hbx.up)
  have bx0 := hbx.c0
  have bx1 := hbx.c1
  have bx2 := hbx.c2
  have bx3 := hbx.c3
  have obx := hbx.ob
  generalize ((w.ext dB).ext d1).heap.size = gB at bx0 bx1 bx2 bx3 obx ⊢
  clear hW0 hbx HM
  obtain ⟨dz, rfl⟩ := HGW
  refine (routeTime_any m _ _ _ l0 _ (mp_up (HM0.out) (by repeat (first | with_reducible (first | exact World.gained_refl _ | exact ⟨_, rfl⟩ | apply gain_ext | apply gain_alloc | apply gain_drewN | apply gain_drew) | (refine gain_setCell ?_ (by first | exact Nat.le_refl _ | exact World.size_ext _ _ | (simp; done) | (simp; omega)) _)))) (by with_reducible (repeat (first | exact HT.out | refine World.sl_ext intC_length ?_ _ | refine sl_alloc intC_length ?_ _ | refine sl_drew ?_))) hl0).mono ?_
  rintro e w1 ⟨rfl, d2, rfl⟩
  go_wp2_with fail
  refine (specRouteTime_any m _ _ _ l0 _ (mp_up (HM0.out) (by repeat (first | with_reducible (first | exact World.gained_refl _ | exact ⟨_, rfl⟩ | apply gain_ext | apply gain_alloc | apply gain_drewN | apply gain_drew) | (refine gain_setCell ?_ (by first | exact Nat.le_refl _ | exact World.size_ext _ _ | (simp; done) | (simp; omega)) _)))) (by with_reducible (repeat (first | exact HT.out | refine World.sl_ext intC_length ?_ _ | refine sl_alloc intC_length ?_ _ | refine sl_drew ?_))) hl0).mono ?_
  rintro e w1 ⟨rfl, d3, rfl⟩
  have HF := Lib.hid (fun (h : routeB m l0 = true) => And.intro (route_pos h) (fun h0 => short_facts h h0))
  generalize routeB m l0 = G at HF ⊢
  generalize rtimeI m l0 = N at HF ⊢
  have hGG : (G != G) = false := by simp
  have hNN : (N != N) = false := by simp
  go_upto_if 218 with fail
  go_cut [29, 31] (fun _ _ wx => ∃ d, wx = w.ext d)
  case first =>
    cases G with
    | false =>
      go_wp2_with fail
      go_meet
      exact (by repeat (first | with_reducible (first | exact World.gained_refl _ | exact ⟨_, rfl⟩ | apply gain_ext | apply gain_alloc | apply gain_drewN | apply gain_drew) | (refine gain_setCell ?_ (by first | exact Nat.le_refl _ | exact World.size_ext _ _ | (simp; done) | (simp; omega)) _)))
    | true =>
      obtain ⟨f1, f2⟩ := HF.out rfl
      obtain ⟨f3, f4⟩ := f2 f1
      obtain ⟨b3, o3, rfl⟩ := sl_some HT.out f1
      have c0 := sl_int HT.out f1
      have cl := sl_int HT.out (k := l0.length - 1) (by omega)
      rw [Nat.add_zero] at c0
      have ob3 := World.oldB_of_cell c0
      have hw1 : IntKind.i64.wrap ((l0.length : Int) - 1) = (l0.length : Int) - 1 := IntWalk.i64_in _ (by omega)
      have hw2 : ((l0.length : Int) - 1).toNat = l0.length - 1 := by omega
      have hw3 : (1 : Int) ≤ (l0.length : Int) := by omega
      clear HF f2
      generalize l0[0] = x at c0 f3 f4
      generalize l0[l0.length - 1]'(by omega) = y at cl f3 f4
      have HX := Lib.hid (fun W hW => by have := leastTimeF_any m (.slice p1 m.rise.length c1) (.slice p2 m.cost.length c2) x y W hW; rw [f3] at this; exact this)
      generalize leastI m x y = X at HX f4
      have hXN : decide (N < X) = false := decide_eq_false (by omega)
      clear f3 f4
      go_wp2
      refine wp_region_gain (by kernel_rfl) (by kernel_rfl) ?_
      repeat (first | go_big_quiet_skip | (go_big_quiet_want; go_big_quiet_op; first | go_big_quiet_on | ((apply Exists.intro); (refine ⟨fun _ => ?_, ?_⟩); (· (go_at_call 9; exact Calls.gain (HX.out _ (mp_up (HM0.out) (by repeat (first | with_reducible (first | exact World.gained_refl _ | exact ⟨_, rfl⟩ | apply gain_ext | apply gain_alloc | apply gain_drewN | apply gain_drew) | (refine gain_setCell ?_ (by first | exact Nat.le_refl _ | exact World.size_ext _ _ | (simp; done) | (simp; omega)) _))))))); (go_big_quiet_on))))
      refine wpQuiet_nil ?_
      rintro _ ⟨d', rfl⟩
      go_wp2
      go_meet
      exact (by repeat (first | with_reducible (first | exact World.gained_refl _ | exact ⟨_, rfl⟩ | apply gain_ext | apply gain_alloc | apply gain_drewN | apply gain_drew) | (refine gain_setCell ?_ (by first | exact Nat.le_refl _ | exact World.size_ext _ _ | (simp; done) | (simp; omega)) _)))
  obtain ⟨dC, rfl⟩ := hcut
  clear HM0 HT HF hGG hNN bx0 bx1 bx2 bx3 obx hrl hcl hl0
  go_wp2_with fail
  refine (drawIsRoute_any _ L _ (by with_reducible (repeat (first | exact hs.out | refine World.sl_ext byteC_length ?_ _ | refine sl_alloc byteC_length ?_ _ | refine sl_drew ?_))) HQ.out hl).mono ?_
  rintro e w1 ⟨m, rv, cv, v0, l0, rfl, ⟨d1, rfl⟩, ho1, ho2, hrl, hcl, ho3, hl0⟩
  obtain ⟨p1, c1, rfl, _⟩ := sl_of_own intC_length ho1
  obtain ⟨p2, c2, rfl, _⟩ := sl_of_own intC_length ho2
  have HM : Hid (World.mp ((w.ext dC).ext d1) (.slice p1 m.rise.length c1) (.slice p2 m.cost.length c2) m) := Lib.hid ⟨sl_of_own intC_length ho1, sl_of_own intC_length ho2, hrl, hcl⟩
  clear ho1 ho2
  obtain ⟨p3, c3, rfl, _⟩ := sl_of_own intC_length ho3
  have HT := Lib.hid (sl_of_own intC_length ho3)
  have hl0 : l0.length ≤ 1048576 := by omega
  clear ho3
  go_wp2_with fail
  generalize hW0 : ((w.ext dC).ext d1).alloc (.cells #[.int .i64 m.wd, .int .i64 m.ht, .slice p1 m.rise.length c1, .slice p2 m.cost.length c2] 26) = W0
  have hbx : MBox ((w.ext dC).ext d1) W0 ((w.ext dC).ext d1).heap.size m (.slice p1 m.rise.length c1) (.slice p2 m.cost.length c2) := by rw [← hW0]; exact mbox
  have HGW : ∃ d, W0 = w.ext d := gain_trans (by repeat (first | with_reducible (first | exact World.gained_refl _ | exact ⟨_, rfl⟩ | apply gain_ext | apply gain_alloc | apply gain_drewN | apply gain_drew) | (refine gain_setCell ?_ (by first | exact Nat.le_refl _ | exact World.size_ext _ _ | (simp; done) | (simp; omega)) _))) hbx.up
  have HM0 := Lib.hid (mp_up HM.out hbx.up)
  replace HT := Lib.hid (sl_up intC_length HT.out hbx.up)
  have bx0 := hbx.c0
  have bx1 := hbx.c1
  have bx2 := hbx.c2
  have bx3 := hbx.c3
  have obx := hbx.ob
  generalize ((w.ext dC).ext d1).heap.size = gB at bx0 bx1 bx2 bx3 obx ⊢
  clear hW0 hbx HM
  obtain ⟨dz, rfl⟩ := HGW
  refine (isRouteF_any m _ _ _ l0 _ (mp_up (HM0.out) (by repeat (first | with_reducible (first | exact World.gained_refl _ | exact ⟨_, rfl⟩ | apply gain_ext | apply gain_alloc | apply gain_drewN | apply gain_drew) | (refine gain_setCell ?_ (by first | exact Nat.le_refl _ | exact World.size_ext _ _ | (simp; done) | (simp; omega)) _)))) (by with_reducible (repeat (first | exact HT.out | refine World.sl_ext intC_length ?_ _ | refine sl_alloc intC_length ?_ _ | refine sl_drew ?_))) hl0).mono ?_
  rintro e w1 ⟨rfl, d2, rfl⟩
  go_wp2_with fail
  refine (specIsRoute_any m _ _ _ l0 _ (mp_up (HM0.out) (by repeat (first | with_reducible (first | exact World.gained_refl _ | exact ⟨_, rfl⟩ | apply gain_ext | apply gain_alloc | apply gain_drewN | apply gain_drew) | (refine gain_setCell ?_ (by first | exact Nat.le_refl _ | exact World.size_ext _ _ | (simp; done) | (simp; omega)) _)))) (by with_reducible (repeat (first | exact HT.out | refine World.sl_ext intC_length ?_ _ | refine sl_alloc intC_length ?_ _ | refine sl_drew ?_))) hl0).mono ?_
  rintro e w1 ⟨rfl, d3, rfl⟩
  generalize routeB m l0 = G
  generalize mapB m = MB
  have hGG : (G != G) = false := by simp
  have hMM : (MB != MB) = false := by simp
  clear HM0 HT bx0 bx1 bx2 bx3 obx hrl hcl hl0
  go_wp2_with fail
  refine (drawRouteClimb_any _ L _ (by with_reducible (repeat (first | exact hs.out | refine World.sl_ext byteC_length ?_ _ | refine sl_alloc byteC_length ?_ _ | refine sl_drew ?_))) HQ.out hl).mono ?_
  rintro e w1 ⟨m, rv, cv, v0, l0, rfl, ⟨d4, rfl⟩, ho1, ho2, hrl, hcl, ho3, hl0⟩
  obtain ⟨p1, c1, rfl, _⟩ := sl_of_own intC_length ho1
  obtain ⟨p2, c2, rfl, _⟩ := sl_of_own intC_length ho2
  have HM : Hid (World.mp ((((w.ext dz).ext d2).ext d3).ext d4) (.slice p1 m.rise.length c1) (.slice p2 m.cost.length c2) m) := Lib.hid ⟨sl_of_own intC_length ho1, sl_of_own intC_length ho2, hrl, hcl⟩
  clear ho1 ho2
  obtain ⟨p3, c3, rfl, _⟩ := sl_of_own intC_length ho3
  have HT := Lib.hid (sl_of_own intC_length ho3)
  have hl0 : l0.length ≤ 1048576 := by omega
  clear ho3
  go_wp2_with fail
  generalize hW0 : ((((w.ext dz).ext d2).ext d3).ext d4).alloc (.cells #[.int .i64 m.wd, .int .i64 m.ht, .slice p1 m.rise.length c1, .slice p2 m.cost.length c2] 26) = W0
  have hbx : MBox ((((w.ext dz).ext d2).ext d3).ext d4) W0 ((((w.ext dz).ext d2).ext d3).ext d4).heap.size m (.slice p1 m.rise.length c1) (.slice p2 m.cost.length c2) := by rw [← hW0]; exact mbox
  have HGW : ∃ d, W0 = w.ext d := gain_trans (by repeat (first | with_reducible (first | exact World.gained_refl _ | exact ⟨_, rfl⟩ | apply gain_ext | apply gain_alloc | apply gain_drewN | apply gain_drew) | (refine gain_setCell ?_ (by first | exact Nat.le_refl _ | exact World.size_ext _ _ | (simp; done) | (simp; omega)) _))) hbx.up
  have HM0 := Lib.hid (mp_up HM.out hbx.up)
  replace HT := Lib.hid (sl_up intC_length HT.out hbx.up)
  have bx0 := hbx.c0
  have bx1 := hbx.c1
  have bx2 := hbx.c2
  have bx3 := hbx.c3
  have obx := hbx.ob
  generalize ((((w.ext dz).ext d2).ext d3).ext d4).heap.size = gB at bx0 bx1 bx2 bx3 obx ⊢
  clear hW0 hbx HM
  obtain ⟨dz, rfl⟩ := HGW
  refine (routeClimb_any m _ _ _ l0 _ (mp_up (HM0.out) (by repeat (first | with_reducible (first | exact World.gained_refl _ | exact ⟨_, rfl⟩ | apply gain_ext | apply gain_alloc | apply gain_drewN | apply gain_drew) | (refine gain_setCell ?_ (by first | exact Nat.le_refl _ | exact World.size_ext _ _ | (simp; done) | (simp; omega)) _)))) (by with_reducible (repeat (first | exact HT.out | refine World.sl_ext intC_length ?_ _ | refine sl_alloc intC_length ?_ _ | refine sl_drew ?_))) hl0).mono ?_
  rintro e w1 ⟨rfl, d5, rfl⟩
  go_wp2_with fail
  refine (specRouteClimb_any m _ _ _ l0 _ (mp_up (HM0.out) (by repeat (first | with_reducible (first | exact World.gained_refl _ | exact ⟨_, rfl⟩ | apply gain_ext | apply gain_alloc | apply gain_drewN | apply gain_drew) | (refine gain_setCell ?_ (by first | exact Nat.le_refl _ | exact World.size_ext _ _ | (simp; done) | (simp; omega)) _)))) (by with_reducible (repeat (first | exact HT.out | refine World.sl_ext intC_length ?_ _ | refine sl_alloc intC_length ?_ _ | refine sl_drew ?_))) hl0).mono ?_
  rintro e w1 ⟨rfl, d6, rfl⟩
  have hc0 := climb_nn m l0
  generalize routeB m l0 = G2
  generalize climbI m l0 = C at hc0 ⊢
  have h1 : (G2 == G2) = true := by simp
  have h2 : (C == C) = true := by simp
  have h3 : decide (0 ≤ C) = true := decide_eq_true hc0
  go_wp2
  go_ret
  exact ⟨by first | rfl | simp [hc0], (by repeat (first | with_reducible (first | exact World.gained_refl _ | exact ⟨_, rfl⟩ | apply gain_ext | apply gain_alloc | apply gain_drewN | apply gain_drew) | (refine gain_setCell ?_ (by first | exact Nat.le_refl _ | exact World.size_ext _ _ | (simp; done) | (simp; omega)) _)))⟩
set_option maxRecDepth 100000 in
theorem fnRoutes_lifted (os : Os) (started : os.Started) (H : Type) (enc : TypeId × Value → H) :
    ReturnsInHanded {} Try.checked os 3 .any (Rows.fnRoutesSpec.pre6 enc Try.prog Try.f3 Rows.fnRoutesRow.domain false) (Rows.fnRoutesSpec.post enc Try.prog Try.f3 false true false false) := by
  refine returnsInHanded_of_change (C := Try.checked) (by kernel_rfl) started (by kernel_rfl) Try.func3
    (ChangeSpec.witness6 (enc := enc) (C := Try.checked) false ⟨#[], #[.slice none 0 0], []⟩ 8 (by kernel_rfl) (by kernel_rfl) (by kernel_rfl) (by kernel_rfl)) ?_
  intro W base args ds gs before hval0 hW _ _
  have hval : ∀ (j : Nat) t v, Try.f3.params[j]? = some t → args[j]? = some v → Value.okWide Try.prog W .any base t v := hval0
  clear hval0
  have laidOut : laidOutB Try.prog = true := by as_aux_lemma => kernel_rfl
  have hWc := hW
  obtain ⟨p, q, hA0, hV, rfl, _, _⟩ := hWc
  have hA : DataW.TrodAll enc Try.prog W 0 (fun _ => true) true Try.f3.params.toList args.toList ds p := hA0
  clear hA0
  rw [Try.params3] at hA hval
  obtain ⟨v0, vs0, d0, ds0, p0, q0, hargs, rfl, rfl, h0, r0⟩ := trodAll_cons hA
  obtain ⟨rfl, rfl, rfl⟩ := trodAll_nil r0
  obtain rfl : args = #[v0] := by cases args; simp_all
  obtain ⟨rfl, rfl⟩ := trodVars_none hV
  obtain ⟨L, hs, hq, hn⟩ := read_Bytes (hval 0 22 v0 rfl rfl) h0
  refine (fnRoutes_walk v0 L W hs hq hn).mono fun e W1 ⟨he, hg⟩ => ?_
  subst he
  exact ⟨_, rfl, law_post (tb := 4) laidOut (by kernel_rfl) hW rfl rfl (by kernel_rfl) Try.underlying4 hg⟩
theorem fnRoutes_holds : Rows.FnRoutesSaid :=
  OpenClaim.holds_of_wide 3 Try.f3 rfl rfl rfl rfl rfl rfl rfl ⟨rfl, rfl, rfl, rfl, rfl⟩ rfl rfl rfl rfl rfl (by kernel_rfl) Try.func3 (by kernel_rfl)
    (of_decide_eq_true (by kernel_rfl)) (by unfold Func.isWrapper; first | (rw [if_pos (by decide +kernel)]; kernel_rfl) | (rw [if_neg (by decide +kernel)]; exact ⟨rfl, rfl⟩))
    (fun os started H enc _ => fnRoutes_lifted os started H enc)
#print axioms fnRoutes_holds
end Go.Proofs.Ytfpobghllfoijaa
