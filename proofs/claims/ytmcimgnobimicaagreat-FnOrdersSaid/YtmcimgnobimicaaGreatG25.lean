/- spec.l4To. Conditions: a valid map; a cell of it. -/
import Derived.Test.YtmcimgnobimicaaGreatG23
namespace Go.Proofs.YtmcimgnobimicaaGreat
open Go.RowKit Go.Ori
set_option maxHeartbeats 4000000 in
theorem l4To_any (m : Mp) (rv cv : Value) (W H b : Nat) (w : World) (hok : MapOk m W H) (h : w.mp rv cv m) (hb : b < m.cost.length) :
    Calls Tryz.prog 51 #[.agg #[.int .i64 m.wd, .int .i64 m.ht, rv, cv], .int .i64 b] w fun x w' => ∃ v', x = .returned v' ∧ (∃ d, w' = w.ext d) ∧ w'.own w.heap.size 3 intC 1 v' (sE (timesL m b)) := by
  have HR : Hid (timesL m b = fixL m (initT m.cost.length b)) := Lib.hid rfl
  have HT0 := Lib.hid (init_inv hb)
  generalize timesL m b = R at HR ⊢
  have hm := Lib.hid h
  obtain ⟨b1, o1, c1, b2, o2, c2, hin⟩ := mp_in h hok
  have hn := hok.n36
  have HIN := Lib.hid hin
  have HK := Lib.hid hok
  obtain rfl := hin.rv
  obtain rfl := hin.cv
  have ob1 := hin.ob1
  have ob2 := hin.ob2
  clear h hin hok
  go_enter Tryz.func51, Tryz.ntmps51
  go_wp2_with fail
  generalize hW0 : w.alloc (.cells #[.int .i64 m.wd, .int .i64 m.ht, .slice (some ⟨b1, o1, none⟩) m.cost.length c1, .slice (some ⟨b2, o2, none⟩) m.cost.length c2] 26) = W0
  have hbx : MBox w W0 w.heap.size m (.slice (some ⟨b1, o1, none⟩) m.cost.length c1) (.slice (some ⟨b2, o2, none⟩) m.cost.length c2) := by rw [← hW0]; exact mbox
  have HG := Lib.hid hbx.up
  have hsz := hbx.sz
  have bx0 := hbx.c0
  have bx1 := hbx.c1
  have bx2 := hbx.c2
  have bx3 := hbx.c3
  have obx := hbx.ob
  have HSE := Lib.hid hbx.se
  have HI0 := Lib.hid (HIN.out.up HG.out)
  have HM0 := Lib.hid (mp_up hm.out HG.out)
  clear hW0 hbx ob1 ob2
  have ob1 := HI0.out.ob1
  have ob2 := HI0.out.ob2
  go_loopw [5, 6] (fun ov i wr => ∃ k : Nat, k ≤ m.cost.length ∧ i = .int .i64 k ∧ (∃ d, wr = W0.ext d) ∧ wr.own W0.heap.size 3 intC 1 ov (List.replicate k (-1))) (fun _ i _ => m.cost.length - (intOf i).toNat)
  case atStart => exact ⟨0, by omega, rfl, (by repeat (first | with_reducible (first | exact World.gained_refl _ | exact ⟨_, rfl⟩ | apply gain_ext | apply gain_alloc | apply gain_drewN | apply gain_drew) | (refine gain_setCell ?_ (by first | exact Nat.le_refl _ | exact World.size_ext _ _ | (simp; done) | (simp; omega)) _))), own_lit' (l := ([] : List Int)) intC_length rfl HSE.out.symm (gain_size (by repeat (first | with_reducible (first | exact World.gained_refl _ | exact ⟨_, rfl⟩ | apply gain_ext | apply gain_alloc | apply gain_drewN | apply gain_drew) | (refine gain_setCell ?_ (by first | exact Nat.le_refl _ | exact World.size_ext _ _ | (simp; done) | (simp; omega)) _))))⟩
  case round =>
    obtain ⟨k, hk, rfl, ⟨d, rfl⟩, ho⟩ := hrel
    have HO := Lib.hid ho
    clear ho
    by_cases hlt : k < m.cost.length
    · go_wp2_with (at_builtin; go_must (refine wpList_append_gain (m := [(-1 : Int)]) rfl (.tmp 21) (.tmp 22) rfl Tryz.underlying24 info_int (by rfl) (by omega) intC_length intC_one (by omega) (by repeat (first | with_reducible (first | exact World.gained_refl _ | exact ⟨_, rfl⟩ | apply gain_ext | apply gain_alloc | apply gain_drewN | apply gain_drew) | (refine gain_setCell ?_ (by first | exact Nat.le_refl _ | exact World.size_ext _ _ | (simp; done) | (simp; omega)) _))) (Nat.le_refl _) (gain_size (by repeat (first | with_reducible (first | exact World.gained_refl _ | exact ⟨_, rfl⟩ | apply gain_ext | apply gain_alloc | apply gain_drewN | apply gain_drew) | (refine gain_setCell ?_ (by first | exact Nat.le_refl _ | exact World.size_ext _ _ | (simp; done) | (simp; omega)) _)))) rfl rfl (own_up (HO.out) (by repeat (first | with_reducible (first | exact World.gained_refl _ | exact ⟨_, rfl⟩ | apply gain_ext | apply gain_alloc | apply gain_drewN | apply gain_drew) | (refine gain_setCell ?_ (by first | exact Nat.le_refl _ | exact World.size_ext _ _ | (simp; done) | (simp; omega)) _)))) (sl_lit (l := [(-1 : Int)]) intC_length rfl (by simp)) (by rw [List.length_replicate, List.length_singleton]; omega) ?_); intro v' d' ho hg)
      go_roundw
      case rel => exact ⟨k + 1, by omega, by go_num, ⟨_, rfl⟩, by rw [List.replicate_succ']; exact ho⟩
      case measure => simp [intOf]; omega
    · obtain rfl : k = m.cost.length := by omega
      obtain ⟨g, cap, hv, hgs, hgl⟩ := own_addr HO.out (by rw [List.length_replicate]; omega)
      rw [List.length_replicate] at hv
      subst hv
      obtain ⟨t0, z0⟩ := own_at HO.out (k := b) (by rw [List.length_replicate]; exact hb)
      generalize (List.replicate m.cost.length (-1 : Int)).getD b 0 = x at t0
      have obg : (W0.ext d).oldB g := hgl
      go_wp2_with fail
      have hC1 := own_set HO.out (k := b) (by rw [List.length_replicate]; exact hb) 0
      rw [sE_init] at hC1
      have hg1 : ∃ d', (W0.ext d).setCell ⟨g, b, none⟩ (.int .i64 0) = W0.ext d' := gain_setCell ⟨_, rfl⟩ hgs _
      have hgY : g < ((W0.ext d).setCell ⟨g, b, none⟩ (.int .i64 0)).heap.size := by rw [World.size_setCell]; exact hgl
      generalize (W0.ext d).setCell ⟨g, b, none⟩ (.int .i64 0) = Y at hC1 hg1 hgY ⊢
      clear HO t0 z0 obg hgl
      go_loopw [7] (fun a wr => ∃ (A : Bool) (L : List Int), a = .bool A ∧ (∃ d, wr = W0.ext d) ∧ wr.own W0.heap.size 3 intC 1 (.slice (some ⟨g, 0, none⟩) m.cost.length cap) (sE L) ∧ TInv m.cost.length L ∧ (A = true → R = fixL m L) ∧ (A = false → R = L))
        (fun a wr => match a with | .bool true => 1 + sumE m.cost.length wr.heap[g]? | _ => 0)
      case atStart => exact ⟨true, _, rfl, hg1, hC1, HT0.out, fun _ => HR.out, fun q => by cases q⟩
      case round =>
        obtain ⟨A, L, rfl, ⟨dY, rfl⟩, hC, hT, hR1, hR0⟩ := hrel
        have HC := Lib.hid hC
        have HT := Lib.hid hT
        have HR1 := Lib.hid hR1
        have HR0 := Lib.hid hR0
        clear hC hT hR1 hR0 hC1 hg1
        cases A with
        | false =>
          have HRL := Lib.hid (HR0.out rfl)
          go_wp2
          go_ret
          exact ⟨_, rfl, gain_trans HG.out ⟨_, rfl⟩, by rw [HRL.out]; exact own_base HC.out hsz⟩
        | true =>
          have HRL := Lib.hid (HR1.out rfl)
          clear HR0 HR1 HR
          go_wp2_with fail
          go_loopw [7, 8] (fun a i wr => ∃ c : Nat, c ≤ m.cost.length ∧ i = .int .i64 c ∧ a = .bool (passTo m L c).2 ∧ (∃ d, wr = W0.ext d) ∧ wr.own W0.heap.size 3 intC 1 (.slice (some ⟨g, 0, none⟩) m.cost.length cap) (sE (passTo m L c).1)) (fun _ i _ => m.cost.length - (intOf i).toNat)
          case atStart => exact ⟨0, by omega, rfl, rfl, ⟨_, rfl⟩, HC.out⟩
          case round =>
            obtain ⟨c, hc, rfl, rfl, ⟨dZ, rfl⟩, hC2⟩ := hrel
            have HC2 := Lib.hid hC2
            clear hC2
            by_cases hlc : c < m.cost.length
            · have HS := Lib.hid (passTo_succ m L c)
              have HTC := Lib.hid (passTo_inv HK.out HT.out c (Nat.le_of_lt hlc)).1
              have cc := HI0.out.co c hlc
              generalize passTo m L c = s at HC2 HS HTC
              by_cases hz : costAt m c = 0
              · have HS' := Lib.hid (show passTo m L (c + 1) = s by rw [HS.out, cellP, if_pos hz])
                rw [hz] at cc
                clear HS hz
                go_wp2
                go_roundw
                case rel => exact ⟨c + 1, by omega, by go_num, by rw [HS'.out], ⟨_, rfl⟩, by rw [HS'.out]; exact HC2.out⟩
                case measure => simp [intOf]; omega
              · have HS' := Lib.hid (show passTo m L (c + 1) = (nextL m c).foldl (rlx m c) s by rw [HS.out, cellP, if_neg hz])
                have hzb : (costAt m c == 0) = false := by simpa using hz
                generalize hx : costAt m c = x1 at cc hzb
                clear HS hz hx
                go_wp2_with fail
                refine (l2Next_any m _ _ W H c _ HK.out (mp_up (HM0.out) (by repeat (first | with_reducible (first | exact World.gained_refl _ | exact ⟨_, rfl⟩ | apply gain_ext | apply gain_alloc | apply gain_drewN | apply gain_drew) | (refine gain_setCell ?_ (by first | exact Nat.le_refl _ | exact World.size_ext _ _ | (simp; done) | (simp; omega)) _)))) hlc).mono ?_
                rintro e w1 ⟨v, rfl, ⟨d1, rfl⟩, hv⟩
                have HKS := Lib.hid (fun k (hk : k ∈ nextL m c) => next_lt k hk)
                have HTF := Lib.hid (fun j => (foldl_rlx HK.out hlc ((nextL m c).take j) s (fun k hk => next_lt k (List.mem_of_mem_take hk)) HTC.out).1)
                have hkl : (nextL m c).length ≤ 36 := by
                  have := nextTo_len m c m.cost.length
                  exact Nat.le_trans this hn
                generalize nextL m c = ks at hv HKS HTF HS' hkl
                obtain ⟨p3, c3, hv3, _⟩ := id (sl_of_own intC_length hv)
                rw [natL_length] at hv3
                subst hv3
                have HV := Lib.hid hv
                have HGZ : g < (W0.ext dZ).heap.size := (own_lt HC2.out g rfl).2
                generalize (W0.ext dZ).heap.size = B4 at HV HGZ
                clear hv
                go_wp2_with fail
                go_loopw [7, 10] (fun a i wr => ∃ j : Nat, j ≤ ks.length ∧ i = .int .i64 j ∧ a = .bool ((ks.take j).foldl (rlx m c) s).2 ∧ (∃ d, wr = W0.ext d) ∧ wr.own W0.heap.size 3 intC 1 (.slice (some ⟨g, 0, none⟩) m.cost.length cap) (sE ((ks.take j).foldl (rlx m c) s).1) ∧ wr.own B4 3 intC 1 (.slice p3 ks.length c3) (natL ks)) (fun _ i _ => ks.length - (intOf i).toNat)
                case atStart => exact ⟨0, by omega, rfl, rfl, (by repeat (first | with_reducible (first | exact World.gained_refl _ | exact ⟨_, rfl⟩ | apply gain_ext | apply gain_alloc | apply gain_drewN | apply gain_drew) | (refine gain_setCell ?_ (by first | exact Nat.le_refl _ | exact World.size_ext _ _ | (simp; done) | (simp; omega)) _))), own_up HC2.out ⟨_, rfl⟩, HV.out⟩
                case round =>
                  obtain ⟨j, hj, rfl, rfl, ⟨dX, rfl⟩, hC3, hv⟩ := hrel
                  have HV' := Lib.hid hv
                  have HC3 := Lib.hid hC3
                  clear hC3 hv
                  by_cases hlj : j < ks.length
                  · obtain ⟨b3, o3, rfl⟩ := sl_some (sl_of_own intC_length HV'.out) (by rw [natL_length]; omega)
                    have ck := sl_int (sl_of_own intC_length HV'.out) (k := j) (by rw [natL_length]; exact hlj)
                    rw [natL_get] at ck
                    have hkn := HKS.out ks[j] (List.getElem_mem hlj)
                    have HSS := Lib.hid (foldl_take (rlx m c) s ks hlj)
                    have hT := HTF.out j
                    generalize ks[j] = k at ck hkn HSS
                    generalize (ks.take j).foldl (rlx m c) s = t at HC3 HSS hT ⊢
                    obtain ⟨tk, _⟩ := own_at HC3.out (k := k) (by rw [sE_length, hT.len]; exact hkn)
                    obtain ⟨tc, zc⟩ := own_at HC3.out (k := c) (by rw [sE_length, hT.len]; exact hlc)
                    have HLC := Lib.hid (show c < (sE t.1).length by rw [sE_length, hT.len]; exact hlc)
                    rw [sE_getD hT hkn] at tk
                    rw [sE_getD hT hlc] at tc
                    have obk := World.oldB_of_cell ck
                    have obg := World.oldB_of_cell tk
                    have hst := stepZ_le HK.out c k
                    have HST := Lib.hid (fun w' hw' => l2Step_any m (.slice (some ⟨b1, o1, none⟩) m.cost.length c1) (.slice (some ⟨b2, o2, none⟩) m.cost.length c2) W H c k w' HK.out hw' hlc hkn)
                    have HRX := Lib.hid (rlx_spec HK.out hT hn hlc hkn)
                    have hc0 := hT.lo c
                    have hc1 := hT.hi c
                    generalize stepZ m c k = st at HST HRX hst
                    generalize t.1.getD k 0 = lk at tk HRX
                    generalize t.1.getD c 0 = lc at tc HRX hc0 hc1
                    obtain ⟨_, hs0, hs1⟩ := hst
                    clear hT
                    by_cases q0 : lk = 1073741824
                    · have HX := Lib.hid (HSS.out.trans (HRX.out.1 q0))
                      rw [if_pos q0] at tk
                      clear HSS HRX q0 tc zc
                      go_wp2
                      go_roundw
                      case rel => exact ⟨j + 1, by omega, by go_num, by rw [HX.out], ⟨_, rfl⟩, by rw [HX.out]; exact HC3.out, HV'.out⟩
                      case measure => simp [intOf]; omega
                    · obtain ⟨k0, k1, hy, hz⟩ := HRX.out.2 q0
                      have HY := Lib.hid hy
                      have HZ := Lib.hid hz
                      rw [if_neg q0] at tk
                      have hws : wrap64 (lk + st) = lk + st := by unfold wrap64; omega
                      clear hy hz HRX q0
                      by_cases q1 : lc = 1073741824
                      · obtain ⟨hx1, hx2⟩ := HY.out (.inl q1)
                        have HX1 := Lib.hid hx1
                        have HX2 := Lib.hid hx2
                        rw [if_pos q1] at tc
                        clear hx1 hx2 HY HZ q1 hc0 hc1
                        go_wp2
                        refine wp_region_gain (by kernel_rfl) (by kernel_rfl) ?_
                        repeat (first | go_big_quiet_skip | (go_big_quiet_want; go_big_quiet_op; first | go_big_quiet_on | ((apply Exists.intro); (refine ⟨fun _ => ?_, ?_⟩); (· (go_at_call 86; exact Calls.gain (HST.out _ (mp_up (HM0.out) (by repeat (first | with_reducible (first | exact World.gained_refl _ | exact ⟨_, rfl⟩ | apply gain_ext | apply gain_alloc | apply gain_drewN | apply gain_drew) | (refine gain_setCell ?_ (by first | exact Nat.le_refl _ | exact World.size_ext _ _ | (simp; done) | (simp; omega)) _))))))); (go_big_quiet_on))))
                        refine wpQuiet_nil ?_
                        rintro _ ⟨d', rfl⟩
                        go_wp2
                        go_roundw
                        case rel => exact ⟨j + 1, by omega, by go_num, by rw [HSS.out, HX2.out], gain_setCell (by repeat (first | with_reducible (first | exact World.gained_refl _ | exact ⟨_, rfl⟩ | apply gain_ext | apply gain_alloc | apply gain_drewN | apply gain_drew) | (refine gain_setCell ?_ (by first | exact Nat.le_refl _ | exact World.size_ext _ _ | (simp; done) | (simp; omega)) _))) hgs _, by rw [HSS.out, HX1.out]; exact own_set (own_up (HC3.out) (by repeat (first | with_reducible (first | exact World.gained_refl _ | exact ⟨_, rfl⟩ | apply gain_ext | apply gain_alloc | apply gain_drewN | apply gain_drew) | (refine gain_setCell ?_ (by first | exact Nat.le_refl _ | exact World.size_ext _ _ | (simp; done) | (simp; omega)) _)))) HLC.out _, own_off (own_up (HV'.out) (by repeat (first | with_reducible (first | exact World.gained_refl _ | exact ⟨_, rfl⟩ | apply gain_ext | apply gain_alloc | apply gain_drewN | apply gain_drew) | (refine gain_setCell ?_ (by first | exact Nat.le_refl _ | exact World.size_ext _ _ | (simp; done) | (simp; omega)) _)))) HGZ _⟩
                        case measure => simp [intOf]; omega
                      · have hlc0 : decide (lc < 0) = false := decide_eq_false (by omega)
                        rw [if_neg q1] at tc
                        by_cases q2 : lk + st < lc
                        · obtain ⟨hx1, hx2⟩ := HY.out (.inr q2)
                          have HX1 := Lib.hid hx1
                          have HX2 := Lib.hid hx2
                          clear hx1 hx2 HY HZ q1
                          go_wp2
                          refine wp_region_gain (by kernel_rfl) (by kernel_rfl) ?_
                          repeat (first | go_big_quiet_skip | (go_big_quiet_want; go_big_quiet_op; first | go_big_quiet_on | ((apply Exists.intro); (refine ⟨fun _ => ?_, ?_⟩); (· (go_at_call 86; exact Calls.gain (HST.out _ (mp_up (HM0.out) (by repeat (first | with_reducible (first | exact World.gained_refl _ | exact ⟨_, rfl⟩ | apply gain_ext | apply gain_alloc | apply gain_drewN | apply gain_drew) | (refine gain_setCell ?_ (by first | exact Nat.le_refl _ | exact World.size_ext _ _ | (simp; done) | (simp; omega)) _))))))); (go_big_quiet_on))))
                          refine wpQuiet_nil ?_
                          rintro _ ⟨d', rfl⟩
                          go_wp2
                          go_roundw
                          case rel => exact ⟨j + 1, by omega, by go_num, by rw [HSS.out, HX2.out], gain_setCell (by repeat (first | with_reducible (first | exact World.gained_refl _ | exact ⟨_, rfl⟩ | apply gain_ext | apply gain_alloc | apply gain_drewN | apply gain_drew) | (refine gain_setCell ?_ (by first | exact Nat.le_refl _ | exact World.size_ext _ _ | (simp; done) | (simp; omega)) _))) hgs _, by rw [HSS.out, HX1.out]; exact own_set (own_up (HC3.out) (by repeat (first | with_reducible (first | exact World.gained_refl _ | exact ⟨_, rfl⟩ | apply gain_ext | apply gain_alloc | apply gain_drewN | apply gain_drew) | (refine gain_setCell ?_ (by first | exact Nat.le_refl _ | exact World.size_ext _ _ | (simp; done) | (simp; omega)) _)))) HLC.out _, own_off (own_up (HV'.out) (by repeat (first | with_reducible (first | exact World.gained_refl _ | exact ⟨_, rfl⟩ | apply gain_ext | apply gain_alloc | apply gain_drewN | apply gain_drew) | (refine gain_setCell ?_ (by first | exact Nat.le_refl _ | exact World.size_ext _ _ | (simp; done) | (simp; omega)) _)))) HGZ _⟩
                          case measure => simp [intOf]; omega
                        · have HX := Lib.hid (HSS.out.trans (HZ.out (fun q => q.elim q1 q2)))
                          clear HY HZ q1 HSS
                          go_wp2
                          refine wp_region_gain (by kernel_rfl) (by kernel_rfl) ?_
                          repeat (first | go_big_quiet_skip | (go_big_quiet_want; go_big_quiet_op; first | go_big_quiet_on | ((apply Exists.intro); (refine ⟨fun _ => ?_, ?_⟩); (· (go_at_call 86; exact Calls.gain (HST.out _ (mp_up (HM0.out) (by repeat (first | with_reducible (first | exact World.gained_refl _ | exact ⟨_, rfl⟩ | apply gain_ext | apply gain_alloc | apply gain_drewN | apply gain_drew) | (refine gain_setCell ?_ (by first | exact Nat.le_refl _ | exact World.size_ext _ _ | (simp; done) | (simp; omega)) _))))))); (go_big_quiet_on))))
                          refine wpQuiet_nil ?_
                          rintro _ ⟨d', rfl⟩
                          go_wp2
                          go_roundw
                          case rel => exact ⟨j + 1, by omega, by go_num, by rw [HX.out], (by repeat (first | with_reducible (first | exact World.gained_refl _ | exact ⟨_, rfl⟩ | apply gain_ext | apply gain_alloc | apply gain_drewN | apply gain_drew) | (refine gain_setCell ?_ (by first | exact Nat.le_refl _ | exact World.size_ext _ _ | (simp; done) | (simp; omega)) _))), by rw [HX.out]; exact (own_up (HC3.out) (by repeat (first | with_reducible (first | exact World.gained_refl _ | exact ⟨_, rfl⟩ | apply gain_ext | apply gain_alloc | apply gain_drewN | apply gain_drew) | (refine gain_setCell ?_ (by first | exact Nat.le_refl _ | exact World.size_ext _ _ | (simp; done) | (simp; omega)) _)))), (own_up (HV'.out) (by repeat (first | with_reducible (first | exact World.gained_refl _ | exact ⟨_, rfl⟩ | apply gain_ext | apply gain_alloc | apply gain_drewN | apply gain_drew) | (refine gain_setCell ?_ (by first | exact Nat.le_refl _ | exact World.size_ext _ _ | (simp; done) | (simp; omega)) _))))⟩
                          case measure => simp [intOf]; omega
                  · obtain rfl : j = ks.length := by omega
                    have HX := Lib.hid (show passTo m L (c + 1) = (ks.take ks.length).foldl (rlx m c) s by rw [List.take_length]; exact HS'.out)
                    go_wp2
                    go_roundw
                    case rel => exact ⟨c + 1, by omega, by go_num, by rw [HX.out], ⟨_, rfl⟩, by rw [HX.out]; exact HC3.out⟩
                    case measure => simp [intOf]; omega
            · obtain rfl : c = m.cost.length := by omega
              have HTP := Lib.hid (passTo_inv HK.out HT.out _ (Nat.le_refl _)).1
              cases hp : (passP m L).2 with
              | true =>
                have HF := Lib.hid (fix_step HK.out HT.out hp)
                rw [show (passTo m L m.cost.length).2 = true from hp]
                go_wp2
                go_roundw
                case rel => exact ⟨true, (passP m L).1, rfl, ⟨_, rfl⟩, HC2.out, HTP.out, fun _ => HRL.out.trans HF.out.1.symm, fun q => by cases q⟩
                case measure =>
                  have h1 := HF.out.2
                  show 1 + sumE m.cost.length ((W0.ext dZ).heap[g]?) < 1 + sumE m.cost.length ((W0.ext dY).heap[g]?)
                  rw [own_sum HC2.out HTP.out, own_sum HC.out HT.out]
                  exact Nat.add_lt_add_left h1 1
              | false =>
                have HF := Lib.hid (fix_stop hp)
                rw [show (passTo m L m.cost.length).2 = false from hp]
                go_wp2
                go_roundw
                case rel => exact ⟨false, (passP m L).1, rfl, ⟨_, rfl⟩, HC2.out, HTP.out, (fun q => by cases q), fun _ => HRL.out.trans HF.out⟩
                case measure =>
                  show 0 < 1 + sumE m.cost.length ((W0.ext dY).heap[g]?)
                  omega
end Go.Proofs.YtmcimgnobimicaaGreat
