/- Texts laid together: impl.timesTo. Conditions: a valid map; a cell of it.; impl.leastTime. Conditions: a valid map; cells of it. -/
import Derived.Test.YtmcimgnobimicaaGreatG23
/- impl.timesTo. Conditions: a valid map; a cell of it. -/
namespace Go.Proofs.YtmcimgnobimicaaGreat
open Go.RowKit Go.Ori
set_option maxHeartbeats 4000000 in
theorem timesTo_any (m : Mp) (rv cv : Value) (W H b : Nat) (w : World) (hok : MapOk m W H) (h : w.mp rv cv m) (hb : b < m.cost.length) :
    Calls Tryz.prog 46 #[.agg #[.int .i64 m.wd, .int .i64 m.ht, rv, cv], .int .i64 b] w fun x w' => ∃ v', x = .returned v' ∧ (∃ d, w' = w.ext d) ∧ w'.own w.heap.size 3 intC 1 v' (timesL m b) := by
  have HR : Hid (timesL m b = fixL m (initT m.cost.length b)) := Lib.hid rfl
  have HT0 := Lib.hid (init_inv hb)
  generalize timesL m b = R at HR ⊢
  have hm := Lib.hid h
  obtain ⟨b1, o1, c1, b2, o2, c2, hin⟩ := mp_in h hok
  have hn := hok.n36
  have HIN := Lib.hid hin
  have HK := Lib.hid hok
  obtain rfl := hin.rv
  obtain rfl := hin.cv
  have ob1 := hin.ob1
  have ob2 := hin.ob2
  clear h hin hok
  have hmk := fun w => run_make_rows (P := Tryz.prog) Tryz.underlying24 info_int m.cost.length (by omega) (by omega) w
  go_enter Tryz.func46, Tryz.ntmps46
  go_wp2_with fail
  clear hmk
  generalize hW0 : w.alloc (.cells #[.int .i64 m.wd, .int .i64 m.ht, .slice (some ⟨b1, o1, none⟩) m.cost.length c1, .slice (some ⟨b2, o2, none⟩) m.cost.length c2] 26) = W0
  have hbx : MBox w W0 w.heap.size m (.slice (some ⟨b1, o1, none⟩) m.cost.length c1) (.slice (some ⟨b2, o2, none⟩) m.cost.length c2) := by rw [← hW0]; exact mbox
  have HG := Lib.hid hbx.up
  have hsz := hbx.sz
  have bx0 := hbx.c0
  have bx1 := hbx.c1
  have bx2 := hbx.c2
  have bx3 := hbx.c3
  have obx := hbx.ob
  have HSE := Lib.hid hbx.se
  have HI0 := Lib.hid (HIN.out.up HG.out)
  have HM0 := Lib.hid (mp_up hm.out HG.out)
  clear hW0 hbx ob1 ob2
  have ob1 := HI0.out.ob1
  have ob2 := HI0.out.ob2
  rw [made_ints, ← initK_zero]
  go_loopw [19] (fun i wr => ∃ k : Nat, k ≤ m.cost.length ∧ i = .int .i64 k ∧ (∃ d, wr = W0.ext d) ∧ wr.heap[w.heap.size + 1]? = some (.cells ((initK m.cost.length k).map (Value.int .i64)).toArray 3 (0, 0))) (fun i _ => m.cost.length - (intOf i).toNat)
  case atStart => exact ⟨0, by omega, rfl, (by repeat (first | with_reducible (first | exact World.gained_refl _ | exact ⟨_, rfl⟩ | apply gain_ext | apply gain_alloc | apply gain_drewN | apply gain_drew) | (refine gain_setCell ?_ (by first | exact Nat.le_refl _ | exact World.size_ext _ _ | (simp; done) | (simp; omega)) _))), by rw [← HSE.out]; exact heap_alloc_new _ _⟩
  case round =>
    obtain ⟨k, hk, rfl, ⟨d, rfl⟩, hC⟩ := hrel
    have HC := Lib.hid hC
    have hgs : W0.heap.size ≤ w.heap.size + 1 := by rw [HSE.out]; omega
    have obg := World.oldB_of_heap hC
    by_cases hlt : k < m.cost.length
    · have t0 := ints_cell hC (k := k) (by rw [initK_length hk]; exact hlt)
      have z0 := World.free_of_heap hC k
      have HS := Lib.hid (initK_set hlt)
      generalize (initK m.cost.length k).getD k 0 = x at t0
      clear hC
      go_wp2
      go_roundw
      case rel => exact ⟨k + 1, by omega, by go_num, gain_setCell ⟨_, rfl⟩ hgs _, by rw [World.heap_setCell_row HC.out, setInts, HS.out]⟩
      case measure => simp [intOf]; omega
    · obtain rfl : k = m.cost.length := by omega
      have t0 := ints_cell hC (k := b) (by rw [initK_length (Nat.le_refl _)]; exact hb)
      have z0 := World.free_of_heap hC b
      have HS := Lib.hid (initK_full m.cost.length b)
      generalize (initK m.cost.length m.cost.length).getD b 0 = x at t0
      clear hC
      go_wp2_with fail
      have hC1 : ((W0.ext d).setCell ⟨w.heap.size + 1, b, none⟩ (.int .i64 0)).heap[w.heap.size + 1]? = some (.cells ((initT m.cost.length b).map (Value.int .i64)).toArray 3 (0, 0)) := by
        rw [World.heap_setCell_row HC.out, setInts, HS.out]
      have hg1 : ∃ d', (W0.ext d).setCell ⟨w.heap.size + 1, b, none⟩ (.int .i64 0) = W0.ext d' := gain_setCell ⟨_, rfl⟩ hgs _
      generalize (W0.ext d).setCell ⟨w.heap.size + 1, b, none⟩ (.int .i64 0) = Y at hC1 hg1 ⊢
      clear HC HS t0 z0 obg
      go_loopw [7] (fun a wr => ∃ (A : Bool) (L : List Int), a = .bool A ∧ (∃ d, wr = W0.ext d) ∧ wr.heap[w.heap.size + 1]? = some (.cells (L.map (Value.int .i64)).toArray 3 (0, 0)) ∧ TInv m.cost.length L ∧ (A = true → R = fixL m L) ∧ (A = false → R = L))
        (fun a wr => match a with | .bool true => 1 + cellsSum wr.heap[w.heap.size + 1]? | _ => 0)
      case atStart => exact ⟨true, _, rfl, hg1, hC1, HT0.out, fun _ => HR.out, fun q => by cases q⟩
      case round =>
        obtain ⟨A, L, rfl, ⟨dY, rfl⟩, hC, hT, hR1, hR0⟩ := hrel
        have HC := Lib.hid hC
        have HT := Lib.hid hT
        have HR1 := Lib.hid hR1
        have HR0 := Lib.hid hR0
        clear hC hT hR1 hR0 hC1 hg1
        cases A with
        | false =>
          have HRL := Lib.hid (HR0.out rfl)
          go_wp2
          go_ret
          exact ⟨_, rfl, gain_trans HG.out ⟨_, rfl⟩, own_table (by rw [HRL.out]; exact HC.out) (Nat.le_succ _) (by rw [HRL.out]; exact HT.out.len) (by omega)⟩
        | true =>
          have HRL := Lib.hid (HR1.out rfl)
          have HMS := Lib.hid (cellsSum_ints L 3 (0, 0))
          clear HR0 HR1 HR
          go_wp2_with fail
          go_loopw [7, 33] (fun a i wr => ∃ c : Nat, c ≤ m.cost.length ∧ i = .int .i64 c ∧ a = .bool (passTo m L c).2 ∧ (∃ d, wr = W0.ext d) ∧ wr.heap[w.heap.size + 1]? = some (.cells ((passTo m L c).1.map (Value.int .i64)).toArray 3 (0, 0))) (fun _ i _ => m.cost.length - (intOf i).toNat)
          case atStart => exact ⟨0, by omega, rfl, rfl, ⟨_, rfl⟩, HC.out⟩
          case round =>
            obtain ⟨c, hc, rfl, rfl, ⟨dZ, rfl⟩, hC2⟩ := hrel
            have HC2 := Lib.hid hC2
            clear hC2
            by_cases hlc : c < m.cost.length
            · have HS := Lib.hid (passTo_succ m L c)
              have HTC := Lib.hid (passTo_inv HK.out HT.out c (Nat.le_of_lt hlc)).1
              have cc := HI0.out.co c hlc
              generalize passTo m L c = s at HC2 HS HTC
              by_cases hz : costAt m c = 0
              · have HS' := Lib.hid (show passTo m L (c + 1) = s by rw [HS.out, cellP, if_pos hz])
                rw [hz] at cc
                clear HS hz
                go_wp2
                go_roundw
                case rel => exact ⟨c + 1, by omega, by go_num, by rw [HS'.out], ⟨_, rfl⟩, by rw [HS'.out]; exact HC2.out⟩
                case measure => simp [intOf]; omega
              · have HS' := Lib.hid (show passTo m L (c + 1) = (nextL m c).foldl (rlx m c) s by rw [HS.out, cellP, if_neg hz])
                have hzb : (costAt m c == 0) = false := by simpa using hz
                generalize hx : costAt m c = x1 at cc hzb
                clear HS hz hx
                go_wp2_with fail
                refine (cellsNextTo_any m _ _ W H c _ HK.out (mp_up (HM0.out) (by repeat (first | with_reducible (first | exact World.gained_refl _ | exact ⟨_, rfl⟩ | apply gain_ext | apply gain_alloc | apply gain_drewN | apply gain_drew) | (refine gain_setCell ?_ (by first | exact Nat.le_refl _ | exact World.size_ext _ _ | (simp; done) | (simp; omega)) _)))) hlc).mono ?_
                rintro e w1 ⟨v, rfl, ⟨d1, rfl⟩, hv⟩
                have HKS := Lib.hid (fun k (hk : k ∈ nextL m c) => next_lt k hk)
                have HTF := Lib.hid (fun j => (foldl_rlx HK.out hlc ((nextL m c).take j) s (fun k hk => next_lt k (List.mem_of_mem_take hk)) HTC.out).1)
                have hkl : (nextL m c).length ≤ 36 := by
                  have := nextTo_len m c m.cost.length
                  exact Nat.le_trans this hn
                generalize nextL m c = ks at hv HKS HTF HS' hkl
                obtain ⟨p3, c3, hv3, _⟩ := id (sl_of_own intC_length hv)
                rw [natL_length] at hv3
                subst hv3
                have HV := Lib.hid hv
                have hgz := World.oldB_of_heap HC2.out
                have HGZ : w.heap.size + 1 < (W0.ext dZ).heap.size := hgz
                generalize (W0.ext dZ).heap.size = B4 at HV HGZ
                clear hv hgz
                go_wp2_with fail
                go_loopw [7, 44] (fun a i wr => ∃ j : Nat, j ≤ ks.length ∧ i = .int .i64 j ∧ a = .bool ((ks.take j).foldl (rlx m c) s).2 ∧ (∃ d, wr = W0.ext d) ∧ wr.heap[w.heap.size + 1]? = some (.cells ((((ks.take j).foldl (rlx m c) s).1).map (Value.int .i64)).toArray 3 (0, 0)) ∧ wr.own B4 3 intC 1 (.slice p3 ks.length c3) (natL ks)) (fun _ i _ => ks.length - (intOf i).toNat)
                case atStart => exact ⟨0, by omega, rfl, rfl, (by repeat (first | with_reducible (first | exact World.gained_refl _ | exact ⟨_, rfl⟩ | apply gain_ext | apply gain_alloc | apply gain_drewN | apply gain_drew) | (refine gain_setCell ?_ (by first | exact Nat.le_refl _ | exact World.size_ext _ _ | (simp; done) | (simp; omega)) _))), World.heap_ext_old d1 HC2.out, HV.out⟩
                case round =>
                  obtain ⟨j, hj, rfl, rfl, ⟨dX, rfl⟩, hC3, hv⟩ := hrel
                  have HV' := Lib.hid hv
                  have HC3 := Lib.hid hC3
                  clear hC3 hv
                  by_cases hlj : j < ks.length
                  · obtain ⟨b3, o3, rfl⟩ := sl_some (sl_of_own intC_length HV'.out) (by rw [natL_length]; omega)
                    have ck := sl_int (sl_of_own intC_length HV'.out) (k := j) (by rw [natL_length]; exact hlj)
                    rw [natL_get] at ck
                    have hkn := HKS.out ks[j] (List.getElem_mem hlj)
                    have HSS := Lib.hid (foldl_take (rlx m c) s ks hlj)
                    have hT := HTF.out j
                    generalize ks[j] = k at ck hkn HSS
                    generalize (ks.take j).foldl (rlx m c) s = t at HC3 HSS hT ⊢
                    have tk := ints_cell HC3.out (k := k) (by rw [hT.len]; exact hkn)
                    have tc := ints_cell HC3.out (k := c) (by rw [hT.len]; exact hlc)
                    have zc := World.free_of_heap HC3.out c
                    have obk := World.oldB_of_cell ck
                    have obg := World.oldB_of_cell tk
                    have hst := stepZ_le HK.out c k
                    have HST := Lib.hid (fun w' hw' => stepTime_any m (.slice (some ⟨b1, o1, none⟩) m.cost.length c1) (.slice (some ⟨b2, o2, none⟩) m.cost.length c2) W H c k w' HK.out hw' hlc hkn)
                    have HRX : Hid (rlx m c t k = if t.1.getD k 0 < 1073741824 ∧ t.1.getD k 0 + stepZ m c k < t.1.getD c 0 then (t.1.set c (t.1.getD k 0 + stepZ m c k), true) else t) := Lib.hid rfl
                    have hk0 := hT.lo k
                    have hk1 := hT.hi k
                    have hc0 := hT.lo c
                    have hc1 := hT.hi c
                    generalize stepZ m c k = st at HST HRX hst
                    generalize t.1.getD k 0 = lk at tk HRX hk0 hk1
                    generalize t.1.getD c 0 = lc at tc HRX hc0 hc1
                    obtain ⟨_, hs0, hs1⟩ := hst
                    have hws : wrap64 (lk + st) = lk + st := by unfold wrap64; omega
                    clear hT
                    have hgc : W0.heap.size ≤ w.heap.size + 1 := by rw [HSE.out]; omega
                    by_cases q1 : lk < 1073741824
                    · by_cases q2 : lk + st < lc
                      · have HX := Lib.hid (HSS.out.trans (HRX.out.trans (if_pos ⟨q1, q2⟩)))
                        clear HSS HRX
                        go_wp2
                        refine wp_region_gain (by kernel_rfl) (by kernel_rfl) ?_
                        repeat (first | go_big_quiet_skip | (go_big_quiet_want; go_big_quiet_op; first | go_big_quiet_on | ((apply Exists.intro); (refine ⟨fun _ => ?_, ?_⟩); (· (go_at_call 82; exact Calls.gain (HST.out _ (mp_up (HM0.out) (by repeat (first | with_reducible (first | exact World.gained_refl _ | exact ⟨_, rfl⟩ | apply gain_ext | apply gain_alloc | apply gain_drewN | apply gain_drew) | (refine gain_setCell ?_ (by first | exact Nat.le_refl _ | exact World.size_ext _ _ | (simp; done) | (simp; omega)) _))))))); (go_big_quiet_on))))
                        refine wpQuiet_nil ?_
                        rintro _ ⟨d', rfl⟩
                        go_wp2
                        go_roundw
                        case rel => exact ⟨j + 1, by omega, by go_num, by rw [HX.out], gain_setCell (by repeat (first | with_reducible (first | exact World.gained_refl _ | exact ⟨_, rfl⟩ | apply gain_ext | apply gain_alloc | apply gain_drewN | apply gain_drew) | (refine gain_setCell ?_ (by first | exact Nat.le_refl _ | exact World.size_ext _ _ | (simp; done) | (simp; omega)) _))) hgc _, by rw [World.heap_setCell_row (World.heap_ext_old _ HC3.out), setInts, HX.out], own_off (own_up (HV'.out) (by repeat (first | with_reducible (first | exact World.gained_refl _ | exact ⟨_, rfl⟩ | apply gain_ext | apply gain_alloc | apply gain_drewN | apply gain_drew) | (refine gain_setCell ?_ (by first | exact Nat.le_refl _ | exact World.size_ext _ _ | (simp; done) | (simp; omega)) _)))) HGZ _⟩
                        case measure => simp [intOf]; omega
                      · have HX := Lib.hid (HSS.out.trans (HRX.out.trans (if_neg (fun q => q2 q.2))))
                        clear HSS HRX
                        go_wp2
                        refine wp_region_gain (by kernel_rfl) (by kernel_rfl) ?_
                        repeat (first | go_big_quiet_skip | (go_big_quiet_want; go_big_quiet_op; first | go_big_quiet_on | ((apply Exists.intro); (refine ⟨fun _ => ?_, ?_⟩); (· (go_at_call 82; exact Calls.gain (HST.out _ (mp_up (HM0.out) (by repeat (first | with_reducible (first | exact World.gained_refl _ | exact ⟨_, rfl⟩ | apply gain_ext | apply gain_alloc | apply gain_drewN | apply gain_drew) | (refine gain_setCell ?_ (by first | exact Nat.le_refl _ | exact World.size_ext _ _ | (simp; done) | (simp; omega)) _))))))); (go_big_quiet_on))))
                        refine wpQuiet_nil ?_
                        rintro _ ⟨d', rfl⟩
                        go_wp2
                        go_roundw
                        case rel => exact ⟨j + 1, by omega, by go_num, by rw [HX.out], (by repeat (first | with_reducible (first | exact World.gained_refl _ | exact ⟨_, rfl⟩ | apply gain_ext | apply gain_alloc | apply gain_drewN | apply gain_drew) | (refine gain_setCell ?_ (by first | exact Nat.le_refl _ | exact World.size_ext _ _ | (simp; done) | (simp; omega)) _))), by rw [HX.out]; exact World.heap_ext_old _ HC3.out, (own_up (HV'.out) (by repeat (first | with_reducible (first | exact World.gained_refl _ | exact ⟨_, rfl⟩ | apply gain_ext | apply gain_alloc | apply gain_drewN | apply gain_drew) | (refine gain_setCell ?_ (by first | exact Nat.le_refl _ | exact World.size_ext _ _ | (simp; done) | (simp; omega)) _))))⟩
                        case measure => simp [intOf]; omega
                    · have HX := Lib.hid (HSS.out.trans (HRX.out.trans (if_neg (fun q => q1 q.1))))
                      clear HSS HRX
                      go_wp2
                      refine wp_region_gain (by kernel_rfl) (by kernel_rfl) ?_
                      repeat (first | go_big_quiet_skip | (go_big_quiet_want; go_big_quiet_op; first | go_big_quiet_on | ((apply Exists.intro); (refine ⟨fun _ => ?_, ?_⟩); (· (go_at_call 82; exact Calls.gain (HST.out _ (mp_up (HM0.out) (by repeat (first | with_reducible (first | exact World.gained_refl _ | exact ⟨_, rfl⟩ | apply gain_ext | apply gain_alloc | apply gain_drewN | apply gain_drew) | (refine gain_setCell ?_ (by first | exact Nat.le_refl _ | exact World.size_ext _ _ | (simp; done) | (simp; omega)) _))))))); (go_big_quiet_on))))
                      refine wpQuiet_nil ?_
                      rintro _ ⟨d', rfl⟩
                      go_wp2
                      go_roundw
                      case rel => exact ⟨j + 1, by omega, by go_num, by rw [HX.out], (by repeat (first | with_reducible (first | exact World.gained_refl _ | exact ⟨_, rfl⟩ | apply gain_ext | apply gain_alloc | apply gain_drewN | apply gain_drew) | (refine gain_setCell ?_ (by first | exact Nat.le_refl _ | exact World.size_ext _ _ | (simp; done) | (simp; omega)) _))), by rw [HX.out]; exact World.heap_ext_old _ HC3.out, (own_up (HV'.out) (by repeat (first | with_reducible (first | exact World.gained_refl _ | exact ⟨_, rfl⟩ | apply gain_ext | apply gain_alloc | apply gain_drewN | apply gain_drew) | (refine gain_setCell ?_ (by first | exact Nat.le_refl _ | exact World.size_ext _ _ | (simp; done) | (simp; omega)) _))))⟩
                      case measure => simp [intOf]; omega
                  · obtain rfl : j = ks.length := by omega
                    have HX := Lib.hid (show passTo m L (c + 1) = (ks.take ks.length).foldl (rlx m c) s by rw [List.take_length]; exact HS'.out)
                    go_wp2
                    go_roundw
                    case rel => exact ⟨c + 1, by omega, by go_num, by rw [HX.out], ⟨_, rfl⟩, by rw [HX.out]; exact HC3.out⟩
                    case measure => simp [intOf]; omega
            · obtain rfl : c = m.cost.length := by omega
              have HP : Hid (passTo m L m.cost.length = passP m L) := Lib.hid rfl
              cases hp : (passP m L).2 with
              | true =>
                have HF := Lib.hid (fix_step HK.out HT.out hp)
                rw [show (passTo m L m.cost.length).2 = true from hp]
                go_wp2
                go_roundw
                case rel => exact ⟨true, (passP m L).1, rfl, ⟨_, rfl⟩, HC2.out, (passTo_inv HK.out HT.out _ (Nat.le_refl _)).1, fun _ => HRL.out.trans HF.out.1.symm, fun q => by cases q⟩
                case measure =>
                  have h1 := HF.out.2
                  show 1 + cellsSum ((W0.ext dZ).heap[w.heap.size + 1]?) < 1 + cellsSum ((W0.ext dY).heap[w.heap.size + 1]?)
                  rw [HC2.out, HC.out, cellsSum_ints, cellsSum_ints]
                  exact Nat.add_lt_add_left h1 1
              | false =>
                have HF := Lib.hid (fix_stop hp)
                rw [show (passTo m L m.cost.length).2 = false from hp]
                go_wp2
                go_roundw
                case rel => exact ⟨false, (passP m L).1, rfl, ⟨_, rfl⟩, HC2.out, (passTo_inv HK.out HT.out _ (Nat.le_refl _)).1, (fun q => by cases q), fun _ => HRL.out.trans HF.out⟩
                case measure =>
                  show 0 < 1 + cellsSum ((W0.ext dY).heap[w.heap.size + 1]?)
                  omega
end Go.Proofs.YtmcimgnobimicaaGreat
/- impl.leastTime. Conditions: a valid map; cells of it. -/
namespace Go.Proofs.YtmcimgnobimicaaGreat
open Go.RowKit Go.Ori
set_option maxHeartbeats 1000000 in
theorem leastTime_any (m : Mp) (rv cv : Value) (W H a b : Nat) (w : World) (hok : MapOk m W H) (h : w.mp rv cv m) (ha : a < m.cost.length) (hb : b < m.cost.length) :
    Calls Tryz.prog 24 #[.agg #[.int .i64 m.wd, .int .i64 m.ht, rv, cv], .int .i64 a, .int .i64 b] w fun x w' => x = .returned (.int .i64 (timeB m a b)) ∧ ∃ d, w' = w.ext d := by
  have hm := Lib.hid h
  have HK := Lib.hid hok
  have hn := hok.n36
  obtain ⟨p, c, p', c', rfl, rfl⟩ := mp_form h
  have HT : Hid (timeB m a b = (timesL m b).getD a 0) := Lib.hid rfl
  have HL := Lib.hid (times_inv hok hb).len
  generalize timeB m a b = z at HT ⊢
  clear h hok
  go_enter Tryz.func24, Tryz.ntmps24
  go_wp2_with fail
  refine (timesTo_any m _ _ W H b _ HK.out (mp_up (hm.out) (by repeat (first | with_reducible (first | exact World.gained_refl _ | exact ⟨_, rfl⟩ | apply gain_ext | apply gain_alloc | apply gain_drewN | apply gain_drew) | (refine gain_setCell ?_ (by first | exact Nat.le_refl _ | exact World.size_ext _ _ | (simp; done) | (simp; omega)) _)))) hb).mono ?_
  rintro e w1 ⟨v, rfl, ⟨d1, rfl⟩, hv⟩
  obtain ⟨g, cap, rfl, _, hgl⟩ := own_addr hv (by rw [HL.out]; omega)
  rw [HL.out] at hv ⊢
  obtain ⟨t0, _⟩ := own_at hv (k := a) (by rw [HL.out]; exact ha)
  rw [← HT.out] at t0
  have obg := World.oldB_of_cell t0
  clear hv hgl
  go_wp2
  go_ret
  exact ⟨rfl, (by repeat (first | with_reducible (first | exact World.gained_refl _ | exact ⟨_, rfl⟩ | apply gain_ext | apply gain_alloc | apply gain_drewN | apply gain_drew) | (refine gain_setCell ?_ (by first | exact Nat.le_refl _ | exact World.size_ext _ _ | (simp; done) | (simp; omega)) _)))⟩
end Go.Proofs.YtmcimgnobimicaaGreat
