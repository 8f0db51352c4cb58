/- impl.AreControls, spec.l6Good. Condition: at most 1048576 numbers, controls. -/
import Derived.Test.YtmcimgnobimicaaGreatG14
import Derived.Test.YtmcimgnobimicaaGreatG15
namespace Go.Proofs.YtmcimgnobimicaaGreat
open Go.RowKit Go.Ori
set_option maxHeartbeats 4000000 in
theorem areControls_any (m : Mp) (rv cv v : Value) (l : List Ctl) (w : World) (hmp : w.mp rv cv m) (h : w.sl Ctl.cells 2 v l) (hl : l.length ≤ 1048576) :
    Calls Tryz.prog 41 #[.agg #[.int .i64 m.wd, .int .i64 m.ht, rv, cv], v] w fun x w' => x = .returned (.bool (ctlsB m l)) ∧ ∃ d, w' = w.ext d := by
  have hm := Lib.hid hmp
  have hs := Lib.hid h
  obtain ⟨p1, c1, p2, c2, rfl, rfl⟩ := mp_form hmp
  obtain ⟨p, c, rfl, _⟩ := h
  clear hmp
  have HMB := Lib.hid (fun w' hw' => isMap_any m (.slice p1 m.rise.length c1) (.slice p2 m.cost.length c2) w' hw')
  have HOPN := Lib.hid (fun n w' hw' => isOpen_any m (.slice p1 m.rise.length c1) (.slice p2 m.cost.length c2) n w' hw')
  cases hB : mapB m with
  | false =>
    have HR := Lib.hid (show ctlsB m l = false by simp [ctlsB, hB])
    rw [hB] at HMB
    clear hB
    go_enter Tryz.func41, Tryz.ntmps41
    go_wp2_with (go_at_call 64; refine (HMB.out _ (mp_up (hm.out) (by repeat (first | with_reducible (first | exact World.gained_refl _ | exact ⟨_, rfl⟩ | apply gain_ext | apply gain_alloc | apply gain_drewN | apply gain_drew) | (refine gain_setCell ?_ (by first | exact Nat.le_refl _ | exact World.size_ext _ _ | (simp; done) | (simp; omega)) _))))).mono ?_; rintro e w1 ⟨rfl, d1, rfl⟩)
    go_ret
    rw [HR.out]
    exact ⟨rfl, (by repeat (first | with_reducible (first | exact World.gained_refl _ | exact ⟨_, rfl⟩ | apply gain_ext | apply gain_alloc | apply gain_drewN | apply gain_drew) | (refine gain_setCell ?_ (by first | exact Nat.le_refl _ | exact World.size_ext _ _ | (simp; done) | (simp; omega)) _)))⟩
  | true =>
    rw [hB] at HMB
    have HBB := Lib.hid hB
    clear hB
    by_cases hl10 : l.length ≤ 10
    · go_enter Tryz.func41, Tryz.ntmps41
      go_wp2_with fail
      generalize hW0 : w.alloc (.cells #[.int .i64 m.wd, .int .i64 m.ht, .slice p1 m.rise.length c1, .slice p2 m.cost.length c2] 26) = W0
      have hbx : MBox w W0 w.heap.size m (.slice p1 m.rise.length c1) (.slice p2 m.cost.length c2) := by rw [← hW0]; exact mbox
      have HG := Lib.hid hbx.up
      have hsz := hbx.sz
      have bx0 := hbx.c0
      have bx1 := hbx.c1
      have bx2 := hbx.c2
      have bx3 := hbx.c3
      have obx := hbx.ob
      have HM0 := Lib.hid (mp_up hm.out HG.out)
      have hs0 := Lib.hid (sl_up Ctl.cells_length hs.out HG.out)
      clear hW0 hbx hm hs
      refine (HMB.out _ HM0.out).mono ?_
      rintro e w1 ⟨rfl, d1, rfl⟩
      go_wp2_with fail
      go_loopw [17] (fun i wr => ∃ k : Nat, k ≤ l.length ∧ i = .int .i64 k ∧ (∀ j, j < k → ctlAt m l j = true) ∧ ∃ d, wr = W0.ext d) (fun i _ => l.length - (intOf i).toNat)
      case atStart => exact ⟨0, by omega, rfl, by simp, (by repeat (first | with_reducible (first | exact World.gained_refl _ | exact ⟨_, rfl⟩ | apply gain_ext | apply gain_alloc | apply gain_drewN | apply gain_drew) | (refine gain_setCell ?_ (by first | exact Nat.le_refl _ | exact World.size_ext _ _ | (simp; done) | (simp; omega)) _)))⟩
      case round =>
        obtain ⟨k, hk, rfl, hok, d, rfl⟩ := hrel
        have HO := Lib.hid hok
        clear hok
        by_cases hlt : k < l.length
        · skip
          obtain ⟨b, o, rfl⟩ := sl_some hs0.out (by omega)
          have hck := fun j (hj : j < 2) => sl_cells hs0.out hlt hj
          have c0 := hck 0 (by omega)
          have c1 := hck 1 (by omega)
          have cp := sl_cells hs0.out (k := k - 1) (by omega) (j := 0) (by omega)
          have he : l[k]? = some l[k] := by simp
          have hpe : l[k - 1]? = some (l[k - 1]'(by omega)) := by rw [List.getElem?_eq_getElem]
          generalize l[k] = e at c0 c1 he hck
          generalize l[k - 1]'(by omega) = e' at cp hpe
          have HE := Lib.hid (ctlAt_eq (m := m) he hpe)
          clear hck he hpe
          simp only [Ctl.cells, List.getElem?_cons_zero, List.getElem?_cons_succ, Nat.add_zero] at c0 c1 cp
          have ob := World.oldB_of_cell c0
          have HOP := Lib.hid (fun w' hw' => HOPN.out e.cell w' hw')
          cases hcd : insB e.code 31 99 with
          | false =>
            have HR := Lib.hid (show ctlsB m l = false by rw [ctlsB, allB_no hlt (by rw [HE.out]; rw [hcd]; rfl), Bool.and_false])
            go_wp2
            refine wp_region_gain (by kernel_rfl) (by kernel_rfl) ?_
            repeat (first | go_big_quiet_skip | (go_big_quiet_want; go_big_quiet_op; first | go_big_quiet_on | ((apply Exists.intro); (refine ⟨fun _ => ?_, ?_⟩); (· (first | (go_at_call 65; exact Calls.gain_same (isCode_any _ _)) | (go_at_call 66; exact Calls.gain (HOP.out _ (mp_up (HM0.out) (by repeat (first | with_reducible (first | exact World.gained_refl _ | exact ⟨_, rfl⟩ | apply gain_ext | apply gain_alloc | apply gain_drewN | apply gain_drew) | (refine gain_setCell ?_ (by first | exact Nat.le_refl _ | exact World.size_ext _ _ | (simp; done) | (simp; omega)) _)))))) | (go_at_call 67; exact Calls.gain (controlIn_any _ (l.take k) e.cell _ (sl_take (by with_reducible (repeat (first | exact hs0.out | refine World.sl_ext Ctl.cells_length ?_ _ | refine sl_alloc Ctl.cells_length ?_ _ | refine sl_drew ?_))) (by omega)) (by rw [List.length_take]; omega))))); (go_big_quiet_on))))
            refine wpQuiet_nil ?_
            rintro _ ⟨d', rfl⟩
            go_wp2
            go_ret
            rw [HR.out]
            exact ⟨rfl, gain_trans HG.out (by repeat (first | with_reducible (first | exact World.gained_refl _ | exact ⟨_, rfl⟩ | apply gain_ext | apply gain_alloc | apply gain_drewN | apply gain_drew) | (refine gain_setCell ?_ (by first | exact Nat.le_refl _ | exact World.size_ext _ _ | (simp; done) | (simp; omega)) _)))⟩
          | true =>
          cases hop : openB m e.cell with
          | false =>
            rw [hop] at HOP
            have HR := Lib.hid (show ctlsB m l = false by rw [ctlsB, allB_no hlt (by rw [HE.out]; rw [hop]; simp), Bool.and_false])
            go_wp2
            refine wp_region_gain (by kernel_rfl) (by kernel_rfl) ?_
            repeat (first | go_big_quiet_skip | (go_big_quiet_want; go_big_quiet_op; first | go_big_quiet_on | ((apply Exists.intro); (refine ⟨fun _ => ?_, ?_⟩); (· (first | (go_at_call 65; exact Calls.gain_same (isCode_any _ _)) | (go_at_call 66; exact Calls.gain (HOP.out _ (mp_up (HM0.out) (by repeat (first | with_reducible (first | exact World.gained_refl _ | exact ⟨_, rfl⟩ | apply gain_ext | apply gain_alloc | apply gain_drewN | apply gain_drew) | (refine gain_setCell ?_ (by first | exact Nat.le_refl _ | exact World.size_ext _ _ | (simp; done) | (simp; omega)) _)))))) | (go_at_call 67; exact Calls.gain (controlIn_any _ (l.take k) e.cell _ (sl_take (by with_reducible (repeat (first | exact hs0.out | refine World.sl_ext Ctl.cells_length ?_ _ | refine sl_alloc Ctl.cells_length ?_ _ | refine sl_drew ?_))) (by omega)) (by rw [List.length_take]; omega))))); (go_big_quiet_on))))
            refine wpQuiet_nil ?_
            rintro _ ⟨d', rfl⟩
            go_wp2
            go_ret
            rw [HR.out]
            exact ⟨rfl, gain_trans HG.out (by repeat (first | with_reducible (first | exact World.gained_refl _ | exact ⟨_, rfl⟩ | apply gain_ext | apply gain_alloc | apply gain_drewN | apply gain_drew) | (refine gain_setCell ?_ (by first | exact Nat.le_refl _ | exact World.size_ext _ _ | (simp; done) | (simp; omega)) _)))⟩
          | true =>
            rw [hop] at HOP
            by_cases hk0 : 0 < k
            · by_cases hid : e'.code < e.code
              · have hidd : decide (e.code ≤ e'.code) = false := decide_eq_false (by omega)
                cases hany : (l.take k).any (fun x => x.cell == e.cell) with
                | true =>
                  have hdd : decide (0 ≤ idxB (l.take k) fun x => x.cell == e.cell) = true := by rw [idxB_any, hany]
                  have HR := Lib.hid (show ctlsB m l = false by rw [ctlsB, allB_no hlt (by rw [HE.out]; rw [hany]; simp), Bool.and_false])
                  go_wp2
                  refine wp_region_gain (by kernel_rfl) (by kernel_rfl) ?_
                  repeat (first | go_big_quiet_skip | (go_big_quiet_want; go_big_quiet_op; first | go_big_quiet_on | ((apply Exists.intro); (refine ⟨fun _ => ?_, ?_⟩); (· (first | (go_at_call 65; exact Calls.gain_same (isCode_any _ _)) | (go_at_call 66; exact Calls.gain (HOP.out _ (mp_up (HM0.out) (by repeat (first | with_reducible (first | exact World.gained_refl _ | exact ⟨_, rfl⟩ | apply gain_ext | apply gain_alloc | apply gain_drewN | apply gain_drew) | (refine gain_setCell ?_ (by first | exact Nat.le_refl _ | exact World.size_ext _ _ | (simp; done) | (simp; omega)) _)))))) | (go_at_call 67; exact Calls.gain (controlIn_any _ (l.take k) e.cell _ (sl_take (by with_reducible (repeat (first | exact hs0.out | refine World.sl_ext Ctl.cells_length ?_ _ | refine sl_alloc Ctl.cells_length ?_ _ | refine sl_drew ?_))) (by omega)) (by rw [List.length_take]; omega))))); (go_big_quiet_on))))
                  refine wpQuiet_nil ?_
                  rintro _ ⟨d', rfl⟩
                  go_wp2
                  go_ret
                  rw [HR.out]
                  exact ⟨rfl, gain_trans HG.out (by repeat (first | with_reducible (first | exact World.gained_refl _ | exact ⟨_, rfl⟩ | apply gain_ext | apply gain_alloc | apply gain_drewN | apply gain_drew) | (refine gain_setCell ?_ (by first | exact Nat.le_refl _ | exact World.size_ext _ _ | (simp; done) | (simp; omega)) _)))⟩
                | false =>
                  have hdd : decide (0 ≤ idxB (l.take k) fun x => x.cell == e.cell) = false := by rw [idxB_any, hany]
                  have HS := Lib.hid (step_all HO.out (show ctlAt m l k = true by rw [HE.out, hcd, hop, hany]; simp; omega))
                  go_wp2
                  refine wp_region_gain (by kernel_rfl) (by kernel_rfl) ?_
                  repeat (first | go_big_quiet_skip | (go_big_quiet_want; go_big_quiet_op; first | go_big_quiet_on | ((apply Exists.intro); (refine ⟨fun _ => ?_, ?_⟩); (· (first | (go_at_call 65; exact Calls.gain_same (isCode_any _ _)) | (go_at_call 66; exact Calls.gain (HOP.out _ (mp_up (HM0.out) (by repeat (first | with_reducible (first | exact World.gained_refl _ | exact ⟨_, rfl⟩ | apply gain_ext | apply gain_alloc | apply gain_drewN | apply gain_drew) | (refine gain_setCell ?_ (by first | exact Nat.le_refl _ | exact World.size_ext _ _ | (simp; done) | (simp; omega)) _)))))) | (go_at_call 67; exact Calls.gain (controlIn_any _ (l.take k) e.cell _ (sl_take (by with_reducible (repeat (first | exact hs0.out | refine World.sl_ext Ctl.cells_length ?_ _ | refine sl_alloc Ctl.cells_length ?_ _ | refine sl_drew ?_))) (by omega)) (by rw [List.length_take]; omega))))); (go_big_quiet_on))))
                  refine wpQuiet_nil ?_
                  rintro _ ⟨d', rfl⟩
                  go_wp2
                  go_roundw
                  case rel => exact ⟨k + 1, by omega, by go_num, HS.out, (by repeat (first | with_reducible (first | exact World.gained_refl _ | exact ⟨_, rfl⟩ | apply gain_ext | apply gain_alloc | apply gain_drewN | apply gain_drew) | (refine gain_setCell ?_ (by first | exact Nat.le_refl _ | exact World.size_ext _ _ | (simp; done) | (simp; omega)) _)))⟩
                  case measure => simp [intOf]; omega
              · have hidd : decide (e.code ≤ e'.code) = true := decide_eq_true (by omega)
                have HR := Lib.hid (show ctlsB m l = false by rw [ctlsB, allB_no hlt (by rw [HE.out]; rw [decide_eq_false (by omega : ¬ k = 0), decide_eq_false hid]; simp), Bool.and_false])
                go_wp2
                refine wp_region_gain (by kernel_rfl) (by kernel_rfl) ?_
                repeat (first | go_big_quiet_skip | (go_big_quiet_want; go_big_quiet_op; first | go_big_quiet_on | ((apply Exists.intro); (refine ⟨fun _ => ?_, ?_⟩); (· (first | (go_at_call 65; exact Calls.gain_same (isCode_any _ _)) | (go_at_call 66; exact Calls.gain (HOP.out _ (mp_up (HM0.out) (by repeat (first | with_reducible (first | exact World.gained_refl _ | exact ⟨_, rfl⟩ | apply gain_ext | apply gain_alloc | apply gain_drewN | apply gain_drew) | (refine gain_setCell ?_ (by first | exact Nat.le_refl _ | exact World.size_ext _ _ | (simp; done) | (simp; omega)) _)))))) | (go_at_call 67; exact Calls.gain (controlIn_any _ (l.take k) e.cell _ (sl_take (by with_reducible (repeat (first | exact hs0.out | refine World.sl_ext Ctl.cells_length ?_ _ | refine sl_alloc Ctl.cells_length ?_ _ | refine sl_drew ?_))) (by omega)) (by rw [List.length_take]; omega))))); (go_big_quiet_on))))
                refine wpQuiet_nil ?_
                rintro _ ⟨d', rfl⟩
                go_wp2
                go_ret
                rw [HR.out]
                exact ⟨rfl, gain_trans HG.out (by repeat (first | with_reducible (first | exact World.gained_refl _ | exact ⟨_, rfl⟩ | apply gain_ext | apply gain_alloc | apply gain_drewN | apply gain_drew) | (refine gain_setCell ?_ (by first | exact Nat.le_refl _ | exact World.size_ext _ _ | (simp; done) | (simp; omega)) _)))⟩
            · skip
              cases hany : (l.take k).any (fun x => x.cell == e.cell) with
              | true =>
                have hdd : decide (0 ≤ idxB (l.take k) fun x => x.cell == e.cell) = true := by rw [idxB_any, hany]
                have HR := Lib.hid (show ctlsB m l = false by rw [ctlsB, allB_no hlt (by rw [HE.out]; rw [hany]; simp), Bool.and_false])
                go_wp2
                refine wp_region_gain (by kernel_rfl) (by kernel_rfl) ?_
                repeat (first | go_big_quiet_skip | (go_big_quiet_want; go_big_quiet_op; first | go_big_quiet_on | ((apply Exists.intro); (refine ⟨fun _ => ?_, ?_⟩); (· (first | (go_at_call 65; exact Calls.gain_same (isCode_any _ _)) | (go_at_call 66; exact Calls.gain (HOP.out _ (mp_up (HM0.out) (by repeat (first | with_reducible (first | exact World.gained_refl _ | exact ⟨_, rfl⟩ | apply gain_ext | apply gain_alloc | apply gain_drewN | apply gain_drew) | (refine gain_setCell ?_ (by first | exact Nat.le_refl _ | exact World.size_ext _ _ | (simp; done) | (simp; omega)) _)))))) | (go_at_call 67; exact Calls.gain (controlIn_any _ (l.take k) e.cell _ (sl_take (by with_reducible (repeat (first | exact hs0.out | refine World.sl_ext Ctl.cells_length ?_ _ | refine sl_alloc Ctl.cells_length ?_ _ | refine sl_drew ?_))) (by omega)) (by rw [List.length_take]; omega))))); (go_big_quiet_on))))
                refine wpQuiet_nil ?_
                rintro _ ⟨d', rfl⟩
                go_wp2
                go_ret
                rw [HR.out]
                exact ⟨rfl, gain_trans HG.out (by repeat (first | with_reducible (first | exact World.gained_refl _ | exact ⟨_, rfl⟩ | apply gain_ext | apply gain_alloc | apply gain_drewN | apply gain_drew) | (refine gain_setCell ?_ (by first | exact Nat.le_refl _ | exact World.size_ext _ _ | (simp; done) | (simp; omega)) _)))⟩
              | false =>
                have hdd : decide (0 ≤ idxB (l.take k) fun x => x.cell == e.cell) = false := by rw [idxB_any, hany]
                have HS := Lib.hid (step_all HO.out (show ctlAt m l k = true by rw [HE.out, hcd, hop, hany]; simp; omega))
                go_wp2
                refine wp_region_gain (by kernel_rfl) (by kernel_rfl) ?_
                repeat (first | go_big_quiet_skip | (go_big_quiet_want; go_big_quiet_op; first | go_big_quiet_on | ((apply Exists.intro); (refine ⟨fun _ => ?_, ?_⟩); (· (first | (go_at_call 65; exact Calls.gain_same (isCode_any _ _)) | (go_at_call 66; exact Calls.gain (HOP.out _ (mp_up (HM0.out) (by repeat (first | with_reducible (first | exact World.gained_refl _ | exact ⟨_, rfl⟩ | apply gain_ext | apply gain_alloc | apply gain_drewN | apply gain_drew) | (refine gain_setCell ?_ (by first | exact Nat.le_refl _ | exact World.size_ext _ _ | (simp; done) | (simp; omega)) _)))))) | (go_at_call 67; exact Calls.gain (controlIn_any _ (l.take k) e.cell _ (sl_take (by with_reducible (repeat (first | exact hs0.out | refine World.sl_ext Ctl.cells_length ?_ _ | refine sl_alloc Ctl.cells_length ?_ _ | refine sl_drew ?_))) (by omega)) (by rw [List.length_take]; omega))))); (go_big_quiet_on))))
                refine wpQuiet_nil ?_
                rintro _ ⟨d', rfl⟩
                go_wp2
                go_roundw
                case rel => exact ⟨k + 1, by omega, by go_num, HS.out, (by repeat (first | with_reducible (first | exact World.gained_refl _ | exact ⟨_, rfl⟩ | apply gain_ext | apply gain_alloc | apply gain_drewN | apply gain_drew) | (refine gain_setCell ?_ (by first | exact Nat.le_refl _ | exact World.size_ext _ _ | (simp; done) | (simp; omega)) _)))⟩
                case measure => simp [intOf]; omega
        · have HE := Lib.hid (show ctlsB m l = true by rw [ctlsB, HBB.out, allB_yes (fun j hj => HO.out j (by omega)), decide_eq_true hl10]; rfl)
          go_wp2
          go_ret
          rw [HE.out]
          exact ⟨rfl, gain_trans HG.out (by repeat (first | with_reducible (first | exact World.gained_refl _ | exact ⟨_, rfl⟩ | apply gain_ext | apply gain_alloc | apply gain_drewN | apply gain_drew) | (refine gain_setCell ?_ (by first | exact Nat.le_refl _ | exact World.size_ext _ _ | (simp; done) | (simp; omega)) _)))⟩
    · have HR := Lib.hid (show ctlsB m l = false by simp [ctlsB, hl10])
      go_enter Tryz.func41, Tryz.ntmps41
      go_wp2_with (go_at_call 64; refine (HMB.out _ (mp_up (hm.out) (by repeat (first | with_reducible (first | exact World.gained_refl _ | exact ⟨_, rfl⟩ | apply gain_ext | apply gain_alloc | apply gain_drewN | apply gain_drew) | (refine gain_setCell ?_ (by first | exact Nat.le_refl _ | exact World.size_ext _ _ | (simp; done) | (simp; omega)) _))))).mono ?_; rintro e w1 ⟨rfl, d1, rfl⟩)
      go_ret
      rw [HR.out]
      exact ⟨rfl, (by repeat (first | with_reducible (first | exact World.gained_refl _ | exact ⟨_, rfl⟩ | apply gain_ext | apply gain_alloc | apply gain_drewN | apply gain_drew) | (refine gain_setCell ?_ (by first | exact Nat.le_refl _ | exact World.size_ext _ _ | (simp; done) | (simp; omega)) _)))⟩
end Go.Proofs.YtmcimgnobimicaaGreat
