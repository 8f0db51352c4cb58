/- spec.l6Good, spec.AreControls. Condition: at most 1048576 numbers, controls. -/
import Derived.Test.YtmcimgnobimicaaGreatG16
namespace Go.Proofs.YtmcimgnobimicaaGreat
open Go.RowKit Go.Ori
set_option maxHeartbeats 4000000 in
theorem l6Good_any (m : Mp) (rv cv v : Value) (l : List Ctl) (w : World) (hmp : w.mp rv cv m) (h : w.sl Ctl.cells 2 v l) (hl : l.length ≤ 1048576) :
    Calls Tryz.prog 48 #[.agg #[.int .i64 m.wd, .int .i64 m.ht, rv, cv], v] w fun x w' => x = .returned (.bool (ctlsB m l)) ∧ ∃ d, w' = w.ext d := by
  have hm := Lib.hid hmp
  have hs := Lib.hid h
  obtain ⟨p1, c1, p2, c2, rfl, rfl⟩ := mp_form hmp
  obtain ⟨p, c, rfl, _⟩ := h
  clear hmp
  have HMB := Lib.hid (fun w' hw' => l2Map_any m (.slice p1 m.rise.length c1) (.slice p2 m.cost.length c2) w' hw')
  cases hB : mapB m with
  | false =>
    have HR := Lib.hid (show ctlsB m l = false by simp [ctlsB, hB])
    rw [hB] at HMB
    clear hB
    go_enter Tryz.func48, Tryz.ntmps48
    go_wp2_with (go_at_call 58; refine (HMB.out _ (mp_up (hm.out) (by repeat (first | with_reducible (first | exact World.gained_refl _ | exact ⟨_, rfl⟩ | apply gain_ext | apply gain_alloc | apply gain_drewN | apply gain_drew) | (refine gain_setCell ?_ (by first | exact Nat.le_refl _ | exact World.size_ext _ _ | (simp; done) | (simp; omega)) _))))).mono ?_; rintro e w1 ⟨rfl, d1, rfl⟩)
    go_ret
    rw [HR.out]
    exact ⟨rfl, (by repeat (first | with_reducible (first | exact World.gained_refl _ | exact ⟨_, rfl⟩ | apply gain_ext | apply gain_alloc | apply gain_drewN | apply gain_drew) | (refine gain_setCell ?_ (by first | exact Nat.le_refl _ | exact World.size_ext _ _ | (simp; done) | (simp; omega)) _)))⟩
  | true =>
    rw [hB] at HMB
    have HBB := Lib.hid hB
    have HOPN := Lib.hid (fun n w' hw' => l2Open_any m (.slice p1 m.rise.length c1) (.slice p2 m.cost.length c2) n w' hw' HBB.out)
    clear hB
    by_cases hl10 : l.length ≤ 10
    · go_enter Tryz.func48, Tryz.ntmps48
      go_wp2_with fail
      generalize hW0 : w.alloc (.cells #[.int .i64 m.wd, .int .i64 m.ht, .slice p1 m.rise.length c1, .slice p2 m.cost.length c2] 26) = W0
      have hbx : MBox w W0 w.heap.size m (.slice p1 m.rise.length c1) (.slice p2 m.cost.length c2) := by rw [← hW0]; exact mbox
      have HG := Lib.hid hbx.up
      have hsz := hbx.sz
      have bx0 := hbx.c0
      have bx1 := hbx.c1
      have bx2 := hbx.c2
      have bx3 := hbx.c3
      have obx := hbx.ob
      have HM0 := Lib.hid (mp_up hm.out HG.out)
      have hs0 := Lib.hid (sl_up Ctl.cells_length hs.out HG.out)
      clear hW0 hbx hm hs
      refine (HMB.out _ HM0.out).mono ?_
      rintro e w1 ⟨rfl, d1, rfl⟩
      go_wp2_with fail
      go_loopw [5] (fun i wr => ∃ k : Nat, k ≤ l.length ∧ i = .int .i64 k ∧ (∀ j, j < k → ctlAt m l j = true) ∧ ∃ d, wr = W0.ext d) (fun i _ => l.length - (intOf i).toNat)
      case atStart => exact ⟨0, by omega, rfl, by simp, (by repeat (first | with_reducible (first | exact World.gained_refl _ | exact ⟨_, rfl⟩ | apply gain_ext | apply gain_alloc | apply gain_drewN | apply gain_drew) | (refine gain_setCell ?_ (by first | exact Nat.le_refl _ | exact World.size_ext _ _ | (simp; done) | (simp; omega)) _)))⟩
      case round =>
        obtain ⟨k, hk, rfl, hok, d, rfl⟩ := hrel
        have HO := Lib.hid hok
        clear hok
        by_cases hlt : k < l.length
        · skip
          obtain ⟨b, o, rfl⟩ := sl_some hs0.out (by omega)
          have hck := fun j (hj : j < 2) => sl_cells hs0.out hlt hj
          have c0 := hck 0 (by omega)
          have c1 := hck 1 (by omega)
          have cp := sl_cells hs0.out (k := k - 1) (by omega) (j := 0) (by omega)
          have he : l[k]? = some l[k] := by simp
          have hpe : l[k - 1]? = some (l[k - 1]'(by omega)) := by rw [List.getElem?_eq_getElem]
          generalize l[k] = e at c0 c1 he hck
          generalize l[k - 1]'(by omega) = e' at cp hpe
          have HE := Lib.hid (ctlAt_eq (m := m) he hpe)
          clear hck he hpe
          simp only [Ctl.cells, List.getElem?_cons_zero, List.getElem?_cons_succ, Nat.add_zero] at c0 c1 cp
          have ob := World.oldB_of_cell c0
          have HOP := Lib.hid (fun w' hw' => HOPN.out e.cell w' hw')
          cases hcd : insB e.code 31 99 with
          | false =>
            have HR := Lib.hid (show ctlsB m l = false by rw [ctlsB, allB_no hlt (by rw [HE.out]; rw [hcd]; rfl), Bool.and_false])
            go_wp2
            refine wp_region_gain (by kernel_rfl) (by kernel_rfl) ?_
            repeat (first | go_big_quiet_skip | (go_big_quiet_want; go_big_quiet_op; first | go_big_quiet_on | ((apply Exists.intro); (refine ⟨fun _ => ?_, ?_⟩); (· (first | (go_at_call 83; exact Calls.gain_same (l6Code_any _ _)) | (go_at_call 84; exact Calls.gain (HOP.out _ (mp_up (HM0.out) (by repeat (first | with_reducible (first | exact World.gained_refl _ | exact ⟨_, rfl⟩ | apply gain_ext | apply gain_alloc | apply gain_drewN | apply gain_drew) | (refine gain_setCell ?_ (by first | exact Nat.le_refl _ | exact World.size_ext _ _ | (simp; done) | (simp; omega)) _)))))))); (go_big_quiet_on))))
            refine wpQuiet_nil ?_
            rintro _ ⟨d', rfl⟩
            go_wp2
            go_ret
            rw [HR.out]
            exact ⟨rfl, gain_trans HG.out (by repeat (first | with_reducible (first | exact World.gained_refl _ | exact ⟨_, rfl⟩ | apply gain_ext | apply gain_alloc | apply gain_drewN | apply gain_drew) | (refine gain_setCell ?_ (by first | exact Nat.le_refl _ | exact World.size_ext _ _ | (simp; done) | (simp; omega)) _)))⟩
          | true =>
          cases hop : openB m e.cell with
          | false =>
            rw [hop] at HOP
            have HR := Lib.hid (show ctlsB m l = false by rw [ctlsB, allB_no hlt (by rw [HE.out]; rw [hop]; simp), Bool.and_false])
            go_wp2
            refine wp_region_gain (by kernel_rfl) (by kernel_rfl) ?_
            repeat (first | go_big_quiet_skip | (go_big_quiet_want; go_big_quiet_op; first | go_big_quiet_on | ((apply Exists.intro); (refine ⟨fun _ => ?_, ?_⟩); (· (first | (go_at_call 83; exact Calls.gain_same (l6Code_any _ _)) | (go_at_call 84; exact Calls.gain (HOP.out _ (mp_up (HM0.out) (by repeat (first | with_reducible (first | exact World.gained_refl _ | exact ⟨_, rfl⟩ | apply gain_ext | apply gain_alloc | apply gain_drewN | apply gain_drew) | (refine gain_setCell ?_ (by first | exact Nat.le_refl _ | exact World.size_ext _ _ | (simp; done) | (simp; omega)) _)))))))); (go_big_quiet_on))))
            refine wpQuiet_nil ?_
            rintro _ ⟨d', rfl⟩
            go_wp2
            go_ret
            rw [HR.out]
            exact ⟨rfl, gain_trans HG.out (by repeat (first | with_reducible (first | exact World.gained_refl _ | exact ⟨_, rfl⟩ | apply gain_ext | apply gain_alloc | apply gain_drewN | apply gain_drew) | (refine gain_setCell ?_ (by first | exact Nat.le_refl _ | exact World.size_ext _ _ | (simp; done) | (simp; omega)) _)))⟩
          | true =>
            rw [hop] at HOP
            by_cases hk0 : 0 < k
            · by_cases hid : e'.code < e.code
              · have hidd : decide (e.code ≤ e'.code) = false := decide_eq_false (by omega)
                go_wp2
                refine wp_region_gain (by kernel_rfl) (by kernel_rfl) ?_
                repeat (first | go_big_quiet_skip | (go_big_quiet_want; go_big_quiet_op; first | go_big_quiet_on | ((apply Exists.intro); (refine ⟨fun _ => ?_, ?_⟩); (· (first | (go_at_call 83; exact Calls.gain_same (l6Code_any _ _)) | (go_at_call 84; exact Calls.gain (HOP.out _ (mp_up (HM0.out) (by repeat (first | with_reducible (first | exact World.gained_refl _ | exact ⟨_, rfl⟩ | apply gain_ext | apply gain_alloc | apply gain_drewN | apply gain_drew) | (refine gain_setCell ?_ (by first | exact Nat.le_refl _ | exact World.size_ext _ _ | (simp; done) | (simp; omega)) _)))))))); (go_big_quiet_on))))
                refine wpQuiet_nil ?_
                rintro _ ⟨d', rfl⟩
                go_wp2
                have HCD := Lib.hid hcd
                have HOPB := Lib.hid hop
                clear hcd hop HOP cp
                try clear hidd
                go_loopw [6] (fun i wr => ∃ q : Nat, q ≤ k ∧ i = .int .i64 q ∧ (∀ (j : Nat) (hj : j < l.length), j < q → (l[j].cell == e.cell) = false) ∧ ∃ d, wr = W0.ext d) (fun i _ => k - (intOf i).toNat)
                case atStart => exact ⟨0, by omega, rfl, by simp, (by repeat (first | with_reducible (first | exact World.gained_refl _ | exact ⟨_, rfl⟩ | apply gain_ext | apply gain_alloc | apply gain_drewN | apply gain_drew) | (refine gain_setCell ?_ (by first | exact Nat.le_refl _ | exact World.size_ext _ _ | (simp; done) | (simp; omega)) _)))⟩
                case round =>
                  obtain ⟨q, hqk, rfl, hno, d2, rfl⟩ := hrel
                  have HN := Lib.hid hno
                  clear hno
                  by_cases hql : q < k
                  · have cq := sl_cells hs0.out (k := q) (by omega) (j := 1) (by omega)
                    have HANY := Lib.hid (fun (hf : (l[q].cell == e.cell) = true) => show (l.take k).any (fun x => x.cell == e.cell) = true from List.any_eq_true.2 ⟨l[q], by rw [List.mem_take_iff_getElem]; exact ⟨q, by omega, rfl⟩, hf⟩)
                    have HSTEP := Lib.hid (fun (hf : (l[q].cell == e.cell) = false) => (show ∀ (j : Nat) (hj : j < l.length), j < q + 1 → (l[j].cell == e.cell) = false from fun j hj hjk => by
                      by_cases ee : j = q
                      · subst ee; exact hf
                      · exact HN.out j hj (by omega)))
                    generalize l[q] = y at cq HANY HSTEP
                    simp only [Ctl.cells, List.getElem?_cons_zero, List.getElem?_cons_succ, Nat.add_zero] at cq
                    cases hy : (y.cell == e.cell) with
                    | true =>
                      have HR := Lib.hid (show ctlsB m l = false by rw [ctlsB, allB_no hlt (by rw [HE.out, HANY.out hy]; simp), Bool.and_false])
                      go_wp2
                      refine wp_region_gain (by kernel_rfl) (by kernel_rfl) ?_
                      repeat (first | go_big_quiet_skip | (go_big_quiet_want; go_big_quiet_op; first | go_big_quiet_on))
                      refine wpQuiet_nil ?_
                      rintro _ ⟨d', rfl⟩
                      go_wp2
                      go_ret
                      rw [HR.out]
                      exact ⟨rfl, gain_trans HG.out (by repeat (first | with_reducible (first | exact World.gained_refl _ | exact ⟨_, rfl⟩ | apply gain_ext | apply gain_alloc | apply gain_drewN | apply gain_drew) | (refine gain_setCell ?_ (by first | exact Nat.le_refl _ | exact World.size_ext _ _ | (simp; done) | (simp; omega)) _)))⟩
                    | false =>
                      have HS := Lib.hid (HSTEP.out hy)
                      go_wp2
                      refine wp_region_gain (by kernel_rfl) (by kernel_rfl) ?_
                      repeat (first | go_big_quiet_skip | (go_big_quiet_want; go_big_quiet_op; first | go_big_quiet_on))
                      refine wpQuiet_nil ?_
                      rintro _ ⟨d', rfl⟩
                      go_wp2
                      go_roundw
                      case rel => exact ⟨q + 1, by omega, by go_num, HS.out, (by repeat (first | with_reducible (first | exact World.gained_refl _ | exact ⟨_, rfl⟩ | apply gain_ext | apply gain_alloc | apply gain_drewN | apply gain_drew) | (refine gain_setCell ?_ (by first | exact Nat.le_refl _ | exact World.size_ext _ _ | (simp; done) | (simp; omega)) _)))⟩
                      case measure => simp [intOf]; omega
                  · have HS := Lib.hid (step_all HO.out (show ctlAt m l k = true by
                      rw [HE.out, HCD.out, HOPB.out]
                      have : (l.take k).any (fun x => x.cell == e.cell) = false := by
                        rw [List.any_eq_false]
                        intro x hx
                        rw [List.mem_take_iff_getElem] at hx
                        obtain ⟨j, hj, rfl⟩ := hx
                        simp [HN.out j (by omega) (by omega)]
                      rw [this]; simp; omega))
                    go_wp2
                    go_roundw
                    case rel => exact ⟨k + 1, by omega, by go_num, HS.out, (by repeat (first | with_reducible (first | exact World.gained_refl _ | exact ⟨_, rfl⟩ | apply gain_ext | apply gain_alloc | apply gain_drewN | apply gain_drew) | (refine gain_setCell ?_ (by first | exact Nat.le_refl _ | exact World.size_ext _ _ | (simp; done) | (simp; omega)) _)))⟩
                    case measure => simp [intOf]; omega
              · have hidd : decide (e.code ≤ e'.code) = true := decide_eq_true (by omega)
                have HR := Lib.hid (show ctlsB m l = false by rw [ctlsB, allB_no hlt (by rw [HE.out]; rw [decide_eq_false (by omega : ¬ k = 0), decide_eq_false hid]; simp), Bool.and_false])
                go_wp2
                refine wp_region_gain (by kernel_rfl) (by kernel_rfl) ?_
                repeat (first | go_big_quiet_skip | (go_big_quiet_want; go_big_quiet_op; first | go_big_quiet_on | ((apply Exists.intro); (refine ⟨fun _ => ?_, ?_⟩); (· (first | (go_at_call 83; exact Calls.gain_same (l6Code_any _ _)) | (go_at_call 84; exact Calls.gain (HOP.out _ (mp_up (HM0.out) (by repeat (first | with_reducible (first | exact World.gained_refl _ | exact ⟨_, rfl⟩ | apply gain_ext | apply gain_alloc | apply gain_drewN | apply gain_drew) | (refine gain_setCell ?_ (by first | exact Nat.le_refl _ | exact World.size_ext _ _ | (simp; done) | (simp; omega)) _)))))))); (go_big_quiet_on))))
                refine wpQuiet_nil ?_
                rintro _ ⟨d', rfl⟩
                go_wp2
                go_ret
                rw [HR.out]
                exact ⟨rfl, gain_trans HG.out (by repeat (first | with_reducible (first | exact World.gained_refl _ | exact ⟨_, rfl⟩ | apply gain_ext | apply gain_alloc | apply gain_drewN | apply gain_drew) | (refine gain_setCell ?_ (by first | exact Nat.le_refl _ | exact World.size_ext _ _ | (simp; done) | (simp; omega)) _)))⟩
            · obtain rfl : k = 0 := by omega
              simp only [Nat.zero_mul, Nat.add_zero] at c0 c1
              clear cp
              have HS := Lib.hid (step_all HO.out (show ctlAt m l 0 = true by rw [HE.out, hcd, hop]; simp))
              go_wp2
              refine wp_region_gain (by kernel_rfl) (by kernel_rfl) ?_
              repeat (first | go_big_quiet_skip | (go_big_quiet_want; go_big_quiet_op; first | go_big_quiet_on | ((apply Exists.intro); (refine ⟨fun _ => ?_, ?_⟩); (· (first | (go_at_call 83; exact Calls.gain_same (l6Code_any _ _)) | (go_at_call 84; exact Calls.gain (HOP.out _ (mp_up (HM0.out) (by repeat (first | with_reducible (first | exact World.gained_refl _ | exact ⟨_, rfl⟩ | apply gain_ext | apply gain_alloc | apply gain_drewN | apply gain_drew) | (refine gain_setCell ?_ (by first | exact Nat.le_refl _ | exact World.size_ext _ _ | (simp; done) | (simp; omega)) _)))))))); (go_big_quiet_on))))
              refine wpQuiet_nil ?_
              rintro _ ⟨d', rfl⟩
              go_wp2
              go_loopw [6] (fun i wr => i = .int .i64 0 ∧ ∃ d, wr = W0.ext d) (fun _ _ => 0)
              case atStart => exact ⟨rfl, (by repeat (first | with_reducible (first | exact World.gained_refl _ | exact ⟨_, rfl⟩ | apply gain_ext | apply gain_alloc | apply gain_drewN | apply gain_drew) | (refine gain_setCell ?_ (by first | exact Nat.le_refl _ | exact World.size_ext _ _ | (simp; done) | (simp; omega)) _)))⟩
              case round =>
                obtain ⟨rfl, d2, rfl⟩ := hrel
                go_wp2
                go_roundw
                case rel => exact ⟨0 + 1, by omega, by go_num, HS.out, (by repeat (first | with_reducible (first | exact World.gained_refl _ | exact ⟨_, rfl⟩ | apply gain_ext | apply gain_alloc | apply gain_drewN | apply gain_drew) | (refine gain_setCell ?_ (by first | exact Nat.le_refl _ | exact World.size_ext _ _ | (simp; done) | (simp; omega)) _)))⟩
                case measure => simp [intOf]; omega
        · have HE := Lib.hid (show ctlsB m l = true by rw [ctlsB, HBB.out, allB_yes (fun j hj => HO.out j (by omega)), decide_eq_true hl10]; rfl)
          go_wp2
          go_ret
          rw [HE.out]
          exact ⟨rfl, gain_trans HG.out (by repeat (first | with_reducible (first | exact World.gained_refl _ | exact ⟨_, rfl⟩ | apply gain_ext | apply gain_alloc | apply gain_drewN | apply gain_drew) | (refine gain_setCell ?_ (by first | exact Nat.le_refl _ | exact World.size_ext _ _ | (simp; done) | (simp; omega)) _)))⟩
    · have HR := Lib.hid (show ctlsB m l = false by simp [ctlsB, hl10])
      go_enter Tryz.func48, Tryz.ntmps48
      go_wp2_with (go_at_call 58; refine (HMB.out _ (mp_up (hm.out) (by repeat (first | with_reducible (first | exact World.gained_refl _ | exact ⟨_, rfl⟩ | apply gain_ext | apply gain_alloc | apply gain_drewN | apply gain_drew) | (refine gain_setCell ?_ (by first | exact Nat.le_refl _ | exact World.size_ext _ _ | (simp; done) | (simp; omega)) _))))).mono ?_; rintro e w1 ⟨rfl, d1, rfl⟩)
      go_ret
      rw [HR.out]
      exact ⟨rfl, (by repeat (first | with_reducible (first | exact World.gained_refl _ | exact ⟨_, rfl⟩ | apply gain_ext | apply gain_alloc | apply gain_drewN | apply gain_drew) | (refine gain_setCell ?_ (by first | exact Nat.le_refl _ | exact World.size_ext _ _ | (simp; done) | (simp; omega)) _)))⟩
end Go.Proofs.YtmcimgnobimicaaGreat
