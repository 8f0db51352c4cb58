/- impl.IsCourse. Condition: at most 1048576 numbers, controls, codes. -/
import Derived.Test.YtmcimgnobimicaaGreatG26
namespace Go.Proofs.YtmcimgnobimicaaGreat
open Go.RowKit Go.Ori
set_option maxHeartbeats 4000000 in
theorem isCourse_any (m : Mp) (rv cv v u : Value) (l : List Ctl) (t : List Int) (w : World) (hmp : w.mp rv cv m) (h : w.sl Ctl.cells 2 v l) (hl : l.length ≤ 1048576) (h2 : w.sl intC 1 u t) (hl2 : t.length ≤ 1048576) :
    Calls Tryz.prog 20 #[.agg #[.int .i64 m.wd, .int .i64 m.ht, rv, cv], v, u] w fun x w' => x = .returned (.bool (crsB m l t)) ∧ ∃ d, w' = w.ext d := by
  have hm := Lib.hid hmp
  have hs := Lib.hid h
  have ht := Lib.hid h2
  obtain ⟨p1, c1, p2, c2, rfl, rfl⟩ := mp_form hmp
  obtain ⟨p, c, rfl, _⟩ := id h
  obtain ⟨p', c', rfl, _⟩ := id h2
  clear hmp h h2
  have HGD := Lib.hid (fun w' hw' hv' => areControls_any m (.slice p1 m.rise.length c1) (.slice p2 m.cost.length c2) (.slice p l.length c) l w' hw' hv' hl)
  cases hB : ctlsB m l with
  | false =>
    have HR := Lib.hid (show crsB m l t = false by simp [crsB, hB])
    rw [hB] at HGD
    clear hB
    go_enter Tryz.func20, Tryz.ntmps20
    go_wp2_with (go_at_call 41; refine (HGD.out _ (mp_up (hm.out) (by repeat (first | with_reducible (first | exact World.gained_refl _ | exact ⟨_, rfl⟩ | apply gain_ext | apply gain_alloc | apply gain_drewN | apply gain_drew) | (refine gain_setCell ?_ (by first | exact Nat.le_refl _ | exact World.size_ext _ _ | (simp; done) | (simp; omega)) _)))) (by with_reducible (repeat (first | exact hs.out | refine World.sl_ext Ctl.cells_length ?_ _ | refine sl_alloc Ctl.cells_length ?_ _ | refine sl_drew ?_)))).mono ?_; rintro e w1 ⟨rfl, d1, rfl⟩)
    go_ret
    rw [HR.out]
    exact ⟨rfl, (by repeat (first | with_reducible (first | exact World.gained_refl _ | exact ⟨_, rfl⟩ | apply gain_ext | apply gain_alloc | apply gain_drewN | apply gain_drew) | (refine gain_setCell ?_ (by first | exact Nat.le_refl _ | exact World.size_ext _ _ | (simp; done) | (simp; omega)) _)))⟩
  | true =>
  have HBB := Lib.hid hB
  rw [hB] at HGD
  clear hB
  cases hI : insB t.length 2 8 with
  | false =>
    have HR := Lib.hid (show crsB m l t = false by simp [crsB, hI])
    go_enter Tryz.func20, Tryz.ntmps20
    go_wp2_with (first | (go_at_call 41; refine (HGD.out _ (mp_up (hm.out) (by repeat (first | with_reducible (first | exact World.gained_refl _ | exact ⟨_, rfl⟩ | apply gain_ext | apply gain_alloc | apply gain_drewN | apply gain_drew) | (refine gain_setCell ?_ (by first | exact Nat.le_refl _ | exact World.size_ext _ _ | (simp; done) | (simp; omega)) _)))) (by with_reducible (repeat (first | exact hs.out | refine World.sl_ext Ctl.cells_length ?_ _ | refine sl_alloc Ctl.cells_length ?_ _ | refine sl_drew ?_)))).mono ?_; rintro e w1 ⟨rfl, d1, rfl⟩) | (go_at_call 42; refine (inside_any _ _ _ _).mono ?_; rintro e w1 ⟨rfl, rfl⟩))
    go_ret
    rw [HR.out]
    exact ⟨rfl, (by repeat (first | with_reducible (first | exact World.gained_refl _ | exact ⟨_, rfl⟩ | apply gain_ext | apply gain_alloc | apply gain_drewN | apply gain_drew) | (refine gain_setCell ?_ (by first | exact Nat.le_refl _ | exact World.size_ext _ _ | (simp; done) | (simp; omega)) _)))⟩
  | true =>
    obtain ⟨W, H, hok⟩ := mapB_ok (ctlsB_map HBB.out)
    have HK := Lib.hid hok
    have HIB := Lib.hid hI
    have ht8 : t.length ≤ 8 := by rw [insB_true] at hI; omega
    clear hok
    go_enter Tryz.func20, Tryz.ntmps20
    go_wp2_with fail
    generalize hW0 : w.alloc (.cells #[.int .i64 m.wd, .int .i64 m.ht, .slice p1 m.rise.length c1, .slice p2 m.cost.length c2] 26) = W0
    have hbx : MBox w W0 w.heap.size m (.slice p1 m.rise.length c1) (.slice p2 m.cost.length c2) := by rw [← hW0]; exact mbox
    have HG := Lib.hid hbx.up
    have hsz := hbx.sz
    have bx0 := hbx.c0
    have bx1 := hbx.c1
    have bx2 := hbx.c2
    have bx3 := hbx.c3
    have obx := hbx.ob
    have HM0 := Lib.hid (mp_up hm.out HG.out)
    have hs0 := Lib.hid (sl_up Ctl.cells_length hs.out HG.out)
    have ht0 := Lib.hid (sl_up intC_length ht.out HG.out)
    clear hW0 hbx hm hs ht
    refine (HGD.out _ HM0.out hs0.out).mono ?_
    rintro e w1 ⟨rfl, d1, rfl⟩
    go_wp2_with (go_at_call 42; refine (inside_any _ _ _ _).mono ?_; rintro e w1 ⟨rfl, rfl⟩)
    clear hI
    go_loopw [21] (fun i wr => ∃ k : Nat, k ≤ t.length ∧ i = .int .i64 k ∧ (∀ j, j < k → crsAt m l t j = true) ∧ ∃ d, wr = W0.ext d) (fun i _ => t.length - (intOf i).toNat)
    case atStart => exact ⟨0, by omega, rfl, by simp, (by repeat (first | with_reducible (first | exact World.gained_refl _ | exact ⟨_, rfl⟩ | apply gain_ext | apply gain_alloc | apply gain_drewN | apply gain_drew) | (refine gain_setCell ?_ (by first | exact Nat.le_refl _ | exact World.size_ext _ _ | (simp; done) | (simp; omega)) _)))⟩
    case round =>
      obtain ⟨k, hk, rfl, hoc, d, rfl⟩ := hrel
      have HO := Lib.hid hoc
      clear hoc
      by_cases hlt : k < t.length
      · obtain ⟨b, o, rfl⟩ := sl_some ht0.out (by omega)
        have c0 := sl_int ht0.out hlt
        have he : t[k]? = some t[k] := by simp
        have hk1 : k - 1 < t.length := by omega
        have hpe : t[k - 1]? = some (t[k - 1]'hk1) := List.getElem?_eq_getElem hk1
        have cp := sl_int ht0.out (k := k - 1) hk1
        have HPK := Lib.hid (fun (h0 : 0 < k) => show hasK l (t[k - 1]'hk1) = true by
          have := HO.out (k - 1) (by omega)
          rw [crsAt, hpe] at this
          simp only [Bool.and_eq_true] at this
          exact this.1)
        generalize t[k] = x at c0 he
        generalize t[k - 1]'hk1 = y at cp hpe HPK
        have HE := Lib.hid (crsAt_eq (m := m) (l := l) he hpe)
        clear he hpe
        have ob := World.oldB_of_cell c0
        cases hx : hasK l x with
        | false =>
          have hix := idxK_no hx
          have HR := Lib.hid (show crsB m l t = false by rw [crsB, allB_no hlt (by rw [HE.out, hx]; rfl), Bool.and_false])
          clear hx
          go_wp2_with (go_at_call 43; refine (controlOf_any _ l x _ (by with_reducible (repeat (first | exact hs0.out | refine World.sl_ext Ctl.cells_length ?_ _ | refine sl_alloc Ctl.cells_length ?_ _ | refine sl_drew ?_))) hl).mono ?_; rw [hix]; rintro e w1 ⟨rfl, d1, rfl⟩)
          go_ret
          rw [HR.out]
          exact ⟨rfl, gain_trans HG.out (by repeat (first | with_reducible (first | exact World.gained_refl _ | exact ⟨_, rfl⟩ | apply gain_ext | apply gain_alloc | apply gain_drewN | apply gain_drew) | (refine gain_setCell ?_ (by first | exact Nat.le_refl _ | exact World.size_ext _ _ | (simp; done) | (simp; omega)) _)))⟩
        | true =>
          have hix := idxK_yes hx
          obtain ⟨x1, x2, x3⟩ := cellK_open HBB.out hx
          have HCX := Lib.hid (fun w' hw' => cellOf_any (.slice p l.length c) l x w' hw' hl hx x1)
          have HX := Lib.hid hx
          clear hx x1
          by_cases hk0 : 0 < k
          · have hy := HPK.out hk0
            obtain ⟨y1, y2, y3⟩ := cellK_open HBB.out hy
            have HCP := Lib.hid (fun w' hw' => cellOf_any (.slice p l.length c) l y w' hw' hl hy y1)
            have HLT := Lib.hid (fun w' hw' => leastTime_any m (.slice p1 m.rise.length c1) (.slice p2 m.cost.length c2) W H (cellN l y) (cellN l x) w' HK.out hw' y2 x2)
            have hzb : timeB m (cellN l y) (cellN l x) ≤ 1073741824 := (times_inv HK.out x2).hi _
            generalize timeB m (cellN l y) (cellN l x) = z at HE HLT hzb
            clear hy y1
            cases hyx : (y == x) with
            | true =>
              have hyx' : y = x := by simpa using hyx
              have HR := Lib.hid (show crsB m l t = false by rw [crsB, allB_no hlt (by rw [HE.out]; rw [HX.out, decide_eq_false (by omega : ¬ k = 0), decide_eq_false (by simp [hyx'] : ¬ y ≠ x)]; rfl), Bool.and_false])
              go_wp2_with (go_at_call 43; refine (controlOf_any _ l x _ (by with_reducible (repeat (first | exact hs0.out | refine World.sl_ext Ctl.cells_length ?_ _ | refine sl_alloc Ctl.cells_length ?_ _ | refine sl_drew ?_))) hl).mono ?_; rw [hix]; rintro e w1 ⟨rfl, d1, rfl⟩)
              refine wp_region_gain (by kernel_rfl) (by kernel_rfl) ?_
              repeat (first | go_big_quiet_skip | (go_big_quiet_want; go_big_quiet_op; first | go_big_quiet_on | ((apply Exists.intro); (refine ⟨fun _ => ?_, ?_⟩); (· (first | (go_at_call 25; ((with_reducible exact Calls.gain (HCX.out _ (by with_reducible (repeat (first | exact hs0.out | refine World.sl_ext Ctl.cells_length ?_ _ | refine sl_alloc Ctl.cells_length ?_ _ | refine sl_drew ?_))))))) | (go_at_call 25; ((with_reducible exact Calls.gain (HCP.out _ (by with_reducible (repeat (first | exact hs0.out | refine World.sl_ext Ctl.cells_length ?_ _ | refine sl_alloc Ctl.cells_length ?_ _ | refine sl_drew ?_))))))) | (go_at_call 24; ((with_reducible exact Calls.gain (HLT.out _ (mp_up (HM0.out) (by repeat (first | with_reducible (first | exact World.gained_refl _ | exact ⟨_, rfl⟩ | apply gain_ext | apply gain_alloc | apply gain_drewN | apply gain_drew) | (refine gain_setCell ?_ (by first | exact Nat.le_refl _ | exact World.size_ext _ _ | (simp; done) | (simp; omega)) _)))))))))); (go_big_quiet_on))))
              refine wpQuiet_nil ?_
              rintro _ ⟨d', rfl⟩
              go_wp2
              go_ret
              rw [HR.out]
              exact ⟨rfl, gain_trans HG.out (by repeat (first | with_reducible (first | exact World.gained_refl _ | exact ⟨_, rfl⟩ | apply gain_ext | apply gain_alloc | apply gain_drewN | apply gain_drew) | (refine gain_setCell ?_ (by first | exact Nat.le_refl _ | exact World.size_ext _ _ | (simp; done) | (simp; omega)) _)))⟩
            | false =>
              have hyx' : y ≠ x := by simpa using hyx
              cases hzz : (z == 1073741824) with
              | true =>
                have hzz' : z = 1073741824 := by simpa using hzz
                have HR := Lib.hid (show crsB m l t = false by rw [crsB, allB_no hlt (by rw [HE.out, HX.out, decide_eq_false (by omega : ¬ k = 0), decide_eq_false (by omega : ¬ z < 1073741824)]; simp), Bool.and_false])
                clear hyx'
                subst hzz'
                clear hzz
                go_wp2_with (go_at_call 43; refine (controlOf_any _ l x _ (by with_reducible (repeat (first | exact hs0.out | refine World.sl_ext Ctl.cells_length ?_ _ | refine sl_alloc Ctl.cells_length ?_ _ | refine sl_drew ?_))) hl).mono ?_; rw [hix]; rintro e w1 ⟨rfl, d1, rfl⟩)
                refine wp_region_gain (by kernel_rfl) (by kernel_rfl) ?_
                repeat (first | go_big_quiet_skip | (go_big_quiet_want; go_big_quiet_op; first | go_big_quiet_on | ((apply Exists.intro); (refine ⟨fun _ => ?_, ?_⟩); (· (first | (go_at_call 25; ((with_reducible exact Calls.gain (HCX.out _ (by with_reducible (repeat (first | exact hs0.out | refine World.sl_ext Ctl.cells_length ?_ _ | refine sl_alloc Ctl.cells_length ?_ _ | refine sl_drew ?_))))))) | (go_at_call 25; ((with_reducible exact Calls.gain (HCP.out _ (by with_reducible (repeat (first | exact hs0.out | refine World.sl_ext Ctl.cells_length ?_ _ | refine sl_alloc Ctl.cells_length ?_ _ | refine sl_drew ?_))))))) | (go_at_call 24; ((with_reducible exact Calls.gain (HLT.out _ (mp_up (HM0.out) (by repeat (first | with_reducible (first | exact World.gained_refl _ | exact ⟨_, rfl⟩ | apply gain_ext | apply gain_alloc | apply gain_drewN | apply gain_drew) | (refine gain_setCell ?_ (by first | exact Nat.le_refl _ | exact World.size_ext _ _ | (simp; done) | (simp; omega)) _)))))))))); (go_big_quiet_on))))
                refine wpQuiet_nil ?_
                rintro _ ⟨d', rfl⟩
                go_wp2
                go_ret
                rw [HR.out]
                exact ⟨rfl, gain_trans HG.out (by repeat (first | with_reducible (first | exact World.gained_refl _ | exact ⟨_, rfl⟩ | apply gain_ext | apply gain_alloc | apply gain_drewN | apply gain_drew) | (refine gain_setCell ?_ (by first | exact Nat.le_refl _ | exact World.size_ext _ _ | (simp; done) | (simp; omega)) _)))⟩
              | false =>
                have HS := Lib.hid (step_all HO.out (show crsAt m l t k = true by
                  have : z ≠ 1073741824 := by simpa using hzz
                  rw [HE.out, HX.out, decide_eq_true hyx', decide_eq_true (by omega : z < 1073741824)]; simp))
                clear hyx'
                go_wp2_with (go_at_call 43; refine (controlOf_any _ l x _ (by with_reducible (repeat (first | exact hs0.out | refine World.sl_ext Ctl.cells_length ?_ _ | refine sl_alloc Ctl.cells_length ?_ _ | refine sl_drew ?_))) hl).mono ?_; rw [hix]; rintro e w1 ⟨rfl, d1, rfl⟩)
                refine wp_region_gain (by kernel_rfl) (by kernel_rfl) ?_
                repeat (first | go_big_quiet_skip | (go_big_quiet_want; go_big_quiet_op; first | go_big_quiet_on | ((apply Exists.intro); (refine ⟨fun _ => ?_, ?_⟩); (· (first | (go_at_call 25; ((with_reducible exact Calls.gain (HCX.out _ (by with_reducible (repeat (first | exact hs0.out | refine World.sl_ext Ctl.cells_length ?_ _ | refine sl_alloc Ctl.cells_length ?_ _ | refine sl_drew ?_))))))) | (go_at_call 25; ((with_reducible exact Calls.gain (HCP.out _ (by with_reducible (repeat (first | exact hs0.out | refine World.sl_ext Ctl.cells_length ?_ _ | refine sl_alloc Ctl.cells_length ?_ _ | refine sl_drew ?_))))))) | (go_at_call 24; ((with_reducible exact Calls.gain (HLT.out _ (mp_up (HM0.out) (by repeat (first | with_reducible (first | exact World.gained_refl _ | exact ⟨_, rfl⟩ | apply gain_ext | apply gain_alloc | apply gain_drewN | apply gain_drew) | (refine gain_setCell ?_ (by first | exact Nat.le_refl _ | exact World.size_ext _ _ | (simp; done) | (simp; omega)) _)))))))))); (go_big_quiet_on))))
                refine wpQuiet_nil ?_
                rintro _ ⟨d', rfl⟩
                go_wp2
                go_roundw
                case rel => exact ⟨k + 1, by omega, by go_num, HS.out, (by repeat (first | with_reducible (first | exact World.gained_refl _ | exact ⟨_, rfl⟩ | apply gain_ext | apply gain_alloc | apply gain_drewN | apply gain_drew) | (refine gain_setCell ?_ (by first | exact Nat.le_refl _ | exact World.size_ext _ _ | (simp; done) | (simp; omega)) _)))⟩
                case measure => simp [intOf]; omega
          · have HS := Lib.hid (step_all HO.out (show crsAt m l t k = true by rw [HE.out, HX.out]; simp; omega))
            go_wp2_with (go_at_call 43; refine (controlOf_any _ l x _ (by with_reducible (repeat (first | exact hs0.out | refine World.sl_ext Ctl.cells_length ?_ _ | refine sl_alloc Ctl.cells_length ?_ _ | refine sl_drew ?_))) hl).mono ?_; rw [hix]; rintro e w1 ⟨rfl, d1, rfl⟩)
            refine wp_region_gain (by kernel_rfl) (by kernel_rfl) ?_
            repeat (first | go_big_quiet_skip | (go_big_quiet_want; go_big_quiet_op; first | go_big_quiet_on))
            refine wpQuiet_nil ?_
            rintro _ ⟨d', rfl⟩
            go_wp2
            go_roundw
            case rel => exact ⟨k + 1, by omega, by go_num, HS.out, (by repeat (first | with_reducible (first | exact World.gained_refl _ | exact ⟨_, rfl⟩ | apply gain_ext | apply gain_alloc | apply gain_drewN | apply gain_drew) | (refine gain_setCell ?_ (by first | exact Nat.le_refl _ | exact World.size_ext _ _ | (simp; done) | (simp; omega)) _)))⟩
            case measure => simp [intOf]; omega
      · have HE := Lib.hid (show crsB m l t = true by rw [crsB, HBB.out, HIB.out, allB_yes (fun j hj => HO.out j (by omega))]; rfl)
        go_wp2
        go_ret
        rw [HE.out]
        exact ⟨rfl, gain_trans HG.out (by repeat (first | with_reducible (first | exact World.gained_refl _ | exact ⟨_, rfl⟩ | apply gain_ext | apply gain_alloc | apply gain_drewN | apply gain_drew) | (refine gain_setCell ?_ (by first | exact Nat.le_refl _ | exact World.size_ext _ _ | (simp; done) | (simp; omega)) _)))⟩
end Go.Proofs.YtmcimgnobimicaaGreat
