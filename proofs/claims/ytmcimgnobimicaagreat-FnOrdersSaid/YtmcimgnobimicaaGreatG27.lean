/- spec.l8Good, spec.IsCourse. Condition: at most 1048576 numbers, controls, codes. -/
import Derived.Test.YtmcimgnobimicaaGreatG26
namespace Go.Proofs.YtmcimgnobimicaaGreat
open Go.RowKit Go.Ori
/-- The times to a cell, and the one that is asked for. -/
theorem l4To_at (m : Mp) (rv cv : Value) (W H a b : Nat) (w : World) (hok : MapOk m W H) (h : w.mp rv cv m) (ha : a < m.cost.length) (hb : b < m.cost.length) :
    Calls Tryz.prog 51 #[.agg #[.int .i64 m.wd, .int .i64 m.ht, rv, cv], .int .i64 b] w fun x w' => ∃ g cap, x = .returned (.slice (some ⟨g, 0, none⟩) m.cost.length cap) ∧ (∃ d, w' = w.ext d) ∧ w'.cell? ⟨g, a, none⟩ = some (.int .i64 (if timeB m a b = 1073741824 then -1 else timeB m a b)) := by
  refine (l4To_any m rv cv W H b w hok h hb).mono fun x w' ⟨v, h1, h2, hv⟩ => ?_
  have hT := times_inv hok hb
  obtain ⟨g, cap, rfl, _, _⟩ := own_addr hv (by rw [sE_length, hT.len]; omega)
  rw [sE_length, hT.len] at hv h1
  obtain ⟨t0, _⟩ := own_at hv (k := a) (by rw [sE_length, hT.len]; exact ha)
  rw [sE_getD hT ha] at t0
  exact ⟨g, cap, h1, h2, t0⟩
set_option maxHeartbeats 4000000 in
theorem l8Good_any (m : Mp) (rv cv v u : Value) (l : List Ctl) (t : List Int) (w : World) (hmp : w.mp rv cv m) (h : w.sl Ctl.cells 2 v l) (hl : l.length ≤ 1048576) (h2 : w.sl intC 1 u t) (hl2 : t.length ≤ 1048576) :
    Calls Tryz.prog 28 #[.agg #[.int .i64 m.wd, .int .i64 m.ht, rv, cv], v, u] w fun x w' => x = .returned (.bool (crsB m l t)) ∧ ∃ d, w' = w.ext d := by
  have hm := Lib.hid hmp
  have hs := Lib.hid h
  have ht := Lib.hid h2
  obtain ⟨p1, c1, p2, c2, rfl, rfl⟩ := mp_form hmp
  obtain ⟨p, c, rfl, _⟩ := id h
  obtain ⟨p', c', rfl, _⟩ := id h2
  clear hmp h h2
  have HGD := Lib.hid (fun w' hw' hv' => l6Good_any m (.slice p1 m.rise.length c1) (.slice p2 m.cost.length c2) (.slice p l.length c) l w' hw' hv' hl)
  cases hB : ctlsB m l with
  | false =>
    have HR := Lib.hid (show crsB m l t = false by simp [crsB, hB])
    rw [hB] at HGD
    clear hB
    go_enter Tryz.func28, Tryz.ntmps28
    go_wp2_with (go_at_call 48; refine (HGD.out _ (mp_up (hm.out) (by repeat (first | with_reducible (first | exact World.gained_refl _ | exact ⟨_, rfl⟩ | apply gain_ext | apply gain_alloc | apply gain_drewN | apply gain_drew) | (refine gain_setCell ?_ (by first | exact Nat.le_refl _ | exact World.size_ext _ _ | (simp; done) | (simp; omega)) _)))) (by with_reducible (repeat (first | exact hs.out | refine World.sl_ext Ctl.cells_length ?_ _ | refine sl_alloc Ctl.cells_length ?_ _ | refine sl_drew ?_)))).mono ?_; rintro e w1 ⟨rfl, d1, rfl⟩)
    go_ret
    rw [HR.out]
    exact ⟨rfl, (by repeat (first | with_reducible (first | exact World.gained_refl _ | exact ⟨_, rfl⟩ | apply gain_ext | apply gain_alloc | apply gain_drewN | apply gain_drew) | (refine gain_setCell ?_ (by first | exact Nat.le_refl _ | exact World.size_ext _ _ | (simp; done) | (simp; omega)) _)))⟩
  | true =>
  have HBB := Lib.hid hB
  rw [hB] at HGD
  clear hB
  cases hI : insB t.length 2 8 with
  | false =>
    have HR := Lib.hid (show crsB m l t = false by simp [crsB, hI])
    go_enter Tryz.func28, Tryz.ntmps28
    go_wp2_with (first | (go_at_call 48; refine (HGD.out _ (mp_up (hm.out) (by repeat (first | with_reducible (first | exact World.gained_refl _ | exact ⟨_, rfl⟩ | apply gain_ext | apply gain_alloc | apply gain_drewN | apply gain_drew) | (refine gain_setCell ?_ (by first | exact Nat.le_refl _ | exact World.size_ext _ _ | (simp; done) | (simp; omega)) _)))) (by with_reducible (repeat (first | exact hs.out | refine World.sl_ext Ctl.cells_length ?_ _ | refine sl_alloc Ctl.cells_length ?_ _ | refine sl_drew ?_)))).mono ?_; rintro e w1 ⟨rfl, d1, rfl⟩) | (go_at_call 49; refine (l1In_any _ _ _ _).mono ?_; rintro e w1 ⟨rfl, rfl⟩))
    go_ret
    rw [HR.out]
    exact ⟨rfl, (by repeat (first | with_reducible (first | exact World.gained_refl _ | exact ⟨_, rfl⟩ | apply gain_ext | apply gain_alloc | apply gain_drewN | apply gain_drew) | (refine gain_setCell ?_ (by first | exact Nat.le_refl _ | exact World.size_ext _ _ | (simp; done) | (simp; omega)) _)))⟩
  | true =>
    obtain ⟨W, H, hok⟩ := mapB_ok (ctlsB_map HBB.out)
    have HK := Lib.hid hok
    have HIB := Lib.hid hI
    have ht8 : t.length ≤ 8 := by rw [insB_true] at hI; omega
    have hn36 := hok.n36
    clear hok
    go_enter Tryz.func28, Tryz.ntmps28
    go_wp2_with fail
    generalize hW0 : w.alloc (.cells #[.int .i64 m.wd, .int .i64 m.ht, .slice p1 m.rise.length c1, .slice p2 m.cost.length c2] 26) = W0
    have hbx : MBox w W0 w.heap.size m (.slice p1 m.rise.length c1) (.slice p2 m.cost.length c2) := by rw [← hW0]; exact mbox
    have HG := Lib.hid hbx.up
    have hsz := hbx.sz
    have bx0 := hbx.c0
    have bx1 := hbx.c1
    have bx2 := hbx.c2
    have bx3 := hbx.c3
    have obx := hbx.ob
    have HM0 := Lib.hid (mp_up hm.out HG.out)
    have hs0 := Lib.hid (sl_up Ctl.cells_length hs.out HG.out)
    have ht0 := Lib.hid (sl_up intC_length ht.out HG.out)
    clear hW0 hbx hm hs ht
    refine (HGD.out _ HM0.out hs0.out).mono ?_
    rintro e w1 ⟨rfl, d1, rfl⟩
    go_wp2_with (go_at_call 49; refine (l1In_any _ _ _ _).mono ?_; rintro e w1 ⟨rfl, rfl⟩)
    clear hI
    go_loopw [7] (fun i wr => ∃ k : Nat, k ≤ t.length ∧ i = .int .i64 k ∧ (∀ j, j < k → crsAt m l t j = true) ∧ ∃ d, wr = W0.ext d) (fun i _ => t.length - (intOf i).toNat)
    case atStart => exact ⟨0, by omega, rfl, by simp, (by repeat (first | with_reducible (first | exact World.gained_refl _ | exact ⟨_, rfl⟩ | apply gain_ext | apply gain_alloc | apply gain_drewN | apply gain_drew) | (refine gain_setCell ?_ (by first | exact Nat.le_refl _ | exact World.size_ext _ _ | (simp; done) | (simp; omega)) _)))⟩
    case round =>
      obtain ⟨k, hk, rfl, hoc, d, rfl⟩ := hrel
      have HO := Lib.hid hoc
      clear hoc
      by_cases hlt : k < t.length
      · obtain ⟨b, o, rfl⟩ := sl_some ht0.out (by omega)
        have c0 := sl_int ht0.out hlt
        have he : t[k]? = some t[k] := by simp
        have hk1 : k - 1 < t.length := by omega
        have hpe : t[k - 1]? = some (t[k - 1]'hk1) := List.getElem?_eq_getElem hk1
        have cp := sl_int ht0.out (k := k - 1) hk1
        have HPK := Lib.hid (fun (h0 : 0 < k) => show hasK l (t[k - 1]'hk1) = true by
          have := HO.out (k - 1) (by omega)
          rw [crsAt, hpe] at this
          simp only [Bool.and_eq_true] at this
          exact this.1)
        generalize t[k] = x at c0 he
        generalize t[k - 1]'hk1 = y at cp hpe HPK
        have HE := Lib.hid (crsAt_eq (m := m) (l := l) he hpe)
        clear he hpe
        have ob := World.oldB_of_cell c0
        have HFX := Lib.hid (fun w' hw' => l6Find_any (.slice p l.length c) l x w' hw' hl)
        cases hx : hasK l x with
        | false =>
          have hix := idxK_no hx
          rw [hix] at HFX
          have HR := Lib.hid (show crsB m l t = false by rw [crsB, allB_no hlt (by rw [HE.out, hx]; rfl), Bool.and_false])
          clear hx hix
          go_wp2
          refine wp_region_gain (by kernel_rfl) (by kernel_rfl) ?_
          repeat (first | go_big_quiet_skip | (go_big_quiet_want; go_big_quiet_op; first | go_big_quiet_on | ((apply Exists.intro); (refine ⟨fun _ => ?_, ?_⟩); (· (go_at_call 50; ((with_reducible exact Calls.gain (HFX.out _ (by with_reducible (repeat (first | exact hs0.out | refine World.sl_ext Ctl.cells_length ?_ _ | refine sl_alloc Ctl.cells_length ?_ _ | refine sl_drew ?_)))))))); (go_big_quiet_on))))
          refine wpQuiet_nil ?_
          rintro _ ⟨d', rfl⟩
          go_wp2
          go_ret
          rw [HR.out]
          exact ⟨rfl, gain_trans HG.out (by repeat (first | with_reducible (first | exact World.gained_refl _ | exact ⟨_, rfl⟩ | apply gain_ext | apply gain_alloc | apply gain_drewN | apply gain_drew) | (refine gain_setCell ?_ (by first | exact Nat.le_refl _ | exact World.size_ext _ _ | (simp; done) | (simp; omega)) _)))⟩
        | true =>
          have hix := idxK_yes hx
          rw [hix] at HFX
          obtain ⟨x1, x2, x3⟩ := cellK_open HBB.out hx
          have HCX := Lib.hid (fun w' hw' => l8Cell_any (.slice p l.length c) l x w' hw' hl hx x1)
          have HX := Lib.hid hx
          clear hx x1 hix
          generalize atK l x = ax at HFX
          have hax : decide ((ax : Int) < 0) = false := decide_eq_false (by omega)
          by_cases hk0 : 0 < k
          · have hy := HPK.out hk0
            obtain ⟨y1, y2, y3⟩ := cellK_open HBB.out hy
            have HCP := Lib.hid (fun w' hw' => l8Cell_any (.slice p l.length c) l y w' hw' hl hy y1)
            have HLT := Lib.hid (fun w' hw' => l4To_at m (.slice p1 m.rise.length c1) (.slice p2 m.cost.length c2) W H (cellN l y) (cellN l x) w' HK.out hw' y2 x2)
            have hzb := (times_inv HK.out x2).hi (cellN l y)
            have hz0 := (times_inv HK.out x2).lo (cellN l y)
            change timeB m (cellN l y) (cellN l x) ≤ 1073741824 at hzb
            change 0 ≤ timeB m (cellN l y) (cellN l x) at hz0
            generalize timeB m (cellN l y) (cellN l x) = z at HE HLT hzb hz0
            clear hy y1
            generalize cellN l y = ny at *
            generalize cellN l x = nx at *
            cases hyx : (y == x) with
            | true =>
              have hyx' : y = x := by simpa using hyx
              have HR := Lib.hid (show crsB m l t = false by rw [crsB, allB_no hlt (by rw [HE.out, HX.out, decide_eq_false (by omega : ¬ k = 0), decide_eq_false (by simp [hyx'] : ¬ y ≠ x)]; rfl), Bool.and_false])
              clear hyx'
              go_wp2
              refine wp_region_gain (by kernel_rfl) (by kernel_rfl) ?_
              repeat (first | go_big_quiet_skip | (go_big_quiet_want; go_big_quiet_op; first | go_big_quiet_on | ((apply Exists.intro); (refine ⟨fun _ => ?_, ?_⟩); (· (go_at_call 50; ((with_reducible exact Calls.gain (HFX.out _ (by with_reducible (repeat (first | exact hs0.out | refine World.sl_ext Ctl.cells_length ?_ _ | refine sl_alloc Ctl.cells_length ?_ _ | refine sl_drew ?_)))))))); (go_big_quiet_on))))
              refine wpQuiet_nil ?_
              rintro _ ⟨d', rfl⟩
              go_wp2
              go_ret
              rw [HR.out]
              exact ⟨rfl, gain_trans HG.out (by repeat (first | with_reducible (first | exact World.gained_refl _ | exact ⟨_, rfl⟩ | apply gain_ext | apply gain_alloc | apply gain_drewN | apply gain_drew) | (refine gain_setCell ?_ (by first | exact Nat.le_refl _ | exact World.size_ext _ _ | (simp; done) | (simp; omega)) _)))⟩
            | false =>
              have hyx' : y ≠ x := by simpa using hyx
              have HYX := Lib.hid hyx'
              clear hyx'
              have HR := Lib.hid (fun (hz : z = 1073741824) => show crsB m l t = false by rw [crsB, allB_no hlt (by rw [HE.out, HX.out, decide_eq_false (by omega : ¬ k = 0), decide_eq_false (by omega : ¬ z < 1073741824)]; simp), Bool.and_false])
              have HS := Lib.hid (fun (hz : ¬ z = 1073741824) => step_all HO.out (show crsAt m l t k = true by rw [HE.out, HX.out, decide_eq_true HYX.out, decide_eq_true (by omega : z < 1073741824)]; simp))
              obtain ⟨z', hz'⟩ : ∃ z', z' = if z = 1073741824 then -1 else z := ⟨_, rfl⟩
              rw [← hz'] at HLT
              obtain ⟨bb, hbb⟩ : ∃ bb, decide (z' < 0) = bb := ⟨_, rfl⟩
              have HBT := Lib.hid (fun (hb : bb = true) => show z = 1073741824 by
                rw [← hbb, decide_eq_true_eq, hz'] at hb
                by_cases hz : z = 1073741824
                · exact hz
                · rw [if_neg hz] at hb; omega)
              have HBF := Lib.hid (fun (hb : bb = false) => show ¬ z = 1073741824 by
                rw [← hbb, decide_eq_false_iff_not, hz'] at hb
                intro hz
                rw [if_pos hz] at hb
                omega)
              clear hz' hzb hz0
              go_wp2
              refine wp_region_gain (by kernel_rfl) (by kernel_rfl) ?_
              repeat (first | go_big_quiet_skip | (go_big_quiet_want; go_big_quiet_op; first | go_big_quiet_on | ((apply Exists.intro); (refine ⟨fun _ => ?_, ?_⟩); (· (go_at_call 50; ((with_reducible exact Calls.gain (HFX.out _ (by with_reducible (repeat (first | exact hs0.out | refine World.sl_ext Ctl.cells_length ?_ _ | refine sl_alloc Ctl.cells_length ?_ _ | refine sl_drew ?_)))))))); (go_big_quiet_on))))
              refine wpQuiet_nil ?_
              rintro _ ⟨d', rfl⟩
              go_upto_region 8 with fail
              have hk8 : k ≤ 8 := by omega
              have kw1 : IntKind.i64.wrap ((k : Int) - 1) = (k : Int) - 1 := IntWalk.i64_in _ (by omega)
              have kw2 : 0 ≤ (k : Int) - 1 := by omega
              have kw5 : 1 ≤ (k : Int) := by omega
              have kw3 : ((k : Int) - 1).toNat = k - 1 := by omega
              have kw4 : (k : Int) - 1 < (t.length : Int) := by omega
              refine wp_region_held_drew (S := (fun w' => w'.cell? ⟨w.heap.size, 0, none⟩ = some (.int .i64 m.wd) ∧ w'.cell? ⟨w.heap.size, 1, none⟩ = some (.int .i64 m.ht) ∧ w'.cell? ⟨w.heap.size, 2, none⟩ = some (.slice p1 m.rise.length c1) ∧ w'.cell? ⟨w.heap.size, 3, none⟩ = some (.slice p2 m.cost.length c2) ∧ w'.cell? ⟨b, o + k, none⟩ = some (.int .i64 x) ∧ w'.cell? ⟨b, o + (k - 1), none⟩ = some (.int .i64 y))) (by kernel_rfl) (by (try dsimp only); (refine ⟨?_, ?_, ?_, ?_, ?_, ?_⟩ <;> (with_reducible (repeat (first | assumption | refine cell_ext ?_ _ | refine cell_drew ?_ | refine cell_alloc ?_ _))))) (fun hHeld => ?_)
              refine wpAnyH_take (i := 0) (oi := ⟨_, _, _, _, _, _⟩) (v := ?_) rfl (by kernel_rfl) (by kernel_rfl) (by kernel_rfl) (fun _ _ _ h => h) (Or.inl ⟨by rfl, ?_⟩) (by assumption) ?_
              rotate_left
              · intro w hSw; (try dsimp only at hSw); go_simp; with_reducible rfl
              try simp only [Act.put, List.setIfInBounds_toArray, List.set_cons_zero, List.set_cons_succ]
              refine wpAnyH_take (i := 1) (oi := ⟨_, _, _, _, _, _⟩) (v := ?_) rfl (by kernel_rfl) (by kernel_rfl) (by kernel_rfl) (fun _ _ _ h => h) (Or.inl ⟨by rfl, ?_⟩) (by assumption) ?_
              rotate_left
              · intro w hSw; (try dsimp only at hSw); go_simp; with_reducible rfl
              try simp only [Act.put, List.setIfInBounds_toArray, List.set_cons_zero, List.set_cons_succ]
              refine wpAnyH_take (i := 2) (oi := ⟨_, _, _, _, _, _⟩) (v := ?_) rfl (by kernel_rfl) (by kernel_rfl) (by kernel_rfl) (fun _ _ _ h => h) (Or.inl ⟨by rfl, ?_⟩) (by assumption) ?_
              rotate_left
              · intro w hSw; (try dsimp only at hSw); go_simp; with_reducible rfl
              try simp only [Act.put, List.setIfInBounds_toArray, List.set_cons_zero, List.set_cons_succ]
              refine wpAnyH_take (i := 3) (oi := ⟨_, _, _, _, _, _⟩) (v := ?_) rfl (by kernel_rfl) (by kernel_rfl) (by kernel_rfl) (fun _ _ _ h => h) (Or.inl ⟨by rfl, ?_⟩) (by assumption) ?_
              rotate_left
              · intro w hSw; (try dsimp only at hSw); go_simp; with_reducible rfl
              try simp only [Act.put, List.setIfInBounds_toArray, List.set_cons_zero, List.set_cons_succ]
              refine wpAnyH_take (i := 4) (oi := ⟨_, _, _, _, _, _⟩) (v := ?_) rfl (by kernel_rfl) (by kernel_rfl) (by kernel_rfl) (fun _ _ _ h => h) (Or.inl ⟨by rfl, ?_⟩) (by assumption) ?_
              rotate_left
              · intro w hSw; (try dsimp only at hSw); go_simp; with_reducible rfl
              try simp only [Act.put, List.setIfInBounds_toArray, List.set_cons_zero, List.set_cons_succ]
              refine wpAnyH_take (i := 5) (oi := ⟨_, _, _, _, _, _⟩) (v := ?_) rfl (by kernel_rfl) (by kernel_rfl) (by kernel_rfl) (fun _ _ _ h => h) (Or.inl ⟨by rfl, ?_⟩) (by assumption) ?_
              rotate_left
              · intro w hSw; (try dsimp only at hSw); go_simp; with_reducible rfl
              try simp only [Act.put, List.setIfInBounds_toArray, List.set_cons_zero, List.set_cons_succ]
              refine wpAnyH_take (i := 6) (oi := ⟨_, _, _, _, _, _⟩) (v := ?_) rfl (by kernel_rfl) (by kernel_rfl) (by kernel_rfl) (fun _ _ _ h => h) (Or.inl ⟨by rfl, ?_⟩) (by assumption) ?_
              rotate_left
              · intro w hSw; (try dsimp only at hSw); go_simp; with_reducible rfl
              try simp only [Act.put, List.setIfInBounds_toArray, List.set_cons_zero, List.set_cons_succ]
              refine wpAnyH_take (i := 7) (oi := ⟨_, _, _, _, _, _⟩) (v := ?_) rfl (by kernel_rfl) (by kernel_rfl) (by kernel_rfl) (fun _ _ _ h => h) (Or.inl ⟨by rfl, ?_⟩) (by assumption) ?_
              rotate_left
              · intro w hSw; (try dsimp only at hSw); go_simp; with_reducible rfl
              try simp only [Act.put, List.setIfInBounds_toArray, List.set_cons_zero, List.set_cons_succ]
              refine wpAnyH_take (i := 8) (oi := ⟨_, _, _, _, _, _⟩) (v := ?_) rfl (by kernel_rfl) (by kernel_rfl) (by kernel_rfl) (fun _ _ _ h => h) (Or.inl ⟨by rfl, ?_⟩) (by assumption) ?_
              rotate_left
              · intro w hSw; (try dsimp only at hSw); go_simp; with_reducible rfl
              try simp only [Act.put, List.setIfInBounds_toArray, List.set_cons_zero, List.set_cons_succ]
              refine wpAnyH_take (i := 11) (oi := ⟨_, _, _, _, _, _⟩) (v := ?_) rfl (by kernel_rfl) (by kernel_rfl) (by kernel_rfl) (fun _ _ _ h => h) (Or.inl ⟨by rfl, ?_⟩) (by assumption) ?_
              rotate_left
              · intro w hSw; (try dsimp only at hSw); go_simp; with_reducible rfl
              try simp only [Act.put, List.setIfInBounds_toArray, List.set_cons_zero, List.set_cons_succ]
              refine wpAnyH_take (i := 12) (oi := ⟨_, _, _, _, _, _⟩) (v := ?_) rfl (by kernel_rfl) (by kernel_rfl) (by kernel_rfl) (fun _ _ _ h => h) (Or.inl ⟨by rfl, ?_⟩) (by assumption) ?_
              rotate_left
              · intro w hSw; (try dsimp only at hSw); go_simp; with_reducible rfl
              try simp only [Act.put, List.setIfInBounds_toArray, List.set_cons_zero, List.set_cons_succ]
              refine wpAnyH_take (i := 13) (oi := ⟨_, _, _, _, _, _⟩) (v := ?_) rfl (by kernel_rfl) (by kernel_rfl) (by kernel_rfl) (fun _ _ _ h => h) (Or.inl ⟨by rfl, ?_⟩) (by assumption) ?_
              rotate_left
              · intro w hSw; (try dsimp only at hSw); go_simp; with_reducible rfl
              try simp only [Act.put, List.setIfInBounds_toArray, List.set_cons_zero, List.set_cons_succ]
              refine wpAnyH_take (i := 14) (oi := ⟨_, _, _, _, _, _⟩) (v := ?_) rfl (by kernel_rfl) (by kernel_rfl) (by kernel_rfl) (fun _ _ _ h => h) (Or.inl ⟨by rfl, ?_⟩) (by assumption) ?_
              rotate_left
              · intro w hSw; (try dsimp only at hSw); go_simp; with_reducible rfl
              try simp only [Act.put, List.setIfInBounds_toArray, List.set_cons_zero, List.set_cons_succ]
              refine wpAnyH_take (i := 15) (oi := ⟨_, _, _, _, _, _⟩) (v := ?_) rfl (by kernel_rfl) (by kernel_rfl) (by kernel_rfl) (fun _ _ _ h => h) (Or.inl ⟨by rfl, ?_⟩) (by assumption) ?_
              rotate_left
              · intro w hSw; (try dsimp only at hSw); go_simp; with_reducible rfl
              try simp only [Act.put, List.setIfInBounds_toArray, List.set_cons_zero, List.set_cons_succ]
              refine wpAnyH_take (i := 16) (oi := ⟨_, _, _, _, _, _⟩) (v := ?_) rfl (by kernel_rfl) (by kernel_rfl) (by kernel_rfl) (fun _ _ _ h => h) (Or.inl ⟨by rfl, ?_⟩) (by assumption) ?_
              rotate_left
              · intro w hSw; (try dsimp only at hSw); go_simp; with_reducible rfl
              try simp only [Act.put, List.setIfInBounds_toArray, List.set_cons_zero, List.set_cons_succ]
              refine wpAnyH_ready (rs := [9]) (by kernel_rfl) (by simp) ?_
              refine AllReadyH.cons rfl (fun K hK => ?_) AllReadyH.nil
              go_simp
              go_wp2_with (go_at_call 52; ((with_reducible refine (HCX.out _ (by with_reducible (repeat (first | exact hs0.out | refine World.sl_ext Ctl.cells_length ?_ _ | refine sl_alloc Ctl.cells_length ?_ _ | refine sl_drew ?_)))).mono ?_); rintro e w1 ⟨rfl, d1, rfl⟩))
              refine hK.out _ _ ?_ (fun hHeld => ?_)
              · (try dsimp only); (refine ⟨?_, ?_, ?_, ?_, ?_, ?_⟩ <;> (with_reducible (repeat (first | assumption | refine cell_ext ?_ _ | refine cell_drew ?_ | refine cell_alloc ?_ _))))
              clear hK K
              refine wpAnyH_ready (rs := [10]) (by kernel_rfl) (by simp) ?_
              refine AllReadyH.cons rfl (fun K hK => ?_) AllReadyH.nil
              go_simp
              go_wp2_with (go_at_call 51; ((with_reducible refine (HLT.out _ (mp_up (HM0.out) (by repeat (first | with_reducible (first | exact World.gained_refl _ | exact ⟨_, rfl⟩ | apply gain_ext | apply gain_alloc | apply gain_drewN | apply gain_drew) | (refine gain_setCell ?_ (by first | exact Nat.le_refl _ | exact World.size_ext _ _ | (simp; done) | (simp; omega)) _))))).mono ?_); rintro e w1 ⟨g, cap, rfl, ⟨d1, rfl⟩, tc⟩; have obg := World.oldB_of_cell tc))
              refine hK.out _ _ ?_ (fun hHeld => ?_)
              · (try dsimp only); (refine ⟨?_, ?_, ?_, ?_, ?_, ?_⟩ <;> (with_reducible (repeat (first | assumption | refine cell_ext ?_ _ | refine cell_drew ?_ | refine cell_alloc ?_ _))))
              clear hK K
              refine wpAnyH_ready (rs := [17]) (by kernel_rfl) (by simp) ?_
              refine AllReadyH.cons rfl (fun K hK => ?_) AllReadyH.nil
              go_simp
              go_wp2_with (go_at_call 52; ((with_reducible refine (HCP.out _ (by with_reducible (repeat (first | exact hs0.out | refine World.sl_ext Ctl.cells_length ?_ _ | refine sl_alloc Ctl.cells_length ?_ _ | refine sl_drew ?_)))).mono ?_); rintro e w1 ⟨rfl, d1, rfl⟩))
              refine hK.out _ _ ?_ (fun hHeld => ?_)
              · (try dsimp only); (refine ⟨?_, ?_, ?_, ?_, ?_, ?_⟩ <;> (with_reducible (repeat (first | assumption | refine cell_ext ?_ _ | refine cell_drew ?_ | refine cell_alloc ?_ _))))
              clear hK K
              refine wpAnyH_take (i := 18) (oi := ⟨_, _, _, _, _, _⟩) (v := ?_) rfl (by kernel_rfl) (by kernel_rfl) (by kernel_rfl) (fun _ _ _ h => h) (Or.inl ⟨by rfl, ?_⟩) (by assumption) ?_
              rotate_left
              · intro w hSw; (try dsimp only at hSw); go_simp; with_reducible rfl
              try simp only [Act.put, List.setIfInBounds_toArray, List.set_cons_zero, List.set_cons_succ]
              refine wpAnyH_ready (rs := [19]) (by kernel_rfl) (by simp) ?_
              refine AllReadyH.cons rfl (fun K hK => ?_) AllReadyH.nil
              go_simp
              refine hK.out _ _ ?_ (fun hHeld => ?_)
              · (try dsimp only); (refine ⟨?_, ?_, ?_, ?_, ?_, ?_⟩ <;> (with_reducible (repeat (first | assumption | refine cell_ext ?_ _ | refine cell_drew ?_ | refine cell_alloc ?_ _))))
              clear hK K
              refine wpAnyH_take (i := 20) (oi := ⟨_, _, _, _, _, _⟩) (v := ?_) rfl (by kernel_rfl) (by kernel_rfl) (by kernel_rfl) (fun _ _ _ h => h) (Or.inl ⟨by rfl, ?_⟩) (by assumption) ?_
              rotate_left
              · intro w hSw; (try dsimp only at hSw); go_simp; with_reducible rfl
              try simp only [Act.put, List.setIfInBounds_toArray, List.set_cons_zero, List.set_cons_succ]
              refine wpAnyH_take (i := 21) (oi := ⟨_, _, _, _, _, _⟩) (v := ?_) rfl (by kernel_rfl) (by kernel_rfl) (by kernel_rfl) (fun _ _ _ h => h) (Or.inl ⟨by rfl, ?_⟩) (by assumption) ?_
              rotate_left
              · intro w hSw; (try dsimp only at hSw); go_simp; with_reducible rfl
              try simp only [Act.put, List.setIfInBounds_toArray, List.set_cons_zero, List.set_cons_succ]
              refine wpAnyH_done (by kernel_rfl) ?_ _
              all_goals clear kw1 kw2 kw3 kw4 kw5
              all_goals
                clear hbb
                cases bb with
                | true =>
                  have HR' := Lib.hid (HR.out (HBT.out rfl))
                  go_wp2
                  go_ret
                  rw [HR'.out]
                  exact ⟨rfl, gain_trans HG.out (by repeat (first | with_reducible (first | exact World.gained_refl _ | exact ⟨_, rfl⟩ | apply gain_ext | apply gain_alloc | apply gain_drewN | apply gain_drew) | (refine gain_setCell ?_ (by first | exact Nat.le_refl _ | exact World.size_ext _ _ | (simp; done) | (simp; omega)) _)))⟩
                | false =>
                  have HS' := Lib.hid (HS.out (HBF.out rfl))
                  go_wp2
                  go_roundw
                  case rel => exact ⟨k + 1, by omega, by go_num, HS'.out, (by repeat (first | with_reducible (first | exact World.gained_refl _ | exact ⟨_, rfl⟩ | apply gain_ext | apply gain_alloc | apply gain_drewN | apply gain_drew) | (refine gain_setCell ?_ (by first | exact Nat.le_refl _ | exact World.size_ext _ _ | (simp; done) | (simp; omega)) _)))⟩
                  case measure => simp [intOf]; omega
          · have HS := Lib.hid (step_all HO.out (show crsAt m l t k = true by rw [HE.out, HX.out]; simp; omega))
            go_wp2
            refine wp_region_gain (by kernel_rfl) (by kernel_rfl) ?_
            repeat (first | go_big_quiet_skip | (go_big_quiet_want; go_big_quiet_op; first | go_big_quiet_on | ((apply Exists.intro); (refine ⟨fun _ => ?_, ?_⟩); (· (go_at_call 50; ((with_reducible exact Calls.gain (HFX.out _ (by with_reducible (repeat (first | exact hs0.out | refine World.sl_ext Ctl.cells_length ?_ _ | refine sl_alloc Ctl.cells_length ?_ _ | refine sl_drew ?_)))))))); (go_big_quiet_on))))
            refine wpQuiet_nil ?_
            rintro _ ⟨d', rfl⟩
            go_wp2
            refine wp_region_gain (by kernel_rfl) (by kernel_rfl) ?_
            repeat (first | go_big_quiet_skip | (go_big_quiet_want; go_big_quiet_op; first | go_big_quiet_on))
            refine wpQuiet_nil ?_
            rintro _ ⟨d', rfl⟩
            go_wp2
            go_roundw
            case rel => exact ⟨k + 1, by omega, by go_num, HS.out, (by repeat (first | with_reducible (first | exact World.gained_refl _ | exact ⟨_, rfl⟩ | apply gain_ext | apply gain_alloc | apply gain_drewN | apply gain_drew) | (refine gain_setCell ?_ (by first | exact Nat.le_refl _ | exact World.size_ext _ _ | (simp; done) | (simp; omega)) _)))⟩
            case measure => simp [intOf]; omega
      · have HE := Lib.hid (show crsB m l t = true by rw [crsB, HBB.out, HIB.out, allB_yes (fun j hj => HO.out j (by omega))]; rfl)
        go_wp2
        go_ret
        rw [HE.out]
        exact ⟨rfl, gain_trans HG.out (by repeat (first | with_reducible (first | exact World.gained_refl _ | exact ⟨_, rfl⟩ | apply gain_ext | apply gain_alloc | apply gain_drewN | apply gain_drew) | (refine gain_setCell ?_ (by first | exact Nat.le_refl _ | exact World.size_ext _ _ | (simp; done) | (simp; omega)) _)))⟩
end Go.Proofs.YtmcimgnobimicaaGreat
