/- impl.backLegs, BackLegs; spec.l8Back, BackLegs. Conditions: at most 1048576 numbers, controls, codes. -/
import Derived.Test.YtmcimgnobimicaaGreatG22
import Derived.Test.YtmcimgnobimicaaGreatG45
import Derived.Test.YtmcimgnobimicaaGreatG46
import Derived.Test.YtmcimgnobimicaaGreatG29
import Derived.Test.YtmcimgnobimicaaGreatG27
namespace Go.Proofs.YtmcimgnobimicaaGreat
open Go.RowKit Go.Ori
set_option maxHeartbeats 4000000 in
theorem backLegs_any (m : Mp) (rv cv v u : Value) (l : List Ctl) (t : List Int) (w : World) (hmp : w.mp rv cv m) (h : w.sl Ctl.cells 2 v l) (hl : l.length ≤ 1048576) (h2 : w.sl intC 1 u t) (hC : Crs m l t) :
    Calls Tryz.prog 39 #[.agg #[.int .i64 m.wd, .int .i64 m.ht, rv, cv], v, u] w fun x w' => ∃ r, x = .returned r ∧ (∃ d, w' = w.ext d) ∧ w'.own w.heap.size 3 intC 1 r (backN m l t (t.length - 1)) := by
  have hm := Lib.hid hmp
  have hs := Lib.hid h
  have ht := Lib.hid h2
  obtain ⟨p1, c1, p2, c2, rfl, rfl⟩ := mp_form hmp
  obtain ⟨p, c, rfl, _⟩ := id h
  obtain ⟨p', c', rfl, _⟩ := id h2
  clear hmp h h2
  obtain ⟨W, H, hok⟩ := mapB_ok (ctlsB_map hC.good)
  have HK := Lib.hid hok
  have HC := Lib.hid hC
  have ht8 := hC.hi
  have ht2 := hC.lo
  clear hC hok
  go_enter Tryz.func39, Tryz.ntmps39
  go_wp2_with fail
  refine (legRoutes_any m _ _ _ _ l t _ (mp_up (hm.out) (by repeat (first | with_reducible (first | exact World.gained_refl _ | exact ⟨_, rfl⟩ | apply gain_ext | apply gain_alloc | apply gain_drewN | apply gain_drew) | (refine gain_setCell ?_ (by first | exact Nat.le_refl _ | exact World.size_ext _ _ | (simp; done) | (simp; omega)) _)))) (by with_reducible (repeat (first | exact hs.out | refine World.sl_ext Ctl.cells_length ?_ _ | refine sl_alloc Ctl.cells_length ?_ _ | refine sl_drew ?_))) hl (by with_reducible (repeat (first | exact ht.out | refine World.sl_ext intC_length ?_ _ | refine sl_alloc intC_length ?_ _ | refine sl_drew ?_))) HC.out).mono ?_
  rintro e w1 ⟨r, vs, rfl, hgw, hr2, _⟩
  have HG2 := Lib.hid (show ∃ d, w1 = w.ext d from gain_trans (by repeat (first | with_reducible (first | exact World.gained_refl _ | exact ⟨_, rfl⟩ | apply gain_ext | apply gain_alloc | apply gain_drewN | apply gain_drew) | (refine gain_setCell ?_ (by first | exact Nat.le_refl _ | exact World.size_ext _ _ | (simp; done) | (simp; omega)) _))) hgw)
  have HR2 := Lib.hid (sl2_of_own (rows2_own hr2))
  obtain ⟨pr, cr, rfl⟩ := sl2_form HR2.out
  rw [legsR_length] at HR2
  have hsz := gain_size HG2.out
  clear hr2 hgw
  rw [legsR_length]
  go_wp2_with fail
  go_loopw [8, 9] (fun ov i wr => ∃ k : Nat, 1 ≤ k ∧ k ≤ t.length - 1 ∧ i = .int .i64 k ∧ (∃ d, wr = w1.ext d) ∧ wr.own w1.heap.size 3 intC 1 ov (backN m l t k)) (fun _ i _ => (t.length - 1) - (intOf i).toNat)
  case atStart => exact ⟨1, by omega, by omega, rfl, (by repeat (first | with_reducible (first | exact World.gained_refl _ | exact ⟨_, rfl⟩ | apply gain_ext | apply gain_alloc | apply gain_drewN | apply gain_drew) | (refine gain_setCell ?_ (by first | exact Nat.le_refl _ | exact World.size_ext _ _ | (simp; done) | (simp; omega)) _))), by rw [backN_one]; exact own_lit' (l := ([] : List Int)) intC_length rfl rfl (gain_size (by repeat (first | with_reducible (first | exact World.gained_refl _ | exact ⟨_, rfl⟩ | apply gain_ext | apply gain_alloc | apply gain_drewN | apply gain_drew) | (refine gain_setCell ?_ (by first | exact Nat.le_refl _ | exact World.size_ext _ _ | (simp; done) | (simp; omega)) _))))⟩
  case round =>
    obtain ⟨k, hk0, hk, rfl, ⟨d, rfl⟩, ho⟩ := hrel
    have HO := Lib.hid ho
    clear ho
    by_cases hlt : k < t.length - 1
    · obtain ⟨b0, o0, rfl⟩ := slOf_some HR2.out (by rw [legsR_length]; omega)
      have hk1 : k - 1 < t.length - 1 := by omega
      obtain ⟨uA, eA, hA⟩ := slOf_at HR2.out (k := k) (by rw [legsR_length]; exact hlt)
      obtain ⟨uB, eB, hB⟩ := slOf_at HR2.out (k := k - 1) (by rw [legsR_length]; exact hk1)
      have hgA : (legsR m l t (t.length - 1))[k]'(by rw [legsR_length]; exact hlt) = natL (legR m l t k) := by simp [legsR, natL]
      have hgB : (legsR m l t (t.length - 1))[k - 1]'(by rw [legsR_length]; exact hk1) = natL (legR m l t (k - 1)) := by simp [legsR, natL]
      rw [hgA] at hA
      rw [hgB] at hB
      have h2A := legR_two HK.out HC.out (i := k) (by omega)
      have h2B := legR_two HK.out HC.out (i := k - 1) (by omega)
      have h36B := rt_len HK.out (legR_rt HK.out HC.out (i := k - 1) (by omega))
      have HST : Hid (backN m l t (k + 1) = backN m l t k ++ if backB (legR m l t (k - 1)) (legR m l t k) then [(k : Int)] else []) := Lib.hid (by
        rw [backN, backAt, decide_eq_true hk0, Bool.true_and])
      have HBL := Lib.hid (backN_length m l t k)
      clear hgA hgB
      generalize legR m l t k = RA at hA h2A HST
      generalize legR m l t (k - 1) = RB at hB h2B h36B HST
      obtain ⟨qA, kA, rfl⟩ := sl1_form hA
      obtain ⟨qB, kB, rfl⟩ := sl1_form hB
      obtain ⟨bA, oA, rfl⟩ := sl_some hA (by rw [natL_length]; omega)
      obtain ⟨bB, oB, rfl⟩ := sl_some hB (by rw [natL_length]; omega)
      have cA := sl_int hA (k := 1) (by rw [natL_length]; omega)
      have cB := sl_int hB (k := RB.length - 2) (by rw [natL_length]; omega)
      rw [natL_length] at eA eB
      have hBB : Hid (backB RB RA = (((natL RA)[1]'(by rw [natL_length]; omega)) == ((natL RB)[RB.length - 2]'(by rw [natL_length]; omega)))) := Lib.hid (by
        rw [natL_get, natL_get, backB, List.getD_eq_getElem?_getD, List.getD_eq_getElem?_getD, List.getElem?_eq_getElem (by omega : 1 < RA.length), List.getElem?_eq_getElem (by omega : RB.length - 2 < RB.length), Option.getD_some, Option.getD_some]
        rw [Bool.eq_iff_iff]
        simp only [beq_iff_eq]
        omega)
      generalize (natL RA)[1]'(by rw [natL_length]; omega) = x at cA hBB
      generalize (natL RB)[RB.length - 2]'(by rw [natL_length]; omega) = y at cB hBB
      have obA := World.oldB_of_cell cA
      have obB := World.oldB_of_cell cB
      have ob0 := World.oldB_of_cell eA
      have kw1 : IntKind.i64.wrap ((k : Int) - 1) = (k : Int) - 1 := IntWalk.i64_in _ (by omega)
      have kw2 : RB.length - 2 < RB.length := by omega
      have kw3 : 1 < RA.length := by omega
      clear hA hB
      cases hq : x == y with
      | true =>
        have HS := Lib.hid (show backN m l t (k + 1) = backN m l t k ++ [(k : Int)] by rw [HST.out, hBB.out, hq]; rfl)
        clear HST hBB
        go_wp2
        refine wp_region_gain (by kernel_rfl) (by kernel_rfl) ?_
        repeat (first | go_big_quiet_skip | (go_big_quiet_want; go_big_quiet_op; first | go_big_quiet_on))
        refine wpQuiet_nil ?_
        rintro _ ⟨d', rfl⟩
        go_wp2_with (at_builtin; go_must (refine wpList_append_gain (m := [(k : Int)]) rfl (.tmp 40) (.tmp 42) rfl Tryz.underlying24 info_int (by rfl) (by omega) intC_length intC_one (by omega) (by repeat (first | with_reducible (first | exact World.gained_refl _ | exact ⟨_, rfl⟩ | apply gain_ext | apply gain_alloc | apply gain_drewN | apply gain_drew) | (refine gain_setCell ?_ (by first | exact Nat.le_refl _ | exact World.size_ext _ _ | (simp; done) | (simp; omega)) _))) (Nat.le_refl _) (gain_size (by repeat (first | with_reducible (first | exact World.gained_refl _ | exact ⟨_, rfl⟩ | apply gain_ext | apply gain_alloc | apply gain_drewN | apply gain_drew) | (refine gain_setCell ?_ (by first | exact Nat.le_refl _ | exact World.size_ext _ _ | (simp; done) | (simp; omega)) _)))) rfl rfl (own_up (HO.out) (by repeat (first | with_reducible (first | exact World.gained_refl _ | exact ⟨_, rfl⟩ | apply gain_ext | apply gain_alloc | apply gain_drewN | apply gain_drew) | (refine gain_setCell ?_ (by first | exact Nat.le_refl _ | exact World.size_ext _ _ | (simp; done) | (simp; omega)) _)))) (sl_lit (l := [(k : Int)]) intC_length rfl (by simp)) (by have := HBL.out; simp only [List.length_singleton]; omega) ?_); intro v' d' ho hg)
        go_roundw
        case rel => exact ⟨k + 1, by omega, by omega, by go_num, ⟨_, rfl⟩, by rw [HS.out]; exact ho⟩
        case measure => simp [intOf]; omega
      | false =>
        have HS := Lib.hid (show backN m l t (k + 1) = backN m l t k by rw [HST.out, hBB.out, hq]; simp)
        clear HST hBB
        go_wp2
        refine wp_region_gain (by kernel_rfl) (by kernel_rfl) ?_
        repeat (first | go_big_quiet_skip | (go_big_quiet_want; go_big_quiet_op; first | go_big_quiet_on))
        refine wpQuiet_nil ?_
        rintro _ ⟨d', rfl⟩
        go_wp2
        go_roundw
        case rel => exact ⟨k + 1, by omega, by omega, by go_num, (by repeat (first | with_reducible (first | exact World.gained_refl _ | exact ⟨_, rfl⟩ | apply gain_ext | apply gain_alloc | apply gain_drewN | apply gain_drew) | (refine gain_setCell ?_ (by first | exact Nat.le_refl _ | exact World.size_ext _ _ | (simp; done) | (simp; omega)) _))), by rw [HS.out]; exact (own_up (HO.out) (by repeat (first | with_reducible (first | exact World.gained_refl _ | exact ⟨_, rfl⟩ | apply gain_ext | apply gain_alloc | apply gain_drewN | apply gain_drew) | (refine gain_setCell ?_ (by first | exact Nat.le_refl _ | exact World.size_ext _ _ | (simp; done) | (simp; omega)) _))))⟩
        case measure => simp [intOf]; omega
    · obtain rfl : k = t.length - 1 := by omega
      go_wp2
      go_ret
      exact ⟨_, rfl, gain_trans HG2.out ⟨_, rfl⟩, own_base HO.out hsz⟩
set_option maxHeartbeats 4000000 in
theorem l8Back_any (m : Mp) (rv cv v u : Value) (l : List Ctl) (t : List Int) (w : World) (hmp : w.mp rv cv m) (h : w.sl Ctl.cells 2 v l) (hl : l.length ≤ 1048576) (h2 : w.sl intC 1 u t) (hC : Crs m l t) :
    Calls Tryz.prog 40 #[.agg #[.int .i64 m.wd, .int .i64 m.ht, rv, cv], v, u] w fun x w' => ∃ r, x = .returned r ∧ (∃ d, w' = w.ext d) ∧ w'.own w.heap.size 3 intC 1 r (backN m l t (t.length - 1)) := by
  have hm := Lib.hid hmp
  have hs := Lib.hid h
  have ht := Lib.hid h2
  obtain ⟨p1, c1, p2, c2, rfl, rfl⟩ := mp_form hmp
  obtain ⟨p, c, rfl, _⟩ := id h
  obtain ⟨p', c', rfl, _⟩ := id h2
  clear hmp h h2
  obtain ⟨W, H, hok⟩ := mapB_ok (ctlsB_map hC.good)
  have HK := Lib.hid hok
  have HC := Lib.hid hC
  have ht8 := hC.hi
  have ht2 := hC.lo
  clear hC hok
  go_enter Tryz.func40, Tryz.ntmps40
  go_wp2_with fail
  generalize hW0 : w.alloc (.cells #[.int .i64 m.wd, .int .i64 m.ht, .slice p1 m.rise.length c1, .slice p2 m.cost.length c2] 26) = W0
  have hbx : MBox w W0 w.heap.size m (.slice p1 m.rise.length c1) (.slice p2 m.cost.length c2) := by rw [← hW0]; exact mbox
  have HG := Lib.hid hbx.up
  have bx0 := hbx.c0
  have bx1 := hbx.c1
  have bx2 := hbx.c2
  have bx3 := hbx.c3
  have obx := hbx.ob
  have HM0 := Lib.hid (mp_up hm.out HG.out)
  have hs0 := Lib.hid (sl_up Ctl.cells_length hs.out HG.out)
  have ht0 := Lib.hid (sl_up intC_length ht.out HG.out)
  have hW0s := Lib.hid (show w.heap.size + 1 = W0.heap.size from hbx.se.symm)
  clear hW0 hbx
  have hsz := gain_size HG.out
  go_loopw [7, 8] (fun ov i wr => ∃ k : Nat, 1 ≤ k ∧ k ≤ t.length - 1 ∧ i = .int .i64 k ∧ (∃ d, wr = W0.ext d) ∧ wr.own W0.heap.size 3 intC 1 ov (backN m l t k)) (fun _ i _ => (t.length - 1) - (intOf i).toNat)
  case atStart => exact ⟨1, by omega, by omega, rfl, (by repeat (first | with_reducible (first | exact World.gained_refl _ | exact ⟨_, rfl⟩ | apply gain_ext | apply gain_alloc | apply gain_drewN | apply gain_drew) | (refine gain_setCell ?_ (by first | exact Nat.le_refl _ | exact World.size_ext _ _ | (simp; done) | (simp; omega)) _))), by rw [backN_one]; exact own_lit' (l := ([] : List Int)) intC_length rfl hW0s.out (gain_size (by repeat (first | with_reducible (first | exact World.gained_refl _ | exact ⟨_, rfl⟩ | apply gain_ext | apply gain_alloc | apply gain_drewN | apply gain_drew) | (refine gain_setCell ?_ (by first | exact Nat.le_refl _ | exact World.size_ext _ _ | (simp; done) | (simp; omega)) _))))⟩
  case round =>
    obtain ⟨k, hk0, hk, rfl, ⟨d, rfl⟩, ho⟩ := hrel
    have HO := Lib.hid ho
    clear ho
    have kw0 : IntKind.i64.wrap ((k : Int) + 1) = (k : Int) + 1 := IntWalk.i64_in _ (by omega)
    by_cases hlt : k < t.length - 1
    · have hkt : decide ((k : Int) + 1 < (t.length : Int)) = true := decide_eq_true (by omega)
      have h2A := legR_two HK.out HC.out (i := k) (by omega)
      have h2B := legR_two HK.out HC.out (i := k - 1) (by omega)
      have h36B := rt_len HK.out (legR_rt HK.out HC.out (i := k - 1) (by omega))
      have HST : Hid (backN m l t (k + 1) = backN m l t k ++ if backB (legR m l t (k - 1)) (legR m l t k) then [(k : Int)] else []) := Lib.hid (by
        rw [backN, backAt, decide_eq_true hk0, Bool.true_and])
      have HBL := Lib.hid (backN_length m l t k)
      have kw1 : IntKind.i64.wrap ((k : Int) - 1) = (k : Int) - 1 := IntWalk.i64_in _ (by omega)
      have kw2 : ((k - 1 : Nat) : Int) = (k : Int) - 1 := by omega
      have HRA := Lib.hid (fun w' hw' hv' hu' => l8Route_any m (.slice p1 m.rise.length c1) (.slice p2 m.cost.length c2) (.slice p l.length c) (.slice p' t.length c') l t k w' hw' hv' hl hu' HC.out (by omega))
      have HRB := Lib.hid (fun w' hw' hv' hu' => l8Route_any m (.slice p1 m.rise.length c1) (.slice p2 m.cost.length c2) (.slice p l.length c) (.slice p' t.length c') l t (k - 1) w' hw' hv' hl hu' HC.out (by omega))
      rw [kw2] at HRB
      generalize legR m l t k = RA at HRA h2A HST
      generalize legR m l t (k - 1) = RB at HRB h2B h36B HST
      go_upto_region 5 with fail
      refine wp_region_held_drew (S := (fun w' => w'.cell? ⟨w.heap.size, 0, none⟩ = some (.int .i64 m.wd) ∧ w'.cell? ⟨w.heap.size, 1, none⟩ = some (.int .i64 m.ht) ∧ w'.cell? ⟨w.heap.size, 2, none⟩ = some (.slice p1 m.rise.length c1) ∧ w'.cell? ⟨w.heap.size, 3, none⟩ = some (.slice p2 m.cost.length c2))) (by kernel_rfl) (by (try dsimp only); (refine ⟨?_, ?_, ?_, ?_⟩ <;> (with_reducible (repeat (first | assumption | refine cell_ext ?_ _ | refine cell_drew ?_ | refine cell_alloc ?_ _))))) (fun hHeld => ?_)
      refine wpAnyH_take (i := 0) (oi := ⟨_, _, _, _, _, _⟩) (v := ?_) rfl (by kernel_rfl) (by kernel_rfl) (by kernel_rfl) (fun _ _ _ h => h) (Or.inl ⟨by rfl, ?_⟩) (by assumption) ?_
      rotate_left
      · intro w hSw; (try dsimp only at hSw); go_simp; (try with_reducible rfl)
      try simp only [Act.put, List.setIfInBounds_toArray, List.set_cons_zero, List.set_cons_succ]
      refine wpAnyH_take (i := 1) (oi := ⟨_, _, _, _, _, _⟩) (v := ?_) rfl (by kernel_rfl) (by kernel_rfl) (by kernel_rfl) (fun _ _ _ h => h) (Or.inl ⟨by rfl, ?_⟩) (by assumption) ?_
      rotate_left
      · intro w hSw; (try dsimp only at hSw); go_simp; (try with_reducible rfl)
      try simp only [Act.put, List.setIfInBounds_toArray, List.set_cons_zero, List.set_cons_succ]
      refine wpAnyH_take (i := 2) (oi := ⟨_, _, _, _, _, _⟩) (v := ?_) rfl (by kernel_rfl) (by kernel_rfl) (by kernel_rfl) (fun _ _ _ h => h) (Or.inl ⟨by rfl, ?_⟩) (by assumption) ?_
      rotate_left
      · intro w hSw; (try dsimp only at hSw); go_simp; (try with_reducible rfl)
      try simp only [Act.put, List.setIfInBounds_toArray, List.set_cons_zero, List.set_cons_succ]
      refine wpAnyH_take (i := 3) (oi := ⟨_, _, _, _, _, _⟩) (v := ?_) rfl (by kernel_rfl) (by kernel_rfl) (by kernel_rfl) (fun _ _ _ h => h) (Or.inl ⟨by rfl, ?_⟩) (by assumption) ?_
      rotate_left
      · intro w hSw; (try dsimp only at hSw); go_simp; (try with_reducible rfl)
      try simp only [Act.put, List.setIfInBounds_toArray, List.set_cons_zero, List.set_cons_succ]
      refine wpAnyH_take (i := 4) (oi := ⟨_, _, _, _, _, _⟩) (v := ?_) rfl (by kernel_rfl) (by kernel_rfl) (by kernel_rfl) (fun _ _ _ h => h) (Or.inl ⟨by rfl, ?_⟩) (by assumption) ?_
      rotate_left
      · intro w hSw; (try dsimp only at hSw); go_simp; (try with_reducible rfl)
      try simp only [Act.put, List.setIfInBounds_toArray, List.set_cons_zero, List.set_cons_succ]
      refine wpAnyH_take (i := 6) (oi := ⟨_, _, _, _, _, _⟩) (v := ?_) rfl (by kernel_rfl) (by kernel_rfl) (by kernel_rfl) (fun _ _ _ h => h) (Or.inl ⟨by rfl, ?_⟩) (by assumption) ?_
      rotate_left
      · intro w hSw; (try dsimp only at hSw); go_simp; (try with_reducible rfl)
      try simp only [Act.put, List.setIfInBounds_toArray, List.set_cons_zero, List.set_cons_succ]
      refine wpAnyH_take (i := 7) (oi := ⟨_, _, _, _, _, _⟩) (v := ?_) rfl (by kernel_rfl) (by kernel_rfl) (by kernel_rfl) (fun _ _ _ h => h) (Or.inl ⟨by rfl, ?_⟩) (by assumption) ?_
      rotate_left
      · intro w hSw; (try dsimp only at hSw); go_simp; (try with_reducible rfl)
      try simp only [Act.put, List.setIfInBounds_toArray, List.set_cons_zero, List.set_cons_succ]
      refine wpAnyH_take (i := 8) (oi := ⟨_, _, _, _, _, _⟩) (v := ?_) rfl (by kernel_rfl) (by kernel_rfl) (by kernel_rfl) (fun _ _ _ h => h) (Or.inl ⟨by rfl, ?_⟩) (by assumption) ?_
      rotate_left
      · intro w hSw; (try dsimp only at hSw); go_simp; (try with_reducible rfl)
      try simp only [Act.put, List.setIfInBounds_toArray, List.set_cons_zero, List.set_cons_succ]
      refine wpAnyH_take (i := 9) (oi := ⟨_, _, _, _, _, _⟩) (v := ?_) rfl (by kernel_rfl) (by kernel_rfl) (by kernel_rfl) (fun _ _ _ h => h) (Or.inl ⟨by rfl, ?_⟩) (by assumption) ?_
      rotate_left
      · intro w hSw; (try dsimp only at hSw); go_simp; (try with_reducible rfl)
      try simp only [Act.put, List.setIfInBounds_toArray, List.set_cons_zero, List.set_cons_succ]
      refine wpAnyH_ready (rs := [5]) (by kernel_rfl) (by simp) ?_
      refine AllReadyH.cons rfl (fun K hK => ?_) AllReadyH.nil
      go_simp
      go_wp2_with (go_at_call 63; ((with_reducible refine (HRB.out _ (mp_up (HM0.out) (by repeat (first | with_reducible (first | exact World.gained_refl _ | exact ⟨_, rfl⟩ | apply gain_ext | apply gain_alloc | apply gain_drewN | apply gain_drew) | (refine gain_setCell ?_ (by first | exact Nat.le_refl _ | exact World.size_ext _ _ | (simp; done) | (simp; omega)) _)))) (by with_reducible (repeat (first | exact hs0.out | refine World.sl_ext Ctl.cells_length ?_ _ | refine sl_alloc Ctl.cells_length ?_ _ | refine sl_drew ?_))) (by with_reducible (repeat (first | exact ht0.out | refine World.sl_ext intC_length ?_ _ | refine sl_alloc intC_length ?_ _ | refine sl_drew ?_)))).mono ?_); rintro e w1 ⟨rb, rfl, ⟨d3, rfl⟩, hrb⟩))
      refine hK.out _ _ ?_ (fun hHeld => ?_)
      · (try dsimp only); (refine ⟨?_, ?_, ?_, ?_⟩ <;> (with_reducible (repeat (first | assumption | refine cell_ext ?_ _ | refine cell_drew ?_ | refine cell_alloc ?_ _))))
      clear hK K
      try simp only [Act.put, List.setIfInBounds_toArray, List.set_cons_zero, List.set_cons_succ]
      refine wpAnyH_ready (rs := [10]) (by kernel_rfl) (by simp) ?_
      refine AllReadyH.cons rfl (fun K hK => ?_) AllReadyH.nil
      go_simp
      go_wp2_with (go_at_call 63; ((with_reducible refine (HRA.out _ (mp_up (HM0.out) (by repeat (first | with_reducible (first | exact World.gained_refl _ | exact ⟨_, rfl⟩ | apply gain_ext | apply gain_alloc | apply gain_drewN | apply gain_drew) | (refine gain_setCell ?_ (by first | exact Nat.le_refl _ | exact World.size_ext _ _ | (simp; done) | (simp; omega)) _)))) (by with_reducible (repeat (first | exact hs0.out | refine World.sl_ext Ctl.cells_length ?_ _ | refine sl_alloc Ctl.cells_length ?_ _ | refine sl_drew ?_))) (by with_reducible (repeat (first | exact ht0.out | refine World.sl_ext intC_length ?_ _ | refine sl_alloc intC_length ?_ _ | refine sl_drew ?_)))).mono ?_); rintro e w1 ⟨ra, rfl, ⟨d4, rfl⟩, hra⟩))
      refine hK.out _ _ ?_ (fun hHeld => ?_)
      · (try dsimp only); (refine ⟨?_, ?_, ?_, ?_⟩ <;> (with_reducible (repeat (first | assumption | refine cell_ext ?_ _ | refine cell_drew ?_ | refine cell_alloc ?_ _))))
      clear hK K
      try simp only [Act.put, List.setIfInBounds_toArray, List.set_cons_zero, List.set_cons_succ]
      refine wpAnyH_take (i := 11) (oi := ⟨_, _, _, _, _, _⟩) (v := ?_) rfl (by kernel_rfl) (by kernel_rfl) (by kernel_rfl) (fun _ _ _ h => h) (Or.inl ⟨by rfl, ?_⟩) (by assumption) ?_
      rotate_left
      · intro w hSw; (try dsimp only at hSw); go_simp; (try with_reducible rfl)
      try simp only [Act.put, List.setIfInBounds_toArray, List.set_cons_zero, List.set_cons_succ]
      refine wpAnyH_take (i := 12) (oi := ⟨_, _, _, _, _, _⟩) (v := ?_) rfl (by kernel_rfl) (by kernel_rfl) (by kernel_rfl) (fun _ _ _ h => h) (Or.inl ⟨by rfl, ?_⟩) (by assumption) ?_
      rotate_left
      · intro w hSw; (try dsimp only at hSw); go_simp; (try with_reducible rfl)
      try simp only [Act.put, List.setIfInBounds_toArray, List.set_cons_zero, List.set_cons_succ]
      refine wpAnyH_done (by kernel_rfl) ?_ _
      have hA := sl_of_own intC_length hra
      have hB := sl_up intC_length (sl_of_own intC_length hrb) ⟨d4, rfl⟩
      clear hra hrb
      obtain ⟨qA, kA, rfl⟩ := sl1_form hA
      obtain ⟨qB, kB, rfl⟩ := sl1_form hB
      obtain ⟨bA, oA, rfl⟩ := sl_some hA (by rw [natL_length]; omega)
      obtain ⟨bB, oB, rfl⟩ := sl_some hB (by rw [natL_length]; omega)
      have cA := sl_int hA (k := 1) (by rw [natL_length]; omega)
      have cB := sl_int hB (k := RB.length - 2) (by rw [natL_length]; omega)
      have hBB : Hid (backB RB RA = (((natL RB)[RB.length - 2]'(by rw [natL_length]; omega)) == ((natL RA)[1]'(by rw [natL_length]; omega)))) := Lib.hid (by
        rw [natL_get, natL_get, backB, List.getD_eq_getElem?_getD, List.getD_eq_getElem?_getD, List.getElem?_eq_getElem (by omega : 1 < RA.length), List.getElem?_eq_getElem (by omega : RB.length - 2 < RB.length), Option.getD_some, Option.getD_some]
        rw [Bool.eq_iff_iff]
        simp only [beq_iff_eq]
        omega)
      generalize (natL RA)[1]'(by rw [natL_length]; omega) = x at cA hBB
      generalize (natL RB)[RB.length - 2]'(by rw [natL_length]; omega) = y at cB hBB
      have obA := World.oldB_of_cell cA
      have obB := World.oldB_of_cell cB
      have kw3 : RB.length - 2 < RB.length := by omega
      have kw4 : 1 < RA.length := by omega
      rw [natL_length, natL_length]
      clear hA hB
      cases hq : y == x with
      | true =>
        have HS := Lib.hid (show backN m l t (k + 1) = backN m l t k ++ [(k : Int)] by rw [HST.out, hBB.out, hq]; rfl)
        clear HST hBB
        go_wp2
        refine wp_region_gain (by kernel_rfl) (by kernel_rfl) ?_
        repeat (first | go_big_quiet_skip | (go_big_quiet_want; go_big_quiet_op; first | go_big_quiet_on))
        refine wpQuiet_nil ?_
        rintro _ ⟨d', rfl⟩
        go_wp2_with (at_builtin; go_must (refine wpList_append_gain (m := [(k : Int)]) rfl (.tmp 40) (.tmp 42) rfl Tryz.underlying24 info_int (by rfl) (by omega) intC_length intC_one (by omega) (by repeat (first | with_reducible (first | exact World.gained_refl _ | exact ⟨_, rfl⟩ | apply gain_ext | apply gain_alloc | apply gain_drewN | apply gain_drew) | (refine gain_setCell ?_ (by first | exact Nat.le_refl _ | exact World.size_ext _ _ | (simp; done) | (simp; omega)) _))) (Nat.le_refl _) (gain_size (by repeat (first | with_reducible (first | exact World.gained_refl _ | exact ⟨_, rfl⟩ | apply gain_ext | apply gain_alloc | apply gain_drewN | apply gain_drew) | (refine gain_setCell ?_ (by first | exact Nat.le_refl _ | exact World.size_ext _ _ | (simp; done) | (simp; omega)) _)))) rfl rfl (own_up (HO.out) (by repeat (first | with_reducible (first | exact World.gained_refl _ | exact ⟨_, rfl⟩ | apply gain_ext | apply gain_alloc | apply gain_drewN | apply gain_drew) | (refine gain_setCell ?_ (by first | exact Nat.le_refl _ | exact World.size_ext _ _ | (simp; done) | (simp; omega)) _)))) (sl_lit (l := [(k : Int)]) intC_length rfl (by simp)) (by have := HBL.out; simp only [List.length_singleton]; omega) ?_); intro v' d' ho hg)
        go_roundw
        case rel => exact ⟨k + 1, by omega, by omega, by go_num, ⟨_, rfl⟩, by rw [HS.out]; exact ho⟩
        case measure => simp [intOf]; omega
      | false =>
        have HS := Lib.hid (show backN m l t (k + 1) = backN m l t k by rw [HST.out, hBB.out, hq]; simp)
        clear HST hBB
        go_wp2
        refine wp_region_gain (by kernel_rfl) (by kernel_rfl) ?_
        repeat (first | go_big_quiet_skip | (go_big_quiet_want; go_big_quiet_op; first | go_big_quiet_on))
        refine wpQuiet_nil ?_
        rintro _ ⟨d', rfl⟩
        go_wp2
        go_roundw
        case rel => exact ⟨k + 1, by omega, by omega, by go_num, (by repeat (first | with_reducible (first | exact World.gained_refl _ | exact ⟨_, rfl⟩ | apply gain_ext | apply gain_alloc | apply gain_drewN | apply gain_drew) | (refine gain_setCell ?_ (by first | exact Nat.le_refl _ | exact World.size_ext _ _ | (simp; done) | (simp; omega)) _))), by rw [HS.out]; exact (own_up (HO.out) (by repeat (first | with_reducible (first | exact World.gained_refl _ | exact ⟨_, rfl⟩ | apply gain_ext | apply gain_alloc | apply gain_drewN | apply gain_drew) | (refine gain_setCell ?_ (by first | exact Nat.le_refl _ | exact World.size_ext _ _ | (simp; done) | (simp; omega)) _))))⟩
        case measure => simp [intOf]; omega
    · obtain rfl : k = t.length - 1 := by omega
      have hkt : decide (((t.length - 1 : Nat) : Int) + 1 < (t.length : Int)) = false := decide_eq_false (by omega)
      go_wp2
      go_ret
      exact ⟨_, rfl, gain_trans HG.out ⟨_, rfl⟩, own_base HO.out hsz⟩
set_option maxHeartbeats 2000000 in
theorem impBackLegs_any (m : Mp) (rv cv v u : Value) (l : List Ctl) (t : List Int) (w : World) (hmp : w.mp rv cv m) (h : w.sl Ctl.cells 2 v l) (hl : l.length ≤ 1048576) (h2 : w.sl intC 1 u t) (hl2 : t.length ≤ 1048576) :
    Calls Tryz.prog 17 #[.agg #[.int .i64 m.wd, .int .i64 m.ht, rv, cv], v, u] w fun x w' => ∃ r, x = .returned (.tuple #[r, .bool (crsB m l t)]) ∧ (∃ d, w' = w.ext d) ∧ w'.own w.heap.size 3 intC 1 r (backC m l t) := by
  have hm := Lib.hid hmp
  have hs := Lib.hid h
  have ht := Lib.hid h2
  obtain ⟨p1, c1, p2, c2, rfl, rfl⟩ := mp_form hmp
  have HGD := Lib.hid (fun w' hw' hv' hu' => isCourse_any m (.slice p1 m.rise.length c1) (.slice p2 m.cost.length c2) v u l t w' hw' hv' hl hu' hl2)
  clear hmp h h2
  cases hB : crsB m l t with
  | false =>
    have HE := Lib.hid (show backC m l t = [] by simp [backC, hB])
    rw [hB] at HGD
    clear hB
    go_enter Tryz.func17, Tryz.ntmps17
    go_wp2_with (go_at_call 20; refine (HGD.out _ (mp_up (hm.out) (by repeat (first | with_reducible (first | exact World.gained_refl _ | exact ⟨_, rfl⟩ | apply gain_ext | apply gain_alloc | apply gain_drewN | apply gain_drew) | (refine gain_setCell ?_ (by first | exact Nat.le_refl _ | exact World.size_ext _ _ | (simp; done) | (simp; omega)) _)))) (by with_reducible (repeat (first | exact hs.out | refine World.sl_ext Ctl.cells_length ?_ _ | refine sl_alloc Ctl.cells_length ?_ _ | refine sl_drew ?_))) (by with_reducible (repeat (first | exact ht.out | refine World.sl_ext intC_length ?_ _ | refine sl_alloc intC_length ?_ _ | refine sl_drew ?_)))).mono ?_; rintro e w1 ⟨rfl, d1, rfl⟩)
    go_ret2
    rw [HE.out]
    exact ⟨_, rfl, (by repeat (first | with_reducible (first | exact World.gained_refl _ | exact ⟨_, rfl⟩ | apply gain_ext | apply gain_alloc | apply gain_drewN | apply gain_drew) | (refine gain_setCell ?_ (by first | exact Nat.le_refl _ | exact World.size_ext _ _ | (simp; done) | (simp; omega)) _))), own_nil _ _ _ _ _⟩
  | true =>
    have HE := Lib.hid (show backC m l t = backN m l t (t.length - 1) by simp [backC, hB])
    have HC := Lib.hid (crsB_true hB)
    rw [hB] at HGD
    clear hB
    go_enter Tryz.func17, Tryz.ntmps17
    go_wp2_with (go_at_call 20; refine (HGD.out _ (mp_up (hm.out) (by repeat (first | with_reducible (first | exact World.gained_refl _ | exact ⟨_, rfl⟩ | apply gain_ext | apply gain_alloc | apply gain_drewN | apply gain_drew) | (refine gain_setCell ?_ (by first | exact Nat.le_refl _ | exact World.size_ext _ _ | (simp; done) | (simp; omega)) _)))) (by with_reducible (repeat (first | exact hs.out | refine World.sl_ext Ctl.cells_length ?_ _ | refine sl_alloc Ctl.cells_length ?_ _ | refine sl_drew ?_))) (by with_reducible (repeat (first | exact ht.out | refine World.sl_ext intC_length ?_ _ | refine sl_alloc intC_length ?_ _ | refine sl_drew ?_)))).mono ?_; rintro e w1 ⟨rfl, d1, rfl⟩)
    refine (backLegs_any m _ _ _ _ l t _ (mp_up (hm.out) (by repeat (first | with_reducible (first | exact World.gained_refl _ | exact ⟨_, rfl⟩ | apply gain_ext | apply gain_alloc | apply gain_drewN | apply gain_drew) | (refine gain_setCell ?_ (by first | exact Nat.le_refl _ | exact World.size_ext _ _ | (simp; done) | (simp; omega)) _)))) (by with_reducible (repeat (first | exact hs.out | refine World.sl_ext Ctl.cells_length ?_ _ | refine sl_alloc Ctl.cells_length ?_ _ | refine sl_drew ?_))) hl (by with_reducible (repeat (first | exact ht.out | refine World.sl_ext intC_length ?_ _ | refine sl_alloc intC_length ?_ _ | refine sl_drew ?_))) HC.out).mono ?_
    rintro e w1 ⟨r, rfl, ⟨d2, rfl⟩, ho⟩
    go_wp2
    go_ret2
    rw [HE.out]
    exact ⟨_, rfl, (by repeat (first | with_reducible (first | exact World.gained_refl _ | exact ⟨_, rfl⟩ | apply gain_ext | apply gain_alloc | apply gain_drewN | apply gain_drew) | (refine gain_setCell ?_ (by first | exact Nat.le_refl _ | exact World.size_ext _ _ | (simp; done) | (simp; omega)) _))), own_base ho (gain_size (by repeat (first | with_reducible (first | exact World.gained_refl _ | exact ⟨_, rfl⟩ | apply gain_ext | apply gain_alloc | apply gain_drewN | apply gain_drew) | (refine gain_setCell ?_ (by first | exact Nat.le_refl _ | exact World.size_ext _ _ | (simp; done) | (simp; omega)) _))))⟩
set_option maxHeartbeats 2000000 in
theorem specBackLegs_any (m : Mp) (rv cv v u : Value) (l : List Ctl) (t : List Int) (w : World) (hmp : w.mp rv cv m) (h : w.sl Ctl.cells 2 v l) (hl : l.length ≤ 1048576) (h2 : w.sl intC 1 u t) (hl2 : t.length ≤ 1048576) :
    Calls Tryz.prog 18 #[.agg #[.int .i64 m.wd, .int .i64 m.ht, rv, cv], v, u] w fun x w' => ∃ r, x = .returned (.tuple #[r, .bool (crsB m l t)]) ∧ (∃ d, w' = w.ext d) ∧ w'.own w.heap.size 3 intC 1 r (backC m l t) := by
  have hm := Lib.hid hmp
  have hs := Lib.hid h
  have ht := Lib.hid h2
  obtain ⟨p1, c1, p2, c2, rfl, rfl⟩ := mp_form hmp
  have HGD := Lib.hid (fun w' hw' hv' hu' => l8Good_any m (.slice p1 m.rise.length c1) (.slice p2 m.cost.length c2) v u l t w' hw' hv' hl hu' hl2)
  clear hmp h h2
  cases hB : crsB m l t with
  | false =>
    have HE := Lib.hid (show backC m l t = [] by simp [backC, hB])
    rw [hB] at HGD
    clear hB
    go_enter Tryz.func18, Tryz.ntmps18
    go_wp2_with (go_at_call 28; refine (HGD.out _ (mp_up (hm.out) (by repeat (first | with_reducible (first | exact World.gained_refl _ | exact ⟨_, rfl⟩ | apply gain_ext | apply gain_alloc | apply gain_drewN | apply gain_drew) | (refine gain_setCell ?_ (by first | exact Nat.le_refl _ | exact World.size_ext _ _ | (simp; done) | (simp; omega)) _)))) (by with_reducible (repeat (first | exact hs.out | refine World.sl_ext Ctl.cells_length ?_ _ | refine sl_alloc Ctl.cells_length ?_ _ | refine sl_drew ?_))) (by with_reducible (repeat (first | exact ht.out | refine World.sl_ext intC_length ?_ _ | refine sl_alloc intC_length ?_ _ | refine sl_drew ?_)))).mono ?_; rintro e w1 ⟨rfl, d1, rfl⟩)
    go_ret2
    rw [HE.out]
    exact ⟨_, rfl, (by repeat (first | with_reducible (first | exact World.gained_refl _ | exact ⟨_, rfl⟩ | apply gain_ext | apply gain_alloc | apply gain_drewN | apply gain_drew) | (refine gain_setCell ?_ (by first | exact Nat.le_refl _ | exact World.size_ext _ _ | (simp; done) | (simp; omega)) _))), own_lit' (l := ([] : List Int)) intC_length rfl rfl (gain_size (by repeat (first | with_reducible (first | exact World.gained_refl _ | exact ⟨_, rfl⟩ | apply gain_ext | apply gain_alloc | apply gain_drewN | apply gain_drew) | (refine gain_setCell ?_ (by first | exact Nat.le_refl _ | exact World.size_ext _ _ | (simp; done) | (simp; omega)) _))))⟩
  | true =>
    have HE := Lib.hid (show backC m l t = backN m l t (t.length - 1) by simp [backC, hB])
    have HC := Lib.hid (crsB_true hB)
    rw [hB] at HGD
    clear hB
    go_enter Tryz.func18, Tryz.ntmps18
    go_wp2_with (go_at_call 28; refine (HGD.out _ (mp_up (hm.out) (by repeat (first | with_reducible (first | exact World.gained_refl _ | exact ⟨_, rfl⟩ | apply gain_ext | apply gain_alloc | apply gain_drewN | apply gain_drew) | (refine gain_setCell ?_ (by first | exact Nat.le_refl _ | exact World.size_ext _ _ | (simp; done) | (simp; omega)) _)))) (by with_reducible (repeat (first | exact hs.out | refine World.sl_ext Ctl.cells_length ?_ _ | refine sl_alloc Ctl.cells_length ?_ _ | refine sl_drew ?_))) (by with_reducible (repeat (first | exact ht.out | refine World.sl_ext intC_length ?_ _ | refine sl_alloc intC_length ?_ _ | refine sl_drew ?_)))).mono ?_; rintro e w1 ⟨rfl, d1, rfl⟩)
    refine (l8Back_any m _ _ _ _ l t _ (mp_up (hm.out) (by repeat (first | with_reducible (first | exact World.gained_refl _ | exact ⟨_, rfl⟩ | apply gain_ext | apply gain_alloc | apply gain_drewN | apply gain_drew) | (refine gain_setCell ?_ (by first | exact Nat.le_refl _ | exact World.size_ext _ _ | (simp; done) | (simp; omega)) _)))) (by with_reducible (repeat (first | exact hs.out | refine World.sl_ext Ctl.cells_length ?_ _ | refine sl_alloc Ctl.cells_length ?_ _ | refine sl_drew ?_))) hl (by with_reducible (repeat (first | exact ht.out | refine World.sl_ext intC_length ?_ _ | refine sl_alloc intC_length ?_ _ | refine sl_drew ?_))) HC.out).mono ?_
    rintro e w1 ⟨r, rfl, ⟨d2, rfl⟩, ho⟩
    go_wp2
    go_ret2
    rw [HE.out]
    exact ⟨_, rfl, (by repeat (first | with_reducible (first | exact World.gained_refl _ | exact ⟨_, rfl⟩ | apply gain_ext | apply gain_alloc | apply gain_drewN | apply gain_drew) | (refine gain_setCell ?_ (by first | exact Nat.le_refl _ | exact World.size_ext _ _ | (simp; done) | (simp; omega)) _))), own_base ho (gain_size (by repeat (first | with_reducible (first | exact World.gained_refl _ | exact ⟨_, rfl⟩ | apply gain_ext | apply gain_alloc | apply gain_drewN | apply gain_drew) | (refine gain_setCell ?_ (by first | exact Nat.le_refl _ | exact World.size_ext _ _ | (simp; done) | (simp; omega)) _))))⟩
end Go.Proofs.YtmcimgnobimicaaGreat
