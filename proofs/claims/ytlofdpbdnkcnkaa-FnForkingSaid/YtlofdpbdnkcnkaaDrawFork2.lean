/- spec.l1Cur's forked: a plan, mostly a valid one. Condition: the reader has been asked less than five hundred times. -/
import Derived.Test.YtlofdpbdnkcnkaaDrawFork
import Derived.Test.YtlofdpbdnkcnkaaSwapS
import Derived.Test.YtlofdpbdnkcnkaaRotated
import Derived.Test.YtlofdpbdnkcnkaaPForkL
namespace Go
open RowKit Go.Ori
theorem rows3_cur {e2 e1 e : TypeId} {w w' : World} {lo g : Nat} {v : Value} {us : List Value} {vss : List (List Value)} {l : List (List (List Int))} (h : World.rows3 e2 e1 e w lo v us vss l) (hl : g < lo) (hg : w.grownBy w' (some g)) : World.rows3 e2 e1 e w' lo v us vss l :=
  ⟨own_cur h.out hl hg, h.len, h.len2, fun i hi h1 h2 => rows2_cur (h.row i hi h1 h2) hl hg, h.ap1, h.ap2⟩
theorem rows3p_cur {e2 e1 e : TypeId} {w w' : World} {lo g : Nat} {v : Value} {l : List (List (List Int))} (h : World.rows3p e2 e1 e w lo v l) (hl : g < lo) (hg : w.grownBy w' (some g)) : World.rows3p e2 e1 e w' lo v l := by
  obtain ⟨us, vss, h⟩ := h
  exact ⟨us, vss, rows3_cur h hl hg⟩
theorem rows3p_base {e2 e1 e : TypeId} {w : World} {lo b : Nat} {v : Value} {l : List (List (List Int))} (h : World.rows3p e2 e1 e w b v l) (hb : lo ≤ b) : World.rows3p e2 e1 e w lo v l := by
  obtain ⟨us, vss, h⟩ := h
  exact ⟨us, vss, rows3_base h hb⟩
def World.heads (w : World) (v : Value) (us : List Value) (vss : List (List Value)) : Prop := w.sl valC 1 v us ∧ ∀ (i : Nat) (h : i < us.length) (h' : i < vss.length), w.sl valC 1 us[i] vss[i]
theorem heads_of {e2 e1 e : TypeId} {w : World} {lo : Nat} {v : Value} {us : List Value} {vss : List (List Value)} {l : List (List (List Int))} (h : World.rows3 e2 e1 e w lo v us vss l) : w.heads v us vss :=
  ⟨sl_of_own valC_length h.out, fun i hi hi' => sl_of_own valC_length (h.row i (by rw [← h.len]; exact hi) hi hi').out⟩
theorem heads_at {w : World} {b o n c : Nat} {us : List Value} {vss : List (List Value)} (h : w.heads (.slice (some ⟨b, o, none⟩) n c) us vss) {i : Nat} (hi : i < us.length) {u : Value} (hu : us[i] = u) : w.cell? ⟨b, o + i, none⟩ = some u := by
  have := sl_cells h.1 (k := i) hi (j := 0) (by omega)
  subst hu
  simpa [valC] using this
theorem heads_row {w : World} {v : Value} {b o n c : Nat} {us : List Value} {vss : List (List Value)} (h : w.heads v us vss) {i j : Nat} (hi : i < us.length) (hi' : i < vss.length) (hu : us[i] = .slice (some ⟨b, o, none⟩) n c) (hj : j < vss[i].length) {u : Value} (hv : vss[i][j] = u) : w.cell? ⟨b, o + j, none⟩ = some u := by
  have h1 := h.2 i hi hi'
  rw [hu] at h1
  have := sl_cells h1 (k := j) hj (j := 0) (by omega)
  subst hv
  simpa [valC] using this
theorem heads_set {e2 e1 e : TypeId} {w : World} {lo : Nat} {v : Value} {us : List Value} {vss : List (List Value)} {l : List (List (List Int))} (h : World.rows3 e2 e1 e w lo v us vss l) {b : Addr} {x y : Int} (hb : w.cell? b = some (.int .i64 y)) : (w.setCell b (.int .i64 x)).heads v us vss :=
  ⟨slV_set (sl_of_own valC_length h.out) (fun i hi => by
      have hi' : i < l.length := by rw [← h.len]; exact hi
      obtain ⟨p, c, hv, _⟩ := sl_of_own valC_length (h.row i hi' hi (by rw [h.len2]; exact hi')).out
      exact ⟨p, _, c, hv⟩) hb, fun i hi hi2 => by
    have hr := h.row i (by rw [← h.len]; exact hi) hi hi2
    exact slV_set (sl_of_own valC_length hr.out) (fun j hj => by
      obtain ⟨p, c, hv, _⟩ := sl_of_own intC_length (hr.row j (by rw [← hr.len]; exact hj) hj)
      exact ⟨p, _, c, hv⟩) hb⟩
namespace Ori
theorem tot3_snoc (l : List (List (List Int))) : tot3 (l ++ [[]]) = tot3 l + 1 := by
  unfold tot3 psum
  rw [List.take_length, List.take_length, List.map_append, List.sum_append, List.length_append]
  simp [tot2, psum]
  omega
theorem planB_tot {l : List (List (List Int))} {legs forks : Int} (h : planB l legs forks = true) : tot3 l ≤ 500 := by
  obtain ⟨L, F, rfl, rfl, a1, a2, a3, a4, a5, hall⟩ := planB_true h
  have hb := psum_bd tot2 l 20 (fun x hx => by
    obtain ⟨t, ht, rfl⟩ := List.getElem_of_mem hx
    obtain ⟨h1, h2⟩ := hall t ht
    have := psum_bd tot1 l[t] 4 (fun y hy => by
      obtain ⟨q, hq, rfl⟩ := List.getElem_of_mem hy
      rw [tot1, (h2 q hq).1]; exact a3)
    unfold tot2
    omega)
  unfold tot3
  omega
end Ori
end Go
namespace Go.Proofs.Ytlofdpbdnkcnkaa
open Go.RowKit Go.Ori
set_option maxHeartbeats 4000000 in
set_option maxRecDepth 100000 in
theorem forked_any (W w : World) (g n : Nat) (h : Cur 69 W w g n) (hn : n ≤ 500) :
    Calls Try.prog 41 #[.pointer (some ⟨g, 0, none⟩)] w fun x w' => ∃ v l legs forks, x = .returned (.tuple #[v, .int .i64 legs, .int .i64 forks]) ∧ w'.sl3f w.heap.size v l ∧ tot3 l ≤ 1000 ∧ legs ≤ 5 ∧ forks ≤ 5 ∧ Cur 69 W w' g (n + 100) ∧ w.grownBy w' (some g) := by
  have HC := Lib.hid h
  have hgw := h.lt
  have hWw : W.heap.size ≤ w.heap.size := Nat.le_trans h.ge (Nat.le_of_lt hgw)
  clear h
  go_enter Try.func41, Try.ntmps41
  go_wp2_with fail
  refine (pick_any W _ g n _ HC.out (by omega)).mono ?_
  rintro e w1 ⟨r1, rfl, a1, a2, hc1, hg1⟩
  have HC1 := Lib.hid hc1
  have HG1 := Lib.hid hg1
  clear hc1 hg1
  have hw1 : IntKind.i64.wrap (1 + r1) = 1 + r1 := IntWalk.i64_in _ (by omega)
  go_wp2_with fail
  refine (pick_any W _ g _ _ HC1.out (by omega)).mono ?_
  rintro e w2 ⟨r2, rfl, b1, b2, hc2, hg2⟩
  have HC2 := Lib.hid hc2
  have HG2 := Lib.hid (only_trans HG1.out hg2)
  clear hc2 hg2
  go_wp2_with fail
  refine (pick_any W _ g _ _ HC2.out (by omega)).mono ?_
  rintro e w3 ⟨r3, rfl, c1, c2, hc3, hg3⟩
  have HC3 := Lib.hid hc3
  have HG3 := Lib.hid (only_trans HG2.out hg3)
  have hsz3 := only_size HG3.out
  clear hc3 hg3
  have hB : rotB (1 + r3) (1 + r1) r2 = true := by simp only [rotB, sizeB, Bool.and_eq_true, insB_true]; omega
  go_wp2_with fail
  refine (specRotatedPlan_any (1 + r3) (1 + r1) r2 _).mono ?_
  rintro e w4 ⟨v, us, vss, rfl, ⟨d4, rfl⟩, h3⟩
  rw [hB]
  obtain ⟨p1, -, -⟩ := rot_fair hB
  clear hB
  generalize rotL (1 + r3) (1 + r1) r2 = l0 at h3 p1
  generalize hLG : 1 + r1 = LG at *
  have hL4 : LG ≤ 4 := by omega
  have hF3 : r2 ≤ 3 := by omega
  have HP := Lib.hid (rows3p_base (lo := w.heap.size) ⟨us, vss, h3⟩ hsz3)
  have HPL := Lib.hid p1
  clear h3 p1 a1 a2 c1 c2 hw1 hLG
  obtain ⟨pp, cp, rfl⟩ := sl3_form (sl3_of_rows3p HP.out)
  go_wp2_with fail
  refine (pick_any W _ g _ _ (HC3.out.gain (by repeat (first | with_reducible (first | exact World.gained_refl _ | exact ⟨_, rfl⟩ | apply gain_ext | apply gain_alloc | apply gain_drewN | apply gain_drew) | (refine gain_setCell ?_ (by first | exact Nat.le_refl _ | exact World.size_ext _ _ | (simp; done) | (simp; omega)) _)))) (by omega)).mono ?_
  rintro e w5 ⟨r4, rfl, e1, e2, hc5, hg5⟩
  have HC5 := Lib.hid hc5
  have HG5 := Lib.hid (only_trans (only_gain HG3.out (by repeat (first | with_reducible (first | exact World.gained_refl _ | exact ⟨_, rfl⟩ | apply gain_ext | apply gain_alloc | apply gain_drewN | apply gain_drew) | (refine gain_setCell ?_ (by first | exact Nat.le_refl _ | exact World.size_ext _ _ | (simp; done) | (simp; omega)) _)))) hg5)
  have HP5 := Lib.hid (rows3p_cur HP.out hgw hg5)
  clear hc5 hg5
  obtain ⟨k0, rfl⟩ : ∃ k0 : Nat, r4 = (k0 : Int) := ⟨r4.toNat, by omega⟩
  have hk0 : k0 ≤ 3 := by omega
  clear e1 e2
  go_wp2_with fail
  go_loopw [7, 9] (fun pv i wr => ∃ (k : Nat) (l : List (List (List Int))), k ≤ 3 ∧ i = .int .i64 k ∧ planB l LG r2 = true ∧ World.rows3p 25 28 3 wr w.heap.size pv l ∧ Cur 69 W wr g (n + 40 - 8 * k) ∧ w.grownBy wr (some g)) (fun _ i _ => (intOf i).toNat)
  case atStart => exact ⟨k0, l0, by omega, rfl, HPL.out, HP5.out, HC5.out.le (by omega), HG5.out⟩
  case round =>
    obtain ⟨k, l, hk, rfl, hpl, hrp, hcu, hgb⟩ := hrel
    have HPB := Lib.hid hpl
    have HRP := Lib.hid hrp
    have HCU := Lib.hid hcu
    have HGB := Lib.hid hgb
    have HTT := Lib.hid (planB_tot hpl)
    have hll : l.length ≤ 1000 := by have := tot3_len l; have := HTT.out; omega
    obtain ⟨pq, cq, rfl⟩ := sl3_form (sl3_of_rows3p HRP.out)
    clear hpl hrp hcu hgb
    by_cases hlt : 0 < k
    · have hkk : decide (0 < (k : Int)) = true := decide_eq_true (by omega)
      go_wp2_with fail
      refine (pick_any W _ g _ _ HCU.out (by omega)).mono ?_
      rintro e wa ⟨ra, rfl, -, -, hca, hga⟩
      have HRA := Lib.hid (rows3p_cur HRP.out hgw hga)
      have HGA := Lib.hid (only_trans HGB.out hga)
      have HCA := Lib.hid hca
      clear hca hga
      go_wp2_with fail
      refine (pick_any W _ g _ _ HCA.out (by omega)).mono ?_
      rintro e wb ⟨rb, rfl, -, -, hcb, hgb⟩
      have HRB := Lib.hid (rows3p_cur HRA.out hgw hgb)
      have HGB2 := Lib.hid (only_trans HGA.out hgb)
      have HCB := Lib.hid hcb
      clear hcb hgb
      go_wp2_with fail
      refine (pick_any W _ g _ _ HCB.out (by omega)).mono ?_
      rintro e wc ⟨rc, rfl, -, -, hcc, hgc⟩
      have HRC := Lib.hid (rows3p_cur HRB.out hgw hgc)
      have HGC := Lib.hid (only_trans HGB2.out hgc)
      have HCC := Lib.hid hcc
      clear hcc hgc
      go_wp2_with fail
      refine (specSwapLegs_any _ l LG r2 ra rb rc _ (sl3_of_rows3p HRC.out) (by have := HTT.out; omega)).mono ?_
      rintro e wd ⟨rv, rfl, ⟨dd, rfl⟩, hr⟩
      have HRV := Lib.hid (rows3p_base (lo := w.heap.size) hr (only_size HGC.out))
      clear hr
      cases hsb : swapB l LG r2 ra rb rc with
      | false =>
        go_wp2_with fail
        go_roundw
        case rel => exact ⟨k - 1, l, by omega, by go_num, HPB.out, rows3p_up HRC.out (by repeat (first | with_reducible (first | exact World.gained_refl _ | exact ⟨_, rfl⟩ | apply gain_ext | apply gain_alloc | apply gain_drewN | apply gain_drew) | (refine gain_setCell ?_ (by first | exact Nat.le_refl _ | exact World.size_ext _ _ | (simp; done) | (simp; omega)) _))), (HCC.out.gain (by repeat (first | with_reducible (first | exact World.gained_refl _ | exact ⟨_, rfl⟩ | apply gain_ext | apply gain_alloc | apply gain_drewN | apply gain_drew) | (refine gain_setCell ?_ (by first | exact Nat.le_refl _ | exact World.size_ext _ _ | (simp; done) | (simp; omega)) _)))).le (by omega), only_gain HGC.out (by repeat (first | with_reducible (first | exact World.gained_refl _ | exact ⟨_, rfl⟩ | apply gain_ext | apply gain_alloc | apply gain_drewN | apply gain_drew) | (refine gain_setCell ?_ (by first | exact Nat.le_refl _ | exact World.size_ext _ _ | (simp; done) | (simp; omega)) _)))⟩
        case measure => simp [intOf]; omega
      | true =>
        have HSF := Lib.hid (swap_facts hsb).2.1
        go_wp2_with fail
        go_roundw
        case rel => exact ⟨k - 1, swapL l LG r2 ra rb rc, by omega, by go_num, HSF.out, rows3p_up HRV.out (by repeat (first | with_reducible (first | exact World.gained_refl _ | exact ⟨_, rfl⟩ | apply gain_ext | apply gain_alloc | apply gain_drewN | apply gain_drew) | (refine gain_setCell ?_ (by first | exact Nat.le_refl _ | exact World.size_ext _ _ | (simp; done) | (simp; omega)) _))), (HCC.out.gain (by repeat (first | with_reducible (first | exact World.gained_refl _ | exact ⟨_, rfl⟩ | apply gain_ext | apply gain_alloc | apply gain_drewN | apply gain_drew) | (refine gain_setCell ?_ (by first | exact Nat.le_refl _ | exact World.size_ext _ _ | (simp; done) | (simp; omega)) _)))).le (by omega), only_gain HGC.out (by repeat (first | with_reducible (first | exact World.gained_refl _ | exact ⟨_, rfl⟩ | apply gain_ext | apply gain_alloc | apply gain_drewN | apply gain_drew) | (refine gain_setCell ?_ (by first | exact Nat.le_refl _ | exact World.size_ext _ _ | (simp; done) | (simp; omega)) _)))⟩
        case measure => simp [intOf]; omega
    · have hkk : decide (0 < (k : Int)) = false := decide_eq_false (by omega)
      have hbt : tot3 l ≤ 1000 := by have := HTT.out; omega
      go_wp2_with fail
      refine (pick_any W _ g _ _ HCU.out (by omega)).mono ?_
      rintro e w6 ⟨r6, rfl, -, -, hc6, hg6⟩
      have HR6 := Lib.hid (rows3p_cur HRP.out hgw hg6)
      have HG6 := Lib.hid (only_trans HGB.out hg6)
      have HC6 := Lib.hid hc6
      have HUP := Lib.hid hc6.up
      have hsz6 := only_size HG6.out
      clear hc6 hg6
      cases h0 : r6 == 0 with
      | true =>
        by_cases hf0 : 0 < r2
        · obtain ⟨us, vss, h6⟩ := HR6.out
          obtain ⟨PL, PF, rfl, rfl, z1, z2, z3, z4, z5, hall⟩ := planB_true HPB.out
          have hul := h6.len
          have hvl := h6.len2
          obtain ⟨gl, cap, hv, -, -⟩ := own_addr h6.out (by omega)
          injection hv with ev1 ev2 ev3
          subst ev1 ev3
          have HH := Lib.hid h6
          have HL0 := Lib.hid hul
          have HL1 := Lib.hid hvl
          have HAL := Lib.hid hall
          have hfk : decide (0 < (PF : Int)) = true := decide_eq_true hf0
          clear h6 hul hvl hall ev2
          go_upto_region 12 with fail
          refine wp_region_held_drew (S := (fun w' => w'.heads (.slice (some ⟨gl, 0, none⟩) l.length cq) us vss)) (by kernel_rfl) ?_ (fun hHeld => ?_)
          · exact ⟨sl_drew (sl_of_own valC_length HH.out.out), fun i h h' => sl_drew (sl_of_own valC_length (HH.out.row i (by rw [← HL0.out]; exact h) h h').out)⟩
          refine wpAnyH_take (i := 0) (oi := ⟨_, _, _, _, _, _⟩) (v := ?_) rfl (by kernel_rfl) (by kernel_rfl) (by kernel_rfl) (fun _ _ _ h => h) (Or.inl ⟨by rfl, ?_⟩) (by assumption) ?_
          rotate_left
          · intro w hSw; (try dsimp only at hSw); go_simp; (try with_reducible rfl)
          try simp only [Act.put, List.setIfInBounds_toArray, List.set_cons_zero, List.set_cons_succ]
          refine wpAnyH_take (i := 1) (oi := ⟨_, _, _, _, _, _⟩) (v := ?_) rfl (by kernel_rfl) (by kernel_rfl) (by kernel_rfl) (fun _ _ _ h => h) (Or.inl ⟨by rfl, ?_⟩) (by assumption) ?_
          rotate_left
          · intro w hSw; (try dsimp only at hSw); go_simp; (try with_reducible rfl)
          try simp only [Act.put, List.setIfInBounds_toArray, List.set_cons_zero, List.set_cons_succ]
          refine wpAnyH_take (i := 2) (oi := ⟨_, _, _, _, _, _⟩) (v := ?_) rfl (by kernel_rfl) (by kernel_rfl) (by kernel_rfl) (fun _ _ _ h => h) (Or.inl ⟨by rfl, ?_⟩) (by assumption) ?_
          rotate_left
          · intro w hSw; (try dsimp only at hSw); go_simp; (try with_reducible rfl)
          try simp only [Act.put, List.setIfInBounds_toArray, List.set_cons_zero, List.set_cons_succ]
          refine wpAnyH_take (i := 3) (oi := ⟨_, _, _, _, _, _⟩) (v := ?_) rfl (by kernel_rfl) (by kernel_rfl) (by kernel_rfl) (fun _ _ _ h => h) (Or.inl ⟨by rfl, ?_⟩) (by assumption) ?_
          rotate_left
          · intro w hSw; (try dsimp only at hSw); go_simp; (try with_reducible rfl)
          try simp only [Act.put, List.setIfInBounds_toArray, List.set_cons_zero, List.set_cons_succ]
          refine wpAnyH_take (i := 7) (oi := ⟨_, _, _, _, _, _⟩) (v := ?_) rfl (by kernel_rfl) (by kernel_rfl) (by kernel_rfl) (fun _ _ _ h => h) (Or.inl ⟨by rfl, ?_⟩) (by assumption) ?_
          rotate_left
          · intro w hSw; (try dsimp only at hSw); go_simp; (try with_reducible rfl)
          try simp only [Act.put, List.setIfInBounds_toArray, List.set_cons_zero, List.set_cons_succ]
          refine wpAnyH_take (i := 8) (oi := ⟨_, _, _, _, _, _⟩) (v := ?_) rfl (by kernel_rfl) (by kernel_rfl) (by kernel_rfl) (fun _ _ _ h => h) (Or.inl ⟨by rfl, ?_⟩) (by assumption) ?_
          rotate_left
          · intro w hSw; (try dsimp only at hSw); go_simp; (try with_reducible rfl)
          try simp only [Act.put, List.setIfInBounds_toArray, List.set_cons_zero, List.set_cons_succ]
          refine wpAnyH_take (i := 12) (oi := ⟨_, _, _, _, _, _⟩) (v := ?_) rfl (by kernel_rfl) (by kernel_rfl) (by kernel_rfl) (fun _ _ _ h => h) (Or.inl ⟨by rfl, ?_⟩) (by assumption) ?_
          rotate_left
          · intro w hSw; (try dsimp only at hSw); go_simp; (try with_reducible rfl)
          try simp only [Act.put, List.setIfInBounds_toArray, List.set_cons_zero, List.set_cons_succ]
          refine wpAnyH_take (i := 13) (oi := ⟨_, _, _, _, _, _⟩) (v := ?_) rfl (by kernel_rfl) (by kernel_rfl) (by kernel_rfl) (fun _ _ _ h => h) (Or.inl ⟨by rfl, ?_⟩) (by assumption) ?_
          rotate_left
          · intro w hSw; (try dsimp only at hSw); go_simp; (try with_reducible rfl)
          try simp only [Act.put, List.setIfInBounds_toArray, List.set_cons_zero, List.set_cons_succ]
          refine wpAnyH_take (i := 15) (oi := ⟨_, _, _, _, _, _⟩) (v := ?_) rfl (by kernel_rfl) (by kernel_rfl) (by kernel_rfl) (fun _ _ _ h => h) (Or.inl ⟨by rfl, ?_⟩) (by assumption) ?_
          rotate_left
          · intro w hSw; (try dsimp only at hSw); go_simp; (try with_reducible rfl)
          try simp only [Act.put, List.setIfInBounds_toArray, List.set_cons_zero, List.set_cons_succ]
          refine wpAnyH_take (i := 16) (oi := ⟨_, _, _, _, _, _⟩) (v := ?_) rfl (by kernel_rfl) (by kernel_rfl) (by kernel_rfl) (fun _ _ _ h => h) (Or.inl ⟨by rfl, ?_⟩) (by assumption) ?_
          rotate_left
          · intro w hSw; (try dsimp only at hSw); go_simp; (try with_reducible rfl)
          try simp only [Act.put, List.setIfInBounds_toArray, List.set_cons_zero, List.set_cons_succ]
          refine wpAnyH_ready (rs := [4, 17]) (by kernel_rfl) (by simp) ?_
          refine AllReadyH.cons rfl (fun K hK => ?_) (AllReadyH.cons rfl (fun K hK => ?_) AllReadyH.nil)
          · go_simp
            go_wp2_with fail
            refine (pick_any W _ g _ _ (HC6.out.gain (by repeat (first | with_reducible (first | exact World.gained_refl _ | exact ⟨_, rfl⟩ | apply gain_ext | apply gain_alloc | apply gain_drewN | apply gain_drew) | (refine gain_setCell ?_ (by first | exact Nat.le_refl _ | exact World.size_ext _ _ | (simp; done) | (simp; omega)) _)))) (by omega)).mono ?_
            rintro e wa ⟨ra, rfl, Aa, Ba, hca, hga⟩
            obtain ⟨i, rfl⟩ : ∃ i : Nat, ra = (i : Int) := ⟨ra.toNat, by omega⟩
            have hi : i < l.length := by omega
            have HRa := Lib.hid (rows3_cur (rows3_up HH.out (by repeat (first | with_reducible (first | exact World.gained_refl _ | exact ⟨_, rfl⟩ | apply gain_ext | apply gain_alloc | apply gain_drewN | apply gain_drew) | (refine gain_setCell ?_ (by first | exact Nat.le_refl _ | exact World.size_ext _ _ | (simp; done) | (simp; omega)) _)))) hgw hga)
            have HCa := Lib.hid hca
            have HGa := Lib.hid (only_trans (only_gain HG6.out (by repeat (first | with_reducible (first | exact World.gained_refl _ | exact ⟨_, rfl⟩ | apply gain_ext | apply gain_alloc | apply gain_drewN | apply gain_drew) | (refine gain_setCell ?_ (by first | exact Nat.le_refl _ | exact World.size_ext _ _ | (simp; done) | (simp; omega)) _)))) hga)
            have hsza := only_size HGa.out
            clear hca hga Aa Ba
            (try dsimp only)
            refine hK.out _ _ ?_ (fun hHeld => ?_)
            · exact heads_of HRa.out
            clear hK K
            try simp only [Act.put, List.setIfInBounds_toArray, List.set_cons_zero, List.set_cons_succ]
            have hiu : i < us.length := by rw [HL0.out]; exact hi
            have hiv : i < vss.length := by rw [HL1.out]; exact hi
            have HLi := Lib.hid (HAL.out i hi)
            have HRi := Lib.hid (fun (w' : World) (h : World.rows3 25 28 3 w' w.heap.size (.slice (some ⟨gl, 0, none⟩) l.length cq) us vss l) => h.row i hi hiu hiv)
            have hjv : ∀ j : Nat, j < PL → j < vss[i].length := fun j hj => by rw [(HRi.out _ HRa.out).len, HLi.out.1]; exact hj
            have HJV := Lib.hid hjv
            clear hjv
            obtain ⟨gi, ci, hgi, -, -⟩ := own_addr (HRi.out _ HRa.out).out (HJV.out 0 (by omega))
            have HGI := Lib.hid hgi
            have HLD := Lib.hid (fun (w' : World) (h : World.heads w' (.slice (some ⟨gl, 0, none⟩) l.length cq) us vss) => heads_at h hiu hgi)
            clear hgi
            refine wpAnyH_take (i := 5) (oi := ⟨_, _, _, _, _, _⟩) (v := ?_) rfl (by kernel_rfl) (by kernel_rfl) (by kernel_rfl) (fun _ _ _ h => h) (Or.inl ⟨by rfl, ?_⟩) (by assumption) ?_
            rotate_left
            · intro w hSw; (try dsimp only at hSw); go_simp; (try with_reducible rfl)
            try simp only [Act.put, List.setIfInBounds_toArray, List.set_cons_zero, List.set_cons_succ]
            refine wpAnyH_take (i := 6) (oi := ⟨_, _, _, _, _, _⟩) (v := ?_) rfl (by kernel_rfl) (by kernel_rfl) (by kernel_rfl) (fun _ _ _ h => h) (Or.inl ⟨by rfl, ?_⟩) (by assumption) ?_
            rotate_left
            · intro w hSw; (try dsimp only at hSw); have ck := HLD.out w hSw; have ob := World.oldB_of_cell ck; rw [Nat.zero_add] at ck; clear hSw; go_simp; (try with_reducible rfl)
            try simp only [Act.put, List.setIfInBounds_toArray, List.set_cons_zero, List.set_cons_succ]
            refine wpAnyH_ready (rs := [9, 17]) (by kernel_rfl) (by simp) ?_
            refine AllReadyH.cons rfl (fun K hK => ?_) (AllReadyH.cons rfl (fun K hK => ?_) AllReadyH.nil)
            · go_simp
              go_wp2_with fail
              refine (pick_any W _ g _ _ (HCa.out.gain (by repeat (first | with_reducible (first | exact World.gained_refl _ | exact ⟨_, rfl⟩ | apply gain_ext | apply gain_alloc | apply gain_drewN | apply gain_drew) | (refine gain_setCell ?_ (by first | exact Nat.le_refl _ | exact World.size_ext _ _ | (simp; done) | (simp; omega)) _)))) (by omega)).mono ?_
              rintro e wb ⟨rb, rfl, Ab, Bb, hcb, hgb⟩
              obtain ⟨j, rfl⟩ : ∃ j : Nat, rb = (j : Int) := ⟨rb.toNat, by omega⟩
              have hj : j < PL := by omega
              have HRb := Lib.hid (rows3_cur (rows3_up HRa.out (by repeat (first | with_reducible (first | exact World.gained_refl _ | exact ⟨_, rfl⟩ | apply gain_ext | apply gain_alloc | apply gain_drewN | apply gain_drew) | (refine gain_setCell ?_ (by first | exact Nat.le_refl _ | exact World.size_ext _ _ | (simp; done) | (simp; omega)) _)))) hgw hgb)
              have HCb := Lib.hid hcb
              have HGb := Lib.hid (only_trans (only_gain HGa.out (by repeat (first | with_reducible (first | exact World.gained_refl _ | exact ⟨_, rfl⟩ | apply gain_ext | apply gain_alloc | apply gain_drewN | apply gain_drew) | (refine gain_setCell ?_ (by first | exact Nat.le_refl _ | exact World.size_ext _ _ | (simp; done) | (simp; omega)) _)))) hgb)
              have hszb := only_size HGb.out
              clear hcb hgb Ab Bb
              (try dsimp only)
              refine hK.out _ _ ?_ (fun hHeld => ?_)
              · exact heads_of HRb.out
              clear hK K
              try simp only [Act.put, List.setIfInBounds_toArray, List.set_cons_zero, List.set_cons_succ]
              have hjv := HJV.out j hj
              have hjl : j < l[i].length := by rw [HLi.out.1]; exact hj
              have HLj := Lib.hid ((HLi.out.2 j hjl).1)
              have HRj := Lib.hid (fun (w' : World) (h : World.rows3 25 28 3 w' w.heap.size (.slice (some ⟨gl, 0, none⟩) l.length cq) us vss l) => (HRi.out w' h).row j hjl hjv)
              obtain ⟨gj, cj, hgj, hgjb, -⟩ := own_addr (HRj.out _ HRb.out) (by rw [HLj.out]; omega)
              have HGJ := Lib.hid hgj
              have HLD2 := Lib.hid (fun (w' : World) (h : World.heads w' (.slice (some ⟨gl, 0, none⟩) l.length cq) us vss) => heads_row h hiu hiv HGI.out hjv hgj)
              clear hgj
              refine wpAnyH_take (i := 10) (oi := ⟨_, _, _, _, _, _⟩) (v := ?_) rfl (by kernel_rfl) (by kernel_rfl) (by kernel_rfl) (fun _ _ _ h => h) (Or.inl ⟨by rfl, ?_⟩) (by assumption) ?_
              rotate_left
              · intro w hSw; (try dsimp only at hSw); go_simp; (try with_reducible rfl)
              try simp only [Act.put, List.setIfInBounds_toArray, List.set_cons_zero, List.set_cons_succ]
              refine wpAnyH_take (i := 11) (oi := ⟨_, _, _, _, _, _⟩) (v := ?_) rfl (by kernel_rfl) (by kernel_rfl) (by kernel_rfl) (fun _ _ _ h => h) (Or.inl ⟨by rfl, ?_⟩) (by assumption) ?_
              rotate_left
              · intro w hSw; (try dsimp only at hSw); have ck := HLD2.out w hSw; have ob := World.oldB_of_cell ck; rw [Nat.zero_add] at ck; clear hSw; go_simp; (try with_reducible rfl)
              try simp only [Act.put, List.setIfInBounds_toArray, List.set_cons_zero, List.set_cons_succ]
              refine wpAnyH_ready (rs := [14, 17]) (by kernel_rfl) (by simp) ?_
              refine AllReadyH.cons rfl (fun K hK => ?_) (AllReadyH.cons rfl (fun K hK => ?_) AllReadyH.nil)
              · go_simp
                go_wp2_with fail
                refine (pick_any W _ g _ _ (HCb.out.gain (by repeat (first | with_reducible (first | exact World.gained_refl _ | exact ⟨_, rfl⟩ | apply gain_ext | apply gain_alloc | apply gain_drewN | apply gain_drew) | (refine gain_setCell ?_ (by first | exact Nat.le_refl _ | exact World.size_ext _ _ | (simp; done) | (simp; omega)) _)))) (by omega)).mono ?_
                rintro e wc ⟨rc, rfl, Ac, Bc, hcc, hgc⟩
                obtain ⟨k, rfl⟩ : ∃ k : Nat, rc = (k : Int) := ⟨rc.toNat, by omega⟩
                have hk : k < PF := by omega
                have HRc := Lib.hid (rows3_cur (rows3_up HRb.out (by repeat (first | with_reducible (first | exact World.gained_refl _ | exact ⟨_, rfl⟩ | apply gain_ext | apply gain_alloc | apply gain_drewN | apply gain_drew) | (refine gain_setCell ?_ (by first | exact Nat.le_refl _ | exact World.size_ext _ _ | (simp; done) | (simp; omega)) _)))) hgw hgc)
                have HCc := Lib.hid hcc
                have HGc := Lib.hid (only_trans (only_gain HGb.out (by repeat (first | with_reducible (first | exact World.gained_refl _ | exact ⟨_, rfl⟩ | apply gain_ext | apply gain_alloc | apply gain_drewN | apply gain_drew) | (refine gain_setCell ?_ (by first | exact Nat.le_refl _ | exact World.size_ext _ _ | (simp; done) | (simp; omega)) _)))) hgc)
                have hszc := only_size HGc.out
                clear hcc hgc Ac Bc
                (try dsimp only)
                refine hK.out _ _ ?_ (fun hHeld => ?_)
                · exact heads_of HRc.out
                clear hK K
                try simp only [Act.put, List.setIfInBounds_toArray, List.set_cons_zero, List.set_cons_succ]
                have hkl : k < l[i][j].length := by rw [HLj.out]; exact hk
                refine wpAnyH_ready (rs := [17]) (by kernel_rfl) (by simp) ?_
                refine AllReadyH.cons rfl (fun K hK => ?_) AllReadyH.nil
                go_simp
                refine hK.out _ _ ?_ (fun hHeld => ?_)
                · exact heads_of (rows3_up HRc.out (by repeat (first | with_reducible (first | exact World.gained_refl _ | exact ⟨_, rfl⟩ | apply gain_ext | apply gain_alloc | apply gain_drewN | apply gain_drew) | (refine gain_setCell ?_ (by first | exact Nat.le_refl _ | exact World.size_ext _ _ | (simp; done) | (simp; omega)) _))))
                clear hK K
                try simp only [Act.put, List.setIfInBounds_toArray, List.set_cons_zero, List.set_cons_succ]
                refine wpAnyH_ready (rs := [18]) (by kernel_rfl) (by simp) ?_
                refine AllReadyH.cons rfl (fun K hK => ?_) AllReadyH.nil
                go_simp
                go_wp2_with fail
                refine (among_any W _ g _ _ [0, 0, 1, -1, (PL : Int)] w.heap.size (HCc.out.gain (by repeat (first | with_reducible (first | exact World.gained_refl _ | exact ⟨_, rfl⟩ | apply gain_ext | apply gain_alloc | apply gain_drewN | apply gain_drew) | (refine gain_setCell ?_ (by first | exact Nat.le_refl _ | exact World.size_ext _ _ | (simp; done) | (simp; omega)) _)))) (by omega) (own_up (own_lit' (w := wc) (e := 3) (C := #[.int .i64 0, .int .i64 0, .int .i64 1, .int .i64 (-1), .int .i64 (PL : Int)]) (l := [0, 0, 1, -1, (PL : Int)]) intC_length rfl rfl hszc) (by repeat (first | with_reducible (first | exact World.gained_refl _ | exact ⟨_, rfl⟩ | apply gain_ext | apply gain_alloc | apply gain_drewN | apply gain_drew) | (refine gain_setCell ?_ (by first | exact Nat.le_refl _ | exact World.size_ext _ _ | (simp; done) | (simp; omega)) _)))) hgw (by simp) (by simp)).mono ?_
                rintro e wd ⟨rd, rfl, _, hcd, hgd⟩
                have HRd := Lib.hid (rows3_cur (rows3_up HRc.out (by repeat (first | with_reducible (first | exact World.gained_refl _ | exact ⟨_, rfl⟩ | apply gain_ext | apply gain_alloc | apply gain_drewN | apply gain_drew) | (refine gain_setCell ?_ (by first | exact Nat.le_refl _ | exact World.size_ext _ _ | (simp; done) | (simp; omega)) _)))) hgw hgd)
                have HCd := Lib.hid hcd
                have HGd := Lib.hid (only_trans (only_gain HGc.out (by repeat (first | with_reducible (first | exact World.gained_refl _ | exact ⟨_, rfl⟩ | apply gain_ext | apply gain_alloc | apply gain_drewN | apply gain_drew) | (refine gain_setCell ?_ (by first | exact Nat.le_refl _ | exact World.size_ext _ _ | (simp; done) | (simp; omega)) _)))) hgd)
                clear hcd hgd
                (try dsimp only)
                refine hK.out _ _ ?_ (fun hHeld => ?_)
                · exact heads_of HRd.out
                clear hK K
                try simp only [Act.put, List.setIfInBounds_toArray, List.set_cons_zero, List.set_cons_succ]
                obtain ⟨t0, z0⟩ := own_at (HGJ.out ▸ HRj.out _ HRd.out) (k := k) hkl
                have obr := World.oldB_of_cell t0
                have ck5 : (wd.setCell ⟨gj, k, none⟩ (.int .i64 rd)).heads (.slice (some ⟨gl, 0, none⟩) l.length cq) us vss := heads_set HRd.out t0
                refine wpAnyH_take (i := 19) (oi := ⟨_, _, _, _, _, _⟩) (v := ?_) rfl (by kernel_rfl) (by kernel_rfl) (by kernel_rfl) (fun _ _ _ h => h) (Or.inl ⟨by rfl, ?_⟩) (by assumption) ?_
                rotate_left
                · intro w hSw; (try dsimp only at hSw); go_simp; (try with_reducible rfl)
                try simp only [Act.put, List.setIfInBounds_toArray, List.set_cons_zero, List.set_cons_succ]
                refine wpAnyH_ready (rs := [20]) (by kernel_rfl) (by simp) ?_
                refine AllReadyH.cons rfl (fun K hK => ?_) AllReadyH.nil
                go_simp
                refine hK.out _ _ ?_ (fun hHeld => ?_)
                · exact ck5
                clear hK K
                try simp only [Act.put, List.setIfInBounds_toArray, List.set_cons_zero, List.set_cons_succ]
                refine wpAnyH_done (by kernel_rfl) ?_ _
                go_wp2
                go_ret3
                obtain ⟨l', e1, e2, e3⟩ := sl3f_set (x := rd) (sl3f_of_rows ⟨_, _, HRd.out⟩) t0
                exact ⟨_, l', _, _, rfl, e3, by rw [e2]; exact hbt, by omega, by omega, (HCd.out.grow (only_setCell (g := gj) (only_refl _ _) rfl _) (fun q hq => by cases hq; omega) (gain_setCell HCd.out.up (show W.heap.size ≤ gj by omega) _)).le (by omega), only_new HGd.out (only_setCell (g := gj) (only_refl _ _) rfl _) (fun q hq => by cases hq; omega)⟩
              · go_simp
                refine hK.out _ _ ?_ (fun hHeld => ?_)
                · exact heads_of (rows3_up HRb.out (by repeat (first | with_reducible (first | exact World.gained_refl _ | exact ⟨_, rfl⟩ | apply gain_ext | apply gain_alloc | apply gain_drewN | apply gain_drew) | (refine gain_setCell ?_ (by first | exact Nat.le_refl _ | exact World.size_ext _ _ | (simp; done) | (simp; omega)) _))))
                clear hK K
                try simp only [Act.put, List.setIfInBounds_toArray, List.set_cons_zero, List.set_cons_succ]
                refine wpAnyH_ready (rs := [14]) (by kernel_rfl) (by simp) ?_
                refine AllReadyH.cons rfl (fun K hK => ?_) AllReadyH.nil
                go_simp
                go_wp2_with fail
                refine (pick_any W _ g _ _ (HCb.out.gain (by repeat (first | with_reducible (first | exact World.gained_refl _ | exact ⟨_, rfl⟩ | apply gain_ext | apply gain_alloc | apply gain_drewN | apply gain_drew) | (refine gain_setCell ?_ (by first | exact Nat.le_refl _ | exact World.size_ext _ _ | (simp; done) | (simp; omega)) _)))) (by omega)).mono ?_
                rintro e wc ⟨rc, rfl, Ac, Bc, hcc, hgc⟩
                obtain ⟨k, rfl⟩ : ∃ k : Nat, rc = (k : Int) := ⟨rc.toNat, by omega⟩
                have hk : k < PF := by omega
                have HRc := Lib.hid (rows3_cur (rows3_up HRb.out (by repeat (first | with_reducible (first | exact World.gained_refl _ | exact ⟨_, rfl⟩ | apply gain_ext | apply gain_alloc | apply gain_drewN | apply gain_drew) | (refine gain_setCell ?_ (by first | exact Nat.le_refl _ | exact World.size_ext _ _ | (simp; done) | (simp; omega)) _)))) hgw hgc)
                have HCc := Lib.hid hcc
                have HGc := Lib.hid (only_trans (only_gain HGb.out (by repeat (first | with_reducible (first | exact World.gained_refl _ | exact ⟨_, rfl⟩ | apply gain_ext | apply gain_alloc | apply gain_drewN | apply gain_drew) | (refine gain_setCell ?_ (by first | exact Nat.le_refl _ | exact World.size_ext _ _ | (simp; done) | (simp; omega)) _)))) hgc)
                have hszc := only_size HGc.out
                have HLITc := Lib.hid (own_cur (own_up (own_lit' (w := wb) (e := 3) (C := #[.int .i64 0, .int .i64 0, .int .i64 1, .int .i64 (-1), .int .i64 (PL : Int)]) (l := [0, 0, 1, -1, (PL : Int)]) intC_length rfl rfl hszb) (by repeat (first | with_reducible (first | exact World.gained_refl _ | exact ⟨_, rfl⟩ | apply gain_ext | apply gain_alloc | apply gain_drewN | apply gain_drew) | (refine gain_setCell ?_ (by first | exact Nat.le_refl _ | exact World.size_ext _ _ | (simp; done) | (simp; omega)) _)))) hgw hgc)
                clear hcc hgc Ac Bc
                (try dsimp only)
                refine hK.out _ _ ?_ (fun hHeld => ?_)
                · exact heads_of HRc.out
                clear hK K
                try simp only [Act.put, List.setIfInBounds_toArray, List.set_cons_zero, List.set_cons_succ]
                have hkl : k < l[i][j].length := by rw [HLj.out]; exact hk
                refine wpAnyH_ready (rs := [18]) (by kernel_rfl) (by simp) ?_
                refine AllReadyH.cons rfl (fun K hK => ?_) AllReadyH.nil
                go_simp
                go_wp2_with fail
                refine (among_any W _ g _ _ [0, 0, 1, -1, (PL : Int)] w.heap.size (HCc.out.gain (by repeat (first | with_reducible (first | exact World.gained_refl _ | exact ⟨_, rfl⟩ | apply gain_ext | apply gain_alloc | apply gain_drewN | apply gain_drew) | (refine gain_setCell ?_ (by first | exact Nat.le_refl _ | exact World.size_ext _ _ | (simp; done) | (simp; omega)) _)))) (by omega) (own_up HLITc.out (by repeat (first | with_reducible (first | exact World.gained_refl _ | exact ⟨_, rfl⟩ | apply gain_ext | apply gain_alloc | apply gain_drewN | apply gain_drew) | (refine gain_setCell ?_ (by first | exact Nat.le_refl _ | exact World.size_ext _ _ | (simp; done) | (simp; omega)) _)))) hgw (by simp) (by simp)).mono ?_
                rintro e wd ⟨rd, rfl, _, hcd, hgd⟩
                have HRd := Lib.hid (rows3_cur (rows3_up HRc.out (by repeat (first | with_reducible (first | exact World.gained_refl _ | exact ⟨_, rfl⟩ | apply gain_ext | apply gain_alloc | apply gain_drewN | apply gain_drew) | (refine gain_setCell ?_ (by first | exact Nat.le_refl _ | exact World.size_ext _ _ | (simp; done) | (simp; omega)) _)))) hgw hgd)
                have HCd := Lib.hid hcd
                have HGd := Lib.hid (only_trans (only_gain HGc.out (by repeat (first | with_reducible (first | exact World.gained_refl _ | exact ⟨_, rfl⟩ | apply gain_ext | apply gain_alloc | apply gain_drewN | apply gain_drew) | (refine gain_setCell ?_ (by first | exact Nat.le_refl _ | exact World.size_ext _ _ | (simp; done) | (simp; omega)) _)))) hgd)
                clear hcd hgd
                (try dsimp only)
                refine hK.out _ _ ?_ (fun hHeld => ?_)
                · exact heads_of HRd.out
                clear hK K
                try simp only [Act.put, List.setIfInBounds_toArray, List.set_cons_zero, List.set_cons_succ]
                obtain ⟨t0, z0⟩ := own_at (HGJ.out ▸ HRj.out _ HRd.out) (k := k) hkl
                have obr := World.oldB_of_cell t0
                have ck5 : (wd.setCell ⟨gj, k, none⟩ (.int .i64 rd)).heads (.slice (some ⟨gl, 0, none⟩) l.length cq) us vss := heads_set HRd.out t0
                refine wpAnyH_take (i := 19) (oi := ⟨_, _, _, _, _, _⟩) (v := ?_) rfl (by kernel_rfl) (by kernel_rfl) (by kernel_rfl) (fun _ _ _ h => h) (Or.inl ⟨by rfl, ?_⟩) (by assumption) ?_
                rotate_left
                · intro w hSw; (try dsimp only at hSw); go_simp; (try with_reducible rfl)
                try simp only [Act.put, List.setIfInBounds_toArray, List.set_cons_zero, List.set_cons_succ]
                refine wpAnyH_ready (rs := [20]) (by kernel_rfl) (by simp) ?_
                refine AllReadyH.cons rfl (fun K hK => ?_) AllReadyH.nil
                go_simp
                refine hK.out _ _ ?_ (fun hHeld => ?_)
                · exact ck5
                clear hK K
                try simp only [Act.put, List.setIfInBounds_toArray, List.set_cons_zero, List.set_cons_succ]
                refine wpAnyH_done (by kernel_rfl) ?_ _
                go_wp2
                go_ret3
                obtain ⟨l', e1, e2, e3⟩ := sl3f_set (x := rd) (sl3f_of_rows ⟨_, _, HRd.out⟩) t0
                exact ⟨_, l', _, _, rfl, e3, by rw [e2]; exact hbt, by omega, by omega, (HCd.out.grow (only_setCell (g := gj) (only_refl _ _) rfl _) (fun q hq => by cases hq; omega) (gain_setCell HCd.out.up (show W.heap.size ≤ gj by omega) _)).le (by omega), only_new HGd.out (only_setCell (g := gj) (only_refl _ _) rfl _) (fun q hq => by cases hq; omega)⟩
            · go_simp
              refine hK.out _ _ ?_ (fun hHeld => ?_)
              · exact heads_of (rows3_up HRa.out (by repeat (first | with_reducible (first | exact World.gained_refl _ | exact ⟨_, rfl⟩ | apply gain_ext | apply gain_alloc | apply gain_drewN | apply gain_drew) | (refine gain_setCell ?_ (by first | exact Nat.le_refl _ | exact World.size_ext _ _ | (simp; done) | (simp; omega)) _))))
              clear hK K
              try simp only [Act.put, List.setIfInBounds_toArray, List.set_cons_zero, List.set_cons_succ]
              refine wpAnyH_ready (rs := [9]) (by kernel_rfl) (by simp) ?_
              refine AllReadyH.cons rfl (fun K hK => ?_) AllReadyH.nil
              go_simp
              go_wp2_with fail
              refine (pick_any W _ g _ _ (HCa.out.gain (by repeat (first | with_reducible (first | exact World.gained_refl _ | exact ⟨_, rfl⟩ | apply gain_ext | apply gain_alloc | apply gain_drewN | apply gain_drew) | (refine gain_setCell ?_ (by first | exact Nat.le_refl _ | exact World.size_ext _ _ | (simp; done) | (simp; omega)) _)))) (by omega)).mono ?_
              rintro e wb ⟨rb, rfl, Ab, Bb, hcb, hgb⟩
              obtain ⟨j, rfl⟩ : ∃ j : Nat, rb = (j : Int) := ⟨rb.toNat, by omega⟩
              have hj : j < PL := by omega
              have HRb := Lib.hid (rows3_cur (rows3_up HRa.out (by repeat (first | with_reducible (first | exact World.gained_refl _ | exact ⟨_, rfl⟩ | apply gain_ext | apply gain_alloc | apply gain_drewN | apply gain_drew) | (refine gain_setCell ?_ (by first | exact Nat.le_refl _ | exact World.size_ext _ _ | (simp; done) | (simp; omega)) _)))) hgw hgb)
              have HCb := Lib.hid hcb
              have HGb := Lib.hid (only_trans (only_gain HGa.out (by repeat (first | with_reducible (first | exact World.gained_refl _ | exact ⟨_, rfl⟩ | apply gain_ext | apply gain_alloc | apply gain_drewN | apply gain_drew) | (refine gain_setCell ?_ (by first | exact Nat.le_refl _ | exact World.size_ext _ _ | (simp; done) | (simp; omega)) _)))) hgb)
              have hszb := only_size HGb.out
              have HLITb := Lib.hid (own_cur (own_up (own_lit' (w := wa) (e := 3) (C := #[.int .i64 0, .int .i64 0, .int .i64 1, .int .i64 (-1), .int .i64 (PL : Int)]) (l := [0, 0, 1, -1, (PL : Int)]) intC_length rfl rfl hsza) (by repeat (first | with_reducible (first | exact World.gained_refl _ | exact ⟨_, rfl⟩ | apply gain_ext | apply gain_alloc | apply gain_drewN | apply gain_drew) | (refine gain_setCell ?_ (by first | exact Nat.le_refl _ | exact World.size_ext _ _ | (simp; done) | (simp; omega)) _)))) hgw hgb)
              clear hcb hgb Ab Bb
              (try dsimp only)
              refine hK.out _ _ ?_ (fun hHeld => ?_)
              · exact heads_of HRb.out
              clear hK K
              try simp only [Act.put, List.setIfInBounds_toArray, List.set_cons_zero, List.set_cons_succ]
              have hjv := HJV.out j hj
              have hjl : j < l[i].length := by rw [HLi.out.1]; exact hj
              have HLj := Lib.hid ((HLi.out.2 j hjl).1)
              have HRj := Lib.hid (fun (w' : World) (h : World.rows3 25 28 3 w' w.heap.size (.slice (some ⟨gl, 0, none⟩) l.length cq) us vss l) => (HRi.out w' h).row j hjl hjv)
              obtain ⟨gj, cj, hgj, hgjb, -⟩ := own_addr (HRj.out _ HRb.out) (by rw [HLj.out]; omega)
              have HGJ := Lib.hid hgj
              have HLD2 := Lib.hid (fun (w' : World) (h : World.heads w' (.slice (some ⟨gl, 0, none⟩) l.length cq) us vss) => heads_row h hiu hiv HGI.out hjv hgj)
              clear hgj
              refine wpAnyH_take (i := 10) (oi := ⟨_, _, _, _, _, _⟩) (v := ?_) rfl (by kernel_rfl) (by kernel_rfl) (by kernel_rfl) (fun _ _ _ h => h) (Or.inl ⟨by rfl, ?_⟩) (by assumption) ?_
              rotate_left
              · intro w hSw; (try dsimp only at hSw); go_simp; (try with_reducible rfl)
              try simp only [Act.put, List.setIfInBounds_toArray, List.set_cons_zero, List.set_cons_succ]
              refine wpAnyH_take (i := 11) (oi := ⟨_, _, _, _, _, _⟩) (v := ?_) rfl (by kernel_rfl) (by kernel_rfl) (by kernel_rfl) (fun _ _ _ h => h) (Or.inl ⟨by rfl, ?_⟩) (by assumption) ?_
              rotate_left
              · intro w hSw; (try dsimp only at hSw); have ck := HLD2.out w hSw; have ob := World.oldB_of_cell ck; rw [Nat.zero_add] at ck; clear hSw; go_simp; (try with_reducible rfl)
              try simp only [Act.put, List.setIfInBounds_toArray, List.set_cons_zero, List.set_cons_succ]
              refine wpAnyH_ready (rs := [14]) (by kernel_rfl) (by simp) ?_
              refine AllReadyH.cons rfl (fun K hK => ?_) AllReadyH.nil
              go_simp
              go_wp2_with fail
              refine (pick_any W _ g _ _ (HCb.out.gain (by repeat (first | with_reducible (first | exact World.gained_refl _ | exact ⟨_, rfl⟩ | apply gain_ext | apply gain_alloc | apply gain_drewN | apply gain_drew) | (refine gain_setCell ?_ (by first | exact Nat.le_refl _ | exact World.size_ext _ _ | (simp; done) | (simp; omega)) _)))) (by omega)).mono ?_
              rintro e wc ⟨rc, rfl, Ac, Bc, hcc, hgc⟩
              obtain ⟨k, rfl⟩ : ∃ k : Nat, rc = (k : Int) := ⟨rc.toNat, by omega⟩
              have hk : k < PF := by omega
              have HRc := Lib.hid (rows3_cur (rows3_up HRb.out (by repeat (first | with_reducible (first | exact World.gained_refl _ | exact ⟨_, rfl⟩ | apply gain_ext | apply gain_alloc | apply gain_drewN | apply gain_drew) | (refine gain_setCell ?_ (by first | exact Nat.le_refl _ | exact World.size_ext _ _ | (simp; done) | (simp; omega)) _)))) hgw hgc)
              have HCc := Lib.hid hcc
              have HGc := Lib.hid (only_trans (only_gain HGb.out (by repeat (first | with_reducible (first | exact World.gained_refl _ | exact ⟨_, rfl⟩ | apply gain_ext | apply gain_alloc | apply gain_drewN | apply gain_drew) | (refine gain_setCell ?_ (by first | exact Nat.le_refl _ | exact World.size_ext _ _ | (simp; done) | (simp; omega)) _)))) hgc)
              have hszc := only_size HGc.out
              have HLITc := Lib.hid (own_cur (own_up HLITb.out (by repeat (first | with_reducible (first | exact World.gained_refl _ | exact ⟨_, rfl⟩ | apply gain_ext | apply gain_alloc | apply gain_drewN | apply gain_drew) | (refine gain_setCell ?_ (by first | exact Nat.le_refl _ | exact World.size_ext _ _ | (simp; done) | (simp; omega)) _)))) hgw hgc)
              clear hcc hgc Ac Bc
              (try dsimp only)
              refine hK.out _ _ ?_ (fun hHeld => ?_)
              · exact heads_of HRc.out
              clear hK K
              try simp only [Act.put, List.setIfInBounds_toArray, List.set_cons_zero, List.set_cons_succ]
              have hkl : k < l[i][j].length := by rw [HLj.out]; exact hk
              refine wpAnyH_ready (rs := [18]) (by kernel_rfl) (by simp) ?_
              refine AllReadyH.cons rfl (fun K hK => ?_) AllReadyH.nil
              go_simp
              go_wp2_with fail
              refine (among_any W _ g _ _ [0, 0, 1, -1, (PL : Int)] w.heap.size (HCc.out.gain (by repeat (first | with_reducible (first | exact World.gained_refl _ | exact ⟨_, rfl⟩ | apply gain_ext | apply gain_alloc | apply gain_drewN | apply gain_drew) | (refine gain_setCell ?_ (by first | exact Nat.le_refl _ | exact World.size_ext _ _ | (simp; done) | (simp; omega)) _)))) (by omega) (own_up HLITc.out (by repeat (first | with_reducible (first | exact World.gained_refl _ | exact ⟨_, rfl⟩ | apply gain_ext | apply gain_alloc | apply gain_drewN | apply gain_drew) | (refine gain_setCell ?_ (by first | exact Nat.le_refl _ | exact World.size_ext _ _ | (simp; done) | (simp; omega)) _)))) hgw (by simp) (by simp)).mono ?_
              rintro e wd ⟨rd, rfl, _, hcd, hgd⟩
              have HRd := Lib.hid (rows3_cur (rows3_up HRc.out (by repeat (first | with_reducible (first | exact World.gained_refl _ | exact ⟨_, rfl⟩ | apply gain_ext | apply gain_alloc | apply gain_drewN | apply gain_drew) | (refine gain_setCell ?_ (by first | exact Nat.le_refl _ | exact World.size_ext _ _ | (simp; done) | (simp; omega)) _)))) hgw hgd)
              have HCd := Lib.hid hcd
              have HGd := Lib.hid (only_trans (only_gain HGc.out (by repeat (first | with_reducible (first | exact World.gained_refl _ | exact ⟨_, rfl⟩ | apply gain_ext | apply gain_alloc | apply gain_drewN | apply gain_drew) | (refine gain_setCell ?_ (by first | exact Nat.le_refl _ | exact World.size_ext _ _ | (simp; done) | (simp; omega)) _)))) hgd)
              clear hcd hgd
              (try dsimp only)
              refine hK.out _ _ ?_ (fun hHeld => ?_)
              · exact heads_of HRd.out
              clear hK K
              try simp only [Act.put, List.setIfInBounds_toArray, List.set_cons_zero, List.set_cons_succ]
              obtain ⟨t0, z0⟩ := own_at (HGJ.out ▸ HRj.out _ HRd.out) (k := k) hkl
              have obr := World.oldB_of_cell t0
              have ck5 : (wd.setCell ⟨gj, k, none⟩ (.int .i64 rd)).heads (.slice (some ⟨gl, 0, none⟩) l.length cq) us vss := heads_set HRd.out t0
              refine wpAnyH_take (i := 19) (oi := ⟨_, _, _, _, _, _⟩) (v := ?_) rfl (by kernel_rfl) (by kernel_rfl) (by kernel_rfl) (fun _ _ _ h => h) (Or.inl ⟨by rfl, ?_⟩) (by assumption) ?_
              rotate_left
              · intro w hSw; (try dsimp only at hSw); go_simp; (try with_reducible rfl)
              try simp only [Act.put, List.setIfInBounds_toArray, List.set_cons_zero, List.set_cons_succ]
              refine wpAnyH_ready (rs := [20]) (by kernel_rfl) (by simp) ?_
              refine AllReadyH.cons rfl (fun K hK => ?_) AllReadyH.nil
              go_simp
              refine hK.out _ _ ?_ (fun hHeld => ?_)
              · exact ck5
              clear hK K
              try simp only [Act.put, List.setIfInBounds_toArray, List.set_cons_zero, List.set_cons_succ]
              refine wpAnyH_done (by kernel_rfl) ?_ _
              go_wp2
              go_ret3
              obtain ⟨l', e1, e2, e3⟩ := sl3f_set (x := rd) (sl3f_of_rows ⟨_, _, HRd.out⟩) t0
              exact ⟨_, l', _, _, rfl, e3, by rw [e2]; exact hbt, by omega, by omega, (HCd.out.grow (only_setCell (g := gj) (only_refl _ _) rfl _) (fun q hq => by cases hq; omega) (gain_setCell HCd.out.up (show W.heap.size ≤ gj by omega) _)).le (by omega), only_new HGd.out (only_setCell (g := gj) (only_refl _ _) rfl _) (fun q hq => by cases hq; omega)⟩
          · go_simp
            refine hK.out _ _ ?_ (fun hHeld => ?_)
            · exact heads_of (rows3_up HH.out (by repeat (first | with_reducible (first | exact World.gained_refl _ | exact ⟨_, rfl⟩ | apply gain_ext | apply gain_alloc | apply gain_drewN | apply gain_drew) | (refine gain_setCell ?_ (by first | exact Nat.le_refl _ | exact World.size_ext _ _ | (simp; done) | (simp; omega)) _))))
            clear hK K
            try simp only [Act.put, List.setIfInBounds_toArray, List.set_cons_zero, List.set_cons_succ]
            refine wpAnyH_ready (rs := [4]) (by kernel_rfl) (by simp) ?_
            refine AllReadyH.cons rfl (fun K hK => ?_) AllReadyH.nil
            go_simp
            go_wp2_with fail
            refine (pick_any W _ g _ _ (HC6.out.gain (by repeat (first | with_reducible (first | exact World.gained_refl _ | exact ⟨_, rfl⟩ | apply gain_ext | apply gain_alloc | apply gain_drewN | apply gain_drew) | (refine gain_setCell ?_ (by first | exact Nat.le_refl _ | exact World.size_ext _ _ | (simp; done) | (simp; omega)) _)))) (by omega)).mono ?_
            rintro e wa ⟨ra, rfl, Aa, Ba, hca, hga⟩
            obtain ⟨i, rfl⟩ : ∃ i : Nat, ra = (i : Int) := ⟨ra.toNat, by omega⟩
            have hi : i < l.length := by omega
            have HRa := Lib.hid (rows3_cur (rows3_up HH.out (by repeat (first | with_reducible (first | exact World.gained_refl _ | exact ⟨_, rfl⟩ | apply gain_ext | apply gain_alloc | apply gain_drewN | apply gain_drew) | (refine gain_setCell ?_ (by first | exact Nat.le_refl _ | exact World.size_ext _ _ | (simp; done) | (simp; omega)) _)))) hgw hga)
            have HCa := Lib.hid hca
            have HGa := Lib.hid (only_trans (only_gain HG6.out (by repeat (first | with_reducible (first | exact World.gained_refl _ | exact ⟨_, rfl⟩ | apply gain_ext | apply gain_alloc | apply gain_drewN | apply gain_drew) | (refine gain_setCell ?_ (by first | exact Nat.le_refl _ | exact World.size_ext _ _ | (simp; done) | (simp; omega)) _)))) hga)
            have hsza := only_size HGa.out
            have HLITa := Lib.hid (own_cur (own_up (own_lit' (w := w6) (e := 3) (C := #[.int .i64 0, .int .i64 0, .int .i64 1, .int .i64 (-1), .int .i64 (PL : Int)]) (l := [0, 0, 1, -1, (PL : Int)]) intC_length rfl rfl hsz6) (by repeat (first | with_reducible (first | exact World.gained_refl _ | exact ⟨_, rfl⟩ | apply gain_ext | apply gain_alloc | apply gain_drewN | apply gain_drew) | (refine gain_setCell ?_ (by first | exact Nat.le_refl _ | exact World.size_ext _ _ | (simp; done) | (simp; omega)) _)))) hgw hga)
            clear hca hga Aa Ba
            (try dsimp only)
            refine hK.out _ _ ?_ (fun hHeld => ?_)
            · exact heads_of HRa.out
            clear hK K
            try simp only [Act.put, List.setIfInBounds_toArray, List.set_cons_zero, List.set_cons_succ]
            have hiu : i < us.length := by rw [HL0.out]; exact hi
            have hiv : i < vss.length := by rw [HL1.out]; exact hi
            have HLi := Lib.hid (HAL.out i hi)
            have HRi := Lib.hid (fun (w' : World) (h : World.rows3 25 28 3 w' w.heap.size (.slice (some ⟨gl, 0, none⟩) l.length cq) us vss l) => h.row i hi hiu hiv)
            have hjv : ∀ j : Nat, j < PL → j < vss[i].length := fun j hj => by rw [(HRi.out _ HRa.out).len, HLi.out.1]; exact hj
            have HJV := Lib.hid hjv
            clear hjv
            obtain ⟨gi, ci, hgi, -, -⟩ := own_addr (HRi.out _ HRa.out).out (HJV.out 0 (by omega))
            have HGI := Lib.hid hgi
            have HLD := Lib.hid (fun (w' : World) (h : World.heads w' (.slice (some ⟨gl, 0, none⟩) l.length cq) us vss) => heads_at h hiu hgi)
            clear hgi
            refine wpAnyH_take (i := 5) (oi := ⟨_, _, _, _, _, _⟩) (v := ?_) rfl (by kernel_rfl) (by kernel_rfl) (by kernel_rfl) (fun _ _ _ h => h) (Or.inl ⟨by rfl, ?_⟩) (by assumption) ?_
            rotate_left
            · intro w hSw; (try dsimp only at hSw); go_simp; (try with_reducible rfl)
            try simp only [Act.put, List.setIfInBounds_toArray, List.set_cons_zero, List.set_cons_succ]
            refine wpAnyH_take (i := 6) (oi := ⟨_, _, _, _, _, _⟩) (v := ?_) rfl (by kernel_rfl) (by kernel_rfl) (by kernel_rfl) (fun _ _ _ h => h) (Or.inl ⟨by rfl, ?_⟩) (by assumption) ?_
            rotate_left
            · intro w hSw; (try dsimp only at hSw); have ck := HLD.out w hSw; have ob := World.oldB_of_cell ck; rw [Nat.zero_add] at ck; clear hSw; go_simp; (try with_reducible rfl)
            try simp only [Act.put, List.setIfInBounds_toArray, List.set_cons_zero, List.set_cons_succ]
            refine wpAnyH_ready (rs := [9]) (by kernel_rfl) (by simp) ?_
            refine AllReadyH.cons rfl (fun K hK => ?_) AllReadyH.nil
            go_simp
            go_wp2_with fail
            refine (pick_any W _ g _ _ (HCa.out.gain (by repeat (first | with_reducible (first | exact World.gained_refl _ | exact ⟨_, rfl⟩ | apply gain_ext | apply gain_alloc | apply gain_drewN | apply gain_drew) | (refine gain_setCell ?_ (by first | exact Nat.le_refl _ | exact World.size_ext _ _ | (simp; done) | (simp; omega)) _)))) (by omega)).mono ?_
            rintro e wb ⟨rb, rfl, Ab, Bb, hcb, hgb⟩
            obtain ⟨j, rfl⟩ : ∃ j : Nat, rb = (j : Int) := ⟨rb.toNat, by omega⟩
            have hj : j < PL := by omega
            have HRb := Lib.hid (rows3_cur (rows3_up HRa.out (by repeat (first | with_reducible (first | exact World.gained_refl _ | exact ⟨_, rfl⟩ | apply gain_ext | apply gain_alloc | apply gain_drewN | apply gain_drew) | (refine gain_setCell ?_ (by first | exact Nat.le_refl _ | exact World.size_ext _ _ | (simp; done) | (simp; omega)) _)))) hgw hgb)
            have HCb := Lib.hid hcb
            have HGb := Lib.hid (only_trans (only_gain HGa.out (by repeat (first | with_reducible (first | exact World.gained_refl _ | exact ⟨_, rfl⟩ | apply gain_ext | apply gain_alloc | apply gain_drewN | apply gain_drew) | (refine gain_setCell ?_ (by first | exact Nat.le_refl _ | exact World.size_ext _ _ | (simp; done) | (simp; omega)) _)))) hgb)
            have hszb := only_size HGb.out
            have HLITb := Lib.hid (own_cur (own_up HLITa.out (by repeat (first | with_reducible (first | exact World.gained_refl _ | exact ⟨_, rfl⟩ | apply gain_ext | apply gain_alloc | apply gain_drewN | apply gain_drew) | (refine gain_setCell ?_ (by first | exact Nat.le_refl _ | exact World.size_ext _ _ | (simp; done) | (simp; omega)) _)))) hgw hgb)
            clear hcb hgb Ab Bb
            (try dsimp only)
            refine hK.out _ _ ?_ (fun hHeld => ?_)
            · exact heads_of HRb.out
            clear hK K
            try simp only [Act.put, List.setIfInBounds_toArray, List.set_cons_zero, List.set_cons_succ]
            have hjv := HJV.out j hj
            have hjl : j < l[i].length := by rw [HLi.out.1]; exact hj
            have HLj := Lib.hid ((HLi.out.2 j hjl).1)
            have HRj := Lib.hid (fun (w' : World) (h : World.rows3 25 28 3 w' w.heap.size (.slice (some ⟨gl, 0, none⟩) l.length cq) us vss l) => (HRi.out w' h).row j hjl hjv)
            obtain ⟨gj, cj, hgj, hgjb, -⟩ := own_addr (HRj.out _ HRb.out) (by rw [HLj.out]; omega)
            have HGJ := Lib.hid hgj
            have HLD2 := Lib.hid (fun (w' : World) (h : World.heads w' (.slice (some ⟨gl, 0, none⟩) l.length cq) us vss) => heads_row h hiu hiv HGI.out hjv hgj)
            clear hgj
            refine wpAnyH_take (i := 10) (oi := ⟨_, _, _, _, _, _⟩) (v := ?_) rfl (by kernel_rfl) (by kernel_rfl) (by kernel_rfl) (fun _ _ _ h => h) (Or.inl ⟨by rfl, ?_⟩) (by assumption) ?_
            rotate_left
            · intro w hSw; (try dsimp only at hSw); go_simp; (try with_reducible rfl)
            try simp only [Act.put, List.setIfInBounds_toArray, List.set_cons_zero, List.set_cons_succ]
            refine wpAnyH_take (i := 11) (oi := ⟨_, _, _, _, _, _⟩) (v := ?_) rfl (by kernel_rfl) (by kernel_rfl) (by kernel_rfl) (fun _ _ _ h => h) (Or.inl ⟨by rfl, ?_⟩) (by assumption) ?_
            rotate_left
            · intro w hSw; (try dsimp only at hSw); have ck := HLD2.out w hSw; have ob := World.oldB_of_cell ck; rw [Nat.zero_add] at ck; clear hSw; go_simp; (try with_reducible rfl)
            try simp only [Act.put, List.setIfInBounds_toArray, List.set_cons_zero, List.set_cons_succ]
            refine wpAnyH_ready (rs := [14]) (by kernel_rfl) (by simp) ?_
            refine AllReadyH.cons rfl (fun K hK => ?_) AllReadyH.nil
            go_simp
            go_wp2_with fail
            refine (pick_any W _ g _ _ (HCb.out.gain (by repeat (first | with_reducible (first | exact World.gained_refl _ | exact ⟨_, rfl⟩ | apply gain_ext | apply gain_alloc | apply gain_drewN | apply gain_drew) | (refine gain_setCell ?_ (by first | exact Nat.le_refl _ | exact World.size_ext _ _ | (simp; done) | (simp; omega)) _)))) (by omega)).mono ?_
            rintro e wc ⟨rc, rfl, Ac, Bc, hcc, hgc⟩
            obtain ⟨k, rfl⟩ : ∃ k : Nat, rc = (k : Int) := ⟨rc.toNat, by omega⟩
            have hk : k < PF := by omega
            have HRc := Lib.hid (rows3_cur (rows3_up HRb.out (by repeat (first | with_reducible (first | exact World.gained_refl _ | exact ⟨_, rfl⟩ | apply gain_ext | apply gain_alloc | apply gain_drewN | apply gain_drew) | (refine gain_setCell ?_ (by first | exact Nat.le_refl _ | exact World.size_ext _ _ | (simp; done) | (simp; omega)) _)))) hgw hgc)
            have HCc := Lib.hid hcc
            have HGc := Lib.hid (only_trans (only_gain HGb.out (by repeat (first | with_reducible (first | exact World.gained_refl _ | exact ⟨_, rfl⟩ | apply gain_ext | apply gain_alloc | apply gain_drewN | apply gain_drew) | (refine gain_setCell ?_ (by first | exact Nat.le_refl _ | exact World.size_ext _ _ | (simp; done) | (simp; omega)) _)))) hgc)
            have hszc := only_size HGc.out
            have HLITc := Lib.hid (own_cur (own_up HLITb.out (by repeat (first | with_reducible (first | exact World.gained_refl _ | exact ⟨_, rfl⟩ | apply gain_ext | apply gain_alloc | apply gain_drewN | apply gain_drew) | (refine gain_setCell ?_ (by first | exact Nat.le_refl _ | exact World.size_ext _ _ | (simp; done) | (simp; omega)) _)))) hgw hgc)
            clear hcc hgc Ac Bc
            (try dsimp only)
            refine hK.out _ _ ?_ (fun hHeld => ?_)
            · exact heads_of HRc.out
            clear hK K
            try simp only [Act.put, List.setIfInBounds_toArray, List.set_cons_zero, List.set_cons_succ]
            have hkl : k < l[i][j].length := by rw [HLj.out]; exact hk
            refine wpAnyH_ready (rs := [18]) (by kernel_rfl) (by simp) ?_
            refine AllReadyH.cons rfl (fun K hK => ?_) AllReadyH.nil
            go_simp
            go_wp2_with fail
            refine (among_any W _ g _ _ [0, 0, 1, -1, (PL : Int)] w.heap.size (HCc.out.gain (by repeat (first | with_reducible (first | exact World.gained_refl _ | exact ⟨_, rfl⟩ | apply gain_ext | apply gain_alloc | apply gain_drewN | apply gain_drew) | (refine gain_setCell ?_ (by first | exact Nat.le_refl _ | exact World.size_ext _ _ | (simp; done) | (simp; omega)) _)))) (by omega) (own_up HLITc.out (by repeat (first | with_reducible (first | exact World.gained_refl _ | exact ⟨_, rfl⟩ | apply gain_ext | apply gain_alloc | apply gain_drewN | apply gain_drew) | (refine gain_setCell ?_ (by first | exact Nat.le_refl _ | exact World.size_ext _ _ | (simp; done) | (simp; omega)) _)))) hgw (by simp) (by simp)).mono ?_
            rintro e wd ⟨rd, rfl, _, hcd, hgd⟩
            have HRd := Lib.hid (rows3_cur (rows3_up HRc.out (by repeat (first | with_reducible (first | exact World.gained_refl _ | exact ⟨_, rfl⟩ | apply gain_ext | apply gain_alloc | apply gain_drewN | apply gain_drew) | (refine gain_setCell ?_ (by first | exact Nat.le_refl _ | exact World.size_ext _ _ | (simp; done) | (simp; omega)) _)))) hgw hgd)
            have HCd := Lib.hid hcd
            have HGd := Lib.hid (only_trans (only_gain HGc.out (by repeat (first | with_reducible (first | exact World.gained_refl _ | exact ⟨_, rfl⟩ | apply gain_ext | apply gain_alloc | apply gain_drewN | apply gain_drew) | (refine gain_setCell ?_ (by first | exact Nat.le_refl _ | exact World.size_ext _ _ | (simp; done) | (simp; omega)) _)))) hgd)
            clear hcd hgd
            (try dsimp only)
            refine hK.out _ _ ?_ (fun hHeld => ?_)
            · exact heads_of HRd.out
            clear hK K
            try simp only [Act.put, List.setIfInBounds_toArray, List.set_cons_zero, List.set_cons_succ]
            obtain ⟨t0, z0⟩ := own_at (HGJ.out ▸ HRj.out _ HRd.out) (k := k) hkl
            have obr := World.oldB_of_cell t0
            have ck5 : (wd.setCell ⟨gj, k, none⟩ (.int .i64 rd)).heads (.slice (some ⟨gl, 0, none⟩) l.length cq) us vss := heads_set HRd.out t0
            refine wpAnyH_take (i := 19) (oi := ⟨_, _, _, _, _, _⟩) (v := ?_) rfl (by kernel_rfl) (by kernel_rfl) (by kernel_rfl) (fun _ _ _ h => h) (Or.inl ⟨by rfl, ?_⟩) (by assumption) ?_
            rotate_left
            · intro w hSw; (try dsimp only at hSw); go_simp; (try with_reducible rfl)
            try simp only [Act.put, List.setIfInBounds_toArray, List.set_cons_zero, List.set_cons_succ]
            refine wpAnyH_ready (rs := [20]) (by kernel_rfl) (by simp) ?_
            refine AllReadyH.cons rfl (fun K hK => ?_) AllReadyH.nil
            go_simp
            refine hK.out _ _ ?_ (fun hHeld => ?_)
            · exact ck5
            clear hK K
            try simp only [Act.put, List.setIfInBounds_toArray, List.set_cons_zero, List.set_cons_succ]
            refine wpAnyH_done (by kernel_rfl) ?_ _
            go_wp2
            go_ret3
            obtain ⟨l', e1, e2, e3⟩ := sl3f_set (x := rd) (sl3f_of_rows ⟨_, _, HRd.out⟩) t0
            exact ⟨_, l', _, _, rfl, e3, by rw [e2]; exact hbt, by omega, by omega, (HCd.out.grow (only_setCell (g := gj) (only_refl _ _) rfl _) (fun q hq => by cases hq; omega) (gain_setCell HCd.out.up (show W.heap.size ≤ gj by omega) _)).le (by omega), only_new HGd.out (only_setCell (g := gj) (only_refl _ _) rfl _) (fun q hq => by cases hq; omega)⟩
        · have hfk : decide (0 < r2) = false := decide_eq_false hf0
          go_wp2
          go_ret3
          exact ⟨_, l, _, _, rfl, sl3f_of_rows HR6.out, hbt, by omega, by omega, HC6.out.le (by omega), HG6.out⟩
      | false =>
        cases h1 : r6 == 1 with
        | true =>
          go_wp2_with fail
          refine (among_any W _ g _ _ [0, 1, 2, 5] w.heap.size (HC6.out.gain (by repeat (first | with_reducible (first | exact World.gained_refl _ | exact ⟨_, rfl⟩ | apply gain_ext | apply gain_alloc | apply gain_drewN | apply gain_drew) | (refine gain_setCell ?_ (by first | exact Nat.le_refl _ | exact World.size_ext _ _ | (simp; done) | (simp; omega)) _)))) (by omega) (own_lit' (l := [0, 1, 2, 5]) intC_length rfl rfl hsz6) hgw (by simp) (by simp)).mono ?_
          rintro e w7 ⟨r7, rfl, hm7, hc7, hg7⟩
          have h75 : r7 ≤ 5 := by simp at hm7; omega
          clear hm7
          go_wp2
          go_ret3
          exact ⟨_, l, _, _, rfl, sl3f_of_rows (rows3p_cur (rows3p_up HR6.out (by repeat (first | with_reducible (first | exact World.gained_refl _ | exact ⟨_, rfl⟩ | apply gain_ext | apply gain_alloc | apply gain_drewN | apply gain_drew) | (refine gain_setCell ?_ (by first | exact Nat.le_refl _ | exact World.size_ext _ _ | (simp; done) | (simp; omega)) _)))) hgw hg7), hbt, h75, by omega, hc7.le (by omega), only_trans (only_gain HG6.out (by repeat (first | with_reducible (first | exact World.gained_refl _ | exact ⟨_, rfl⟩ | apply gain_ext | apply gain_alloc | apply gain_drewN | apply gain_drew) | (refine gain_setCell ?_ (by first | exact Nat.le_refl _ | exact World.size_ext _ _ | (simp; done) | (simp; omega)) _)))) hg7⟩
        | false =>
          cases h2 : r6 == 2 with
          | true =>
            go_wp2_with fail
            refine (among_any W _ g _ _ [-1, 0, 1, 5] w.heap.size (HC6.out.gain (by repeat (first | with_reducible (first | exact World.gained_refl _ | exact ⟨_, rfl⟩ | apply gain_ext | apply gain_alloc | apply gain_drewN | apply gain_drew) | (refine gain_setCell ?_ (by first | exact Nat.le_refl _ | exact World.size_ext _ _ | (simp; done) | (simp; omega)) _)))) (by omega) (own_lit' (l := [-1, 0, 1, 5]) intC_length rfl rfl hsz6) hgw (by simp) (by simp)).mono ?_
            rintro e w7 ⟨r7, rfl, hm7, hc7, hg7⟩
            have h75 : r7 ≤ 5 := by simp at hm7; omega
            clear hm7
            go_wp2
            go_ret3
            exact ⟨_, l, _, _, rfl, sl3f_of_rows (rows3p_cur (rows3p_up HR6.out (by repeat (first | with_reducible (first | exact World.gained_refl _ | exact ⟨_, rfl⟩ | apply gain_ext | apply gain_alloc | apply gain_drewN | apply gain_drew) | (refine gain_setCell ?_ (by first | exact Nat.le_refl _ | exact World.size_ext _ _ | (simp; done) | (simp; omega)) _)))) hgw hg7), hbt, by omega, h75, hc7.le (by omega), only_trans (only_gain HG6.out (by repeat (first | with_reducible (first | exact World.gained_refl _ | exact ⟨_, rfl⟩ | apply gain_ext | apply gain_alloc | apply gain_drewN | apply gain_drew) | (refine gain_setCell ?_ (by first | exact Nat.le_refl _ | exact World.size_ext _ _ | (simp; done) | (simp; omega)) _)))) hg7⟩
          | false =>
            cases h3 : r6 == 3 with
            | true =>
              go_wp2_with fail
              refine (one_any W _ g _ _ HC6.out (by omega)).mono ?_
              rintro e w7 ⟨r7, rfl, hc7, hg7⟩
              have HR7 := Lib.hid (rows3p_cur HR6.out hgw hg7)
              have HG7 := Lib.hid (only_trans HG6.out hg7)
              have HC7 := Lib.hid hc7
              have HUP7 := Lib.hid hc7.up
              have hsz7 := only_size HG7.out
              clear hc7 hg7
              cases r7 with
              | false =>
                go_wp2
                go_ret3
                exact ⟨_, l, _, _, rfl, sl3f_of_rows HR7.out, hbt, by omega, by omega, HC7.out.le (by omega), HG7.out⟩
              | true =>
                obtain ⟨us7, vss7, h7⟩ := HR7.out
                have hul := h7.len
                have H7 := Lib.hid h7
                have HTS := Lib.hid (tot3_snoc l)
                have hu2 : us7.length + 1 ≤ 2097152 := by omega
                clear h7 HR7 hul
                go_wp2_with (at_builtin; go_must (refine wpList_append_val (W := W) (base := w.heap.size) (x := .slice (some ⟨w7.heap.size, 0, none⟩) 0 0) rfl (.tmp 91) (.tmp 93) rfl Try.underlying24 info_slc2 (by rfl) (by omega) (gain_trans HUP7.out (by repeat (first | with_reducible (first | exact World.gained_refl _ | exact ⟨_, rfl⟩ | apply gain_ext | apply gain_alloc | apply gain_drewN | apply gain_drew) | (refine gain_setCell ?_ (by first | exact Nat.le_refl _ | exact World.size_ext _ _ | (simp; done) | (simp; omega)) _)))) hWw (Nat.le_trans hsz7 (gain_size (by repeat (first | with_reducible (first | exact World.gained_refl _ | exact ⟨_, rfl⟩ | apply gain_ext | apply gain_alloc | apply gain_drewN | apply gain_drew) | (refine gain_setCell ?_ (by first | exact Nat.le_refl _ | exact World.size_ext _ _ | (simp; done) | (simp; omega)) _))))) rfl rfl rfl (own_up (H7.out.out) (by repeat (first | with_reducible (first | exact World.gained_refl _ | exact ⟨_, rfl⟩ | apply gain_ext | apply gain_alloc | apply gain_drewN | apply gain_drew) | (refine gain_setCell ?_ (by first | exact Nat.le_refl _ | exact World.size_ext _ _ | (simp; done) | (simp; omega)) _)))) (cell_lit (by first | rfl | simp [World.size_alloc])) hu2 ?_); intro v' d' ho hg)
                go_ret3
                exact ⟨_, l ++ [[]], _, _, rfl, sl3f_of_rows ⟨_, _, rows3_snoc (rows3_up H7.out (by repeat (first | with_reducible (first | exact World.gained_refl _ | exact ⟨_, rfl⟩ | apply gain_ext | apply gain_alloc | apply gain_drewN | apply gain_drew) | (refine gain_setCell ?_ (by first | exact Nat.le_refl _ | exact World.size_ext _ _ | (simp; done) | (simp; omega)) _)))) (rows2_nil (own_up (own_lit' (w := w7) (C := #[]) (l := ([] : List Value)) valC_length rfl rfl hsz7) (by repeat (first | with_reducible (first | exact World.gained_refl _ | exact ⟨_, rfl⟩ | apply gain_ext | apply gain_alloc | apply gain_drewN | apply gain_drew) | (refine gain_setCell ?_ (by first | exact Nat.le_refl _ | exact World.size_ext _ _ | (simp; done) | (simp; omega)) _))))) (by decide) (by decide) ho hg (by simp) (by simp)⟩, by rw [HTS.out]; have := HTT.out; omega, by omega, by omega, ((HC7.out.gain (by repeat (first | with_reducible (first | exact World.gained_refl _ | exact ⟨_, rfl⟩ | apply gain_ext | apply gain_alloc | apply gain_drewN | apply gain_drew) | (refine gain_setCell ?_ (by first | exact Nat.le_refl _ | exact World.size_ext _ _ | (simp; done) | (simp; omega)) _)))).grow hg (own_newer H7.out.out hgw) ⟨_, rfl⟩).le (by omega), only_new (only_gain HG7.out (by repeat (first | with_reducible (first | exact World.gained_refl _ | exact ⟨_, rfl⟩ | apply gain_ext | apply gain_alloc | apply gain_drewN | apply gain_drew) | (refine gain_setCell ?_ (by first | exact Nat.le_refl _ | exact World.size_ext _ _ | (simp; done) | (simp; omega)) _)))) hg (fun q hq => (own_lt H7.out.out q hq).1)⟩
            | false =>
              go_wp2
              go_ret3
              exact ⟨_, l, _, _, rfl, sl3f_of_rows HR6.out, hbt, by omega, by omega, HC6.out.le (by omega), HG6.out⟩
end Go.Proofs.Ytlofdpbdnkcnkaa
