/- impl.BestOrder's closure, whole. Conditions: codes that stand for controls which can all be reached from one another, at most seven. -/
import Derived.Test.YtmcimgnobimicaaGreatG35
namespace Go.Proofs.YtmcimgnobimicaaGreat
open Go.RowKit Go.Ori Go.Maps
set_option maxHeartbeats 16000000 in
set_option maxRecDepth 20000 in
theorem visit_any (T : Int → Int → Int) (Q : Int → Int → Prop) (all middle : List Int) (fin : Int) (D : DataW Unit) (hT : TOk T Q all D) (A : VAt) (pc : Option Addr) (cc ln : Nat) (hcv : A.cv = .slice pc ln cc) (hln : ln ≤ 7) (hmid : middle.length ≤ 7)
    (hfv : A.fv = .func (.func 26) #[] #[.pointer (some ⟨A.gm, 0, none⟩), .pointer (some ⟨A.gv, 0, none⟩), .pointer (some ⟨A.gt, 0, none⟩), .pointer (some ⟨A.gc, 0, none⟩), .pointer (some ⟨A.gl, 0, none⟩), .pointer (some ⟨A.gs, 0, none⟩), .pointer (some ⟨A.gb, 0, none⟩)])
    (hfin : fin ∈ all) (hmi : ∀ x ∈ middle, x ∈ all) (hnd : middle.Nodup) :
    ∀ (n : Nat) (order : List Int) (ov : Value) (sum : Int) (st : List Int × Int) (best : Value) (w : World) (hV : VSt A middle fin D w best st) (ho : w.own A.lo 3 intC 1 ov order) (h0 : 0 < order.length) (hin : ∀ x ∈ order, x ∈ all)
    (hn : (restO middle order).length = n) (hk : order.length + n + 1 = ln) (hs : 0 ≤ sum ∧ sum ≤ 1000 * (order.length : Int)),
    Calls Tryz.prog 26 #[ov, .int .i64 sum, .pointer (some ⟨A.gm, 0, none⟩), .pointer (some ⟨A.gv, 0, none⟩), .pointer (some ⟨A.gt, 0, none⟩), .pointer (some ⟨A.gc, 0, none⟩), .pointer (some ⟨A.gl, 0, none⟩), .pointer (some ⟨A.gs, 0, none⟩), .pointer (some ⟨A.gb, 0, none⟩)] w fun x w' =>
      x = .returned (.tuple #[]) ∧ w.kept2 w' A.gs A.gb ∧ ∃ best', VSt A middle fin D w' best' (visS T fin middle n order sum st)
  | 0, order, ov, sum, st, best, w, hV, ho, h0, hin, hn, hk, hs => by
    have hall : ∀ x ∈ middle, x ∈ order := fun x hx => by
      have e := List.length_eq_zero_iff.1 hn
      unfold restO at e
      rw [List.filter_eq_nil_iff] at e
      have := e x hx
      simpa using this
    exact visit0_any T Q all middle fin D hT A pc cc ln hcv hln hmid order ov sum st best w hV ho h0 hin hfin hall (by omega) (by omega)
  | n + 1, order, ov, sum, st, best, w, hV, ho, h0, hin, hn, hk, hs => by
    have IH := Lib.hid (visit_any T Q all middle fin D hT A pc cc ln hcv hln hmid hfv hfin hmi hnd n)
    have HO := Lib.hid ho
    have HTO := Lib.hid hT
    have HIN := Lib.hid hin
    have HMI := Lib.hid hmi
    have hlm : lastI order ∈ order := by rw [← lastI_get h0]; exact List.getElem_mem _
    have hR : (restO middle order).Nodup := hnd.filter _
    have HRN := Lib.hid (fun (q : Nat) (hq : q < middle.length) (hx : order.contains middle[q] = false) => (show (restO middle (order ++ [middle[q]])).length = n from by
      rw [rest_snoc]
      have hm : middle[q] ∈ restO middle order := by
        unfold restO
        rw [List.mem_filter]
        exact ⟨List.getElem_mem hq, by simpa using hx⟩
      obtain ⟨j, hj, e⟩ := List.getElem_of_mem hm
      rw [← e, filter_ne_erase hR hj, List.length_eraseIdx, if_pos hj, hn]
      rfl))
    have HVI := Lib.hid (fun (q : Nat) (hq : q < middle.length) (hx : order.contains middle[q] = true) => visK_in T fin n sum st hq hx)
    have HVO := Lib.hid (fun (q : Nat) (hq : q < middle.length) (hx : order.contains middle[q] = false) => visK_out T fin n sum st hq hx)
    have HVF := Lib.hid (visK_full T fin middle n order sum st)
    obtain ⟨go, ko, rfl, _, _⟩ := own_addr ho h0
    have hlo := own_lt ho go rfl
    have y0 := sl_int (sl_of_own intC_length ho) (k := order.length - 1) (by omega)
    rw [lastI_get h0, Nat.zero_add] at y0
    have oby := World.oldB_of_cell y0
    have hwo : IntKind.i64.wrap ((order.length : Int) - 1) = (order.length : Int) - 1 := IntWalk.i64_in _ (by omega)
    have hwn : ((order.length : Int) - 1).toNat = order.length - 1 := by omega
    have hq0 : (0 : Int) ≤ (order.length : Int) - 1 := by omega
    have hq1 : (order.length : Int) - 1 < (order.length : Int) := by omega
    have x_m : w.cell? ⟨A.gm, 0, none⟩ = some A.mv := World.cell_of_heap hV.mid 0
    have o_m := World.oldB_of_cell x_m
    have hgn : go ≠ A.gs ∧ go ≠ A.gb := by have := hV.n3; omega
    have HVK0 := Lib.hid (show VSt A middle fin D w best (visK T fin middle n order sum st 0) by rw [visK_zero]; exact hV)
    have hmids := hV.mids
    obtain ⟨pm, km, hmv, _⟩ := sl_of_own intC_length hmids
    have HMV := Lib.hid hmv
    rw [hmv] at x_m
    clear hR hV ho hT hmids hmv hin hmi hn
    go_enter Tryz.func26, Tryz.ntmps26
    go_wp2_with fail
    go_loopw [22] (fun i_ wr => ∃ (q : Nat) (best' : Value), q ≤ middle.length ∧ i_ = .int .i64 q ∧ VSt A middle fin D wr best' (visK T fin middle n order sum st q) ∧ w.kept2 wr A.gs A.gb) (fun i_ _ => middle.length - (intOf i_).toNat)
    case atStart => exact ⟨0, best, by omega, rfl, HVK0.out, kept2_refl _ _ _⟩
    case round =>
      clear HVK0 x_m o_m y0 oby
      obtain ⟨q, best', hq, rfl, hvq, hkq⟩ := hrel
      have HV := Lib.hid hvq
      have HK := Lib.hid hkq
      have HOX := Lib.hid (own_kept2 HO.out hkq (fun b e => by cases e; exact hgn))
      have hmids := hvq.mids
      rw [HMV.out] at hmids
      have HMS := Lib.hid hmids
      clear hvq hkq hmids
      by_cases hlt : q < middle.length
      · obtain ⟨bm, om, rfl⟩ := sl_some (sl_of_own intC_length HMS.out) (by omega)
        have c0 := sl_int (sl_of_own intC_length HMS.out) hlt
        have hca := HMI.out _ (List.getElem_mem hlt)
        have HCN := Lib.hid (fun W hW => contains_ints (.slice (some ⟨go, 0, none⟩) order.length ko) order middle[q] W hW (by omega))
        have HB : Hid (hasB order middle[q] = order.contains middle[q]) := Lib.hid (by rw [Bool.eq_iff_iff, hasB_iff]; simp)
        have H1 := Lib.hid (HVI.out q hlt)
        have H2 := Lib.hid (HVO.out q hlt)
        have H3 := Lib.hid (HRN.out q hlt)
        rw [HB.out] at HCN
        generalize middle[q] = c at c0 HCN H1 H2 H3 hca
        have obc := World.oldB_of_cell c0
        clear HB
        cases hB : order.contains c with
        | true =>
          have HE := Lib.hid (H1.out hB)
          rw [hB] at HCN
          clear H1 H2 H3 hB
          go_wp2_with (go_at_call 27; refine (HCN.out _ (by with_reducible (repeat (first | exact sl_of_own intC_length HOX.out | refine World.sl_ext intC_length ?_ _ | refine sl_alloc intC_length ?_ _ | refine sl_drew ?_)))).mono ?_; rintro e w1 ⟨rfl, d1, rfl⟩)
          go_roundw
          case rel => exact ⟨q + 1, best', by omega, by go_num, by rw [HE.out]; exact HV.out.up ⟨_, rfl⟩, kept2_trans HK.out (kept2_ext ⟨_, rfl⟩)⟩
          case measure => simp [intOf]; omega
        | false =>
          have HE := Lib.hid (H2.out hB)
          have HRL := Lib.hid (H3.out hB)
          rw [hB] at HCN
          clear H1 H2 H3 hB
          go_upto_region 5 with (go_at_call 27; refine (HCN.out _ (by with_reducible (repeat (first | exact sl_of_own intC_length HOX.out | refine World.sl_ext intC_length ?_ _ | refine sl_alloc intC_length ?_ _ | refine sl_drew ?_)))).mono ?_; rintro e w1 ⟨rfl, d1, rfl⟩)
          have HVX := Lib.hid (HV.out.up (wr' := wr.ext d1) ⟨_, rfl⟩)
          have HOY := Lib.hid (own_up (w' := wr.ext d1) HOX.out ⟨_, rfl⟩)
          have HKX := Lib.hid (kept2_trans HK.out (kept2_ext (w := wr) (w' := wr.ext d1) (a := A.gs) (b := A.gb) ⟨d1, rfl⟩))
          have hatk := HTO.out.at (HIN.out _ hlm) hca
          have hkey := key_pair (HTO.out.wf _ (HIN.out _ hlm)) (HTO.out.wf _ hca)
          have hTl := HTO.out.le _ (HIN.out _ hlm) _ hca
          have hTp := HTO.out.pos (lastI order) c
          have hwa : IntKind.i64.wrap (sum + T (lastI order) c) = sum + T (lastI order) c := IntWalk.i64_in _ (by omega)
          clear HCN HV HK HOX HMS c0 obc
          generalize wr.ext d1 = X at HVX HOY HKX ⊢
          refine wp_region_held_drew (S := fun w' => ∃ b s, VSt A middle fin D w' b s) (by kernel_rfl) ⟨_, _, HVX.out.up (by repeat (first | with_reducible (first | exact World.gained_refl _ | exact ⟨_, rfl⟩ | apply gain_ext | apply gain_alloc | apply gain_drewN | apply gain_drew) | (refine gain_setCell ?_ (by first | exact Nat.le_refl _ | exact World.size_ext _ _ | (simp; done) | (simp; omega)) _)))⟩ (fun hHeld => ?_)
          refine wpAnyH_take (i := 0) (oi := ⟨_, _, _, _, _, _⟩) (v := .func (.func 26) #[] #[.pointer (some ⟨A.gm, 0, none⟩), .pointer (some ⟨A.gv, 0, none⟩), .pointer (some ⟨A.gt, 0, none⟩), .pointer (some ⟨A.gc, 0, none⟩), .pointer (some ⟨A.gl, 0, none⟩), .pointer (some ⟨A.gs, 0, none⟩), .pointer (some ⟨A.gb, 0, none⟩)]) rfl (by kernel_rfl) (by kernel_rfl) (by kernel_rfl) (fun _ _ _ h => h) (Or.inl ⟨by rfl, ?_⟩) (by assumption) ?_
          · intro w hSw
            (try dsimp only at hSw)
            obtain ⟨bS, sS, hS⟩ := hSw
            have x0 : w.cell? ⟨A.gv, 0, none⟩ = some (.func (.func 26) #[] #[.pointer (some ⟨A.gm, 0, none⟩), .pointer (some ⟨A.gv, 0, none⟩), .pointer (some ⟨A.gt, 0, none⟩), .pointer (some ⟨A.gc, 0, none⟩), .pointer (some ⟨A.gl, 0, none⟩), .pointer (some ⟨A.gs, 0, none⟩), .pointer (some ⟨A.gb, 0, none⟩)]) := by
              rw [← hfv]
              exact World.cell_of_heap hS.vis 0
            clear hS
            go_simp
            (try with_reducible rfl)
          try simp only [Act.put, List.setIfInBounds_toArray, List.set_cons_zero, List.set_cons_succ]
          refine wpAnyH_take (i := 1) (oi := ⟨_, _, _, _, _, _⟩) (v := ?_) rfl (by kernel_rfl) (by kernel_rfl) (by kernel_rfl) (fun _ _ _ h => h) (Or.inl ⟨by rfl, ?_⟩) (by assumption) ?_
          rotate_left
          · intro w hSw; (try dsimp only at hSw); go_simp; (try with_reducible rfl)
          try simp only [Act.put, List.setIfInBounds_toArray, List.set_cons_zero, List.set_cons_succ]
          refine wpAnyH_take (i := 3) (oi := ⟨_, _, _, _, _, _⟩) (v := ?_) rfl (by kernel_rfl) (by kernel_rfl) (by kernel_rfl) (fun _ _ _ h => h) (Or.inl ⟨by rfl, ?_⟩) (by assumption) ?_
          rotate_left
          · intro w hSw; (try dsimp only at hSw); go_simp; (try with_reducible rfl)
          try simp only [Act.put, List.setIfInBounds_toArray, List.set_cons_zero, List.set_cons_succ]
          refine wpAnyH_take (i := 6) (oi := ⟨_, _, _, _, _, _⟩) (v := ?_) rfl (by kernel_rfl) (by kernel_rfl) (by kernel_rfl) (fun _ _ _ h => h) (Or.inl ⟨by rfl, ?_⟩) (by assumption) ?_
          rotate_left
          · intro w hSw; (try dsimp only at hSw); go_simp; (try with_reducible rfl)
          try simp only [Act.put, List.setIfInBounds_toArray, List.set_cons_zero, List.set_cons_succ]
          refine wpAnyH_take (i := 7) (oi := ⟨_, _, _, _, _, _⟩) (v := .map (some A.bM)) rfl (by kernel_rfl) (by kernel_rfl) (by kernel_rfl) (fun _ _ _ h => h) (Or.inl ⟨by rfl, ?_⟩) (by assumption) ?_
          · intro w hSw
            (try dsimp only at hSw)
            obtain ⟨bS, sS, hS⟩ := hSw
            have x0 : w.cell? ⟨A.gt, 0, none⟩ = some (.map (some A.bM)) := World.cell_of_heap hS.tim 0
            clear hS
            go_simp
            (try with_reducible rfl)
          try simp only [Act.put, List.setIfInBounds_toArray, List.set_cons_zero, List.set_cons_succ]
          refine wpAnyH_take (i := 8) (oi := ⟨_, _, _, _, _, _⟩) (v := ?_) rfl (by kernel_rfl) (by kernel_rfl) (by kernel_rfl) (fun _ _ _ h => h) (Or.inl ⟨by rfl, ?_⟩) (by assumption) ?_
          rotate_left
          · intro w hSw; (try dsimp only at hSw); go_simp; (try with_reducible rfl)
          try simp only [Act.put, List.setIfInBounds_toArray, List.set_cons_zero, List.set_cons_succ]
          refine wpAnyH_take (i := 9) (oi := ⟨_, _, _, _, _, _⟩) (v := ?_) rfl (by kernel_rfl) (by kernel_rfl) (by kernel_rfl) (fun _ _ _ h => h) (Or.inl ⟨by rfl, ?_⟩) (by assumption) ?_
          rotate_left
          · intro w hSw; (try dsimp only at hSw); go_simp; (try with_reducible rfl)
          try simp only [Act.put, List.setIfInBounds_toArray, List.set_cons_zero, List.set_cons_succ]
          refine wpAnyH_take (i := 10) (oi := ⟨_, _, _, _, _, _⟩) (v := ?_) rfl (by kernel_rfl) (by kernel_rfl) (by kernel_rfl) (fun _ _ _ h => h) (Or.inl ⟨by rfl, ?_⟩) (by assumption) ?_
          rotate_left
          · intro w hSw; (try dsimp only at hSw); go_simp; (try with_reducible rfl)
          try simp only [Act.put, List.setIfInBounds_toArray, List.set_cons_zero, List.set_cons_succ]
          refine wpAnyH_take (i := 11) (oi := ⟨_, _, _, _, _, _⟩) (v := .int .i64 (T (lastI order) c)) rfl (by kernel_rfl) (by kernel_rfl) (by kernel_rfl) (fun _ _ _ h => h) (Or.inl ⟨by rfl, ?_⟩) (by assumption) ?_
          · intro w hSw
            (try dsimp only at hSw)
            obtain ⟨bS, sS, hS⟩ := hSw
            obtain ⟨cc, hrun, hat, hwc⟩ := hS.map.lookup_int law_pair Tryz.underlying48 Tryz.underlying3 (zero_intP _) hkey
            obtain rfl : cc = T (lastI order) c := by (rw [hatk] at hat; injection hat with hat; injection hat with _ hat; exact hat.symm)
            clear hS
            go_simp
            (try with_reducible rfl)
          try simp only [Act.put, List.setIfInBounds_toArray, List.set_cons_zero, List.set_cons_succ]
          refine wpAnyH_take (i := 12) (oi := ⟨_, _, _, _, _, _⟩) (v := ?_) rfl (by kernel_rfl) (by kernel_rfl) (by kernel_rfl) (fun _ _ _ h => h) (Or.inl ⟨by rfl, ?_⟩) (by assumption) ?_
          rotate_left
          · intro w hSw; (try dsimp only at hSw); go_simp; (try with_reducible rfl)
          try simp only [Act.put, List.setIfInBounds_toArray, List.set_cons_zero, List.set_cons_succ]
          refine wpAnyH_ready (rs := [2, 4]) (by kernel_rfl) (by simp) ?_
          refine AllReadyH.cons rfl (fun K hK => ?_) (AllReadyH.cons rfl (fun K hK => ?_) (AllReadyH.nil))
          · go_simp
            go_wp2_with (go_at_call 22; refine (copyInts_any _ order _ (by with_reducible (repeat (first | exact sl_of_own intC_length HOY.out | refine World.sl_ext intC_length ?_ _ | refine sl_alloc intC_length ?_ _ | refine sl_drew ?_))) (by omega)).mono ?_; rintro e w1 ⟨v1, rfl, ⟨d2, rfl⟩, ho1⟩; have HO1 := Lib.hid ho1; clear ho1)
            (try dsimp only)
            refine hK.out _ _ ?_ (fun hHeld => ?_)
            · exact ⟨_, _, HVX.out.up (by repeat (first | with_reducible (first | exact World.gained_refl _ | exact ⟨_, rfl⟩ | apply gain_ext | apply gain_alloc | apply gain_drewN | apply gain_drew) | (refine gain_setCell ?_ (by first | exact Nat.le_refl _ | exact World.size_ext _ _ | (simp; done) | (simp; omega)) _)))⟩
            clear hK K
            try simp only [Act.put, List.setIfInBounds_toArray, List.set_cons_zero, List.set_cons_succ]
            refine wpAnyH_ready (rs := [4]) (by kernel_rfl) (by simp) ?_
            refine AllReadyH.cons rfl (fun K hK => ?_) (AllReadyH.nil)
            go_simp
            have HU := Lib.hid (sl_lit (w := X.drew.ext d2) (e := 3) (l := [c]) (C := #[.int .i64 c]) (g := (X.drew.ext d2).heap.size) intC_length rfl rfl)
            (try dsimp only)
            refine hK.out _ _ ?_ (fun hHeld => ?_)
            · exact ⟨_, _, HVX.out.up (by repeat (first | with_reducible (first | exact World.gained_refl _ | exact ⟨_, rfl⟩ | apply gain_ext | apply gain_alloc | apply gain_drewN | apply gain_drew) | (refine gain_setCell ?_ (by first | exact Nat.le_refl _ | exact World.size_ext _ _ | (simp; done) | (simp; omega)) _)))⟩
            clear hK K
            try simp only [Act.put, List.setIfInBounds_toArray, List.set_cons_zero, List.set_cons_succ]
            refine wpAnyH_ready (rs := [5]) (by kernel_rfl) (by simp) ?_
            refine AllReadyH.cons rfl (fun K hK => ?_) (AllReadyH.nil)
            refine step_append_gain (W := X) (w := (X.drew.ext d2).alloc (.cells #[.int .i64 c] 3)) (base := X.heap.size) (v := v1) (m := [c]) (u := .slice (some ⟨(X.drew.ext d2).heap.size, 0, none⟩) 1 1) rfl (.tmp 32) (.tmp 34) rfl Tryz.underlying24 info_int (by rfl) (by omega) intC_length intC_one (by omega) (by repeat (first | with_reducible (first | exact World.gained_refl _ | exact ⟨_, rfl⟩ | apply gain_ext | apply gain_alloc | apply gain_drewN | apply gain_drew) | (refine gain_setCell ?_ (by first | exact Nat.le_refl _ | exact World.size_ext _ _ | (simp; done) | (simp; omega)) _))) (Nat.le_refl _) (gain_size (by repeat (first | with_reducible (first | exact World.gained_refl _ | exact ⟨_, rfl⟩ | apply gain_ext | apply gain_alloc | apply gain_drewN | apply gain_drew) | (refine gain_setCell ?_ (by first | exact Nat.le_refl _ | exact World.size_ext _ _ | (simp; done) | (simp; omega)) _)))) (by first | rfl | (simp; done)) (by first | rfl | (simp; done)) (own_up HO1.out (by repeat (first | with_reducible (first | exact World.gained_refl _ | exact ⟨_, rfl⟩ | apply gain_ext | apply gain_alloc | apply gain_drewN | apply gain_drew) | (refine gain_setCell ?_ (by first | exact Nat.le_refl _ | exact World.size_ext _ _ | (simp; done) | (simp; omega)) _)))) HU.out (by simp; omega) ?_
            intro v2 d3 ho2 hg2
            clear hg2 HU HO1
            have HV3 := Lib.hid (HVX.out.up (wr' := X.ext d3) ⟨_, rfl⟩)
            have HO2 := Lib.hid (own_base ho2 HVX.out.n4)
            clear ho2
            (try dsimp only)
            refine hK.out _ _ ?_ (fun hHeld => ?_)
            · exact ⟨_, _, HVX.out.up (by repeat (first | with_reducible (first | exact World.gained_refl _ | exact ⟨_, rfl⟩ | apply gain_ext | apply gain_alloc | apply gain_drewN | apply gain_drew) | (refine gain_setCell ?_ (by first | exact Nat.le_refl _ | exact World.size_ext _ _ | (simp; done) | (simp; omega)) _)))⟩
            clear hK K
            try simp only [Act.put, List.setIfInBounds_toArray, List.set_cons_zero, List.set_cons_succ]
            refine wpAnyH_ready (rs := [13]) (by kernel_rfl) (by simp) ?_
            refine AllReadyH.cons rfl (fun K hK => ?_) (AllReadyH.nil)
            go_simp
            go_wp2_with fail
            refine (IH.out (order ++ [c]) v2 (sum + T (lastI order) c) _ _ _ HV3.out HO2.out (by simp) (fun x hx => by
              rcases List.mem_append.1 hx with hx | hx
              · exact HIN.out x hx
              · rw [List.mem_singleton.1 hx]; exact hca) HRL.out (by simp only [List.length_append, List.length_singleton]; omega) (by simp only [List.length_append, List.length_singleton]; omega)).mono ?_
            rintro e w1 ⟨rfl, hk4, best2, hv4⟩
            have HV4 := Lib.hid hv4
            have HK4 := Lib.hid hk4
            clear hv4 hk4 HV3 HO2
            (try dsimp only)
            refine hK.out _ _ ?_ (fun hHeld => ?_)
            · exact ⟨_, _, HV4.out⟩
            clear hK K
            try simp only [Act.put, List.setIfInBounds_toArray, List.set_cons_zero, List.set_cons_succ]
            refine wpAnyH_done (by kernel_rfl) ?_ _
            go_wp2_with fail
            go_roundw
            case rel => exact ⟨q + 1, best2, by omega, by go_num, by rw [HE.out]; exact HV4.out, kept2_trans HKX.out (kept2_trans (kept2_ext ⟨_, rfl⟩) HK4.out)⟩
            case measure => simp [intOf]; omega
          · go_simp
            have HU := Lib.hid (sl_lit (w := X) (e := 3) (l := [c]) (C := #[.int .i64 c]) (g := X.heap.size) intC_length rfl rfl)
            have hsA : X.heap.size ≤ ((X.alloc (.cells #[.int .i64 c] 3)).drew).heap.size := by
              show _ ≤ (X.alloc (.cells #[.int .i64 c] 3)).heap.size
              rw [World.size_alloc]
              exact Nat.le_succ _
            (try dsimp only)
            refine hK.out _ _ ?_ (fun hHeld => ?_)
            · exact ⟨_, _, HVX.out.up (by repeat (first | with_reducible (first | exact World.gained_refl _ | exact ⟨_, rfl⟩ | apply gain_ext | apply gain_alloc | apply gain_drewN | apply gain_drew) | (refine gain_setCell ?_ (by first | exact Nat.le_refl _ | exact World.size_ext _ _ | (simp; done) | (simp; omega)) _)))⟩
            clear hK K
            try simp only [Act.put, List.setIfInBounds_toArray, List.set_cons_zero, List.set_cons_succ]
            refine wpAnyH_ready (rs := [2]) (by kernel_rfl) (by simp) ?_
            refine AllReadyH.cons rfl (fun K hK => ?_) (AllReadyH.nil)
            go_simp
            go_wp2_with (go_at_call 22; refine (copyInts_any _ order _ (by with_reducible (repeat (first | exact sl_of_own intC_length HOY.out | refine World.sl_ext intC_length ?_ _ | refine sl_alloc intC_length ?_ _ | refine sl_drew ?_))) (by omega)).mono ?_; rintro e w1 ⟨v1, rfl, ⟨d2, rfl⟩, ho1⟩; have HO1 := Lib.hid (own_base (b := X.heap.size) ho1 hsA); clear ho1)
            (try dsimp only)
            refine hK.out _ _ ?_ (fun hHeld => ?_)
            · exact ⟨_, _, HVX.out.up (by repeat (first | with_reducible (first | exact World.gained_refl _ | exact ⟨_, rfl⟩ | apply gain_ext | apply gain_alloc | apply gain_drewN | apply gain_drew) | (refine gain_setCell ?_ (by first | exact Nat.le_refl _ | exact World.size_ext _ _ | (simp; done) | (simp; omega)) _)))⟩
            clear hK K
            try simp only [Act.put, List.setIfInBounds_toArray, List.set_cons_zero, List.set_cons_succ]
            refine wpAnyH_ready (rs := [5]) (by kernel_rfl) (by simp) ?_
            refine AllReadyH.cons rfl (fun K hK => ?_) (AllReadyH.nil)
            refine step_append_gain (W := X) (w := ((X.alloc (.cells #[.int .i64 c] 3)).drew).ext d2) (base := X.heap.size) (v := v1) (m := [c]) (u := .slice (some ⟨X.heap.size, 0, none⟩) 1 1) rfl (.tmp 32) (.tmp 34) rfl Tryz.underlying24 info_int (by rfl) (by omega) intC_length intC_one (by omega) (by repeat (first | with_reducible (first | exact World.gained_refl _ | exact ⟨_, rfl⟩ | apply gain_ext | apply gain_alloc | apply gain_drewN | apply gain_drew) | (refine gain_setCell ?_ (by first | exact Nat.le_refl _ | exact World.size_ext _ _ | (simp; done) | (simp; omega)) _))) (Nat.le_refl _) (gain_size (by repeat (first | with_reducible (first | exact World.gained_refl _ | exact ⟨_, rfl⟩ | apply gain_ext | apply gain_alloc | apply gain_drewN | apply gain_drew) | (refine gain_setCell ?_ (by first | exact Nat.le_refl _ | exact World.size_ext _ _ | (simp; done) | (simp; omega)) _)))) (by first | rfl | (simp; done)) (by first | rfl | (simp; done)) HO1.out (World.sl_ext intC_length (sl_drew HU.out) _) (by simp; omega) ?_
            intro v2 d3 ho2 hg2
            clear hg2 HU HO1
            have HV3 := Lib.hid (HVX.out.up (wr' := X.ext d3) ⟨_, rfl⟩)
            have HO2 := Lib.hid (own_base ho2 HVX.out.n4)
            clear ho2
            (try dsimp only)
            refine hK.out _ _ ?_ (fun hHeld => ?_)
            · exact ⟨_, _, HVX.out.up (by repeat (first | with_reducible (first | exact World.gained_refl _ | exact ⟨_, rfl⟩ | apply gain_ext | apply gain_alloc | apply gain_drewN | apply gain_drew) | (refine gain_setCell ?_ (by first | exact Nat.le_refl _ | exact World.size_ext _ _ | (simp; done) | (simp; omega)) _)))⟩
            clear hK K
            try simp only [Act.put, List.setIfInBounds_toArray, List.set_cons_zero, List.set_cons_succ]
            refine wpAnyH_ready (rs := [13]) (by kernel_rfl) (by simp) ?_
            refine AllReadyH.cons rfl (fun K hK => ?_) (AllReadyH.nil)
            go_simp
            go_wp2_with fail
            refine (IH.out (order ++ [c]) v2 (sum + T (lastI order) c) _ _ _ HV3.out HO2.out (by simp) (fun x hx => by
              rcases List.mem_append.1 hx with hx | hx
              · exact HIN.out x hx
              · rw [List.mem_singleton.1 hx]; exact hca) HRL.out (by simp only [List.length_append, List.length_singleton]; omega) (by simp only [List.length_append, List.length_singleton]; omega)).mono ?_
            rintro e w1 ⟨rfl, hk4, best2, hv4⟩
            have HV4 := Lib.hid hv4
            have HK4 := Lib.hid hk4
            clear hv4 hk4 HV3 HO2
            (try dsimp only)
            refine hK.out _ _ ?_ (fun hHeld => ?_)
            · exact ⟨_, _, HV4.out⟩
            clear hK K
            try simp only [Act.put, List.setIfInBounds_toArray, List.set_cons_zero, List.set_cons_succ]
            refine wpAnyH_done (by kernel_rfl) ?_ _
            go_wp2_with fail
            go_roundw
            case rel => exact ⟨q + 1, best2, by omega, by go_num, by rw [HE.out]; exact HV4.out, kept2_trans HKX.out (kept2_trans (kept2_ext ⟨_, rfl⟩) HK4.out)⟩
            case measure => simp [intOf]; omega
      · obtain rfl : q = middle.length := by omega
        have HV2 := Lib.hid (show VSt A middle fin D wr best' (visS T fin middle (n + 1) order sum st) by rw [← HVF.out]; exact HV.out)
        have x_c : wr.cell? ⟨A.gc, 0, none⟩ = some A.cv := World.cell_of_heap HV.out.crs 0
        rw [hcv] at x_c
        have o_c := World.oldB_of_cell x_c
        have hkd : decide ((order.length : Int) < (ln : Int) - 1) = true := decide_eq_true (by omega)
        have hw3 : IntKind.i64.wrap ((ln : Int) - 1) = (ln : Int) - 1 := IntWalk.i64_in _ (by omega)
        go_wp2_with fail
        refine bodyPost_ret (results_none rfl _ _ _) rfl ?_
        exact ⟨rfl, HK.out, best', HV2.out⟩
end Go.Proofs.YtmcimgnobimicaaGreat
