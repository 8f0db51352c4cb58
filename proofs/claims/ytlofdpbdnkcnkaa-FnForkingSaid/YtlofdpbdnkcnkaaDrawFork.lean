/- spec.l1Cur's variantTimes, forked: tables and plans, and the draws from them. Condition: the reader has been asked less than a thousand times. -/
import Derived.Test.YtlofdpbdnkcnkaaCurP
import Derived.Test.YtlofdpbdnkcnkaaCut
import Derived.Test.YtlofdpbdnkcnkaaOwnAt
import Derived.Test.YtlofdpbdnkcnkaaInfoInt
import Derived.Test.YtlofdpbdnkcnkaaNestLaw
import Derived.Test.YtlofdpbdnkcnkaaRows2
import Derived.Test.YtlofdpbdnkcnkaaSlFar
import Derived.Deep.DeepCutAuto
namespace Go
open RowKit Go.Ori
theorem rows2_cur {e1 e : TypeId} {w w' : World} {lo g : Nat} {v : Value} {vs : List Value} {l : List (List Int)} (h : World.rows2 e1 e w lo v vs l) (hl : g < lo) (hg : w.grownBy w' (some g)) : World.rows2 e1 e w' lo v vs l :=
  ⟨own_cur h.out hl hg, h.len, fun i hi hi' => own_cur (h.row i hi hi') hl hg⟩
theorem tot2_le {l : List (List Int)} {m k : Nat} (h : ∀ x ∈ l, x.length ≤ m) (hl : l.length ≤ k) : tot2 l ≤ k + m * k := by
  have := psum_bd tot1 l m h
  have h2 : l.length * m ≤ k * m := Nat.mul_le_mul_right m hl
  unfold tot2
  rw [Nat.mul_comm m k]
  omega
end Go
namespace Go.Proofs.Ytlofdpbdnkcnkaa
open Go.RowKit Go.Ori
set_option maxHeartbeats 4000000 in
theorem variantTimes_any (W w : World) (g n : Nat) (legs forks : Int) (h : Cur 69 W w g n) (hn : n ≤ 1000) (hL : legs ≤ 5) (hF : forks ≤ 5) :
    Calls Try.prog 42 #[.pointer (some ⟨g, 0, none⟩), .int .i64 legs, .int .i64 forks] w fun x w' => ∃ v ts, x = .returned v ∧ w'.sl2f w.heap.size v ts ∧ tot2 ts ≤ 1000 ∧ Cur 69 W w' g (n + 200) ∧ w.grownBy w' (some g) := by
  have HC := Lib.hid h
  have hgw := h.lt
  have hWw : W.heap.size ≤ w.heap.size := Nat.le_trans h.ge (Nat.le_of_lt hgw)
  clear h
  go_enter Try.func42, Try.ntmps42
  go_wp2_with fail
  go_loopw [7, 8] (fun ov i wr => ∃ (f : Nat) (vs : List Value) (ts : List (List Int)), f ≤ 5 ∧ i = .int .i64 f ∧ ts.length = f ∧ (∀ r ∈ ts, r.length ≤ 5) ∧ Cur 69 W wr g (n + 30 * f) ∧ World.rows2 28 3 wr w.heap.size ov vs ts ∧ w.grownBy wr (some g)) (fun _ i _ => 5 - (intOf i).toNat)
  case atStart => exact ⟨0, [], [], by omega, rfl, rfl, by simp, (HC.out.gain (by repeat (first | with_reducible (first | exact World.gained_refl _ | exact ⟨_, rfl⟩ | apply gain_ext | apply gain_alloc | apply gain_drewN | apply gain_drew) | (refine gain_setCell ?_ (by first | exact Nat.le_refl _ | exact World.size_ext _ _ | (simp; done) | (simp; omega)) _)))).le (by omega), rows2_nil (own_lit' (l := ([] : List Value)) valC_length rfl rfl (gain_size (by repeat (first | with_reducible (first | exact World.gained_refl _ | exact ⟨_, rfl⟩ | apply gain_ext | apply gain_alloc | apply gain_drewN | apply gain_drew) | (refine gain_setCell ?_ (by first | exact Nat.le_refl _ | exact World.size_ext _ _ | (simp; done) | (simp; omega)) _))))), only_gain (only_refl _ _) (by repeat (first | with_reducible (first | exact World.gained_refl _ | exact ⟨_, rfl⟩ | apply gain_ext | apply gain_alloc | apply gain_drewN | apply gain_drew) | (refine gain_setCell ?_ (by first | exact Nat.le_refl _ | exact World.size_ext _ _ | (simp; done) | (simp; omega)) _)))⟩
  case round =>
    obtain ⟨f, vs, ts, hf, rfl, htl, hrl, hcu, hr2, hgb⟩ := hrel
    have HCU := Lib.hid hcu
    have HR2 := Lib.hid hr2
    have HGB := Lib.hid hgb
    have HRL := Lib.hid hrl
    have HTL := Lib.hid htl
    have hsz := only_size hgb
    clear hcu hr2 hgb hrl htl
    by_cases hlt : (f : Int) < forks
    · obtain ⟨w0, rfl⟩ : ∃ w0, w0 = wr := ⟨wr, rfl⟩
      go_wp2_with fail
      go_loopw [9, 10] (fun ov i wx => ∃ (q : Nat) (row : List Int), q ≤ 5 ∧ i = .int .i64 q ∧ row.length = q ∧ Cur 69 W wx g (n + 30 * f + 2 * q) ∧ wx.own w0.heap.size 3 intC 1 ov row ∧ w0.grownBy wx (some g)) (fun _ i _ => 5 - (intOf i).toNat)
      case atStart => exact ⟨0, [], by omega, rfl, rfl, (HCU.out.gain (by repeat (first | with_reducible (first | exact World.gained_refl _ | exact ⟨_, rfl⟩ | apply gain_ext | apply gain_alloc | apply gain_drewN | apply gain_drew) | (refine gain_setCell ?_ (by first | exact Nat.le_refl _ | exact World.size_ext _ _ | (simp; done) | (simp; omega)) _)))).le (by omega), own_lit' (l := ([] : List Int)) intC_length rfl rfl (gain_size (by repeat (first | with_reducible (first | exact World.gained_refl _ | exact ⟨_, rfl⟩ | apply gain_ext | apply gain_alloc | apply gain_drewN | apply gain_drew) | (refine gain_setCell ?_ (by first | exact Nat.le_refl _ | exact World.size_ext _ _ | (simp; done) | (simp; omega)) _)))), only_gain (only_refl _ _) (by repeat (first | with_reducible (first | exact World.gained_refl _ | exact ⟨_, rfl⟩ | apply gain_ext | apply gain_alloc | apply gain_drewN | apply gain_drew) | (refine gain_setCell ?_ (by first | exact Nat.le_refl _ | exact World.size_ext _ _ | (simp; done) | (simp; omega)) _)))⟩
      case round =>
        obtain ⟨q, row, hq, rfl, hrw, hcu, ho, hgb⟩ := hrel
        have HC1 := Lib.hid hcu
        have HO := Lib.hid ho
        have HG1 := Lib.hid hgb
        have HRW := Lib.hid hrw
        have hsz1 := only_size hgb
        clear hcu ho hgb hrw
        by_cases hlq : (q : Int) < legs
        · go_wp2_with fail
          refine (among_any W _ g _ _ [0, 5, 7, 12, 60, 1000] w.heap.size (HC1.out.gain (by repeat (first | with_reducible (first | exact World.gained_refl _ | exact ⟨_, rfl⟩ | apply gain_ext | apply gain_alloc | apply gain_drewN | apply gain_drew) | (refine gain_setCell ?_ (by first | exact Nat.le_refl _ | exact World.size_ext _ _ | (simp; done) | (simp; omega)) _)))) (by omega) (own_lit' (l := [0, 5, 7, 12, 60, 1000]) intC_length rfl rfl (Nat.le_trans hsz hsz1)) hgw (by simp) (by simp)).mono ?_
          rintro e w2 ⟨r, rfl, _, hc2, hg2⟩
          have HO2 := Lib.hid (own_cur (own_up HO.out (by repeat (first | with_reducible (first | exact World.gained_refl _ | exact ⟨_, rfl⟩ | apply gain_ext | apply gain_alloc | apply gain_drewN | apply gain_drew) | (refine gain_setCell ?_ (by first | exact Nat.le_refl _ | exact World.size_ext _ _ | (simp; done) | (simp; omega)) _)))) (Nat.lt_of_lt_of_le hgw hsz) hg2)
          have HC2 := Lib.hid hc2
          have HG2 := Lib.hid (only_trans (only_gain HG1.out (by repeat (first | with_reducible (first | exact World.gained_refl _ | exact ⟨_, rfl⟩ | apply gain_ext | apply gain_alloc | apply gain_drewN | apply gain_drew) | (refine gain_setCell ?_ (by first | exact Nat.le_refl _ | exact World.size_ext _ _ | (simp; done) | (simp; omega)) _)))) hg2)
          have HUP := Lib.hid hc2.up
          have hWr : W.heap.size ≤ w0.heap.size := Nat.le_trans hWw hsz
          clear hc2 hg2
          go_wp2_with (at_builtin; go_must (refine wpList_append_gain (W := W) (base := w0.heap.size) (m := [r]) rfl (.tmp 23) (.tmp 27) rfl Try.underlying28 info_int (by rfl) (by omega) intC_length intC_one (by omega) (gain_trans HUP.out (by repeat (first | with_reducible (first | exact World.gained_refl _ | exact ⟨_, rfl⟩ | apply gain_ext | apply gain_alloc | apply gain_drewN | apply gain_drew) | (refine gain_setCell ?_ (by first | exact Nat.le_refl _ | exact World.size_ext _ _ | (simp; done) | (simp; omega)) _)))) hWr (Nat.le_trans (only_size HG2.out) (gain_size (by repeat (first | with_reducible (first | exact World.gained_refl _ | exact ⟨_, rfl⟩ | apply gain_ext | apply gain_alloc | apply gain_drewN | apply gain_drew) | (refine gain_setCell ?_ (by first | exact Nat.le_refl _ | exact World.size_ext _ _ | (simp; done) | (simp; omega)) _))))) rfl rfl (own_up (HO2.out) (by repeat (first | with_reducible (first | exact World.gained_refl _ | exact ⟨_, rfl⟩ | apply gain_ext | apply gain_alloc | apply gain_drewN | apply gain_drew) | (refine gain_setCell ?_ (by first | exact Nat.le_refl _ | exact World.size_ext _ _ | (simp; done) | (simp; omega)) _)))) (sl_lit (l := [r]) intC_length rfl (by simp)) (by rw [HRW.out]; simp; omega) ?_); intro v' d' ho hg)
          have HC3 := Lib.hid ((HC2.out.gain (by repeat (first | with_reducible (first | exact World.gained_refl _ | exact ⟨_, rfl⟩ | apply gain_ext | apply gain_alloc | apply gain_drewN | apply gain_drew) | (refine gain_setCell ?_ (by first | exact Nat.le_refl _ | exact World.size_ext _ _ | (simp; done) | (simp; omega)) _)))).grow hg (own_newer HO2.out (Nat.lt_of_lt_of_le hgw hsz)) ⟨_, rfl⟩)
          have HG3 := Lib.hid (only_new (only_gain HG2.out (by repeat (first | with_reducible (first | exact World.gained_refl _ | exact ⟨_, rfl⟩ | apply gain_ext | apply gain_alloc | apply gain_drewN | apply gain_drew) | (refine gain_setCell ?_ (by first | exact Nat.le_refl _ | exact World.size_ext _ _ | (simp; done) | (simp; omega)) _)))) hg (fun q hq => (own_lt HO2.out q hq).1))
          go_roundw
          case rel => exact ⟨q + 1, row ++ [r], by omega, by go_num, by simp [HRW.out], HC3.out.le (by omega), ho, HG3.out⟩
          case measure => simp [intOf]; omega
        · obtain ⟨pr, cr, rfl, _⟩ := sl_of_own intC_length HO.out
          have HR3 := Lib.hid (rows2_cur HR2.out hgw HG1.out)
          have HUP := Lib.hid HC1.out.up
          have hvl : vs.length = f := by rw [HR2.out.len, HTL.out]
          have hwx := Nat.le_trans hsz hsz1
          go_wp2_with (at_builtin; go_must (refine wpList_append_val (W := W) (base := w.heap.size) (x := .slice pr row.length cr) rfl (.tmp 29) (.tmp 31) rfl Try.underlying25 info_slc (by rfl) (by omega) (gain_trans HUP.out (by repeat (first | with_reducible (first | exact World.gained_refl _ | exact ⟨_, rfl⟩ | apply gain_ext | apply gain_alloc | apply gain_drewN | apply gain_drew) | (refine gain_setCell ?_ (by first | exact Nat.le_refl _ | exact World.size_ext _ _ | (simp; done) | (simp; omega)) _)))) hWw (Nat.le_trans hwx (gain_size (by repeat (first | with_reducible (first | exact World.gained_refl _ | exact ⟨_, rfl⟩ | apply gain_ext | apply gain_alloc | apply gain_drewN | apply gain_drew) | (refine gain_setCell ?_ (by first | exact Nat.le_refl _ | exact World.size_ext _ _ | (simp; done) | (simp; omega)) _))))) rfl rfl rfl (own_up (HR3.out.out) (by repeat (first | with_reducible (first | exact World.gained_refl _ | exact ⟨_, rfl⟩ | apply gain_ext | apply gain_alloc | apply gain_drewN | apply gain_drew) | (refine gain_setCell ?_ (by first | exact Nat.le_refl _ | exact World.size_ext _ _ | (simp; done) | (simp; omega)) _)))) (cell_lit (by first | rfl | simp [World.size_alloc])) (by omega) ?_); intro v' d' ho hg)
          go_roundw
          case rel => exact ⟨f + 1, _, ts ++ [row], by omega, by go_num, by simp [HTL.out], fun r hr => by
            rcases List.mem_append.1 hr with hr | hr
            · exact HRL.out r hr
            · rw [List.mem_singleton] at hr
              subst hr
              rw [HRW.out]; exact hq, ((HC1.out.gain (by repeat (first | with_reducible (first | exact World.gained_refl _ | exact ⟨_, rfl⟩ | apply gain_ext | apply gain_alloc | apply gain_drewN | apply gain_drew) | (refine gain_setCell ?_ (by first | exact Nat.le_refl _ | exact World.size_ext _ _ | (simp; done) | (simp; omega)) _)))).grow hg (own_newer HR3.out.out hgw) ⟨_, rfl⟩).le (by omega), rows2_snoc (rows2_up HR3.out (by repeat (first | with_reducible (first | exact World.gained_refl _ | exact ⟨_, rfl⟩ | apply gain_ext | apply gain_alloc | apply gain_drewN | apply gain_drew) | (refine gain_setCell ?_ (by first | exact Nat.le_refl _ | exact World.size_ext _ _ | (simp; done) | (simp; omega)) _)))) (own_base (own_up HO.out (by repeat (first | with_reducible (first | exact World.gained_refl _ | exact ⟨_, rfl⟩ | apply gain_ext | apply gain_alloc | apply gain_drewN | apply gain_drew) | (refine gain_setCell ?_ (by first | exact Nat.le_refl _ | exact World.size_ext _ _ | (simp; done) | (simp; omega)) _)))) hsz) (by decide) ho hg, only_new (only_gain (only_trans HGB.out HG1.out) (by repeat (first | with_reducible (first | exact World.gained_refl _ | exact ⟨_, rfl⟩ | apply gain_ext | apply gain_alloc | apply gain_drewN | apply gain_drew) | (refine gain_setCell ?_ (by first | exact Nat.le_refl _ | exact World.size_ext _ _ | (simp; done) | (simp; omega)) _)))) hg (fun q hq => (own_lt HR3.out.out q hq).1)⟩
          case measure => simp [intOf]; omega
    · go_wp2_with fail
      refine (pick_any W _ g _ _ HCU.out (by omega)).mono ?_
      rintro e w2 ⟨r, rfl, q1, q2, hc2, hg2⟩
      have HR3 := Lib.hid (rows2_cur HR2.out hgw hg2)
      have HC2 := Lib.hid hc2
      have HG2 := Lib.hid (only_trans HGB.out hg2)
      have HUP := Lib.hid hc2.up
      have hvl : vs.length = f := by rw [HR2.out.len, HTL.out]
      have hsz2 := only_size HG2.out
      have HB2 := Lib.hid (show tot2 ts ≤ 1000 from Nat.le_trans (tot2_le (m := 5) (k := 6) HRL.out (by rw [HTL.out]; omega)) (by omega))
      clear hc2 hg2 q2
      cases h0 : r == 0 with
      | true =>
        go_wp2_with (at_builtin; go_must (refine wpList_append_val (W := W) (base := w.heap.size) (x := .slice (some ⟨w2.heap.size, 0, none⟩) 1 1) rfl (.tmp 37) (.tmp 39) rfl Try.underlying25 info_slc (by rfl) (by omega) (gain_trans HUP.out (by repeat (first | with_reducible (first | exact World.gained_refl _ | exact ⟨_, rfl⟩ | apply gain_ext | apply gain_alloc | apply gain_drewN | apply gain_drew) | (refine gain_setCell ?_ (by first | exact Nat.le_refl _ | exact World.size_ext _ _ | (simp; done) | (simp; omega)) _)))) hWw (Nat.le_trans hsz2 (gain_size (by repeat (first | with_reducible (first | exact World.gained_refl _ | exact ⟨_, rfl⟩ | apply gain_ext | apply gain_alloc | apply gain_drewN | apply gain_drew) | (refine gain_setCell ?_ (by first | exact Nat.le_refl _ | exact World.size_ext _ _ | (simp; done) | (simp; omega)) _))))) rfl rfl rfl (own_up (HR3.out.out) (by repeat (first | with_reducible (first | exact World.gained_refl _ | exact ⟨_, rfl⟩ | apply gain_ext | apply gain_alloc | apply gain_drewN | apply gain_drew) | (refine gain_setCell ?_ (by first | exact Nat.le_refl _ | exact World.size_ext _ _ | (simp; done) | (simp; omega)) _)))) (cell_lit (by first | rfl | simp [World.size_alloc])) (by omega) ?_); intro v' d' ho hg)
        go_ret
        exact ⟨_, ts ++ [[1]], rfl, sl2f_of_own (rows2_own (rows2_snoc (rows2_up HR3.out (by repeat (first | with_reducible (first | exact World.gained_refl _ | exact ⟨_, rfl⟩ | apply gain_ext | apply gain_alloc | apply gain_drewN | apply gain_drew) | (refine gain_setCell ?_ (by first | exact Nat.le_refl _ | exact World.size_ext _ _ | (simp; done) | (simp; omega)) _)))) (own_up (own_lit' (C := #[.int .i64 1]) (w := w2) (l := [1]) intC_length rfl rfl hsz2) (by repeat (first | with_reducible (first | exact World.gained_refl _ | exact ⟨_, rfl⟩ | apply gain_ext | apply gain_alloc | apply gain_drewN | apply gain_drew) | (refine gain_setCell ?_ (by first | exact Nat.le_refl _ | exact World.size_ext _ _ | (simp; done) | (simp; omega)) _)))) (by decide) ho hg)), Nat.le_trans (tot2_le (m := 5) (k := 6) (fun r hr => by
            rcases List.mem_append.1 hr with hr | hr
            · exact HRL.out r hr
            · rw [List.mem_singleton] at hr
              subst hr
              simp) (by simp [HTL.out]; omega)) (by omega), ((HC2.out.gain (by repeat (first | with_reducible (first | exact World.gained_refl _ | exact ⟨_, rfl⟩ | apply gain_ext | apply gain_alloc | apply gain_drewN | apply gain_drew) | (refine gain_setCell ?_ (by first | exact Nat.le_refl _ | exact World.size_ext _ _ | (simp; done) | (simp; omega)) _)))).grow hg (own_newer HR3.out.out hgw) ⟨_, rfl⟩).le (by omega), only_new (only_gain HG2.out (by repeat (first | with_reducible (first | exact World.gained_refl _ | exact ⟨_, rfl⟩ | apply gain_ext | apply gain_alloc | apply gain_drewN | apply gain_drew) | (refine gain_setCell ?_ (by first | exact Nat.le_refl _ | exact World.size_ext _ _ | (simp; done) | (simp; omega)) _)))) hg (fun q hq => (own_lt HR3.out.out q hq).1)⟩
      | false =>
        cases h1 : r == 1 with
        | false =>
          go_wp2
          go_ret
          exact ⟨_, ts, rfl, sl2f_of_own (rows2_own HR3.out), HB2.out, HC2.out.le (by omega), HG2.out⟩
        | true =>
          by_cases hltv : 0 < vs.length
          · have hlt0 : 0 < ts.length := by rw [HTL.out]; omega
            have HLV := Lib.hid hltv
            clear hvl
            obtain ⟨gl, cap, rfl, hg1, hg2⟩ := own_addr HR3.out.out hltv
            have hrow := HR3.out.row 0 hlt0 hltv
            have HCK := Lib.hid (fun (w' : World) (h : World.rows2 28 3 w' w.heap.size (.slice (some ⟨gl, 0, none⟩) vs.length cap) vs ts) => show w'.cell? ⟨gl, 0, none⟩ = some vs[0] by
              have := sl_cells (sl_of_own valC_length h.out) (k := 0) HLV.out (j := 0) (by omega)
              simp only [valC, List.getElem?_cons_zero, Nat.zero_mul, Nat.add_zero] at this
              exact this)
            have ck := HCK.out _ HR3.out
            have obg := World.oldB_of_cell ck
            have hkk : decide (0 < vs.length) = true := decide_eq_true hltv
            by_cases hr0 : 0 < ts[0].length
            · obtain ⟨gr, cr, hv0, hb1, hb2⟩ := own_addr hrow hr0
              replace ck := ck.trans (congrArg some hv0)
              have hk2 : decide (0 < ts[0].length) = true := decide_eq_true hr0
              have HV0 := Lib.hid hv0
              have HRW := Lib.hid (fun (w' : World) (h : World.rows2 28 3 w' w.heap.size (.slice (some ⟨gl, 0, none⟩) vs.length cap) vs ts) => show w'.own w.heap.size 3 intC 1 (.slice (some ⟨gr, 0, none⟩) ts[0].length cr) ts[0] from HV0.out ▸ h.row 0 hlt0 HLV.out)
              clear hv0 hrow
              go_upto_region 16 with fail
              refine wp_region_held_drew (S := (fun w' => w'.cell? ⟨gl, 0, none⟩ = some (.slice (some ⟨gr, 0, none⟩) ts[0].length cr))) (by kernel_rfl) (by (try dsimp only); (with_reducible (repeat (first | assumption | refine cell_ext ?_ _ | refine cell_drew ?_ | refine cell_alloc ?_ _)))) (fun hHeld => ?_)
              refine wpAnyH_take (i := 0) (oi := ⟨_, _, _, _, _, _⟩) (v := ?_) rfl (by kernel_rfl) (by kernel_rfl) (by kernel_rfl) (fun _ _ _ h => h) (Or.inl ⟨by rfl, ?_⟩) (by assumption) ?_
              rotate_left
              · intro w hSw; (try dsimp only at hSw); go_simp; (try with_reducible rfl)
              try simp only [Act.put, List.setIfInBounds_toArray, List.set_cons_zero, List.set_cons_succ]
              refine wpAnyH_take (i := 1) (oi := ⟨_, _, _, _, _, _⟩) (v := ?_) rfl (by kernel_rfl) (by kernel_rfl) (by kernel_rfl) (fun _ _ _ h => h) (Or.inl ⟨by rfl, ?_⟩) (by assumption) ?_
              rotate_left
              · intro w hSw; (try dsimp only at hSw); go_simp; (try with_reducible rfl)
              try simp only [Act.put, List.setIfInBounds_toArray, List.set_cons_zero, List.set_cons_succ]
              refine wpAnyH_take (i := 2) (oi := ⟨_, _, _, _, _, _⟩) (v := ?_) rfl (by kernel_rfl) (by kernel_rfl) (by kernel_rfl) (fun _ _ _ h => h) (Or.inl ⟨by rfl, ?_⟩) (by assumption) ?_
              rotate_left
              · intro w hSw; (try dsimp only at hSw); go_simp; (try with_reducible rfl)
              try simp only [Act.put, List.setIfInBounds_toArray, List.set_cons_zero, List.set_cons_succ]
              refine wpAnyH_take (i := 3) (oi := ⟨_, _, _, _, _, _⟩) (v := ?_) rfl (by kernel_rfl) (by kernel_rfl) (by kernel_rfl) (fun _ _ _ h => h) (Or.inl ⟨by rfl, ?_⟩) (by assumption) ?_
              rotate_left
              · intro w hSw; (try dsimp only at hSw); go_simp; (try with_reducible rfl)
              try simp only [Act.put, List.setIfInBounds_toArray, List.set_cons_zero, List.set_cons_succ]
              refine wpAnyH_ready (rs := [4]) (by kernel_rfl) (by simp) ?_
              refine AllReadyH.cons rfl (fun K hK => ?_) AllReadyH.nil
              go_simp
              refine hK.out _ _ ?_ (fun hHeld => ?_)
              · (try dsimp only); (with_reducible (repeat (first | assumption | refine cell_ext ?_ _ | refine cell_drew ?_ | refine cell_alloc ?_ _)))
              clear hK K
              try simp only [Act.put, List.setIfInBounds_toArray, List.set_cons_zero, List.set_cons_succ]
              refine wpAnyH_ready (rs := [5]) (by kernel_rfl) (by simp) ?_
              refine AllReadyH.cons rfl (fun K hK => ?_) AllReadyH.nil
              go_simp
              go_wp2_with fail
              refine (among_any W _ g _ _ [-1, 1001] w.heap.size (HC2.out.gain (by repeat (first | with_reducible (first | exact World.gained_refl _ | exact ⟨_, rfl⟩ | apply gain_ext | apply gain_alloc | apply gain_drewN | apply gain_drew) | (refine gain_setCell ?_ (by first | exact Nat.le_refl _ | exact World.size_ext _ _ | (simp; done) | (simp; omega)) _)))) (by omega) (own_up (own_lit' (w := w2) (C := #[.int .i64 (-1), .int .i64 1001]) (l := [-1, 1001]) intC_length rfl rfl hsz2) (by repeat (first | with_reducible (first | exact World.gained_refl _ | exact ⟨_, rfl⟩ | apply gain_ext | apply gain_alloc | apply gain_drewN | apply gain_drew) | (refine gain_setCell ?_ (by first | exact Nat.le_refl _ | exact World.size_ext _ _ | (simp; done) | (simp; omega)) _)))) hgw (by simp) (by simp)).mono ?_
              rintro e w3 ⟨r3, rfl, _, hc3, hg3⟩
              have HR4 := Lib.hid (rows2_cur (rows2_up HR3.out (by repeat (first | with_reducible (first | exact World.gained_refl _ | exact ⟨_, rfl⟩ | apply gain_ext | apply gain_alloc | apply gain_drewN | apply gain_drew) | (refine gain_setCell ?_ (by first | exact Nat.le_refl _ | exact World.size_ext _ _ | (simp; done) | (simp; omega)) _)))) hgw hg3)
              have ck4 := (HCK.out _ HR4.out).trans (congrArg some HV0.out)
              have HG3 := Lib.hid (only_trans (only_gain HG2.out (by repeat (first | with_reducible (first | exact World.gained_refl _ | exact ⟨_, rfl⟩ | apply gain_ext | apply gain_alloc | apply gain_drewN | apply gain_drew) | (refine gain_setCell ?_ (by first | exact Nat.le_refl _ | exact World.size_ext _ _ | (simp; done) | (simp; omega)) _)))) hg3)
              have HC3 := Lib.hid hc3
              clear hc3 hg3
              (try dsimp only)
              refine hK.out _ _ ?_ (fun hHeld => ?_)
              · (try dsimp only); (with_reducible (repeat (first | assumption | refine cell_ext ?_ _ | refine cell_drew ?_ | refine cell_alloc ?_ _)))
              clear hK K
              try simp only [Act.put, List.setIfInBounds_toArray, List.set_cons_zero, List.set_cons_succ]
              obtain ⟨t0, z0⟩ := own_at (HRW.out _ HR4.out) (k := 0) hr0
              have obr := World.oldB_of_cell t0
              have ck5 : (w3.setCell ⟨gr, 0, none⟩ (.int .i64 r3)).cell? ⟨gl, 0, none⟩ = some (.slice (some ⟨gr, 0, none⟩) ts[0].length cr) := (World.cell?_setCell_other _ _ _ _ (fun e => by rw [e, ck4] at t0; cases t0)).trans ck4
              refine wpAnyH_take (i := 6) (oi := ⟨_, _, _, _, _, _⟩) (v := ?_) rfl (by kernel_rfl) (by kernel_rfl) (by kernel_rfl) (fun _ _ _ h => h) (Or.inl ⟨by rfl, ?_⟩) (by assumption) ?_
              rotate_left
              · intro w hSw; (try dsimp only at hSw); go_simp; (try with_reducible rfl)
              try simp only [Act.put, List.setIfInBounds_toArray, List.set_cons_zero, List.set_cons_succ]
              refine wpAnyH_ready (rs := [7]) (by kernel_rfl) (by simp) ?_
              refine AllReadyH.cons rfl (fun K hK => ?_) AllReadyH.nil
              go_simp
              refine hK.out _ _ ?_ (fun hHeld => ?_)
              · (try dsimp only); (with_reducible (repeat (first | assumption | refine cell_ext ?_ _ | refine cell_drew ?_ | refine cell_alloc ?_ _)))
              clear hK K
              try simp only [Act.put, List.setIfInBounds_toArray, List.set_cons_zero, List.set_cons_succ]
              refine wpAnyH_done (by kernel_rfl) ?_ _
              go_wp2
              go_ret
              obtain ⟨l', e1, e2, e3⟩ := sl2f_set (x := r3) (sl2f_of_own (rows2_own HR4.out)) t0
              exact ⟨_, l', rfl, e3, by rw [e2]; exact HB2.out, (HC3.out.grow (only_setCell (g := gr) (only_refl _ _) rfl _) (fun q hq => by cases hq; omega) (gain_setCell HC3.out.up (show W.heap.size ≤ gr by omega) _)).le (by omega), only_new HG3.out (only_setCell (g := gr) (only_refl _ _) rfl _) (fun q hq => by cases hq; omega)⟩
            · obtain ⟨pr, cr, hv0, _⟩ := sl_of_own intC_length hrow
              replace ck := ck.trans (congrArg some hv0)
              have hk2 : decide (0 < ts[0].length) = false := decide_eq_false hr0
              clear hv0 hrow
              go_wp2
              go_ret
              exact ⟨_, ts, rfl, sl2f_of_own (rows2_own HR3.out), HB2.out, HC2.out.le (by omega), HG2.out⟩
          · have hkk : decide (0 < vs.length) = false := decide_eq_false hltv
            clear hvl
            obtain ⟨pv, cv, rfl, _⟩ := sl_of_own valC_length HR3.out.out
            go_wp2
            go_ret
            exact ⟨_, ts, rfl, sl2f_of_own (rows2_own HR3.out), HB2.out, HC2.out.le (by omega), HG2.out⟩
end Go.Proofs.Ytlofdpbdnkcnkaa
