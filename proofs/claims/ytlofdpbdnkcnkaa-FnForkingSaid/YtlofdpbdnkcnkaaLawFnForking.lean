/- FnForking returns true for every argument. No condition. -/
import Derived.Test.YtlofdpbdnkcnkaaDrawPlans
import Derived.Test.YtlofdpbdnkcnkaaVPlan
import Derived.Test.YtlofdpbdnkcnkaaFairPlan
import Derived.Test.YtlofdpbdnkcnkaaTeamTimes
import Derived.Test.YtlofdpbdnkcnkaaRotated
import Derived.Test.YtlofdpbdnkcnkaaRdBytes
import Derived.Deep.DeepCutAuto
namespace Go.Ori
theorem team_bd {l : List (List (List Int))} {legs forks : Int} {ts : List (List Int)} (h : timedB l legs forks ts = true) : 1 ≤ legs ∧ legs ≤ 4 ∧ ∀ (k : Nat) (hk : k < l.length) (q : Nat), (q : Int) < legs →
    0 ≤ sumT l[k] forks.toNat ts q ∧ sumT l[k] forks.toNat ts q ≤ 16000 ∧ 0 ≤ rowT (l[k].getD q []) ts forks.toNat ∧ rowT (l[k].getD q []) ts forks.toNat ≤ 4000 := by
  have hPP := h
  simp only [timedB, Bool.and_eq_true] at hPP
  obtain ⟨L, F, rfl, rfl, a1, a2, a3, a4, a5, hall⟩ := planB_true hPP.1
  refine ⟨by omega, by omega, fun k hk q hq => ?_⟩
  have hlr := (hall k hk).1
  have hok : RowOk (l[k].getD q []) ts L F := by
    rw [List.getD_eq_getElem?_getD, List.getElem?_eq_getElem (by omega : q < l[k].length)]
    exact rowOk_of hall hPP.2 hk (q := q) (by omega)
  have hsb := sumT_bd (rows := l[k]) (fun q' hq' => rowOk_of hall hPP.2 hk hq') a3 q (by omega)
  have hbd := rowT_bd hok F (Nat.le_refl _)
  simp only [Int.toNat_natCast]
  omega
theorem fairI_un {l : List (List (List Int))} {legs forks : Int} (h : planB l legs forks = true) : (fairI l legs forks != (((unfL l legs forks).length : Int) == 0)) = false := by
  rw [fairI, h, Bool.true_and]
  by_cases e : (unfL l legs forks).length = 0
  · simp [e]
  · simp [e]
theorem rot_tot (a b d : Int) : tot3 (rotL a b d) ≤ 1048576 := by
  by_cases h : rotB a b d = true
  · exact Nat.le_trans (planB_tot (rot_fair h).1) (by omega)
  · rw [(rot_no (by simpa using h)).1]
    simp [tot3, psum]
end Go.Ori
namespace Go.Proofs.Ytlofdpbdnkcnkaa
open Go.ChangeShapes Go.WideShapes Go.ChangeAt Go.RowKit Go.Ori
set_option maxRecDepth 100000 in
set_option maxHeartbeats 8000000 in
theorem fnForking_walk (v : Value) (L : List Int) (w : World) (h : w.sl byteC 1 v L) (hq : ∀ x ∈ L, 0 ≤ x ∧ x ≤ 255) (hn : L.length ≤ 9223372036854775807) :
    Calls Try.prog 3 #[v] w fun x w' => x = .returned (.bool true) ∧ ∃ d, w' = w.ext d := by
  have hs := Lib.hid h
  have HQ := Lib.hid hq
  obtain ⟨p, c, rfl, _⟩ := h
  clear hq
  by_cases hbig : 65536 < L.length
  · have hbb : decide (65536 < L.length) = true := decide_eq_true hbig
    go_enter Try.func3, Try.ntmps3
    go_wp2_with (go_at_call 6; refine (vBig_any _ _ _ _ hn).mono ?_; rw [hbb]; rintro e w1 ⟨rfl, rfl⟩)
    go_ret
    exact ⟨rfl, (by repeat (first | with_reducible (first | exact World.gained_refl _ | exact ⟨_, rfl⟩ | apply gain_ext | apply gain_alloc | apply gain_drewN | apply gain_drew) | (refine gain_setCell ?_ (by first | exact Nat.le_refl _ | exact World.size_ext _ _ | (simp; done) | (simp; omega)) _)))⟩
  have hbb : decide (65536 < L.length) = false := decide_eq_false hbig
  have hl : L.length ≤ 1048576 := by omega
  go_enter Try.func3, Try.ntmps3
  go_wp2_with (go_at_call 6; refine (vBig_any _ _ _ _ hn).mono ?_; rw [hbb]; rintro e w1 ⟨rfl, rfl⟩)
  refine (drawTeam_any _ L _ hs.out HQ.out hl).mono ?_
  rintro e w1 ⟨v1, l, legs, forks, v2, ts, rfl, ⟨d1, rfl⟩, h1, n1, h2, n2⟩
  obtain ⟨p1, c1, rfl⟩ := sl3_form h1
  obtain ⟨p2, c2, rfl⟩ := sl2_form h2
  have H1 := Lib.hid h1
  have H2 := Lib.hid h2
  have hll : l.length ≤ 1000 := Nat.le_trans (tot3_len l) n1
  have HN1 := Lib.hid (show tot3 l ≤ 1048576 by omega)
  have HN2 := Lib.hid (show tot2 ts ≤ 1048576 by omega)
  clear h1 h2 n1 n2
  go_wp2_with fail
  refine (teamTimes_any _ _ l ts legs forks _ H1.out HN1.out H2.out HN2.out).mono ?_
  rintro e w1 ⟨r1, rfl, ⟨d2, rfl⟩, o1⟩
  have O1 := Lib.hid (sl_of_own intC_length o1)
  clear o1
  go_wp2_with fail
  refine (specTeamTimes_any _ _ l ts legs forks _ (sl3_up H1.out (by repeat (first | with_reducible (first | exact World.gained_refl _ | exact ⟨_, rfl⟩ | apply gain_ext | apply gain_alloc | apply gain_drewN | apply gain_drew) | (refine gain_setCell ?_ (by first | exact Nat.le_refl _ | exact World.size_ext _ _ | (simp; done) | (simp; omega)) _)))) HN1.out (sl2_up H2.out (by repeat (first | with_reducible (first | exact World.gained_refl _ | exact ⟨_, rfl⟩ | apply gain_ext | apply gain_alloc | apply gain_drewN | apply gain_drew) | (refine gain_setCell ?_ (by first | exact Nat.le_refl _ | exact World.size_ext _ _ | (simp; done) | (simp; omega)) _)))) HN2.out).mono ?_
  rintro e w1 ⟨r2, rfl, ⟨d3, rfl⟩, o2⟩
  have O2 := Lib.hid (sl_of_own intC_length o2)
  clear o2
  have HTL := Lib.hid (teamL_length l legs forks ts (by omega))
  have HT := Lib.hid (fun (h : timedB l legs forks ts = true) => And.intro (team_bd h) (And.intro (team_len h) (And.intro (show teamL l legs forks ts = teamN l forks.toNat ts legs.toNat l.length by rw [teamL, if_pos h]) (fun leg h0 h1 => leg_len (leg := leg) h h0 h1))))
  have HF := Lib.hid (fun (h : fairI l legs forks = true) (i j : Nat) (hi : i < (teamL l legs forks ts).length) (hj : j < (teamL l legs forks ts).length) => team_same h hi hj)
  generalize timedB l legs forks ts = T at HT ⊢
  generalize teamL l legs forks ts = S at O1 O2 HTL HT HF ⊢
  have hTT : (T != T) = false := by simp
  obtain ⟨p3, c3, rfl, _⟩ := O1.out
  go_wp2_with (first | (go_at_call 10; refine (vInts_same _ _ S _ (by with_reducible (repeat (first | exact O1.out | refine World.sl_ext intC_length ?_ _ | refine sl_alloc intC_length ?_ _ | refine sl_drew ?_))) (by with_reducible (repeat (first | exact O2.out | refine World.sl_ext intC_length ?_ _ | refine sl_alloc intC_length ?_ _ | refine sl_drew ?_))) HTL.out).mono ?_; rintro e w1 ⟨rfl, d4, rfl⟩) | fail)
  refine (isFairPlan_any _ l legs forks _ (sl3_up H1.out (by repeat (first | with_reducible (first | exact World.gained_refl _ | exact ⟨_, rfl⟩ | apply gain_ext | apply gain_alloc | apply gain_drewN | apply gain_drew) | (refine gain_setCell ?_ (by first | exact Nat.le_refl _ | exact World.size_ext _ _ | (simp; done) | (simp; omega)) _)))) HN1.out).mono ?_
  rintro e w1 ⟨rfl, d5, rfl⟩
  clear O2
  go_wp2_with fail
  refine (unfairTeams_any _ l legs forks _ (sl3_up H1.out (by repeat (first | with_reducible (first | exact World.gained_refl _ | exact ⟨_, rfl⟩ | apply gain_ext | apply gain_alloc | apply gain_drewN | apply gain_drew) | (refine gain_setCell ?_ (by first | exact Nat.le_refl _ | exact World.size_ext _ _ | (simp; done) | (simp; omega)) _)))) HN1.out).mono ?_
  rintro e w1 ⟨r3, rfl, ⟨d6, rfl⟩, o3⟩
  have O3 := Lib.hid (sl_of_own intC_length o3)
  clear o3
  go_wp2_with fail
  refine (specIsFairPlan_any _ l legs forks _ (sl3_up H1.out (by repeat (first | with_reducible (first | exact World.gained_refl _ | exact ⟨_, rfl⟩ | apply gain_ext | apply gain_alloc | apply gain_drewN | apply gain_drew) | (refine gain_setCell ?_ (by first | exact Nat.le_refl _ | exact World.size_ext _ _ | (simp; done) | (simp; omega)) _)))) HN1.out).mono ?_
  rintro e w1 ⟨rfl, d7, rfl⟩
  have HPF := Lib.hid (fun W hW => isPlanOf_any (.slice p1 l.length c1) l legs forks W hW HN1.out)
  have HSU := Lib.hid (fun W hW => specUnfairTeams_any (.slice p1 l.length c1) l legs forks W hW HN1.out)
  have HUL := Lib.hid (unfL_length l legs forks (by omega))
  have HUF := Lib.hid (fun (h : planB l legs forks = true) => fairI_un h)
  generalize fairI l legs forks = FI at HF HUF ⊢
  generalize planB l legs forks = PB at HPF HSU HUF ⊢
  generalize unfL l legs forks = U at O3 HSU HUL HUF ⊢
  obtain ⟨p4, c4, rfl, _⟩ := O3.out
  have hFF : (FI != FI) = false := by simp
  have hPP : (PB != PB) = false := by simp
  go_wp2_with (first | (go_at_call 14; refine (HPF.out _ (sl3_up H1.out (by repeat (first | with_reducible (first | exact World.gained_refl _ | exact ⟨_, rfl⟩ | apply gain_ext | apply gain_alloc | apply gain_drewN | apply gain_drew) | (refine gain_setCell ?_ (by first | exact Nat.le_refl _ | exact World.size_ext _ _ | (simp; done) | (simp; omega)) _))))).mono ?_; rintro e w1 ⟨rfl, d8, rfl⟩) | fail)
  refine (HSU.out _ (sl3_up H1.out (by repeat (first | with_reducible (first | exact World.gained_refl _ | exact ⟨_, rfl⟩ | apply gain_ext | apply gain_alloc | apply gain_drewN | apply gain_drew) | (refine gain_setCell ?_ (by first | exact Nat.le_refl _ | exact World.size_ext _ _ | (simp; done) | (simp; omega)) _))))).mono ?_
  rintro e w1 ⟨r4, rfl, ⟨d9, rfl⟩, o4⟩
  have O4 := Lib.hid (sl_of_own intC_length o4)
  clear o4
  go_upto_region 14 with fail
  go_cut [12, 14, 16, 18, 135] (fun _ _ _ _ t wx => t = .bool false ∧ ∃ d, wx = ((w.ext d1).ext d2).ext d)
  case first =>
    as_aux_lemma =>
      cases PB with
      | false =>
        go_wp2_with (go_at_call 10; refine (vInts_same _ _ U _ (by with_reducible (repeat (first | exact O3.out | refine World.sl_ext intC_length ?_ _ | refine sl_alloc intC_length ?_ _ | refine sl_drew ?_))) (by with_reducible (repeat (first | exact O4.out | refine World.sl_ext intC_length ?_ _ | refine sl_alloc intC_length ?_ _ | refine sl_drew ?_))) HUL.out).mono ?_; rintro e w1 ⟨rfl, d4, rfl⟩)
        go_meet
        exact ⟨rfl, (by repeat (first | with_reducible (first | exact World.gained_refl _ | exact ⟨_, rfl⟩ | apply gain_ext | apply gain_alloc | apply gain_drewN | apply gain_drew) | (refine gain_setCell ?_ (by first | exact Nat.le_refl _ | exact World.size_ext _ _ | (simp; done) | (simp; omega)) _)))⟩
      | true =>
        have hUF := HUF.out rfl
        clear HUF
        go_wp2_with (go_at_call 10; refine (vInts_same _ _ U _ (by with_reducible (repeat (first | exact O3.out | refine World.sl_ext intC_length ?_ _ | refine sl_alloc intC_length ?_ _ | refine sl_drew ?_))) (by with_reducible (repeat (first | exact O4.out | refine World.sl_ext intC_length ?_ _ | refine sl_alloc intC_length ?_ _ | refine sl_drew ?_))) HUL.out).mono ?_; rintro e w1 ⟨rfl, d4, rfl⟩)
        go_meet
        exact ⟨congrArg Value.bool hUF, (by repeat (first | with_reducible (first | exact World.gained_refl _ | exact ⟨_, rfl⟩ | apply gain_ext | apply gain_alloc | apply gain_drewN | apply gain_drew) | (refine gain_setCell ?_ (by first | exact Nat.le_refl _ | exact World.size_ext _ _ | (simp; done) | (simp; omega)) _)))⟩
  obtain ⟨rfl, dA, rfl⟩ := hcut
  clear O3 O4 HPF HSU HUL HUF hFF hPP
  have HDN := Lib.hid (show w.heap.size ≤ (((w.ext d1).ext d2).ext dA).heap.size from (gain_size (by repeat (first | with_reducible (first | exact World.gained_refl _ | exact ⟨_, rfl⟩ | apply gain_ext | apply gain_alloc | apply gain_drewN | apply gain_drew) | (refine gain_setCell ?_ (by first | exact Nat.le_refl _ | exact World.size_ext _ _ | (simp; done) | (simp; omega)) _)))))
  go_upto_if 136 with fail
  go_cut [7, 8, 10, 11, 15] (fun _ _ _ _ _ wx => ∃ d, wx = w.ext d)
  case first =>
    cases T with
    | false =>
      go_wp2_with fail
      go_meet
      exact (by repeat (first | with_reducible (first | exact World.gained_refl _ | exact ⟨_, rfl⟩ | apply gain_ext | apply gain_alloc | apply gain_drewN | apply gain_drew) | (refine gain_setCell ?_ (by first | exact Nat.le_refl _ | exact World.size_ext _ _ | (simp; done) | (simp; omega)) _)))
    | true =>
      obtain ⟨⟨g1, g2, HBD⟩, hSl, hSe, HLG⟩ := HT.out rfl
      have HBD := Lib.hid HBD
      have HLG := Lib.hid HLG
      have HSE := Lib.hid hSe
      have HSL := Lib.hid hSl
      clear HT hSe
      rw [hSl]
      rw [hSl] at O1
      have hmk := fun w => run_make_rows (P := Try.prog) Try.underlying28 info_int l.length (by omega) (by omega) w
      clear hSl
      go_wp2_with fail
      clear hmk
      go_loopw [20] (fun i wr => ∃ q : Nat, (q : Int) ≤ legs ∧ i = .int .i64 q ∧ (∃ d, wr = ((w.ext d1).ext d2).ext d) ∧ wr.heap[(((w.ext d1).ext d2).ext dA).heap.size]? = some (.cells ((teamN l forks.toNat ts q l.length).map (Value.int .i64)).toArray 3 (0, 0))) (fun i _ => (legs - intOf i).toNat)
      case atStart => exact ⟨0, by omega, rfl, (by repeat (first | with_reducible (first | exact World.gained_refl _ | exact ⟨_, rfl⟩ | apply gain_ext | apply gain_alloc | apply gain_drewN | apply gain_drew) | (refine gain_setCell ?_ (by first | exact Nat.le_refl _ | exact World.size_ext _ _ | (simp; done) | (simp; omega)) _))), by rw [heap_alloc_new, made_ints, teamN_z]⟩
      case round =>
        obtain ⟨q, hq, rfl, ⟨d, rfl⟩, hC⟩ := hrel
        have HC := Lib.hid hC
        have hgl : (((w.ext d1).ext d2).ext dA).heap.size < (((w.ext d1).ext d2).ext d).heap.size := (Array.getElem?_eq_some_iff.1 hC).1
        clear hC
        have HDM := Lib.hid (show ((w.ext d1).ext d2).heap.size ≤ (((w.ext d1).ext d2).ext dA).heap.size from (gain_size (by repeat (first | with_reducible (first | exact World.gained_refl _ | exact ⟨_, rfl⟩ | apply gain_ext | apply gain_alloc | apply gain_drewN | apply gain_drew) | (refine gain_setCell ?_ (by first | exact Nat.le_refl _ | exact World.size_ext _ _ | (simp; done) | (simp; omega)) _)))))
        generalize (((w.ext d1).ext d2).ext dA).heap.size = g at HC HDN HDM hgl
        by_cases hql : (q : Int) < legs
        · have hqd : decide ((q : Int) < legs) = true := decide_eq_true hql
          obtain ⟨b1, b2, b3⟩ := HLG.out q (by omega) hql
          have HB1 := Lib.hid b1
          have HB3 := Lib.hid b3
          clear b1 b2 b3
          go_wp2_with fail
          refine (legTimesOf_any _ _ l ts legs forks q _ (sl3_up H1.out (by repeat (first | with_reducible (first | exact World.gained_refl _ | exact ⟨_, rfl⟩ | apply gain_ext | apply gain_alloc | apply gain_drewN | apply gain_drew) | (refine gain_setCell ?_ (by first | exact Nat.le_refl _ | exact World.size_ext _ _ | (simp; done) | (simp; omega)) _)))) HN1.out (sl2_up H2.out (by repeat (first | with_reducible (first | exact World.gained_refl _ | exact ⟨_, rfl⟩ | apply gain_ext | apply gain_alloc | apply gain_drewN | apply gain_drew) | (refine gain_setCell ?_ (by first | exact Nat.le_refl _ | exact World.size_ext _ _ | (simp; done) | (simp; omega)) _)))) HN2.out).mono ?_
          rw [HB1.out, HB3.out, Int.toNat_natCast]
          rintro e w1 ⟨sv, rfl, ⟨d4, rfl⟩, ho⟩
          have HO := Lib.hid ho
          have hll2 : (legN l forks.toNat ts q l.length).length = l.length := by simp [legN]
          obtain ⟨ps, cs, rfl, _⟩ := sl_of_own intC_length ho
          rw [hll2]
          rw [hll2] at HO
          have HL2 := Lib.hid hll2
          clear ho hll2
          go_wp2
          go_loopw [23] (fun i wr => ∃ k : Nat, k ≤ l.length ∧ i = .int .i64 k ∧ (∃ d, wr = ((w.ext d1).ext d2).ext d) ∧ wr.heap[g]? = some (.cells ((mixN l forks.toNat ts q k).map (Value.int .i64)).toArray 3 (0, 0)) ∧ wr.own (((w.ext d1).ext d2).ext d).heap.size 3 intC 1 (.slice ps l.length cs) (legN l forks.toNat ts q l.length)) (fun i _ => l.length - (intOf i).toNat)
          case atStart => exact ⟨0, by omega, rfl, (by repeat (first | with_reducible (first | exact World.gained_refl _ | exact ⟨_, rfl⟩ | apply gain_ext | apply gain_alloc | apply gain_drewN | apply gain_drew) | (refine gain_setCell ?_ (by first | exact Nat.le_refl _ | exact World.size_ext _ _ | (simp; done) | (simp; omega)) _))), by rw [mixN_zero]; exact World.heap_ext_old d4 HC.out, HO.out⟩
          case round =>
            obtain ⟨k, hk, rfl, ⟨d5, rfl⟩, hC5, ho5⟩ := hrel
            have HC5 := Lib.hid hC5
            have HO5 := Lib.hid ho5
            by_cases hkl : k < l.length
            · obtain ⟨b3, o3, rfl⟩ := sl_some (sl_of_own intC_length ho5) (by rw [HL2.out]; omega)
              have e3 := sl_int (sl_of_own intC_length ho5) (k := k) (by rw [HL2.out]; exact hkl)
              have eL : (legN l forks.toNat ts q l.length)[k]'(by rw [HL2.out]; exact hkl) = rowT (l[k].getD q []) ts forks.toNat := by simp [legN]
              rw [eL] at e3
              have hbd := HBD.out k hkl q hql
              have HS := Lib.hid (mixN_succ (F := forks.toNat) (ts := ts) (q := q) hkl)
              have t0 : (((w.ext d1).ext d2).ext d5).cell? ⟨g, k, none⟩ = some (.int .i64 (sumT l[k] forks.toNat ts q)) := by
                rw [World.cell_of_heap hC5]
                simp [mixN_at hkl]
              have z0 : (((w.ext d1).ext d2).ext d5).frozen? ⟨g, k, none⟩ = false := World.free_of_heap hC5 k
              have ng := World.oldB_of_cell t0
              have nb3 := World.oldB_of_cell e3
              generalize rowT (l[k].getD q []) ts forks.toNat = T at e3 hbd HS
              generalize sumT l[k] forks.toNat ts q = S at t0 hbd HS
              obtain ⟨hb1, hb2, hs1, hs2⟩ := hbd
              clear hC5 ho5 eL
              go_wp2
              go_region_law fail
              all_goals (
                go_wp2
                go_roundw
                case rel =>
                  refine ⟨k + 1, by omega, by go_num, gain_drew (gain_setCell ⟨_, rfl⟩ HDM.out _), ?_, own_drew (own_far HO5.out hgl _)⟩
                  exact (show _ from World.heap_setCell_row HC5.out k (.int .i64 (S + T))).trans (by rw [setInts, HS.out])
                case measure => simp [intOf]; omega)
            · obtain rfl : k = l.length := by omega
              rw [mixN_full] at HC5
              clear hC5 ho5
              go_wp2
              go_roundw
              case rel => exact ⟨q + 1, by omega, by go_num, ⟨_, rfl⟩, HC5.out⟩
              case measure => simp [intOf]; omega
        · have hqd : decide ((q : Int) < legs) = false := decide_eq_false hql
          obtain rfl : q = legs.toNat := by omega
          rw [← HSE.out] at HC
          have ho := own_ints (base := w.heap.size) HC.out HDN.out (by rw [HSL.out]; omega)
          rw [HSL.out] at ho
          have T1 := Lib.hid (sl_of_own intC_length ho)
          clear ho
          go_wp2_with (go_at_call 10; refine (vInts_same _ _ S _ T1.out (by with_reducible (repeat (first | exact O1.out | refine World.sl_ext intC_length ?_ _ | refine sl_alloc intC_length ?_ _ | refine sl_drew ?_))) HTL.out).mono ?_; rintro e w1 ⟨rfl, d4, rfl⟩)
          clear T1 HC
          cases FI with
          | false =>
            go_loopw [24] (fun i wr => i = .int .i64 1 ∧ ∃ d, wr = ((w.ext d1).ext d2).ext d) (fun _ _ => 0)
            case atStart => exact ⟨rfl, (by repeat (first | with_reducible (first | exact World.gained_refl _ | exact ⟨_, rfl⟩ | apply gain_ext | apply gain_alloc | apply gain_drewN | apply gain_drew) | (refine gain_setCell ?_ (by first | exact Nat.le_refl _ | exact World.size_ext _ _ | (simp; done) | (simp; omega)) _)))⟩
            case round =>
              obtain ⟨rfl, d, rfl⟩ := hrel
              by_cases h1 : 1 < l.length
              · go_wp2
                go_meet
                exact (by repeat (first | with_reducible (first | exact World.gained_refl _ | exact ⟨_, rfl⟩ | apply gain_ext | apply gain_alloc | apply gain_drewN | apply gain_drew) | (refine gain_setCell ?_ (by first | exact Nat.le_refl _ | exact World.size_ext _ _ | (simp; done) | (simp; omega)) _)))
              · go_wp2
                go_meet
                exact (by repeat (first | with_reducible (first | exact World.gained_refl _ | exact ⟨_, rfl⟩ | apply gain_ext | apply gain_alloc | apply gain_drewN | apply gain_drew) | (refine gain_setCell ?_ (by first | exact Nat.le_refl _ | exact World.size_ext _ _ | (simp; done) | (simp; omega)) _)))
          | true =>
            have HFT := Lib.hid (HF.out rfl)
            clear HF
            go_loopw [24] (fun i wr => ∃ k : Nat, 1 ≤ k ∧ i = .int .i64 k ∧ ∃ d, wr = ((w.ext d1).ext d2).ext d) (fun i _ => l.length - (intOf i).toNat)
            case atStart => exact ⟨1, by omega, rfl, (by repeat (first | with_reducible (first | exact World.gained_refl _ | exact ⟨_, rfl⟩ | apply gain_ext | apply gain_alloc | apply gain_drewN | apply gain_drew) | (refine gain_setCell ?_ (by first | exact Nat.le_refl _ | exact World.size_ext _ _ | (simp; done) | (simp; omega)) _)))⟩
            case round =>
              obtain ⟨k, hk, rfl, d, rfl⟩ := hrel
              by_cases hkl : k < l.length
              · have hs1 : ((((w.ext d1).ext d2).ext d).sl intC 1 (.slice p3 l.length c3) S) := (by with_reducible (repeat (first | exact O1.out | refine World.sl_ext intC_length ?_ _ | refine sl_alloc intC_length ?_ _ | refine sl_drew ?_)))
                have hk1 : k < S.length := by rw [HSL.out]; exact hkl
                have hk0 : 0 < S.length := by omega
                obtain ⟨b3, o3, rfl⟩ := sl_some hs1 (by omega)
                have e1 := sl_int hs1 hk1
                have e0 := sl_int hs1 hk0
                rw [HFT.out k 0 hk1 hk0] at e1
                rw [Nat.add_zero] at e0
                generalize S[0] = x at e1 e0
                have ob := World.oldB_of_cell e0
                clear hs1 hk1 hk0
                go_wp2
                refine wp_region_gain (by kernel_rfl) (by kernel_rfl) ?_
                repeat (first | go_big_quiet_skip | (go_big_quiet_want; go_big_quiet_op; first | go_big_quiet_on))
                refine wpQuiet_nil ?_
                rintro _ ⟨d', rfl⟩
                go_wp2
                go_roundw
                case rel => exact ⟨k + 1, by omega, by go_num, (by repeat (first | with_reducible (first | exact World.gained_refl _ | exact ⟨_, rfl⟩ | apply gain_ext | apply gain_alloc | apply gain_drewN | apply gain_drew) | (refine gain_setCell ?_ (by first | exact Nat.le_refl _ | exact World.size_ext _ _ | (simp; done) | (simp; omega)) _)))⟩
                case measure => simp [intOf]; omega
              · go_wp2
                go_meet
                exact (by repeat (first | with_reducible (first | exact World.gained_refl _ | exact ⟨_, rfl⟩ | apply gain_ext | apply gain_alloc | apply gain_drewN | apply gain_drew) | (refine gain_setCell ?_ (by first | exact Nat.le_refl _ | exact World.size_ext _ _ | (simp; done) | (simp; omega)) _)))
  obtain ⟨dB, rfl⟩ := hcut
  clear O1 H1 H2 HT HF HTL hTT HN1 HN2 HDN
  go_wp2_with fail
  refine (drawRotated_any _ L _ (by with_reducible (repeat (first | exact hs.out | refine World.sl_ext byteC_length ?_ _ | refine sl_alloc byteC_length ?_ _ | refine sl_drew ?_))) HQ.out hl).mono ?_
  rintro e w1 ⟨a, b, d, rfl, ⟨d1, rfl⟩⟩
  go_wp2_with fail
  refine (rotatedPlan_any a b d _).mono ?_
  rintro e w1 ⟨r1, us, vss, rfl, ⟨d2, rfl⟩, h3⟩
  have R3 := Lib.hid (sl3_of_rows3p ⟨_, _, h3⟩)
  clear h3
  go_wp2_with fail
  refine (specRotatedPlan_any a b d _).mono ?_
  rintro e w1 ⟨r2, us2, vss2, rfl, ⟨d3, rfl⟩, h4⟩
  have R4 := Lib.hid (sl3_of_rows3p ⟨_, _, h4⟩)
  clear h4
  have HTR := Lib.hid (rot_tot a b d)
  have HRF := Lib.hid (fun (h : rotB a b d = true) => rot_fair h)
  generalize rotB a b d = B at HRF ⊢
  generalize rotL a b d = RL at R3 R4 HTR HRF ⊢
  obtain ⟨pr, cr, rfl⟩ := sl3_form R3.out
  cases B with
  | false =>
    go_wp2_with (go_at_call 20; refine (vPlan_same _ _ RL _ (sl3_up R3.out (by repeat (first | with_reducible (first | exact World.gained_refl _ | exact ⟨_, rfl⟩ | apply gain_ext | apply gain_alloc | apply gain_drewN | apply gain_drew) | (refine gain_setCell ?_ (by first | exact Nat.le_refl _ | exact World.size_ext _ _ | (simp; done) | (simp; omega)) _)))) (sl3_up R4.out (by repeat (first | with_reducible (first | exact World.gained_refl _ | exact ⟨_, rfl⟩ | apply gain_ext | apply gain_alloc | apply gain_drewN | apply gain_drew) | (refine gain_setCell ?_ (by first | exact Nat.le_refl _ | exact World.size_ext _ _ | (simp; done) | (simp; omega)) _)))) HTR.out).mono ?_; rintro e w1 ⟨rfl, d4, rfl⟩)
    go_ret
    exact ⟨rfl, (by repeat (first | with_reducible (first | exact World.gained_refl _ | exact ⟨_, rfl⟩ | apply gain_ext | apply gain_alloc | apply gain_drewN | apply gain_drew) | (refine gain_setCell ?_ (by first | exact Nat.le_refl _ | exact World.size_ext _ _ | (simp; done) | (simp; omega)) _)))⟩
  | true =>
    obtain ⟨f1, f2, f3⟩ := HRF.out rfl
    have hlen : ((RL.length : Int) == a) = true := by simp [f3]
    have F1 := Lib.hid f1
    have F2 := Lib.hid f2
    clear f1 f2 f3
    go_wp2_with (first | (go_at_call 20; refine (vPlan_same _ _ RL _ (sl3_up R3.out (by repeat (first | with_reducible (first | exact World.gained_refl _ | exact ⟨_, rfl⟩ | apply gain_ext | apply gain_alloc | apply gain_drewN | apply gain_drew) | (refine gain_setCell ?_ (by first | exact Nat.le_refl _ | exact World.size_ext _ _ | (simp; done) | (simp; omega)) _)))) (sl3_up R4.out (by repeat (first | with_reducible (first | exact World.gained_refl _ | exact ⟨_, rfl⟩ | apply gain_ext | apply gain_alloc | apply gain_drewN | apply gain_drew) | (refine gain_setCell ?_ (by first | exact Nat.le_refl _ | exact World.size_ext _ _ | (simp; done) | (simp; omega)) _)))) HTR.out).mono ?_; rintro e w1 ⟨rfl, d4, rfl⟩) | (go_at_call 11; refine (isFairPlan_any _ RL b d _ (sl3_up R3.out (by repeat (first | with_reducible (first | exact World.gained_refl _ | exact ⟨_, rfl⟩ | apply gain_ext | apply gain_alloc | apply gain_drewN | apply gain_drew) | (refine gain_setCell ?_ (by first | exact Nat.le_refl _ | exact World.size_ext _ _ | (simp; done) | (simp; omega)) _)))) HTR.out).mono ?_; rw [F1.out, F2.out]; rintro e w1 ⟨rfl, d5, rfl⟩))
    go_ret
    exact ⟨rfl, (by repeat (first | with_reducible (first | exact World.gained_refl _ | exact ⟨_, rfl⟩ | apply gain_ext | apply gain_alloc | apply gain_drewN | apply gain_drew) | (refine gain_setCell ?_ (by first | exact Nat.le_refl _ | exact World.size_ext _ _ | (simp; done) | (simp; omega)) _)))⟩
set_option maxRecDepth 100000 in
theorem fnForking_lifted (os : Os) (started : os.Started) (H : Type) (enc : TypeId × Value → H) :
    ReturnsInHanded {} Try.checked os 3 .any (Rows.fnForkingSpec.pre6 enc Try.prog Try.f3 Rows.fnForkingRow.domain false) (Rows.fnForkingSpec.post enc Try.prog Try.f3 false true false false) := by
  refine returnsInHanded_of_change (C := Try.checked) (by kernel_rfl) started (by kernel_rfl) Try.func3
    (ChangeSpec.witness6 (enc := enc) (C := Try.checked) false ⟨#[], #[.slice none 0 0], []⟩ 8 (by kernel_rfl) (by kernel_rfl) (by kernel_rfl) (by kernel_rfl)) ?_
  intro W base args ds gs before hval0 hW _ _
  have hval : ∀ (j : Nat) t v, Try.f3.params[j]? = some t → args[j]? = some v → Value.okWide Try.prog W .any base t v := hval0
  clear hval0
  have laidOut : laidOutB Try.prog = true := by as_aux_lemma => kernel_rfl
  have hWc := hW
  obtain ⟨p, q, hA0, hV, rfl, _, _⟩ := hWc
  have hA : DataW.TrodAll enc Try.prog W 0 (fun _ => true) true Try.f3.params.toList args.toList ds p := hA0
  clear hA0
  rw [Try.params3] at hA hval
  obtain ⟨v0, vs0, d0, ds0, p0, q0, hargs, rfl, rfl, h0, r0⟩ := trodAll_cons hA
  obtain ⟨rfl, rfl, rfl⟩ := trodAll_nil r0
  obtain rfl : args = #[v0] := by cases args; simp_all
  obtain ⟨rfl, rfl⟩ := trodVars_none hV
  obtain ⟨L, hs, hq, hn⟩ := read_Bytes (hval 0 22 v0 rfl rfl) h0
  refine (fnForking_walk v0 L W hs hq hn).mono fun e W1 ⟨he, hg⟩ => ?_
  subst he
  exact ⟨_, rfl, law_post (tb := 4) laidOut (by kernel_rfl) hW rfl rfl (by kernel_rfl) Try.underlying4 hg⟩
theorem fnForking_holds : Rows.FnForkingSaid :=
  OpenClaim.holds_of_wide 3 Try.f3 rfl rfl rfl rfl rfl rfl rfl ⟨rfl, rfl, rfl, rfl, rfl⟩ rfl rfl rfl rfl rfl (by kernel_rfl) Try.func3 (by kernel_rfl)
    (of_decide_eq_true (by kernel_rfl)) (by unfold Func.isWrapper; first | (rw [if_pos (by decide +kernel)]; kernel_rfl) | (rw [if_neg (by decide +kernel)]; exact ⟨rfl, rfl⟩))
    (fun os started H enc _ => fnForking_lifted os started H enc)
#print axioms fnForking_holds
end Go.Proofs.Ytlofdpbdnkcnkaa
