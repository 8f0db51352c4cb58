/- impl.BestOrder. Condition: at most 1048576 controls, codes. -/
import Derived.Test.YtmcimgnobimicaaGreatG36
import Derived.Test.YtmcimgnobimicaaGreatG31
import Derived.Test.YtmcimgnobimicaaGreatG29
import Derived.Test.YtmcimgnobimicaaGreatG37
import Derived.Test.YtmcimgnobimicaaGreatG30
import Derived.Laws.EntriesVeiled
namespace Go.Proofs.YtmcimgnobimicaaGreat
open Go.RowKit Go.Ori Go.Maps
theorem wf_has {m : Mp} {l : List Ctl} {c : Int} (h : ctlsB m l = true) (hk : hasK l c = true) : wfI c := by
  simp only [hasK, List.any_eq_true, beq_iff_eq] at hk
  obtain ⟨e, he, rfl⟩ := hk
  obtain ⟨i, hi, rfl⟩ := List.getElem_of_mem he
  simp only [ctlsB, Bool.and_eq_true] at h
  have := allB_iff.1 h.2 i hi
  rw [ctlAt, List.getElem?_eq_getElem hi] at this
  simp only [Bool.and_eq_true, insB_true] at this
  have h2 := this.1.1.1
  unfold wfI
  omega
theorem ownsMap_up {H : Type} {w w' : World} {P : Program} {k : TypeId} {R : Value → Option (DataW H × List MemPlace)} {b n : Nat} {D : DataW H} (h : w.ownsMap P k R b n D) (hg : ∃ d, w' = w.ext d) : w'.ownsMap P k R b n D := by
  obtain ⟨d, rfl⟩ := hg
  obtain ⟨es, clock, h1, h2⟩ := h
  exact ⟨es, clock, World.heap_ext_old d h1, h2⟩
theorem step_mapUpdate {H : Type} {P : Program} {ops : Array Oper} {o : Oper} {a : Act} {K : Act → World → Prop} {Q : Exit → Act → World → Prop} {E : Prop} (w : World) (hgd : o.guard = none) (m x v : Operand) (t : TypeId) (hop : o.op = Op.mapUpdate t m x v)
    (k e : TypeId) (KK : Keyed P k) (ht : P.underlying t = some (.map k e)) (R : Value → Option (DataW H × List MemPlace)) (b n : Nat) (D : DataW H)
    (hm : a.eval m = .map (some b)) (hown : w.ownsMap P k R b n D) (hn : n < maxLen) (key val : Value) (kl : Lit) (hx : a.eval x = key) (hv : a.eval v = val) (hkey : keyOf P k key = some kl) (d : DataW H) (ps : List MemPlace) (hval : R val = some (d, ps))
    (h : ∀ w', w'.ownsMap P k R b (n + 1) (D.put kl d) → w.grownBy w' (some b) → K (a.put o.dst undef) w') :
    if Region.wanted o (yielded ops a.tmps) = true then Oper.wp P o a w K Q else E := by
  have hw : Region.wanted o (yielded ops a.tmps) = true := by simp [Region.wanted, hgd]
  rw [if_pos hw]
  obtain ⟨w', hrun, r1, r2⟩ := hown.update KK ht hn hkey hval
  unfold Oper.wp
  simp [execOp, hop, hm, hx, hv, hrun, Result.andThen]
  exact h w' r1 r2
theorem sortInts_only (W w : World) (B g cap : Nat) (l : List Int) (hW : ∃ d, w = W.ext d) (hB : W.heap.size ≤ B) (ho : w.own B 3 intC 1 (.slice (some ⟨g, 0, none⟩) l.length cap) l) (hl : l.length ≤ 1048576) :
    Calls Tryz.prog 23 #[.slice (some ⟨g, 0, none⟩) l.length cap] w fun x w' => x = .returned (.tuple #[]) ∧ (∃ d, w' = W.ext d) ∧ w'.own B 3 intC 1 (.slice (some ⟨g, 0, none⟩) l.length cap) (l.mergeSort fun x y => decide (x ≤ y)) ∧ w.grownBy w' (some g) := by
  refine (Tryz.slices_Sort_int g 0 cap l w (holds_own ho) (own_lt ho g rfl).2 (by omega)).mono ?_
  rintro e w' ⟨rfl, n, os, rfl⟩
  have hlen : (l.mergeSort fun x y => decide (x ≤ y)).length = l.length := List.length_mergeSort l
  have h := own_rewritten hW hB ho hlen [] (List.append_nil _).symm n os
  rw [hlen] at h
  exact ⟨rfl, h.1, h.2, putRow_only g n _ os⟩
theorem take_one {t : List Int} (h : 0 < t.length) : t.take 1 = [t[0]] := by
  cases t with
  | nil => simp at h
  | cons a b => simp
set_option maxHeartbeats 8000000 in
set_option maxRecDepth 20000 in
theorem implBestOrder_any (m : Mp) (rv cv v u : Value) (l : List Ctl) (t : List Int) (w : World) (hmp : w.mp rv cv m) (h : w.sl Ctl.cells 2 v l) (hl : l.length ≤ 1048576) (h2 : w.sl intC 1 u t) (hl2 : t.length ≤ 1048576) :
    Calls Tryz.prog 6 #[.agg #[.int .i64 m.wd, .int .i64 m.ht, rv, cv], v, u] w fun x w' => ∃ r, x = .returned (.tuple #[r, .int .i64 (boI m l t), .bool (boB m l t)]) ∧ (∃ d, w' = w.ext d) ∧ w'.own w.heap.size 3 intC 1 r (boL m l t) := by
  have hm := Lib.hid hmp
  have hs := Lib.hid h
  have ht := Lib.hid h2
  obtain ⟨p1, c1, p2, c2, rfl, rfl⟩ := mp_form hmp
  have HGD := Lib.hid (fun w' hw' hv' hu' => isCourse_any m (.slice p1 m.rise.length c1) (.slice p2 m.cost.length c2) v u l t w' hw' hv' hl hu' hl2)
  have HTW := Lib.hid (fun w' hu' => hasTwice_any u t w' hu' hl2)
  obtain ⟨pu, cu, rfl, _⟩ := h2
  clear hmp h
  cases hC : crsB m l t with
  | false =>
    rw [hC] at HGD
    have h0 : boB m l t = false := by simp [boB, *]
    rw [(bo_no h0).1, (bo_no h0).2, h0]
    clear h0
    go_enter Tryz.func6, Tryz.ntmps6
    go_wp2_with (first | (go_at_call 20; refine (HGD.out _ (mp_up (hm.out) (by repeat (first | with_reducible (first | exact World.gained_refl _ | exact ⟨_, rfl⟩ | apply gain_ext | apply gain_alloc | apply gain_drewN | apply gain_drew) | (refine gain_setCell ?_ (by first | exact Nat.le_refl _ | exact World.size_ext _ _ | (simp; done) | (simp; omega)) _)))) (by with_reducible (repeat (first | exact hs.out | refine World.sl_ext Ctl.cells_length ?_ _ | refine sl_alloc Ctl.cells_length ?_ _ | refine sl_drew ?_))) (by with_reducible (repeat (first | exact ht.out | refine World.sl_ext intC_length ?_ _ | refine sl_alloc intC_length ?_ _ | refine sl_drew ?_)))).mono ?_; rintro e w1 ⟨rfl, d1, rfl⟩) | (go_at_call 21; refine (HTW.out _ (by with_reducible (repeat (first | exact ht.out | refine World.sl_ext intC_length ?_ _ | refine sl_alloc intC_length ?_ _ | refine sl_drew ?_)))).mono ?_; rintro e w1 ⟨rfl, d2, rfl⟩))
    go_ret3
    exact ⟨_, rfl, (by repeat (first | with_reducible (first | exact World.gained_refl _ | exact ⟨_, rfl⟩ | apply gain_ext | apply gain_alloc | apply gain_drewN | apply gain_drew) | (refine gain_setCell ?_ (by first | exact Nat.le_refl _ | exact World.size_ext _ _ | (simp; done) | (simp; omega)) _))), own_nil _ _ _ _ _⟩
  | true =>
  rw [hC] at HGD
  by_cases h7 : t.length ≤ 7
  case neg =>
    have hd : decide (7 < (t.length : Int)) = true := decide_eq_true (by omega)
    have hd2 : decide (7 < t.length) = true := decide_eq_true (by omega)
    have h0 : boB m l t = false := by simp [boB, *]
    rw [(bo_no h0).1, (bo_no h0).2, h0]
    clear h0
    go_enter Tryz.func6, Tryz.ntmps6
    go_wp2_with (first | (go_at_call 20; refine (HGD.out _ (mp_up (hm.out) (by repeat (first | with_reducible (first | exact World.gained_refl _ | exact ⟨_, rfl⟩ | apply gain_ext | apply gain_alloc | apply gain_drewN | apply gain_drew) | (refine gain_setCell ?_ (by first | exact Nat.le_refl _ | exact World.size_ext _ _ | (simp; done) | (simp; omega)) _)))) (by with_reducible (repeat (first | exact hs.out | refine World.sl_ext Ctl.cells_length ?_ _ | refine sl_alloc Ctl.cells_length ?_ _ | refine sl_drew ?_))) (by with_reducible (repeat (first | exact ht.out | refine World.sl_ext intC_length ?_ _ | refine sl_alloc intC_length ?_ _ | refine sl_drew ?_)))).mono ?_; rintro e w1 ⟨rfl, d1, rfl⟩) | (go_at_call 21; refine (HTW.out _ (by with_reducible (repeat (first | exact ht.out | refine World.sl_ext intC_length ?_ _ | refine sl_alloc intC_length ?_ _ | refine sl_drew ?_)))).mono ?_; rintro e w1 ⟨rfl, d2, rfl⟩))
    go_ret3
    exact ⟨_, rfl, (by repeat (first | with_reducible (first | exact World.gained_refl _ | exact ⟨_, rfl⟩ | apply gain_ext | apply gain_alloc | apply gain_drewN | apply gain_drew) | (refine gain_setCell ?_ (by first | exact Nat.le_refl _ | exact World.size_ext _ _ | (simp; done) | (simp; omega)) _))), own_nil _ _ _ _ _⟩
  have hd : decide (7 < (t.length : Int)) = false := decide_eq_false (by omega)
  have hd2 : decide (7 < t.length) = false := decide_eq_false (by omega)
  cases hT : twiceB t with
  | true =>
    rw [hT] at HTW
    have h0 : boB m l t = false := by simp [boB, *]
    rw [(bo_no h0).1, (bo_no h0).2, h0]
    clear h0
    go_enter Tryz.func6, Tryz.ntmps6
    go_wp2_with (first | (go_at_call 20; refine (HGD.out _ (mp_up (hm.out) (by repeat (first | with_reducible (first | exact World.gained_refl _ | exact ⟨_, rfl⟩ | apply gain_ext | apply gain_alloc | apply gain_drewN | apply gain_drew) | (refine gain_setCell ?_ (by first | exact Nat.le_refl _ | exact World.size_ext _ _ | (simp; done) | (simp; omega)) _)))) (by with_reducible (repeat (first | exact hs.out | refine World.sl_ext Ctl.cells_length ?_ _ | refine sl_alloc Ctl.cells_length ?_ _ | refine sl_drew ?_))) (by with_reducible (repeat (first | exact ht.out | refine World.sl_ext intC_length ?_ _ | refine sl_alloc intC_length ?_ _ | refine sl_drew ?_)))).mono ?_; rintro e w1 ⟨rfl, d1, rfl⟩) | (go_at_call 21; refine (HTW.out _ (by with_reducible (repeat (first | exact ht.out | refine World.sl_ext intC_length ?_ _ | refine sl_alloc intC_length ?_ _ | refine sl_drew ?_)))).mono ?_; rintro e w1 ⟨rfl, d2, rfl⟩))
    go_ret3
    exact ⟨_, rfl, (by repeat (first | with_reducible (first | exact World.gained_refl _ | exact ⟨_, rfl⟩ | apply gain_ext | apply gain_alloc | apply gain_drewN | apply gain_drew) | (refine gain_setCell ?_ (by first | exact Nat.le_refl _ | exact World.size_ext _ _ | (simp; done) | (simp; omega)) _))), own_nil _ _ _ _ _⟩
  | false =>
  rw [hT] at HTW
  have h0 : boB m l t = true := by simp [boB, hC, hT, h7]
  rw [(bo_yes h0).1, (bo_yes h0).2, h0]
  have hn := twiceB_nodup.1 hT
  have hCr := crsB_true hC
  have h2n := hCr.lo
  have HN := Lib.hid hn
  have HCR := Lib.hid hCr
  have hlast : lastI t = t[t.length - 1]'(by omega) := by simp [lastI, List.getD_eq_getElem?_getD, (show t.length - 1 < t.length by omega)]
  clear h0 hn hCr hC hT
  have hmm := @run_makeMap Tryz.prog
  go_enter Tryz.func6, Tryz.ntmps6
  go_upto_region 1 with fail
  have rM := row_upV (heap_alloc_new w (.cells #[.int .i64 m.wd, .int .i64 m.ht, .slice p1 m.rise.length c1, .slice p2 m.cost.length c2] 26)) (w' := (w.alloc (.cells #[.int .i64 m.wd, .int .i64 m.ht, .slice p1 m.rise.length c1, .slice p2 m.cost.length c2] 26)).alloc (.cells #[.slice pu t.length cu] 24)) (by repeat (first | with_reducible (first | exact World.gained_refl _ | exact ⟨_, rfl⟩ | apply gain_ext | apply gain_alloc | apply gain_drewN | apply gain_drew) | (refine gain_setCell ?_ (by first | exact Nat.le_refl _ | exact World.size_ext _ _ | (simp; done) | (simp; omega)) _)))
  have rC := heap_alloc_new (w.alloc (.cells #[.int .i64 m.wd, .int .i64 m.ht, .slice p1 m.rise.length c1, .slice p2 m.cost.length c2] 26)) (.cells #[.slice pu t.length cu] 24)
  rw [World.size_alloc] at rC
  have HUP := Lib.hid (show ∃ d, (w.alloc (.cells #[.int .i64 m.wd, .int .i64 m.ht, .slice p1 m.rise.length c1, .slice p2 m.cost.length c2] 26)).alloc (.cells #[.slice pu t.length cu] 24) = w.ext d from (by repeat (first | with_reducible (first | exact World.gained_refl _ | exact ⟨_, rfl⟩ | apply gain_ext | apply gain_alloc | apply gain_drewN | apply gain_drew) | (refine gain_setCell ?_ (by first | exact Nat.le_refl _ | exact World.size_ext _ _ | (simp; done) | (simp; omega)) _))))
  generalize (w.alloc (.cells #[.int .i64 m.wd, .int .i64 m.ht, .slice p1 m.rise.length c1, .slice p2 m.cost.length c2] 26)).alloc (.cells #[.slice pu t.length cu] 24) = W0 at rM rC HUP ⊢
  have HM0 := Lib.hid (mp_up hm.out HUP.out)
  have HS0 := Lib.hid (sl_up Ctl.cells_length hs.out HUP.out)
  have HT0 := Lib.hid (sl_up intC_length ht.out HUP.out)
  have HSZ := Lib.hid (gain_size HUP.out)
  have RM0 := Lib.hid rM
  have RC0 := Lib.hid rC
  have xm : W0.cell? ⟨w.heap.size, 0, none⟩ = some (.int .i64 m.wd) := World.cell_of_heap rM 0
  have xm1 : W0.cell? ⟨w.heap.size, 1, none⟩ = some (.int .i64 m.ht) := World.cell_of_heap rM 1
  have xm2 : W0.cell? ⟨w.heap.size, 2, none⟩ = some (.slice p1 m.rise.length c1) := World.cell_of_heap rM 2
  have xm3 : W0.cell? ⟨w.heap.size, 3, none⟩ = some (.slice p2 m.cost.length c2) := World.cell_of_heap rM 3
  have xc : W0.cell? ⟨w.heap.size + 1, 0, none⟩ = some (.slice pu t.length cu) := World.cell_of_heap rC 0
  have om := World.oldB_of_cell xm
  have oc := World.oldB_of_cell xc
  obtain ⟨bu, ou, rfl⟩ := sl_some HT0.out (by omega)
  have y0 := sl_int HT0.out (show t.length - 1 < t.length by omega)
  rw [← hlast] at y0
  have oby := World.oldB_of_cell y0
  have hwn : IntKind.i64.wrap ((t.length : Int) - 1) = (t.length : Int) - 1 := IntWalk.i64_in _ (by omega)
  have hw2 : ((t.length : Int) - 1).toNat = t.length - 1 := by omega
  have hq0 : (0 : Int) ≤ (t.length : Int) - 1 := by omega
  have hq1 : (t.length : Int) - 1 < (t.length : Int) := by omega
  have hq2 : (1 : Int) ≤ (t.length : Int) - 1 := by omega
  have hcu := sl_cap HT0.out
  have hq3 : (t.length : Int) - 1 ≤ (cu : Int) := by omega
  have hq4 : t.length - 1 ≤ cu := by omega
  have hq5 : 1 ≤ t.length - 1 := by omega
  clear hm hs ht rM rC
  go_upto_region 4 with (first | (go_at_call 20; refine (HGD.out _ (mp_up (HM0.out) (by repeat (first | with_reducible (first | exact World.gained_refl _ | exact ⟨_, rfl⟩ | apply gain_ext | apply gain_alloc | apply gain_drewN | apply gain_drew) | (refine gain_setCell ?_ (by first | exact Nat.le_refl _ | exact World.size_ext _ _ | (simp; done) | (simp; omega)) _)))) (by with_reducible (repeat (first | exact HS0.out | refine World.sl_ext Ctl.cells_length ?_ _ | refine sl_alloc Ctl.cells_length ?_ _ | refine sl_drew ?_))) (by with_reducible (repeat (first | exact HT0.out | refine World.sl_ext intC_length ?_ _ | refine sl_alloc intC_length ?_ _ | refine sl_drew ?_)))).mono ?_; rintro e w1 ⟨rfl, d1, rfl⟩) | (go_at_call 21; refine (HTW.out _ (by with_reducible (repeat (first | exact HT0.out | refine World.sl_ext intC_length ?_ _ | refine sl_alloc intC_length ?_ _ | refine sl_drew ?_)))).mono ?_; rintro e w1 ⟨rfl, d2, rfl⟩))
  go_upto_region 5 with fail
  simp only [← hlast]
  have HUX := Lib.hid (show ∃ d, ((W0.ext d1).ext d2).alloc (.cells #[.int .i64 (lastI t)] 3) = W0.ext d from (by repeat (first | with_reducible (first | exact World.gained_refl _ | exact ⟨_, rfl⟩ | apply gain_ext | apply gain_alloc | apply gain_drewN | apply gain_drew) | (refine gain_setCell ?_ (by first | exact Nat.le_refl _ | exact World.size_ext _ _ | (simp; done) | (simp; omega)) _))))
  have rL := heap_alloc_new ((W0.ext d1).ext d2) (.cells #[.int .i64 (lastI t)] 3)
  generalize hgL : ((W0.ext d1).ext d2).heap.size = gL at rL ⊢
  have hgl2 : (((W0.ext d1).ext d2).alloc (.cells #[.int .i64 (lastI t)] 3)).heap.size = gL + 1 := by rw [World.size_alloc, hgL]
  generalize ((W0.ext d1).ext d2).alloc (.cells #[.int .i64 (lastI t)] 3) = W1 at HUX rL hgl2 ⊢
  have HTM := Lib.hid (show W1.sl intC 1 (.slice (some ⟨bu, ou + 1, none⟩) (t.length - 1 - 1) (cu - 1)) (midT t) from by
    have h1 := sl_drop (k := 1) (sl_up intC_length HT0.out HUX.out) (by omega)
    have h2 := sl_take (k := t.length - 1 - 1) h1 (by rw [List.length_drop]; omega)
    simpa [midT, (show t.length - 1 - 1 = t.length - 2 by omega)] using h2)
  refine (copyInts_any _ (midT t) _ HTM.out (by rw [midT_len]; omega)).mono ?_
  rintro e w1 ⟨v1, rfl, ⟨d3, rfl⟩, ho1⟩
  have HO1 := Lib.hid ho1
  obtain ⟨pm1, km1, rfl, _⟩ := sl_of_own intC_length ho1
  clear ho1
  have HMI : Hid (midL t = (midT t).mergeSort fun x y => decide (x ≤ y)) := Lib.hid rfl
  have HSO := Lib.hid (show ∀ W2 : World, (∃ d, W2 = (W1.ext d3).ext d) → (∃ d, W2 = W1.ext d) →
      Calls Tryz.prog 23 #[.slice pm1 (midT t).length km1] W2 fun x w' => x = .returned (.tuple #[]) ∧ (∃ d, w' = W1.ext d) ∧ w'.own W1.heap.size 3 intC 1 (.slice pm1 (midT t).length km1) (midL t) ∧ W2.heap.size ≤ w'.heap.size ∧ ∀ (k : Nat) (o : Obj), (W1.ext d3).heap.size ≤ k → W2.heap[k]? = some o → w'.heap[k]? = some o from by
    intro W2 hW3 hW
    have ho := own_up HO1.out hW3
    rw [HMI.out]
    by_cases hz : (midT t).length = 0
    · have he := List.length_eq_zero_iff.1 hz
      rw [he] at ho ⊢
      refine (Any.slices_Sort_int_none Tryz.lays189 pm1 km1 W2).mono ?_
      rintro e w' ⟨rfl, rfl⟩
      exact ⟨rfl, hW, by rw [List.mergeSort_nil]; exact ho, Nat.le_refl _, fun k o _ h => h⟩
    · obtain ⟨g, cap, hv, _, hg⟩ := own_addr HO1.out (by omega)
      simp only [Value.slice.injEq] at hv
      obtain ⟨rfl, -, rfl⟩ := hv
      refine (sortInts_only W1 W2 W1.heap.size g km1 (midT t) hW (Nat.le_refl _) ho (by rw [midT_len]; omega)).mono ?_
      rintro e w' ⟨rfl, h1, h2, h3⟩
      exact ⟨rfl, h1, h2, h3.size, fun k o hk h => (h3.block k (Array.getElem?_eq_some_iff.1 h).1 (fun q => by injection q with q; omega)).trans h⟩)
  go_upto_region 5 with fail
  go_upto_region 6 with (go_at_call 23; refine (HSO.out _ (by repeat (first | with_reducible (first | exact World.gained_refl _ | exact ⟨_, rfl⟩ | apply gain_ext | apply gain_alloc | apply gain_drewN | apply gain_drew) | (refine gain_setCell ?_ (by first | exact Nat.le_refl _ | exact World.size_ext _ _ | (simp; done) | (simp; omega)) _))) (by repeat (first | with_reducible (first | exact World.gained_refl _ | exact ⟨_, rfl⟩ | apply gain_ext | apply gain_alloc | apply gain_drewN | apply gain_drew) | (refine gain_setCell ?_ (by first | exact Nat.le_refl _ | exact World.size_ext _ _ | (simp; done) | (simp; omega)) _)))).mono ?_; rintro e W3 ⟨rfl, hg3, ho3, hz3, hk3⟩)
  have r10 := hk3 _ _ (Nat.le_refl _) (heap_alloc_new (W1.ext d3) (.cells #[.slice pm1 (midT t).length km1] 24))
  have rM3 := row_upV RM0.out (gain_trans HUX.out hg3)
  have rC3 := row_upV RC0.out (gain_trans HUX.out hg3)
  have rL3 := row_upV rL hg3
  have HT3 := Lib.hid (sl_up intC_length HT0.out (gain_trans HUX.out hg3))
  have HM3 := Lib.hid (mp_up HM0.out (gain_trans HUX.out hg3))
  have HS3 := Lib.hid (sl_up Ctl.cells_length HS0.out (gain_trans HUX.out hg3))
  have HO3 := Lib.hid ho3
  have HG3 := Lib.hid hg3
  have x3c : W3.cell? ⟨w.heap.size + 1, 0, none⟩ = some (.slice (some ⟨bu, ou, none⟩) t.length cu) := World.cell_of_heap rC3 0
  have o3c := World.oldB_of_cell x3c
  have R3 := Lib.hid (And.intro rM3 (And.intro rC3 (And.intro rL3 r10)))
  clear rM3 rC3 rL3 r10 ho3 hg3 hk3 HO1 HTM HSO HGD HTW y0 oby xm xm1 xm2 xm3 xc om oc rL
  have HMA := Lib.hid (World.ownsMap_made W3 Tryz.prog 43 (plainElem (H := Unit) Tryz.prog 3))
  have rT := heap_alloc_new (W3.alloc (.map #[] 0)) (.cells #[.map (some W3.heap.size)] 48)
  rw [World.size_alloc] at rT
  have HRT := Lib.hid rT
  clear rT
  go_wp2_with fail
  go_loopw [50] (fun i_ wr => ∃ k : Nat, k ≤ t.length ∧ i_ = .int .i64 k ∧ (∃ d, wr = W3.ext d) ∧ wr.heap[W3.heap.size + 1]? = some (.cells #[.map (some W3.heap.size)] 48 (0, 0)) ∧ ∃ (n : Nat) (D : DataW Unit), n ≤ k * t.length ∧ wr.ownsMap Tryz.prog 43 (plainElem (H := Unit) Tryz.prog 3) W3.heap.size n D ∧ TmOk (tmT m l) (fun a b => a ∈ t.take k ∧ b ∈ t) D) (fun i_ _ => t.length - (intOf i_).toNat)
  case atStart => exact ⟨0, by omega, rfl, (by repeat (first | with_reducible (first | exact World.gained_refl _ | exact ⟨_, rfl⟩ | apply gain_ext | apply gain_alloc | apply gain_drewN | apply gain_drew) | (refine gain_setCell ?_ (by first | exact Nat.le_refl _ | exact World.size_ext _ _ | (simp; done) | (simp; omega)) _))), HRT.out, 0, .map [], by omega, ownsMap_up HMA.out (by repeat (first | with_reducible (first | exact World.gained_refl _ | exact ⟨_, rfl⟩ | apply gain_ext | apply gain_alloc | apply gain_drewN | apply gain_drew) | (refine gain_setCell ?_ (by first | exact Nat.le_refl _ | exact World.size_ext _ _ | (simp; done) | (simp; omega)) _))), tm_nil _ (fun a b h => by simp at h)⟩
  case round =>
    obtain ⟨k, hk, rfl, ⟨d, rfl⟩, hr11, n, D, hn, hM, hD⟩ := hrel
    have HR11 := Lib.hid hr11
    have HMM := Lib.hid hM
    have HD := Lib.hid hD
    clear hr11 hM hD HMA HRT
    by_cases hlt : k < t.length
    · have y0 := sl_int HT3.out hlt
      have hxt : t[k] ∈ t := List.getElem_mem hlt
      have HTK := Lib.hid (List.take_succ_eq_append_getElem hlt)
      generalize t[k] = x at y0 hxt HTK
      have oby := World.oldB_of_cell y0
      go_wp2_with fail
      go_loopw [56] (fun j_ wr => ∃ j : Nat, j ≤ t.length ∧ j_ = .int .i64 j ∧ (∃ d, wr = W3.ext d) ∧ wr.heap[W3.heap.size + 1]? = some (.cells #[.map (some W3.heap.size)] 48 (0, 0)) ∧ ∃ (n' : Nat) (D' : DataW Unit), n' ≤ k * t.length + j ∧ wr.ownsMap Tryz.prog 43 (plainElem (H := Unit) Tryz.prog 3) W3.heap.size n' D' ∧ TmOk (tmT m l) (fun a b => (a ∈ t.take k ∧ b ∈ t) ∨ (a = x ∧ b ∈ t.take j)) D') (fun j_ _ => t.length - (intOf j_).toNat)
      case atStart => exact ⟨0, by omega, rfl, (by repeat (first | with_reducible (first | exact World.gained_refl _ | exact ⟨_, rfl⟩ | apply gain_ext | apply gain_alloc | apply gain_drewN | apply gain_drew) | (refine gain_setCell ?_ (by first | exact Nat.le_refl _ | exact World.size_ext _ _ | (simp; done) | (simp; omega)) _))), HR11.out, n, D, by omega, HMM.out, tm_le HD.out (fun a b h => by simpa using h)⟩
      case round =>
        clear HR11 HMM HD
        obtain ⟨j, hj, rfl, ⟨d1, rfl⟩, hr11, n', D', hn', hM, hD⟩ := hrel
        have HR11 := Lib.hid hr11
        have HMM := Lib.hid hM
        have HD := Lib.hid hD
        clear hr11 hM hD
        by_cases hlj : j < t.length
        · have y1 := sl_int HT3.out hlj
          have hyt : t[j] ∈ t := List.getElem_mem hlj
          have HTJ := Lib.hid (List.take_succ_eq_append_getElem hlj)
          generalize t[j] = y at y1 hyt HTJ
          have oby1 := World.oldB_of_cell y1
          have xm0 : W3.cell? ⟨w.heap.size, 0, none⟩ = some (.int .i64 m.wd) := World.cell_of_heap R3.out.1 0
          have xm1 : W3.cell? ⟨w.heap.size, 1, none⟩ = some (.int .i64 m.ht) := World.cell_of_heap R3.out.1 1
          have xm2 : W3.cell? ⟨w.heap.size, 2, none⟩ = some (.slice p1 m.rise.length c1) := World.cell_of_heap R3.out.1 2
          have xm3 : W3.cell? ⟨w.heap.size, 3, none⟩ = some (.slice p2 m.cost.length c2) := World.cell_of_heap R3.out.1 3
          have om := World.oldB_of_cell xm0
          have x11 : (W3.ext d1).cell? ⟨W3.heap.size + 1, 0, none⟩ = some (.map (some W3.heap.size)) := World.cell_of_heap HR11.out 0
          have hxk : hasK l x = true := by
            obtain ⟨i, hi, rfl⟩ := List.getElem_of_mem hxt
            exact HCR.out.has i hi
          have hyk : hasK l y = true := by
            obtain ⟨i, hi, rfl⟩ := List.getElem_of_mem hyt
            exact HCR.out.has i hi
          have hcx := cellK_open HCR.out.good hxk
          have hcy := cellK_open HCR.out.good hyk
          have HCX := Lib.hid (fun W h => cellOf_any v l x W h hl hxk hcx.1)
          have HCY := Lib.hid (fun W h => cellOf_any v l y W h hl hyk hcy.1)
          obtain ⟨WW, HH, hok⟩ := mapB_ok (ctlsB_map HCR.out.good)
          have hbd := timeB_bd hok hcx.2.1 hcy.2.1 (crs_way HCR.out x hxt y hyt)
          have hTT : timeB m (cellN l x) (cellN l y) = tmT m l x y := by unfold tmT; omega
          have HLT := Lib.hid (fun W h => leastTime_any m (.slice p1 m.rise.length c1) (.slice p2 m.cost.length c2) WW HH (cellN l x) (cellN l y) W hok h hcx.2.1 hcy.2.1)
          rw [hTT] at HLT hbd
          have hwx := wf_has HCR.out.good hxk
          have hwy := wf_has HCR.out.good hyk
          clear hcx hcy hxk hyk hok hTT
          go_upto_region 13 with fail
          refine wp_region_held_drew (S := (fun w' => w'.cell? ⟨w.heap.size, 0, none⟩ = some (.int .i64 m.wd) ∧ w'.cell? ⟨w.heap.size, 1, none⟩ = some (.int .i64 m.ht) ∧ w'.cell? ⟨w.heap.size, 2, none⟩ = some (.slice p1 m.rise.length c1) ∧ w'.cell? ⟨w.heap.size, 3, none⟩ = some (.slice p2 m.cost.length c2) ∧ w'.cell? ⟨W3.heap.size + 1, 0, none⟩ = some (.map (some W3.heap.size)))) (by kernel_rfl) (by (try dsimp only); (refine ⟨?_, ?_, ?_, ?_, ?_⟩ <;> (with_reducible (repeat (first | assumption | refine cell_ext ?_ _ | refine cell_drew ?_ | refine cell_alloc ?_ _))))) (fun hHeld => ?_)
          refine wpAnyH_take (i := 0) (oi := ⟨_, _, _, _, _, _⟩) (v := ?_) rfl (by kernel_rfl) (by kernel_rfl) (by kernel_rfl) (fun _ _ _ h => h) (Or.inl ⟨by rfl, ?_⟩) (by assumption) ?_
          rotate_left
          · intro w hSw; (try dsimp only at hSw); go_simp; (try with_reducible rfl)
          try simp only [Act.put, List.setIfInBounds_toArray, List.set_cons_zero, List.set_cons_succ]
          refine wpAnyH_take (i := 1) (oi := ⟨_, _, _, _, _, _⟩) (v := ?_) rfl (by kernel_rfl) (by kernel_rfl) (by kernel_rfl) (fun _ _ _ h => h) (Or.inl ⟨by rfl, ?_⟩) (by assumption) ?_
          rotate_left
          · intro w hSw; (try dsimp only at hSw); go_simp; (try with_reducible rfl)
          try simp only [Act.put, List.setIfInBounds_toArray, List.set_cons_zero, List.set_cons_succ]
          refine wpAnyH_take (i := 2) (oi := ⟨_, _, _, _, _, _⟩) (v := ?_) rfl (by kernel_rfl) (by kernel_rfl) (by kernel_rfl) (fun _ _ _ h => h) (Or.inl ⟨by rfl, ?_⟩) (by assumption) ?_
          rotate_left
          · intro w hSw; (try dsimp only at hSw); go_simp; (try with_reducible rfl)
          try simp only [Act.put, List.setIfInBounds_toArray, List.set_cons_zero, List.set_cons_succ]
          refine wpAnyH_take (i := 3) (oi := ⟨_, _, _, _, _, _⟩) (v := ?_) rfl (by kernel_rfl) (by kernel_rfl) (by kernel_rfl) (fun _ _ _ h => h) (Or.inl ⟨by rfl, ?_⟩) (by assumption) ?_
          rotate_left
          · intro w hSw; (try dsimp only at hSw); go_simp; (try with_reducible rfl)
          try simp only [Act.put, List.setIfInBounds_toArray, List.set_cons_zero, List.set_cons_succ]
          refine wpAnyH_take (i := 4) (oi := ⟨_, _, _, _, _, _⟩) (v := ?_) rfl (by kernel_rfl) (by kernel_rfl) (by kernel_rfl) (fun _ _ _ h => h) (Or.inl ⟨by rfl, ?_⟩) (by assumption) ?_
          rotate_left
          · intro w hSw; (try dsimp only at hSw); go_simp; (try with_reducible rfl)
          try simp only [Act.put, List.setIfInBounds_toArray, List.set_cons_zero, List.set_cons_succ]
          refine wpAnyH_take (i := 5) (oi := ⟨_, _, _, _, _, _⟩) (v := ?_) rfl (by kernel_rfl) (by kernel_rfl) (by kernel_rfl) (fun _ _ _ h => h) (Or.inl ⟨by rfl, ?_⟩) (by assumption) ?_
          rotate_left
          · intro w hSw; (try dsimp only at hSw); go_simp; (try with_reducible rfl)
          try simp only [Act.put, List.setIfInBounds_toArray, List.set_cons_zero, List.set_cons_succ]
          refine wpAnyH_take (i := 6) (oi := ⟨_, _, _, _, _, _⟩) (v := ?_) rfl (by kernel_rfl) (by kernel_rfl) (by kernel_rfl) (fun _ _ _ h => h) (Or.inl ⟨by rfl, ?_⟩) (by assumption) ?_
          rotate_left
          · intro w hSw; (try dsimp only at hSw); go_simp; (try with_reducible rfl)
          try simp only [Act.put, List.setIfInBounds_toArray, List.set_cons_zero, List.set_cons_succ]
          refine wpAnyH_take (i := 8) (oi := ⟨_, _, _, _, _, _⟩) (v := ?_) rfl (by kernel_rfl) (by kernel_rfl) (by kernel_rfl) (fun _ _ _ h => h) (Or.inl ⟨by rfl, ?_⟩) (by assumption) ?_
          rotate_left
          · intro w hSw; (try dsimp only at hSw); go_simp; (try with_reducible rfl)
          try simp only [Act.put, List.setIfInBounds_toArray, List.set_cons_zero, List.set_cons_succ]
          refine wpAnyH_take (i := 9) (oi := ⟨_, _, _, _, _, _⟩) (v := ?_) rfl (by kernel_rfl) (by kernel_rfl) (by kernel_rfl) (fun _ _ _ h => h) (Or.inl ⟨by rfl, ?_⟩) (by assumption) ?_
          rotate_left
          · intro w hSw; (try dsimp only at hSw); go_simp; (try with_reducible rfl)
          try simp only [Act.put, List.setIfInBounds_toArray, List.set_cons_zero, List.set_cons_succ]
          refine wpAnyH_ready (rs := [7]) (by kernel_rfl) (by simp) ?_
          refine AllReadyH.cons rfl (fun K hK => ?_) AllReadyH.nil
          go_simp
          go_wp2_with (go_at_call 25; refine (HCX.out _ (by with_reducible (repeat (first | exact HS3.out | refine World.sl_ext Ctl.cells_length ?_ _ | refine sl_alloc Ctl.cells_length ?_ _ | refine sl_drew ?_)))).mono ?_; rintro e w1 ⟨rfl, d2, rfl⟩)
          refine hK.out _ _ ?_ (fun hHeld => ?_)
          · (try dsimp only); (refine ⟨?_, ?_, ?_, ?_, ?_⟩ <;> (with_reducible (repeat (first | assumption | refine cell_ext ?_ _ | refine cell_drew ?_ | refine cell_alloc ?_ _))))
          clear hK K
          try simp only [Act.put, List.setIfInBounds_toArray, List.set_cons_zero, List.set_cons_succ]
          refine wpAnyH_ready (rs := [10]) (by kernel_rfl) (by simp) ?_
          refine AllReadyH.cons rfl (fun K hK => ?_) AllReadyH.nil
          go_simp
          go_wp2_with (go_at_call 25; refine (HCY.out _ (by with_reducible (repeat (first | exact HS3.out | refine World.sl_ext Ctl.cells_length ?_ _ | refine sl_alloc Ctl.cells_length ?_ _ | refine sl_drew ?_)))).mono ?_; rintro e w1 ⟨rfl, d3, rfl⟩)
          refine hK.out _ _ ?_ (fun hHeld => ?_)
          · (try dsimp only); (refine ⟨?_, ?_, ?_, ?_, ?_⟩ <;> (with_reducible (repeat (first | assumption | refine cell_ext ?_ _ | refine cell_drew ?_ | refine cell_alloc ?_ _))))
          clear hK K
          try simp only [Act.put, List.setIfInBounds_toArray, List.set_cons_zero, List.set_cons_succ]
          refine wpAnyH_ready (rs := [11]) (by kernel_rfl) (by simp) ?_
          refine AllReadyH.cons rfl (fun K hK => ?_) AllReadyH.nil
          go_simp
          go_wp2_with (go_at_call 24; refine (HLT.out _ (mp_up (HM3.out) (by repeat (first | with_reducible (first | exact World.gained_refl _ | exact ⟨_, rfl⟩ | apply gain_ext | apply gain_alloc | apply gain_drewN | apply gain_drew) | (refine gain_setCell ?_ (by first | exact Nat.le_refl _ | exact World.size_ext _ _ | (simp; done) | (simp; omega)) _))))).mono ?_; rintro e w1 ⟨rfl, d4, rfl⟩)
          refine hK.out _ _ ?_ (fun hHeld => ?_)
          · (try dsimp only); (refine ⟨?_, ?_, ?_, ?_, ?_⟩ <;> (with_reducible (repeat (first | assumption | refine cell_ext ?_ _ | refine cell_drew ?_ | refine cell_alloc ?_ _))))
          clear hK K
          try simp only [Act.put, List.setIfInBounds_toArray, List.set_cons_zero, List.set_cons_succ]
          have hkey : keyOf Tryz.prog 43 (.agg #[.int .i64 x, .int .i64 y]) = some (kp x y) := key_pair hwx hwy
          have hnn : n' < maxLen := by
            have : k * t.length ≤ 7 * 7 := Nat.mul_le_mul (by omega) h7
            unfold maxLen; omega
          refine wpAnyH_ready (rs := [12]) (by kernel_rfl) (by simp) ?_
          refine AllReadyH.cons rfl (fun K hK => ?_) AllReadyH.nil
          refine step_mapUpdate (H := Unit) _ rfl _ _ _ 48 rfl 43 3 law_pair Tryz.underlying48 _ W3.heap.size n' D' rfl (ownsMap_up HMM.out (by repeat (first | with_reducible (first | exact World.gained_refl _ | exact ⟨_, rfl⟩ | apply gain_ext | apply gain_alloc | apply gain_drewN | apply gain_drew) | (refine gain_setCell ?_ (by first | exact Nat.le_refl _ | exact World.size_ext _ _ | (simp; done) | (simp; omega)) _)))) hnn _ _ _ rfl rfl hkey _ [] (plainElem_int Tryz.underlying3 (WalkArith.wf_i64 (by omega))) ?_
          intro w1 hown1 hgrow1
          have hr6 := (hgrow1.block (W3.heap.size + 1) (Array.getElem?_eq_some_iff.1 (row_upV HR11.out (by repeat (first | with_reducible (first | exact World.gained_refl _ | exact ⟨_, rfl⟩ | apply gain_ext | apply gain_alloc | apply gain_drewN | apply gain_drew) | (refine gain_setCell ?_ (by first | exact Nat.le_refl _ | exact World.size_ext _ _ | (simp; done) | (simp; omega)) _))))).1 (fun q => by injection q with q; omega)).trans (row_upV HR11.out (by repeat (first | with_reducible (first | exact World.gained_refl _ | exact ⟨_, rfl⟩ | apply gain_ext | apply gain_alloc | apply gain_drewN | apply gain_drew) | (refine gain_setCell ?_ (by first | exact Nat.le_refl _ | exact World.size_ext _ _ | (simp; done) | (simp; omega)) _))))
          obtain ⟨d6, rfl⟩ := gain_grown (W := W3) (by repeat (first | with_reducible (first | exact World.gained_refl _ | exact ⟨_, rfl⟩ | apply gain_ext | apply gain_alloc | apply gain_drewN | apply gain_drew) | (refine gain_setCell ?_ (by first | exact Nat.le_refl _ | exact World.size_ext _ _ | (simp; done) | (simp; omega)) _))) hgrow1 (fun b hb => by injection hb with hb; omega)
          have HR6 := Lib.hid hr6
          have HO6 := Lib.hid hown1
          have x11' : (W3.ext d6).cell? ⟨W3.heap.size + 1, 0, none⟩ = some (.map (some W3.heap.size)) := World.cell_of_heap hr6 0
          clear hr6 hown1 hgrow1
          (try dsimp only)
          refine hK.out _ _ ?_ (fun hHeld => ?_)
          · (try dsimp only); (refine ⟨?_, ?_, ?_, ?_, ?_⟩ <;> (with_reducible (repeat (first | assumption | refine cell_ext ?_ _ | refine cell_drew ?_ | refine cell_alloc ?_ _))))
          clear hK K
          try simp only [Act.put, List.setIfInBounds_toArray]
          refine wpAnyH_done (by kernel_rfl) ?_ _
          go_wp2_with fail
          go_roundw
          case rel => exact ⟨j + 1, by omega, by go_num, (by repeat (first | with_reducible (first | exact World.gained_refl _ | exact ⟨_, rfl⟩ | apply gain_ext | apply gain_alloc | apply gain_drewN | apply gain_drew) | (refine gain_setCell ?_ (by first | exact Nat.le_refl _ | exact World.size_ext _ _ | (simp; done) | (simp; omega)) _))), HR6.out, n' + 1, _, by omega, HO6.out, tm_put HD.out hwx hwy (fun a b h => by
            rw [HTJ.out, List.mem_append, List.mem_singleton] at h
            rcases h with h | ⟨h1, h2 | h2⟩
            · exact .inl (.inl h)
            · exact .inl (.inr ⟨h1, h2⟩)
            · exact .inr ⟨h1, h2⟩)⟩
          case measure => simp [intOf]; omega
        · obtain rfl : j = t.length := by omega
          go_wp2_with fail
          go_roundw
          case rel => exact ⟨k + 1, by omega, by go_num, (by repeat (first | with_reducible (first | exact World.gained_refl _ | exact ⟨_, rfl⟩ | apply gain_ext | apply gain_alloc | apply gain_drewN | apply gain_drew) | (refine gain_setCell ?_ (by first | exact Nat.le_refl _ | exact World.size_ext _ _ | (simp; done) | (simp; omega)) _))), HR11.out, n', D', by rw [Nat.succ_mul]; omega, HMM.out, tm_le HD.out (fun a b h => by
            obtain ⟨h1, h2⟩ := h
            rw [HTK.out, List.mem_append, List.mem_singleton] at h1
            rcases h1 with h1 | h1
            · exact .inl ⟨h1, h2⟩
            · exact .inr ⟨h1, by rw [List.take_length]; exact h2⟩)⟩
          case measure => simp [intOf]; omega
    · obtain rfl : k = t.length := by omega
      have HD2 := Lib.hid (tm_le (Q' := fun a b => a ∈ t ∧ b ∈ t) HD.out (fun a b h => by rw [List.take_length]; exact h))
      clear HD
      go_upto_region 18 with fail
      have r16 := row_upV (heap_alloc_new ((W3.ext d).alloc (.cells #[] 3)) (.cells #[.slice (some ⟨(W3.ext d).heap.size, 0, none⟩) 0 0] 24)) (w' := (((((W3.ext d).alloc (.cells #[] 3)).alloc (.cells #[.slice (some ⟨(W3.ext d).heap.size, 0, none⟩) 0 0] 24)).alloc (.cells #[.int .i64 (-1)] 3)).alloc (.cells #[.nilFunc] 51))) (by repeat (first | with_reducible (first | exact World.gained_refl _ | exact ⟨_, rfl⟩ | apply gain_ext | apply gain_alloc | apply gain_drewN | apply gain_drew) | (refine gain_setCell ?_ (by first | exact Nat.le_refl _ | exact World.size_ext _ _ | (simp; done) | (simp; omega)) _)))
      have r17 := row_upV (heap_alloc_new (((W3.ext d).alloc (.cells #[] 3)).alloc (.cells #[.slice (some ⟨(W3.ext d).heap.size, 0, none⟩) 0 0] 24)) (.cells #[.int .i64 (-1)] 3)) (w' := (((((W3.ext d).alloc (.cells #[] 3)).alloc (.cells #[.slice (some ⟨(W3.ext d).heap.size, 0, none⟩) 0 0] 24)).alloc (.cells #[.int .i64 (-1)] 3)).alloc (.cells #[.nilFunc] 51))) (by repeat (first | with_reducible (first | exact World.gained_refl _ | exact ⟨_, rfl⟩ | apply gain_ext | apply gain_alloc | apply gain_drewN | apply gain_drew) | (refine gain_setCell ?_ (by first | exact Nat.le_refl _ | exact World.size_ext _ _ | (simp; done) | (simp; omega)) _)))
      have r18 := heap_alloc_new ((((W3.ext d).alloc (.cells #[] 3)).alloc (.cells #[.slice (some ⟨(W3.ext d).heap.size, 0, none⟩) 0 0] 24)).alloc (.cells #[.int .i64 (-1)] 3)) (.cells #[.nilFunc] 51)
      have HBE := Lib.hid (own_up (w' := (((((W3.ext d).alloc (.cells #[] 3)).alloc (.cells #[.slice (some ⟨(W3.ext d).heap.size, 0, none⟩) 0 0] 24)).alloc (.cells #[.int .i64 (-1)] 3)).alloc (.cells #[.nilFunc] 51))) (own_lit' (w := W3.ext d) (e := 3) (base := W3.heap.size) (l := ([] : List Int)) (C := #[]) intC_length rfl rfl (gain_size (by repeat (first | with_reducible (first | exact World.gained_refl _ | exact ⟨_, rfl⟩ | apply gain_ext | apply gain_alloc | apply gain_drewN | apply gain_drew) | (refine gain_setCell ?_ (by first | exact Nat.le_refl _ | exact World.size_ext _ _ | (simp; done) | (simp; omega)) _))))) (by repeat (first | with_reducible (first | exact World.gained_refl _ | exact ⟨_, rfl⟩ | apply gain_ext | apply gain_alloc | apply gain_drewN | apply gain_drew) | (refine gain_setCell ?_ (by first | exact Nat.le_refl _ | exact World.size_ext _ _ | (simp; done) | (simp; omega)) _))))
      have HGF := Lib.hid (show ∃ d', (((((W3.ext d).alloc (.cells #[] 3)).alloc (.cells #[.slice (some ⟨(W3.ext d).heap.size, 0, none⟩) 0 0] 24)).alloc (.cells #[.int .i64 (-1)] 3)).alloc (.cells #[.nilFunc] 51)) = (W3.ext d).ext d' from (by repeat (first | with_reducible (first | exact World.gained_refl _ | exact ⟨_, rfl⟩ | apply gain_ext | apply gain_alloc | apply gain_drewN | apply gain_drew) | (refine gain_setCell ?_ (by first | exact Nat.le_refl _ | exact World.size_ext _ _ | (simp; done) | (simp; omega)) _))))
      simp only [World.size_alloc] at r16 r17 r18
      generalize (((((W3.ext d).alloc (.cells #[] 3)).alloc (.cells #[.slice (some ⟨(W3.ext d).heap.size, 0, none⟩) 0 0] 24)).alloc (.cells #[.int .i64 (-1)] 3)).alloc (.cells #[.nilFunc] 51)) = Z at r16 r17 r18 HBE HGF ⊢
      have x18 : Z.cell? ⟨(W3.ext d).heap.size + 1 + 1 + 1, 0, none⟩ = some .nilFunc := World.cell_of_heap r18 0
      have z18 : Z.frozen? ⟨(W3.ext d).heap.size + 1 + 1 + 1, 0, none⟩ = false := World.free_of_heap r18 0
      have o18 := World.oldB_of_cell x18
      go_upto_region 19 with fail
      have HGZ : Hid (∃ d', Z = W3.ext d') := Lib.hid (gain_trans ⟨d, rfl⟩ HGF.out)
      have HWZ : Hid (∃ d', Z = w.ext d') := Lib.hid (gain_trans HUP.out (gain_trans HUX.out (gain_trans HG3.out HGZ.out)))
      have HKV := Lib.hid (kept2_set (kept2_refl Z ((W3.ext d).heap.size + 1 + 1 + 1) ((W3.ext d).heap.size + 1 + 1 + 1)) (i := 0) (.inl rfl) (.func (.func 26) #[] #[.pointer (some ⟨(W1.ext d3).heap.size, 0, none⟩), .pointer (some ⟨(W3.ext d).heap.size + 1 + 1 + 1, 0, none⟩), .pointer (some ⟨W3.heap.size + 1, 0, none⟩), .pointer (some ⟨w.heap.size + 1, 0, none⟩), .pointer (some ⟨gL, 0, none⟩), .pointer (some ⟨(W3.ext d).heap.size + 1 + 1, 0, none⟩), .pointer (some ⟨(W3.ext d).heap.size + 1, 0, none⟩)]))
      have v18 := World.heap_setCell_row r18 0 (.func (.func 26) #[] #[.pointer (some ⟨(W1.ext d3).heap.size, 0, none⟩), .pointer (some ⟨(W3.ext d).heap.size + 1 + 1 + 1, 0, none⟩), .pointer (some ⟨W3.heap.size + 1, 0, none⟩), .pointer (some ⟨w.heap.size + 1, 0, none⟩), .pointer (some ⟨gL, 0, none⟩), .pointer (some ⟨(W3.ext d).heap.size + 1 + 1, 0, none⟩), .pointer (some ⟨(W3.ext d).heap.size + 1, 0, none⟩)])
      simp only [List.setIfInBounds_toArray, List.set_cons_zero] at v18
      generalize Z.setCell ⟨(W3.ext d).heap.size + 1 + 1 + 1, 0, none⟩ (.func (.func 26) #[] #[.pointer (some ⟨(W1.ext d3).heap.size, 0, none⟩), .pointer (some ⟨(W3.ext d).heap.size + 1 + 1 + 1, 0, none⟩), .pointer (some ⟨W3.heap.size + 1, 0, none⟩), .pointer (some ⟨w.heap.size + 1, 0, none⟩), .pointer (some ⟨gL, 0, none⟩), .pointer (some ⟨(W3.ext d).heap.size + 1 + 1, 0, none⟩), .pointer (some ⟨(W3.ext d).heap.size + 1, 0, none⟩)]) = V at HKV v18 ⊢
      have q1 := (Array.getElem?_eq_some_iff.1 R3.out.2.2.2).1
      have q2 := (Array.getElem?_eq_some_iff.1 R3.out.2.1).1
      have q3 := (Array.getElem?_eq_some_iff.1 R3.out.2.2.1).1
      have q4 := (Array.getElem?_eq_some_iff.1 HR11.out).1
      have q5 := (Array.getElem?_eq_some_iff.1 r18).1
      have q6 := gain_size HGZ.out
      have q7 := HKV.out.size
      have hmo : ∀ q, (Value.slice pm1 (midT t).length km1).ownBlock = some q → q < W3.heap.size := fun q e => (own_lt HO3.out q e).2
      have HV0 : Hid (VSt ⟨Z.heap.size, W3.heap.size, (W1.ext d3).heap.size, (W3.ext d).heap.size + 1 + 1 + 1, W3.heap.size + 1, w.heap.size + 1, gL, (W3.ext d).heap.size + 1 + 1, (W3.ext d).heap.size + 1, W3.heap.size, n, .slice pm1 (midT t).length km1, .slice (some ⟨bu, ou, none⟩) t.length cu, (.func (.func 26) #[] #[.pointer (some ⟨(W1.ext d3).heap.size, 0, none⟩), .pointer (some ⟨(W3.ext d).heap.size + 1 + 1 + 1, 0, none⟩), .pointer (some ⟨W3.heap.size + 1, 0, none⟩), .pointer (some ⟨w.heap.size + 1, 0, none⟩), .pointer (some ⟨gL, 0, none⟩), .pointer (some ⟨(W3.ext d).heap.size + 1 + 1, 0, none⟩), .pointer (some ⟨(W3.ext d).heap.size + 1, 0, none⟩)])⟩ (midL t) (lastI t) D V (.slice (some ⟨(W3.ext d).heap.size, 0, none⟩) 0 0) noO) := Lib.hid ⟨
        row_kept2 (row_upV R3.out.2.2.2 HGZ.out) HKV.out (by (try dsimp only); omega) (by (try dsimp only); omega),
        v18,
        row_kept2 (row_upV HR11.out HGF.out) HKV.out (by (try dsimp only); omega) (by (try dsimp only); omega),
        row_kept2 (row_upV R3.out.2.1 HGZ.out) HKV.out (by (try dsimp only); omega) (by (try dsimp only); omega),
        row_kept2 (row_upV R3.out.2.2.1 HGZ.out) HKV.out (by (try dsimp only); omega) (by (try dsimp only); omega),
        row_kept2 r17 HKV.out (by (try dsimp only); omega) (by (try dsimp only); omega),
        row_kept2 r16 HKV.out (by (try dsimp only); omega) (by (try dsimp only); omega),
        own_kept2 (own_base (own_up HO3.out HGZ.out) (Nat.zero_le _)) HKV.out (fun q e => by have := hmo q e; (try dsimp only); omega),
        map_kept2 (ownsMap_up HMM.out HGF.out) HKV.out (by (try dsimp only); omega) (by (try dsimp only); omega),
        own_kept2 HBE.out HKV.out (fun q e => by cases e; (try dsimp only); omega),
        by (try dsimp only); (refine ⟨?_, ?_, ?_, ?_, ?_, ?_, ?_, ?_, ?_, ?_, ?_, ?_, ?_⟩ <;> (try dsimp only) <;> omega),
        fun q e => by have := hmo q e; (try dsimp only); omega,
        by (try dsimp only); omega,
        q7,
        q6⟩
      have ht0 : 0 < t.length := by omega
      have y0 := sl_int (sl_up intC_length HT3.out HGZ.out) ht0
      rw [Nat.add_zero] at y0
      have hbu : bu < W3.heap.size := World.lt_of_cell (a := ⟨bu, ou + 0, none⟩) (by rw [sl_int HT3.out ht0]; rfl)
      have hx0 := take_one ht0
      have hxm : t[0] ∈ t := List.getElem_mem ht0
      have HHAS := Lib.hid (fun (a : Int) (ha : a ∈ t) => (show hasK l a = true from by
        obtain ⟨i, hi, rfl⟩ := List.getElem_of_mem ha
        exact HCR.out.has i hi))
      have HTO : Hid (TOk (tmT m l) (fun a b => a ∈ t ∧ b ∈ t) t D) := Lib.hid ⟨HD2.out, fun a ha b hb => ⟨ha, hb⟩, fun a ha => wf_has HCR.out.good (HHAS.out a ha), tmT_pos m l, fun a ha b hb => by
        obtain ⟨WW, HH, hok⟩ := mapB_ok (ctlsB_map HCR.out.good)
        have := timeB_bd hok (cellK_open HCR.out.good (HHAS.out a ha)).2.1 (cellK_open HCR.out.good (HHAS.out b hb)).2.1 (crs_way HCR.out a ha b hb)
        unfold tmT
        omega⟩
      have hlm : lastI t ∈ t := by rw [hlast]; exact List.getElem_mem _
      have hmi : ∀ x ∈ midL t, x ∈ t := fun x hx => (mid_perm h2n).mem_iff.1 (List.mem_append_left _ (List.mem_append_right _ hx))
      have hmd : (midL t).Nodup := (mid_asc HN.out).imp fun h => Int.ne_of_lt h
      have hrs : restO (midL t) [t[0]] = midL t := by rw [← hx0]; exact rest_start h2n HN.out
      have HVO : Hid (visS (tmT m l) (lastI t) (midL t) (t.length - 2) [t[0]] 0 noO = boR m l t) := Lib.hid (by
        have h := vis_ord (tmT m l) (lastI t) (tmT_pos m l) hmd (t.length - 2) [t[0]] noO (by simp) (by rw [hrs, midL_len])
        have hs0 : sumT (tmT m l) [t[0]] = 0 := rfl
        rw [hrs, better_no, hs0, ← hx0] at h
        rw [← hx0]
        exact h)
      have HVIS : Hid (∀ (ov : Value) (W : World), VSt ⟨Z.heap.size, W3.heap.size, (W1.ext d3).heap.size, (W3.ext d).heap.size + 1 + 1 + 1, W3.heap.size + 1, w.heap.size + 1, gL, (W3.ext d).heap.size + 1 + 1, (W3.ext d).heap.size + 1, W3.heap.size, n, .slice pm1 (midT t).length km1, .slice (some ⟨bu, ou, none⟩) t.length cu, (.func (.func 26) #[] #[.pointer (some ⟨(W1.ext d3).heap.size, 0, none⟩), .pointer (some ⟨(W3.ext d).heap.size + 1 + 1 + 1, 0, none⟩), .pointer (some ⟨W3.heap.size + 1, 0, none⟩), .pointer (some ⟨w.heap.size + 1, 0, none⟩), .pointer (some ⟨gL, 0, none⟩), .pointer (some ⟨(W3.ext d).heap.size + 1 + 1, 0, none⟩), .pointer (some ⟨(W3.ext d).heap.size + 1, 0, none⟩)])⟩ (midL t) (lastI t) D W (.slice (some ⟨(W3.ext d).heap.size, 0, none⟩) 0 0) noO → W.own Z.heap.size 3 intC 1 ov [t[0]] →
          Calls Tryz.prog 26 #[ov, .int .i64 0, .pointer (some ⟨(W1.ext d3).heap.size, 0, none⟩), .pointer (some ⟨(W3.ext d).heap.size + 1 + 1 + 1, 0, none⟩), .pointer (some ⟨W3.heap.size + 1, 0, none⟩), .pointer (some ⟨w.heap.size + 1, 0, none⟩), .pointer (some ⟨gL, 0, none⟩), .pointer (some ⟨(W3.ext d).heap.size + 1 + 1, 0, none⟩), .pointer (some ⟨(W3.ext d).heap.size + 1, 0, none⟩)] W fun x w' =>
            x = .returned (.tuple #[]) ∧ W.kept2 w' ((W3.ext d).heap.size + 1 + 1) ((W3.ext d).heap.size + 1) ∧ ∃ best', VSt ⟨Z.heap.size, W3.heap.size, (W1.ext d3).heap.size, (W3.ext d).heap.size + 1 + 1 + 1, W3.heap.size + 1, w.heap.size + 1, gL, (W3.ext d).heap.size + 1 + 1, (W3.ext d).heap.size + 1, W3.heap.size, n, .slice pm1 (midT t).length km1, .slice (some ⟨bu, ou, none⟩) t.length cu, (.func (.func 26) #[] #[.pointer (some ⟨(W1.ext d3).heap.size, 0, none⟩), .pointer (some ⟨(W3.ext d).heap.size + 1 + 1 + 1, 0, none⟩), .pointer (some ⟨W3.heap.size + 1, 0, none⟩), .pointer (some ⟨w.heap.size + 1, 0, none⟩), .pointer (some ⟨gL, 0, none⟩), .pointer (some ⟨(W3.ext d).heap.size + 1 + 1, 0, none⟩), .pointer (some ⟨(W3.ext d).heap.size + 1, 0, none⟩)])⟩ (midL t) (lastI t) D w' best' (boR m l t)) := Lib.hid (fun ov W hV ho => by
        rw [← HVO.out]
        exact visit_any (tmT m l) (fun a b => a ∈ t ∧ b ∈ t) t (midL t) (lastI t) D HTO.out ⟨Z.heap.size, W3.heap.size, (W1.ext d3).heap.size, (W3.ext d).heap.size + 1 + 1 + 1, W3.heap.size + 1, w.heap.size + 1, gL, (W3.ext d).heap.size + 1 + 1, (W3.ext d).heap.size + 1, W3.heap.size, n, .slice pm1 (midT t).length km1, .slice (some ⟨bu, ou, none⟩) t.length cu, (.func (.func 26) #[] #[.pointer (some ⟨(W1.ext d3).heap.size, 0, none⟩), .pointer (some ⟨(W3.ext d).heap.size + 1 + 1 + 1, 0, none⟩), .pointer (some ⟨W3.heap.size + 1, 0, none⟩), .pointer (some ⟨w.heap.size + 1, 0, none⟩), .pointer (some ⟨gL, 0, none⟩), .pointer (some ⟨(W3.ext d).heap.size + 1 + 1, 0, none⟩), .pointer (some ⟨(W3.ext d).heap.size + 1, 0, none⟩)])⟩ (some ⟨bu, ou, none⟩) cu t.length rfl h7 (by rw [midL_len]; omega) rfl hlm hmi hmd (t.length - 2) [t[0]] ov 0 noO _ W hV ho (by simp) (fun x hx => by rw [List.mem_singleton.1 hx]; exact hxm) (by rw [hrs, midL_len]) (by simp only [List.length_cons, List.length_nil]; omega) (by simp))
      clear HVO hrs hmd hmi hlm HTO HHAS hx0 hxm HD2
      generalize t[0] = x at y0 HVIS
      have xf : V.cell? ⟨(W3.ext d).heap.size + 1 + 1 + 1, 0, none⟩ = some (.func (.func 26) #[] #[.pointer (some ⟨(W1.ext d3).heap.size, 0, none⟩), .pointer (some ⟨(W3.ext d).heap.size + 1 + 1 + 1, 0, none⟩), .pointer (some ⟨W3.heap.size + 1, 0, none⟩), .pointer (some ⟨w.heap.size + 1, 0, none⟩), .pointer (some ⟨gL, 0, none⟩), .pointer (some ⟨(W3.ext d).heap.size + 1 + 1, 0, none⟩), .pointer (some ⟨(W3.ext d).heap.size + 1, 0, none⟩)]) := World.cell_of_heap v18 0
      have xc5 : V.cell? ⟨w.heap.size + 1, 0, none⟩ = some (.slice (some ⟨bu, ou, none⟩) t.length cu) := World.cell_of_heap HV0.out.crs 0
      have xt0 : V.cell? ⟨bu, ou, none⟩ = some (.int .i64 x) := cell_kept2 y0 HKV.out (by (try dsimp only); omega) (by (try dsimp only); omega)
      have of := World.oldB_of_cell xf
      have oc5 := World.oldB_of_cell xc5
      have ot0 := World.oldB_of_cell xt0
      have HGV : Hid (∃ d', V = w.ext d') := Lib.hid (gain_kept2 HKV.out HWZ.out (by (try dsimp only); omega) (by (try dsimp only); omega))
      clear y0 r16 r17 r18 v18 HBE HO3 HMM HR11 R3 HT3 HM3 HS3 HG3 x3c o3c x18 z18 o18
      refine wp_region_held_drew (S := (fun w' => w'.cell? ⟨(W3.ext d).heap.size + 1 + 1 + 1, 0, none⟩ = some (.func (.func 26) #[] #[.pointer (some ⟨(W1.ext d3).heap.size, 0, none⟩), .pointer (some ⟨(W3.ext d).heap.size + 1 + 1 + 1, 0, none⟩), .pointer (some ⟨W3.heap.size + 1, 0, none⟩), .pointer (some ⟨w.heap.size + 1, 0, none⟩), .pointer (some ⟨gL, 0, none⟩), .pointer (some ⟨(W3.ext d).heap.size + 1 + 1, 0, none⟩), .pointer (some ⟨(W3.ext d).heap.size + 1, 0, none⟩)]) ∧ w'.cell? ⟨w.heap.size + 1, 0, none⟩ = some (.slice (some ⟨bu, ou, none⟩) t.length cu) ∧ w'.cell? ⟨bu, ou, none⟩ = some (.int .i64 x))) (by kernel_rfl) (by (try dsimp only); (refine ⟨?_, ?_, ?_⟩ <;> (with_reducible (repeat (first | assumption | refine cell_ext ?_ _ | refine cell_drew ?_ | refine cell_alloc ?_ _))))) (fun hHeld => ?_)
      refine wpAnyH_take (i := 0) (oi := ⟨_, _, _, _, _, _⟩) (v := ?_) rfl (by kernel_rfl) (by kernel_rfl) (by kernel_rfl) (fun _ _ _ h => h) (Or.inl ⟨by rfl, ?_⟩) (by assumption) ?_
      rotate_left
      · intro w hSw; (try dsimp only at hSw); go_simp; (try with_reducible rfl)
      try simp only [Act.put, List.setIfInBounds_toArray, List.set_cons_zero, List.set_cons_succ]
      refine wpAnyH_take (i := 1) (oi := ⟨_, _, _, _, _, _⟩) (v := ?_) rfl (by kernel_rfl) (by kernel_rfl) (by kernel_rfl) (fun _ _ _ h => h) (Or.inl ⟨by rfl, ?_⟩) (by assumption) ?_
      rotate_left
      · intro w hSw; (try dsimp only at hSw); go_simp; (try with_reducible rfl)
      try simp only [Act.put, List.setIfInBounds_toArray, List.set_cons_zero, List.set_cons_succ]
      refine wpAnyH_take (i := 2) (oi := ⟨_, _, _, _, _, _⟩) (v := ?_) rfl (by kernel_rfl) (by kernel_rfl) (by kernel_rfl) (fun _ _ _ h => h) (Or.inl ⟨by rfl, ?_⟩) (by assumption) ?_
      rotate_left
      · intro w hSw; (try dsimp only at hSw); go_simp; (try with_reducible rfl)
      try simp only [Act.put, List.setIfInBounds_toArray, List.set_cons_zero, List.set_cons_succ]
      refine wpAnyH_take (i := 3) (oi := ⟨_, _, _, _, _, _⟩) (v := ?_) rfl (by kernel_rfl) (by kernel_rfl) (by kernel_rfl) (fun _ _ _ h => h) (Or.inl ⟨by rfl, ?_⟩) (by assumption) ?_
      rotate_left
      · intro w hSw; (try dsimp only at hSw); go_simp; (try with_reducible rfl)
      try simp only [Act.put, List.setIfInBounds_toArray, List.set_cons_zero, List.set_cons_succ]
      refine wpAnyH_ready (rs := [4]) (by kernel_rfl) (by simp) ?_
      refine AllReadyH.cons rfl (fun K hK => ?_) (AllReadyH.nil)
      go_simp
      have HOV := Lib.hid (own_lit' (w := V.drew) (e := 3) (base := Z.heap.size) (l := [x]) (C := #[.int .i64 x]) (g := V.heap.size) intC_length rfl rfl q7)
      have HVA := Lib.hid (HV0.out.up (wr' := V.drew.alloc (.cells #[.int .i64 x] 3)) (by repeat (first | with_reducible (first | exact World.gained_refl _ | exact ⟨_, rfl⟩ | apply gain_ext | apply gain_alloc | apply gain_drewN | apply gain_drew) | (refine gain_setCell ?_ (by first | exact Nat.le_refl _ | exact World.size_ext _ _ | (simp; done) | (simp; omega)) _))))
      (try dsimp only)
      refine hK.out _ _ ?_ (fun hHeld => ?_)
      · (try dsimp only); (refine ⟨?_, ?_, ?_⟩ <;> (with_reducible (repeat (first | assumption | refine cell_ext ?_ _ | refine cell_drew ?_ | refine cell_alloc ?_ _))))
      clear hK K
      try simp only [Act.put, List.setIfInBounds_toArray]
      refine wpAnyH_ready (rs := [5]) (by kernel_rfl) (by simp) ?_
      refine AllReadyH.cons rfl (fun K hK => ?_) (AllReadyH.nil)
      go_simp
      go_wp2_with fail
      refine (HVIS.out _ _ HVA.out HOV.out).mono ?_
      rintro e w1 ⟨rfl, hk4, best2, hv4⟩
      have HV4 := Lib.hid hv4
      have HK4 := Lib.hid hk4
      have z1 : w1.cell? ⟨(W3.ext d).heap.size + 1 + 1 + 1, 0, none⟩ = some (.func (.func 26) #[] #[.pointer (some ⟨(W1.ext d3).heap.size, 0, none⟩), .pointer (some ⟨(W3.ext d).heap.size + 1 + 1 + 1, 0, none⟩), .pointer (some ⟨W3.heap.size + 1, 0, none⟩), .pointer (some ⟨w.heap.size + 1, 0, none⟩), .pointer (some ⟨gL, 0, none⟩), .pointer (some ⟨(W3.ext d).heap.size + 1 + 1, 0, none⟩), .pointer (some ⟨(W3.ext d).heap.size + 1, 0, none⟩)]) := World.cell_of_heap hv4.vis 0
      have z2 : w1.cell? ⟨w.heap.size + 1, 0, none⟩ = some (.slice (some ⟨bu, ou, none⟩) t.length cu) := World.cell_of_heap hv4.crs 0
      have z3 : w1.cell? ⟨bu, ou, none⟩ = some (.int .i64 x) := cell_kept2 (cell_alloc (cell_drew xt0) _) hk4 (by (try dsimp only); omega) (by (try dsimp only); omega)
      clear hv4 hk4 HVIS HVA HOV
      (try dsimp only)
      refine hK.out _ _ ?_ (fun hHeld => ?_)
      · exact ⟨z1, z2, z3⟩
      clear hK K
      try simp only [Act.put, List.setIfInBounds_toArray, List.set_cons_zero, List.set_cons_succ]
      refine wpAnyH_done (by kernel_rfl) ?_ _
      have x16 : w1.cell? ⟨(W3.ext d).heap.size + 1, 0, none⟩ = some best2 := World.cell_of_heap HV4.out.bes 0
      have x17 : w1.cell? ⟨(W3.ext d).heap.size + 1 + 1, 0, none⟩ = some (.int .i64 (boR m l t).2) := World.cell_of_heap HV4.out.lea 0
      have o16 := World.oldB_of_cell x16
      have o17 := World.oldB_of_cell x17
      go_upto_region 20 with fail
      refine wp_region_held_drew (S := (fun w' => w'.cell? ⟨(W3.ext d).heap.size + 1, 0, none⟩ = some best2 ∧ w'.cell? ⟨(W3.ext d).heap.size + 1 + 1, 0, none⟩ = some (.int .i64 (boR m l t).2))) (by kernel_rfl) (by (try dsimp only); (refine ⟨?_, ?_⟩ <;> (with_reducible (repeat (first | assumption | refine cell_ext ?_ _ | refine cell_drew ?_ | refine cell_alloc ?_ _))))) (fun hHeld => ?_)
      refine wpAnyH_take (i := 0) (oi := ⟨_, _, _, _, _, _⟩) (v := ?_) rfl (by kernel_rfl) (by kernel_rfl) (by kernel_rfl) (fun _ _ _ h => h) (Or.inl ⟨by rfl, ?_⟩) (by assumption) ?_
      rotate_left
      · intro w hSw; (try dsimp only at hSw); go_simp; (try with_reducible rfl)
      try simp only [Act.put, List.setIfInBounds_toArray, List.set_cons_zero, List.set_cons_succ]
      refine wpAnyH_take (i := 1) (oi := ⟨_, _, _, _, _, _⟩) (v := ?_) rfl (by kernel_rfl) (by kernel_rfl) (by kernel_rfl) (fun _ _ _ h => h) (Or.inl ⟨by rfl, ?_⟩) (by assumption) ?_
      rotate_left
      · intro w hSw; (try dsimp only at hSw); go_simp; (try with_reducible rfl)
      try simp only [Act.put, List.setIfInBounds_toArray, List.set_cons_zero, List.set_cons_succ]
      refine wpAnyH_take (i := 2) (oi := ⟨_, _, _, _, _, _⟩) (v := ?_) rfl (by kernel_rfl) (by kernel_rfl) (by kernel_rfl) (fun _ _ _ h => h) (Or.inl ⟨by rfl, ?_⟩) (by assumption) ?_
      rotate_left
      · intro w hSw; (try dsimp only at hSw); go_simp; (try with_reducible rfl)
      try simp only [Act.put, List.setIfInBounds_toArray, List.set_cons_zero, List.set_cons_succ]
      refine wpAnyH_take (i := 3) (oi := ⟨_, _, _, _, _, _⟩) (v := ?_) rfl (by kernel_rfl) (by kernel_rfl) (by kernel_rfl) (fun _ _ _ h => h) (Or.inl ⟨by rfl, ?_⟩) (by assumption) ?_
      rotate_left
      · intro w hSw; (try dsimp only at hSw); go_simp; (try with_reducible rfl)
      try simp only [Act.put, List.setIfInBounds_toArray, List.set_cons_zero, List.set_cons_succ]
      refine wpAnyH_take (i := 4) (oi := ⟨_, _, _, _, _, _⟩) (v := ?_) rfl (by kernel_rfl) (by kernel_rfl) (by kernel_rfl) (fun _ _ _ h => h) (Or.inl ⟨by rfl, ?_⟩) (by assumption) ?_
      rotate_left
      · intro w hSw; (try dsimp only at hSw); go_simp; (try with_reducible rfl)
      try simp only [Act.put, List.setIfInBounds_toArray, List.set_cons_zero, List.set_cons_succ]
      refine wpAnyH_done (by kernel_rfl) ?_ _
      go_wp2_with fail
      go_ret3
      exact ⟨_, rfl, gain_trans (gain_kept2 HK4.out (gain_trans HGV.out (by repeat (first | with_reducible (first | exact World.gained_refl _ | exact ⟨_, rfl⟩ | apply gain_ext | apply gain_alloc | apply gain_drewN | apply gain_drew) | (refine gain_setCell ?_ (by first | exact Nat.le_refl _ | exact World.size_ext _ _ | (simp; done) | (simp; omega)) _)))) (by omega) (by omega)) (by repeat (first | with_reducible (first | exact World.gained_refl _ | exact ⟨_, rfl⟩ | apply gain_ext | apply gain_alloc | apply gain_drewN | apply gain_drew) | (refine gain_setCell ?_ (by first | exact Nat.le_refl _ | exact World.size_ext _ _ | (simp; done) | (simp; omega)) _))), own_up (own_base HV4.out.bst (by (try dsimp only); omega)) (by repeat (first | with_reducible (first | exact World.gained_refl _ | exact ⟨_, rfl⟩ | apply gain_ext | apply gain_alloc | apply gain_drewN | apply gain_drew) | (refine gain_setCell ?_ (by first | exact Nat.le_refl _ | exact World.size_ext _ _ | (simp; done) | (simp; omega)) _)))⟩
end Go.Proofs.YtmcimgnobimicaaGreat
