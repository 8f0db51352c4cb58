/- FnCodes returns true for every argument. No condition. -/
import Derived.Test.YtedpckkoaioooaaDrawCtl
import Derived.Test.YtedpckkoaioooaaPCodes
import Derived.Test.YtedpckkoaioooaaFreeC
import Derived.Test.YtedpckkoaioooaaNearC
import Derived.Test.YtedpckkoaioooaaCtlRecI
import Derived.Test.YtedpckkoaioooaaVLaws
import Derived.Test.YtedpckkoaioooaaRdBytes
import Derived.Deep.DeepCutAuto
namespace Go.Ori
theorem recL_len2 (m : Mp) (l : List Ctl) (r s : Int) : (recL m l r s).length ≤ 1048576 := by
  cases h : recB m l r s with
  | false => rw [recL_no h]; simp
  | true =>
    have h0 := h
    simp only [recB, Bool.and_eq_true] at h
    have h2 := ctlsB_len h.2
    rw [recL, if_pos h0, wCL, if_pos h.2]
    omega
end Go.Ori
namespace Go.Proofs.Ytedpckkoaioooaa
open Go.ChangeShapes Go.WideShapes Go.ChangeAt Go.RowKit Go.Ori
set_option maxRecDepth 100000 in
set_option maxHeartbeats 8000000 in
theorem fnCodes_walk (v : Value) (L : List Int) (w : World) (h : w.sl byteC 1 v L) (hq : ∀ x ∈ L, 0 ≤ x ∧ x ≤ 255) (hn : L.length ≤ 9223372036854775807) :
    Calls Try.prog 4 #[v] w fun x w' => x = .returned (.bool true) ∧ ∃ d, w' = w.ext d := by
  have hs := Lib.hid h
  have HQ := Lib.hid hq
  obtain ⟨p, c, rfl, _⟩ := h
  clear hq
  by_cases hbig : 65536 < L.length
  · have hbb : decide (65536 < L.length) = true := decide_eq_true hbig
    go_enter Try.func4, Try.ntmps4
    go_wp2_with (go_at_call 8; refine (vBig_any _ _ _ _ hn).mono ?_; rw [hbb]; rintro e w1 ⟨rfl, rfl⟩)
    go_ret
    exact ⟨rfl, (by repeat (first | with_reducible (first | exact World.gained_refl _ | exact ⟨_, rfl⟩ | apply gain_ext | apply gain_alloc | apply gain_drewN | apply gain_drew) | (refine gain_setCell ?_ (by first | exact Nat.le_refl _ | exact World.size_ext _ _ | (simp; done) | (simp; omega)) _)))⟩
  have hbb : decide (65536 < L.length) = false := decide_eq_false hbig
  have hl : L.length ≤ 1048576 := by omega
  go_enter Try.func4, Try.ntmps4
  go_wp2_with (go_at_call 8; refine (vBig_any _ _ _ _ hn).mono ?_; rw [hbb]; rintro e w1 ⟨rfl, rfl⟩)
  refine (drawFreeCode_any _ L _ hs.out HQ.out hl).mono ?_
  rintro e w1 ⟨m, rv, cv, lv, l, rfl, ⟨d1, rfl⟩, ho1, ho2, hrl, hcl, ho3, hll⟩
  have HM := Lib.hid (show World.mp (w.ext d1) _ _ m from ⟨sl_of_own intC_length ho1, sl_of_own intC_length ho2, by omega, by omega⟩)
  have HL := Lib.hid (sl_of_own Ctl.cells_length ho3)
  obtain ⟨p1, c1, p2, c2, rfl, rfl⟩ := mp_form HM.out
  obtain ⟨p3, c3, rfl, _⟩ := HL.out
  clear ho1 ho2 ho3
  go_wp2_with fail
  generalize hW0 : World.alloc (w.ext d1) (.cells #[.int .i64 m.wd, .int .i64 m.ht, .slice p1 m.rise.length c1, .slice p2 m.cost.length c2] 26) = W0
  have hbx : MBox (w.ext d1) W0 (w.ext d1).heap.size m (.slice p1 m.rise.length c1) (.slice p2 m.cost.length c2) := by rw [← hW0]; exact mbox
  have HGW : ∃ d, W0 = w.ext d := gain_trans (by repeat (first | with_reducible (first | exact World.gained_refl _ | exact ⟨_, rfl⟩ | apply gain_ext | apply gain_alloc | apply gain_drewN | apply gain_drew) | (refine gain_setCell ?_ (by first | exact Nat.le_refl _ | exact World.size_ext _ _ | (simp; done) | (simp; omega)) _))) hbx.up
  have HM0 := Lib.hid (mp_up HM.out hbx.up)
  have HL0 := Lib.hid (sl_up Ctl.cells_length HL.out hbx.up)
  have bx0 := hbx.c0
  have bx1 := hbx.c1
  have bx2 := hbx.c2
  have bx3 := hbx.c3
  have obx := hbx.ob
  generalize ((w.ext d1)).heap.size = gB at bx0 bx1 bx2 bx3 obx ⊢
  clear hW0 hbx HM HL
  obtain ⟨dz, rfl⟩ := HGW
  have hl20 : l.length ≤ 1048576 := by omega
  have HFA := Lib.hid (fun (h : freB m l = true) (h0 : 0 < l.length) => free_facts h h0)
  have HFC := Lib.hid (fun W hM hL => freeCode_any m (.slice p1 m.rise.length c1) (.slice p2 m.cost.length c2) (.slice p3 l.length c3) l W hM hL hl20)
  have HSFC := Lib.hid (fun W hM hL => specFreeCode_any m (.slice p1 m.rise.length c1) (.slice p2 m.cost.length c2) (.slice p3 l.length c3) l W hM hL hl20)
  have HCO := Lib.hid (fun W hM hL => confusableCodes_any m (.slice p1 m.rise.length c1) (.slice p2 m.cost.length c2) (.slice p3 l.length c3) l W hM hL hl20)
  have HSCO := Lib.hid (fun W hM hL => specConfusableCodes_any m (.slice p1 m.rise.length c1) (.slice p2 m.cost.length c2) (.slice p3 l.length c3) l W hM hL hl20)
  have HCB := Lib.hid (show freB m l = true → conL m l = pairsL likeF l from fun h => by rw [conL, if_pos (show conB m l = true from (fre_true h).1)])
  have HCN := Lib.hid (conL_len m l)
  generalize freB m l = G at HFA HFC HSFC HCB
  generalize freI m l = X at HFA HFC HSFC
  have hGG : (G != G) = false := by simp
  have hXX : (X != X) = false := by simp
  refine (HFC.out _ (mp_up (HM0.out) (by repeat (first | with_reducible (first | exact World.gained_refl _ | exact ⟨_, rfl⟩ | apply gain_ext | apply gain_alloc | apply gain_drewN | apply gain_drew) | (refine gain_setCell ?_ (by first | exact Nat.le_refl _ | exact World.size_ext _ _ | (simp; done) | (simp; omega)) _)))) (by with_reducible (repeat (first | exact HL0.out | refine World.sl_ext Ctl.cells_length ?_ _ | refine sl_alloc Ctl.cells_length ?_ _ | refine sl_drew ?_)))).mono ?_
  rintro e w1 ⟨rfl, d2, rfl⟩
  go_wp2_with fail
  refine (HSFC.out _ (mp_up (HM0.out) (by repeat (first | with_reducible (first | exact World.gained_refl _ | exact ⟨_, rfl⟩ | apply gain_ext | apply gain_alloc | apply gain_drewN | apply gain_drew) | (refine gain_setCell ?_ (by first | exact Nat.le_refl _ | exact World.size_ext _ _ | (simp; done) | (simp; omega)) _)))) (by with_reducible (repeat (first | exact HL0.out | refine World.sl_ext Ctl.cells_length ?_ _ | refine sl_alloc Ctl.cells_length ?_ _ | refine sl_drew ?_)))).mono ?_
  rintro e w1 ⟨rfl, d3, rfl⟩
  clear HFC HSFC
  go_wp2_with fail
  generalize conB m l = CB at HCO HSCO
  have hCC : (CB != CB) = false := by simp
  generalize conL m l = P at HCO HSCO HCB HCN
  refine (HCO.out _ (mp_up (HM0.out) (by repeat (first | with_reducible (first | exact World.gained_refl _ | exact ⟨_, rfl⟩ | apply gain_ext | apply gain_alloc | apply gain_drewN | apply gain_drew) | (refine gain_setCell ?_ (by first | exact Nat.le_refl _ | exact World.size_ext _ _ | (simp; done) | (simp; omega)) _)))) (by with_reducible (repeat (first | exact HL0.out | refine World.sl_ext Ctl.cells_length ?_ _ | refine sl_alloc Ctl.cells_length ?_ _ | refine sl_drew ?_)))).mono ?_
  rintro e w1 ⟨r1, rfl, ⟨d4, rfl⟩, o1⟩
  have O1 := Lib.hid (sl_of_own prC_length o1)
  clear o1
  obtain ⟨p5, c5, rfl, _⟩ := O1.out
  go_wp2_with fail
  refine (HSCO.out _ (mp_up (HM0.out) (by repeat (first | with_reducible (first | exact World.gained_refl _ | exact ⟨_, rfl⟩ | apply gain_ext | apply gain_alloc | apply gain_drewN | apply gain_drew) | (refine gain_setCell ?_ (by first | exact Nat.le_refl _ | exact World.size_ext _ _ | (simp; done) | (simp; omega)) _)))) (by with_reducible (repeat (first | exact HL0.out | refine World.sl_ext Ctl.cells_length ?_ _ | refine sl_alloc Ctl.cells_length ?_ _ | refine sl_drew ?_)))).mono ?_
  rintro e w1 ⟨r2, rfl, ⟨d5, rfl⟩, o2⟩
  have O2 := Lib.hid (sl_of_own prC_length o2)
  clear o2 HCO HSCO
  obtain ⟨p6, c6, rfl, _⟩ := O2.out
  go_upto_region 12 with (go_at_call 29; refine (vPairs_same _ _ P _ (by with_reducible (repeat (first | exact O1.out | refine World.sl_ext prC_length ?_ _ | refine sl_alloc prC_length ?_ _ | refine sl_drew ?_))) (by with_reducible (repeat (first | exact O2.out | refine World.sl_ext prC_length ?_ _ | refine sl_alloc prC_length ?_ _ | refine sl_drew ?_))) HCN.out).mono ?_; rintro e w1 ⟨rfl, d6, rfl⟩)
  clear O2
  go_cut [6, 8, 87] (fun _ _ t wx => t = .bool (G && decide (0 < l.length)) ∧ ∃ d, wx = ((((((w.ext dz).ext d2).ext d3).ext d4).ext d5).ext d6).ext d)
  case first =>
    cases G with
    | false =>
      go_wp2_with fail
      go_meet
      exact ⟨rfl, (by repeat (first | with_reducible (first | exact World.gained_refl _ | exact ⟨_, rfl⟩ | apply gain_ext | apply gain_alloc | apply gain_drewN | apply gain_drew) | (refine gain_setCell ?_ (by first | exact Nat.le_refl _ | exact World.size_ext _ _ | (simp; done) | (simp; omega)) _)))⟩
    | true =>
      go_wp2_with fail
      go_meet
      exact ⟨by simp, (by repeat (first | with_reducible (first | exact World.gained_refl _ | exact ⟨_, rfl⟩ | apply gain_ext | apply gain_alloc | apply gain_drewN | apply gain_drew) | (refine gain_setCell ?_ (by first | exact Nat.le_refl _ | exact World.size_ext _ _ | (simp; done) | (simp; omega)) _)))⟩
  obtain ⟨rfl, d7, rfl⟩ := hcut
  have HKK : Hid ((G && decide (0 < l.length)) = true → G = true ∧ 0 < l.length) := Lib.hid (fun h => by simpa using h)
  generalize (G && decide (0 < l.length)) = K at HKK ⊢
  go_upto_if 87 with fail
  go_cut [13, 14, 15, 16, 17] (fun _ _ _ _ _ wx => ∃ d, wx = w.ext d)
  case first =>
    cases K with
    | false =>
      go_wp2_with fail
      go_meet
      exact (by repeat (first | with_reducible (first | exact World.gained_refl _ | exact ⟨_, rfl⟩ | apply gain_ext | apply gain_alloc | apply gain_drewN | apply gain_drew) | (refine gain_setCell ?_ (by first | exact Nat.le_refl _ | exact World.size_ext _ _ | (simp; done) | (simp; omega)) _)))
    | true =>
      obtain ⟨hG, h0⟩ := HKK.out rfl
      have HPL := Lib.hid (HCB.out hG)
      obtain ⟨f1, f2, f3, f4⟩ := HFA.out hG h0
      obtain ⟨b3, o3, rfl⟩ := sl_some HL0.out h0
      have k0 := sl_cells HL0.out h0 (j := 0) (by omega)
      simp only [Ctl.cells, List.getElem?_cons_zero, Nat.add_zero, Nat.zero_mul] at k0
      have ok0 := World.oldB_of_cell k0
      have hl1 : (0 : Int) < l.length := by omega
      have HRC : Hid (∀ W : World, W.mp (.slice p1 m.rise.length c1) (.slice p2 m.cost.length c2) m → W.sl Ctl.cells 2 (.slice (some ⟨b3, o3, none⟩) l.length c3) l → Calls Try.prog 18 #[.agg #[.int .i64 m.wd, .int .i64 m.ht, .slice p1 m.rise.length c1, .slice p2 m.cost.length c2], .slice (some ⟨b3, o3, none⟩) l.length c3, .int .i64 l[0].code, .int .i64 X] W fun x w' => ∃ R, x = .returned (.tuple #[R, .bool true]) ∧ (∃ d, w' = W.ext d) ∧ w'.own W.heap.size 46 Ctl.cells 2 R (recL m l l[0].code X)) := Lib.hid (fun W hM hL => by
        have h := recodeControl_any m (.slice p1 m.rise.length c1) (.slice p2 m.cost.length c2) (.slice (some ⟨b3, o3, none⟩) l.length c3) l l[0].code X W hM hL hl20
        rw [f1] at h
        exact h)
      have hML := recL_len2 m l l[0].code X
      have HCO2 : Hid (∀ (pq : Option Addr) (cq : Nat) (W : World), W.mp (.slice p1 m.rise.length c1) (.slice p2 m.cost.length c2) m → W.sl Ctl.cells 2 (.slice pq (recL m l l[0].code X).length cq) (recL m l l[0].code X) → Calls Try.prog 27 #[.agg #[.int .i64 m.wd, .int .i64 m.ht, .slice p1 m.rise.length c1, .slice p2 m.cost.length c2], .slice pq (recL m l l[0].code X).length cq] W fun x w' => ∃ R, x = .returned (.tuple #[R, .bool true]) ∧ (∃ d, w' = W.ext d) ∧ w'.own W.heap.size 47 prC 2 R (pairsL likeF (recL m l l[0].code X))) := Lib.hid (fun pq cq W hM hB => by
        have h := confusableCodes_any m (.slice p1 m.rise.length c1) (.slice p2 m.cost.length c2) (.slice pq (recL m l l[0].code X).length cq) (recL m l l[0].code X) W hM hB hML
        rw [conL, if_pos (show conB m (recL m l l[0].code X) = true from f2), show conB m (recL m l l[0].code X) = true from f2] at h
        exact h)
      rw [← HPL.out] at f3
      have hQL : (pairsL likeF (recL m l l[0].code X)).length ≤ 1048576 := Nat.le_trans f3 HCN.out
      have hgt1 : decide ((P.length : Int) < ((pairsL likeF (recL m l l[0].code X)).length : Int)) = false := decide_eq_false (by omega)
      have hgt2 : decide (P.length < (pairsL likeF (recL m l l[0].code X)).length) = false := decide_eq_false (by omega)
      have HNE := Lib.hid f4
      clear HPL f1 f2 f3 f4 HCB HFA hG HKK hML
      generalize pairsL likeF (recL m l l[0].code X) = Q at HCO2 HNE hgt1 hgt2 hQL
      generalize recL m l l[0].code X = M at HRC HCO2
      generalize l[0].code = z at HRC k0
      go_upto_region 13 with fail
      refine wp_region_held_drew (S := (fun w' => w'.cell? ⟨gB, 0, none⟩ = some (.int .i64 m.wd) ∧ w'.cell? ⟨gB, 1, none⟩ = some (.int .i64 m.ht) ∧ w'.cell? ⟨gB, 2, none⟩ = some (.slice p1 m.rise.length c1) ∧ w'.cell? ⟨gB, 3, none⟩ = some (.slice p2 m.cost.length c2) ∧ w'.cell? ⟨b3, o3, none⟩ = some (.int .i64 z))) (by kernel_rfl) (by (try dsimp only); (refine ⟨?_, ?_, ?_, ?_, ?_⟩ <;> (with_reducible (repeat (first | assumption | refine cell_ext ?_ _ | refine cell_drew ?_ | refine cell_alloc ?_ _))))) (fun hHeld => ?_)
      refine wpAnyH_take (i := 0) (oi := ⟨_, _, _, _, _, _⟩) (v := ?_) rfl (by kernel_rfl) (by kernel_rfl) (by kernel_rfl) (fun _ _ _ h => h) (Or.inl ⟨by rfl, ?_⟩) (by assumption) ?_
      rotate_left
      · intro w hSw; (try dsimp only at hSw); go_simp; (try with_reducible rfl)
      try simp only [Act.put, List.setIfInBounds_toArray, List.set_cons_zero, List.set_cons_succ]
      refine wpAnyH_take (i := 1) (oi := ⟨_, _, _, _, _, _⟩) (v := ?_) rfl (by kernel_rfl) (by kernel_rfl) (by kernel_rfl) (fun _ _ _ h => h) (Or.inl ⟨by rfl, ?_⟩) (by assumption) ?_
      rotate_left
      · intro w hSw; (try dsimp only at hSw); go_simp; (try with_reducible rfl)
      try simp only [Act.put, List.setIfInBounds_toArray, List.set_cons_zero, List.set_cons_succ]
      refine wpAnyH_take (i := 2) (oi := ⟨_, _, _, _, _, _⟩) (v := ?_) rfl (by kernel_rfl) (by kernel_rfl) (by kernel_rfl) (fun _ _ _ h => h) (Or.inl ⟨by rfl, ?_⟩) (by assumption) ?_
      rotate_left
      · intro w hSw; (try dsimp only at hSw); go_simp; (try with_reducible rfl)
      try simp only [Act.put, List.setIfInBounds_toArray, List.set_cons_zero, List.set_cons_succ]
      refine wpAnyH_take (i := 3) (oi := ⟨_, _, _, _, _, _⟩) (v := ?_) rfl (by kernel_rfl) (by kernel_rfl) (by kernel_rfl) (fun _ _ _ h => h) (Or.inl ⟨by rfl, ?_⟩) (by assumption) ?_
      rotate_left
      · intro w hSw; (try dsimp only at hSw); go_simp; (try with_reducible rfl)
      try simp only [Act.put, List.setIfInBounds_toArray, List.set_cons_zero, List.set_cons_succ]
      refine wpAnyH_take (i := 4) (oi := ⟨_, _, _, _, _, _⟩) (v := ?_) rfl (by kernel_rfl) (by kernel_rfl) (by kernel_rfl) (fun _ _ _ h => h) (Or.inl ⟨by rfl, ?_⟩) (by assumption) ?_
      rotate_left
      · intro w hSw; (try dsimp only at hSw); go_simp; (try with_reducible rfl)
      try simp only [Act.put, List.setIfInBounds_toArray, List.set_cons_zero, List.set_cons_succ]
      refine wpAnyH_take (i := 5) (oi := ⟨_, _, _, _, _, _⟩) (v := ?_) rfl (by kernel_rfl) (by kernel_rfl) (by kernel_rfl) (fun _ _ _ h => h) (Or.inl ⟨by rfl, ?_⟩) (by assumption) ?_
      rotate_left
      · intro w hSw; (try dsimp only at hSw); go_simp; (try with_reducible rfl)
      try simp only [Act.put, List.setIfInBounds_toArray, List.set_cons_zero, List.set_cons_succ]
      refine wpAnyH_take (i := 6) (oi := ⟨_, _, _, _, _, _⟩) (v := ?_) rfl (by kernel_rfl) (by kernel_rfl) (by kernel_rfl) (fun _ _ _ h => h) (Or.inl ⟨by rfl, ?_⟩) (by assumption) ?_
      rotate_left
      · intro w hSw; (try dsimp only at hSw); go_simp; (try with_reducible rfl)
      try simp only [Act.put, List.setIfInBounds_toArray, List.set_cons_zero, List.set_cons_succ]
      refine wpAnyH_ready (rs := [7]) (by kernel_rfl) (by simp) ?_
      refine AllReadyH.cons rfl (fun K hK => ?_) AllReadyH.nil
      go_simp
      go_wp2_with (go_at_call 18; refine (HRC.out _ (mp_up (HM0.out) (by repeat (first | with_reducible (first | exact World.gained_refl _ | exact ⟨_, rfl⟩ | apply gain_ext | apply gain_alloc | apply gain_drewN | apply gain_drew) | (refine gain_setCell ?_ (by first | exact Nat.le_refl _ | exact World.size_ext _ _ | (simp; done) | (simp; omega)) _)))) (by with_reducible (repeat (first | exact HL0.out | refine World.sl_ext Ctl.cells_length ?_ _ | refine sl_alloc Ctl.cells_length ?_ _ | refine sl_drew ?_)))).mono ?_; rintro e w1 ⟨r3, rfl, ⟨d9, rfl⟩, o7⟩; have O7 := Lib.hid (sl_of_own Ctl.cells_length o7); clear o7; obtain ⟨p7, c7, rfl, _⟩ := O7.out)
      refine hK.out _ _ ?_ (fun hHeld => ?_)
      · (try dsimp only); (refine ⟨?_, ?_, ?_, ?_, ?_⟩ <;> (with_reducible (repeat (first | assumption | refine cell_ext ?_ _ | refine cell_drew ?_ | refine cell_alloc ?_ _))))
      clear hK K
      try simp only [Act.put, List.setIfInBounds_toArray, List.set_cons_zero, List.set_cons_succ]
      refine wpAnyH_take (i := 8) (oi := ⟨_, _, _, _, _, _⟩) (v := ?_) rfl (by kernel_rfl) (by kernel_rfl) (by kernel_rfl) (fun _ _ _ h => h) (Or.inl ⟨by rfl, ?_⟩) (by assumption) ?_
      rotate_left
      · intro w hSw; (try dsimp only at hSw); go_simp; (try with_reducible rfl)
      try simp only [Act.put, List.setIfInBounds_toArray, List.set_cons_zero, List.set_cons_succ]
      refine wpAnyH_take (i := 9) (oi := ⟨_, _, _, _, _, _⟩) (v := ?_) rfl (by kernel_rfl) (by kernel_rfl) (by kernel_rfl) (fun _ _ _ h => h) (Or.inl ⟨by rfl, ?_⟩) (by assumption) ?_
      rotate_left
      · intro w hSw; (try dsimp only at hSw); go_simp; (try with_reducible rfl)
      try simp only [Act.put, List.setIfInBounds_toArray, List.set_cons_zero, List.set_cons_succ]
      refine wpAnyH_take (i := 10) (oi := ⟨_, _, _, _, _, _⟩) (v := ?_) rfl (by kernel_rfl) (by kernel_rfl) (by kernel_rfl) (fun _ _ _ h => h) (Or.inl ⟨by rfl, ?_⟩) (by assumption) ?_
      rotate_left
      · intro w hSw; (try dsimp only at hSw); go_simp; (try with_reducible rfl)
      try simp only [Act.put, List.setIfInBounds_toArray, List.set_cons_zero, List.set_cons_succ]
      refine wpAnyH_take (i := 11) (oi := ⟨_, _, _, _, _, _⟩) (v := ?_) rfl (by kernel_rfl) (by kernel_rfl) (by kernel_rfl) (fun _ _ _ h => h) (Or.inl ⟨by rfl, ?_⟩) (by assumption) ?_
      rotate_left
      · intro w hSw; (try dsimp only at hSw); go_simp; (try with_reducible rfl)
      try simp only [Act.put, List.setIfInBounds_toArray, List.set_cons_zero, List.set_cons_succ]
      refine wpAnyH_take (i := 12) (oi := ⟨_, _, _, _, _, _⟩) (v := ?_) rfl (by kernel_rfl) (by kernel_rfl) (by kernel_rfl) (fun _ _ _ h => h) (Or.inl ⟨by rfl, ?_⟩) (by assumption) ?_
      rotate_left
      · intro w hSw; (try dsimp only at hSw); go_simp; (try with_reducible rfl)
      try simp only [Act.put, List.setIfInBounds_toArray, List.set_cons_zero, List.set_cons_succ]
      refine wpAnyH_done (by kernel_rfl) ?_ _
      go_wp2_with fail
      refine (HCO2.out _ _ _ (mp_up (HM0.out) (by repeat (first | with_reducible (first | exact World.gained_refl _ | exact ⟨_, rfl⟩ | apply gain_ext | apply gain_alloc | apply gain_drewN | apply gain_drew) | (refine gain_setCell ?_ (by first | exact Nat.le_refl _ | exact World.size_ext _ _ | (simp; done) | (simp; omega)) _)))) (by with_reducible (repeat (first | exact O7.out | refine World.sl_ext Ctl.cells_length ?_ _ | refine sl_alloc Ctl.cells_length ?_ _ | refine sl_drew ?_)))).mono ?_
      rintro e w1 ⟨r4, rfl, ⟨d10, rfl⟩, o8⟩
      have O8 := Lib.hid (sl_of_own prC_length o8)
      clear o8
      obtain ⟨p8, c8, rfl, _⟩ := O8.out
      go_wp2_with fail
      go_loopw [17] (fun i_ wr => ∃ k : Nat, k ≤ Q.length ∧ i_ = .int .i64 k ∧ wr.sl prC 2 (.slice p8 Q.length c8) Q ∧ ∃ d, wr = w.ext d) (fun i_ _ => Q.length - (intOf i_).toNat)
      case atStart => exact ⟨0, by omega, rfl, (by with_reducible (repeat (first | exact O8.out | refine World.sl_ext prC_length ?_ _ | refine sl_alloc prC_length ?_ _ | refine sl_drew ?_))), (by repeat (first | with_reducible (first | exact World.gained_refl _ | exact ⟨_, rfl⟩ | apply gain_ext | apply gain_alloc | apply gain_drewN | apply gain_drew) | (refine gain_setCell ?_ (by first | exact Nat.le_refl _ | exact World.size_ext _ _ | (simp; done) | (simp; omega)) _)))⟩
      case round =>
        obtain ⟨k, hk, rfl, hqs, d, rfl⟩ := hrel
        have HQS := Lib.hid hqs
        clear hqs k0 bx0 bx1 bx2 bx3 obx ok0
        by_cases hlt : k < Q.length
        · obtain ⟨b, o, rfl⟩ := sl_some HQS.out (by omega)
          have y0 := sl_cells HQS.out hlt (j := 0) (by omega)
          have y1 := sl_cells HQS.out hlt (j := 1) (by omega)
          have hne := HNE.out _ (List.getElem_mem hlt)
          generalize Q[k] = y at y0 y1 hne
          obtain ⟨ya, yb⟩ := y
          simp only [prC, List.getElem?_cons_zero, List.getElem?_cons_succ, Nat.add_zero] at y0 y1 hne
          have n1 : (ya == X) = false := by simpa using hne.1
          have n2 : (yb == X) = false := by simpa using hne.2
          have oby := World.oldB_of_cell y0
          clear hne
          go_wp2
          go_roundw
          case rel => exact ⟨k + 1, by omega, by go_num, (by with_reducible (repeat (first | exact HQS.out | refine World.sl_ext prC_length ?_ _ | refine sl_alloc prC_length ?_ _ | refine sl_drew ?_))), (by repeat (first | with_reducible (first | exact World.gained_refl _ | exact ⟨_, rfl⟩ | apply gain_ext | apply gain_alloc | apply gain_drewN | apply gain_drew) | (refine gain_setCell ?_ (by first | exact Nat.le_refl _ | exact World.size_ext _ _ | (simp; done) | (simp; omega)) _)))⟩
          case measure => simp [intOf]; omega
        · go_wp2
          go_meet
          exact (by repeat (first | with_reducible (first | exact World.gained_refl _ | exact ⟨_, rfl⟩ | apply gain_ext | apply gain_alloc | apply gain_drewN | apply gain_drew) | (refine gain_setCell ?_ (by first | exact Nat.le_refl _ | exact World.size_ext _ _ | (simp; done) | (simp; omega)) _)))
  obtain ⟨dB, rfl⟩ := hcut
  clear HKK HFA HCB HCN hGG hXX hCC HM0 HL0 O1 bx0 bx1 bx2 bx3 obx hl20 hrl hcl hll
  go_wp2_with fail
  refine (drawCloseControls_any _ L _ (by with_reducible (repeat (first | exact hs.out | refine World.sl_ext byteC_length ?_ _ | refine sl_alloc byteC_length ?_ _ | refine sl_drew ?_))) HQ.out hl).mono ?_
  rintro e w1 ⟨m, rv, cv, lv, l, n1, rfl, ⟨d1, rfl⟩, ho1, ho2, hrl, hcl, ho3, hll, hx1, hx2⟩
  have HM := Lib.hid (show World.mp ((w.ext dB).ext d1) _ _ m from ⟨sl_of_own intC_length ho1, sl_of_own intC_length ho2, by omega, by omega⟩)
  have HL := Lib.hid (sl_of_own Ctl.cells_length ho3)
  obtain ⟨p1, c1, p2, c2, rfl, rfl⟩ := mp_form HM.out
  obtain ⟨p3, c3, rfl, _⟩ := HL.out
  clear ho1 ho2 ho3
  go_wp2_with fail
  generalize hW0 : World.alloc ((w.ext dB).ext d1) (.cells #[.int .i64 m.wd, .int .i64 m.ht, .slice p1 m.rise.length c1, .slice p2 m.cost.length c2] 26) = W0
  have hbx : MBox ((w.ext dB).ext d1) W0 ((w.ext dB).ext d1).heap.size m (.slice p1 m.rise.length c1) (.slice p2 m.cost.length c2) := by rw [← hW0]; exact mbox
  have HGW : ∃ d, W0 = w.ext d := gain_trans (by repeat (first | with_reducible (first | exact World.gained_refl _ | exact ⟨_, rfl⟩ | apply gain_ext | apply gain_alloc | apply gain_drewN | apply gain_drew) | (refine gain_setCell ?_ (by first | exact Nat.le_refl _ | exact World.size_ext _ _ | (simp; done) | (simp; omega)) _))) hbx.up
  have HM0 := Lib.hid (mp_up HM.out hbx.up)
  have HL0 := Lib.hid (sl_up Ctl.cells_length HL.out hbx.up)
  have bx0 := hbx.c0
  have bx1 := hbx.c1
  have bx2 := hbx.c2
  have bx3 := hbx.c3
  have obx := hbx.ob
  generalize (((w.ext dB).ext d1)).heap.size = gB at bx0 bx1 bx2 bx3 obx ⊢
  clear hW0 hbx HM HL
  obtain ⟨dz, rfl⟩ := HGW
  have hl20 : l.length ≤ 1048576 := by omega
  have HCL := Lib.hid (fun W hM hL => closeControls_any m (.slice p1 m.rise.length c1) (.slice p2 m.cost.length c2) (.slice p3 l.length c3) l n1 W hM hL hl20)
  have HSCL := Lib.hid (fun W hM hL => specCloseControls_any m (.slice p1 m.rise.length c1) (.slice p2 m.cost.length c2) (.slice p3 l.length c3) l n1 W hM hL hl20)
  have HCL2 := Lib.hid (fun W hM hL => closeControls_any m (.slice p1 m.rise.length c1) (.slice p2 m.cost.length c2) (.slice p3 l.length c3) l (n1 + 1) W hM hL hl20)
  have HMO := Lib.hid (fun (h : cloB m l n1 = true) => clo_mono h)
  have HPN := Lib.hid (cloL_len m l n1)
  have HPN2 := Lib.hid (cloL_len m l (n1 + 1))
  generalize cloB m l n1 = G at HCL HSCL HMO
  generalize cloL m l n1 = P at HCL HSCL HMO HPN
  generalize cloB m l (n1 + 1) = G2 at HCL2 HMO
  generalize cloL m l (n1 + 1) = P2 at HCL2 HMO HPN2
  have hGG : (G != G) = false := by simp
  refine (HCL.out _ (mp_up (HM0.out) (by repeat (first | with_reducible (first | exact World.gained_refl _ | exact ⟨_, rfl⟩ | apply gain_ext | apply gain_alloc | apply gain_drewN | apply gain_drew) | (refine gain_setCell ?_ (by first | exact Nat.le_refl _ | exact World.size_ext _ _ | (simp; done) | (simp; omega)) _)))) (by with_reducible (repeat (first | exact HL0.out | refine World.sl_ext Ctl.cells_length ?_ _ | refine sl_alloc Ctl.cells_length ?_ _ | refine sl_drew ?_)))).mono ?_
  rintro e w1 ⟨r1, rfl, ⟨d2, rfl⟩, o1⟩
  have O1 := Lib.hid (sl_of_own prC_length o1)
  clear o1
  obtain ⟨p5, c5, rfl, _⟩ := O1.out
  go_wp2_with fail
  refine (HSCL.out _ (mp_up (HM0.out) (by repeat (first | with_reducible (first | exact World.gained_refl _ | exact ⟨_, rfl⟩ | apply gain_ext | apply gain_alloc | apply gain_drewN | apply gain_drew) | (refine gain_setCell ?_ (by first | exact Nat.le_refl _ | exact World.size_ext _ _ | (simp; done) | (simp; omega)) _)))) (by with_reducible (repeat (first | exact HL0.out | refine World.sl_ext Ctl.cells_length ?_ _ | refine sl_alloc Ctl.cells_length ?_ _ | refine sl_drew ?_)))).mono ?_
  rintro e w1 ⟨r2, rfl, ⟨d3, rfl⟩, o2⟩
  have O2 := Lib.hid (sl_of_own prC_length o2)
  clear o2 HCL HSCL
  obtain ⟨p6, c6, rfl, _⟩ := O2.out
  go_upto_if 169 with (go_at_call 29; refine (vPairs_same _ _ P _ (by with_reducible (repeat (first | exact O1.out | refine World.sl_ext prC_length ?_ _ | refine sl_alloc prC_length ?_ _ | refine sl_drew ?_))) (by with_reducible (repeat (first | exact O2.out | refine World.sl_ext prC_length ?_ _ | refine sl_alloc prC_length ?_ _ | refine sl_drew ?_))) HPN.out).mono ?_; rintro e w1 ⟨rfl, d4, rfl⟩)
  clear O2
  go_cut [22, 24, 25, 26] (fun _ _ _ _ wx => ∃ d, wx = w.ext d)
  case first =>
    cases G with
    | false =>
      go_wp2_with fail
      go_meet
      exact (by repeat (first | with_reducible (first | exact World.gained_refl _ | exact ⟨_, rfl⟩ | apply gain_ext | apply gain_alloc | apply gain_drewN | apply gain_drew) | (refine gain_setCell ?_ (by first | exact Nat.le_refl _ | exact World.size_ext _ _ | (simp; done) | (simp; omega)) _)))
    | true =>
      obtain ⟨rfl, hmo⟩ := HMO.out rfl
      have hgt1 : decide ((P2.length : Int) < (P.length : Int)) = false := decide_eq_false (by omega)
      have hgt2 : decide (P2.length < P.length) = false := decide_eq_false (by omega)
      clear HMO
      go_wp2_with fail
      refine (HCL2.out _ (mp_up (HM0.out) (by repeat (first | with_reducible (first | exact World.gained_refl _ | exact ⟨_, rfl⟩ | apply gain_ext | apply gain_alloc | apply gain_drewN | apply gain_drew) | (refine gain_setCell ?_ (by first | exact Nat.le_refl _ | exact World.size_ext _ _ | (simp; done) | (simp; omega)) _)))) (by with_reducible (repeat (first | exact HL0.out | refine World.sl_ext Ctl.cells_length ?_ _ | refine sl_alloc Ctl.cells_length ?_ _ | refine sl_drew ?_)))).mono ?_
      rintro e w1 ⟨r3, rfl, ⟨d5, rfl⟩, o3⟩
      have O3 := Lib.hid (sl_of_own prC_length o3)
      clear o3
      obtain ⟨p7, c7, rfl, _⟩ := O3.out
      go_wp2_with fail
      go_meet
      exact (by repeat (first | with_reducible (first | exact World.gained_refl _ | exact ⟨_, rfl⟩ | apply gain_ext | apply gain_alloc | apply gain_drewN | apply gain_drew) | (refine gain_setCell ?_ (by first | exact Nat.le_refl _ | exact World.size_ext _ _ | (simp; done) | (simp; omega)) _)))
  obtain ⟨dC, rfl⟩ := hcut
  clear HMO HPN HPN2 hGG HM0 HL0 HCL2 O1 bx0 bx1 bx2 bx3 obx hl20 hrl hcl hll hx1 hx2
  go_wp2_with fail
  refine (drawNearestControl_any _ L _ (by with_reducible (repeat (first | exact hs.out | refine World.sl_ext byteC_length ?_ _ | refine sl_alloc byteC_length ?_ _ | refine sl_drew ?_))) HQ.out hl).mono ?_
  rintro e w1 ⟨m, rv, cv, lv, l, n1, rfl, ⟨d1, rfl⟩, ho1, ho2, hrl, hcl, ho3, hll⟩
  have HM := Lib.hid (show World.mp ((w.ext dC).ext d1) _ _ m from ⟨sl_of_own intC_length ho1, sl_of_own intC_length ho2, by omega, by omega⟩)
  have HL := Lib.hid (sl_of_own Ctl.cells_length ho3)
  obtain ⟨p1, c1, p2, c2, rfl, rfl⟩ := mp_form HM.out
  obtain ⟨p3, c3, rfl, _⟩ := HL.out
  clear ho1 ho2 ho3
  go_wp2_with fail
  generalize hW0 : World.alloc ((w.ext dC).ext d1) (.cells #[.int .i64 m.wd, .int .i64 m.ht, .slice p1 m.rise.length c1, .slice p2 m.cost.length c2] 26) = W0
  have hbx : MBox ((w.ext dC).ext d1) W0 ((w.ext dC).ext d1).heap.size m (.slice p1 m.rise.length c1) (.slice p2 m.cost.length c2) := by rw [← hW0]; exact mbox
  have HGW : ∃ d, W0 = w.ext d := gain_trans (by repeat (first | with_reducible (first | exact World.gained_refl _ | exact ⟨_, rfl⟩ | apply gain_ext | apply gain_alloc | apply gain_drewN | apply gain_drew) | (refine gain_setCell ?_ (by first | exact Nat.le_refl _ | exact World.size_ext _ _ | (simp; done) | (simp; omega)) _))) hbx.up
  have HM0 := Lib.hid (mp_up HM.out hbx.up)
  have HL0 := Lib.hid (sl_up Ctl.cells_length HL.out hbx.up)
  have bx0 := hbx.c0
  have bx1 := hbx.c1
  have bx2 := hbx.c2
  have bx3 := hbx.c3
  have obx := hbx.ob
  generalize (((w.ext dC).ext d1)).heap.size = gB at bx0 bx1 bx2 bx3 obx ⊢
  clear hW0 hbx HM HL
  obtain ⟨dz, rfl⟩ := HGW
  have hl20 : l.length ≤ 1048576 := by omega
  have HCC := Lib.hid (fun W hM hL => nearestControl_any m (.slice p1 m.rise.length c1) (.slice p2 m.cost.length c2) (.slice p3 l.length c3) l n1 W hM hL hl20)
  have HSCC := Lib.hid (fun W hM hL => specNearestControl_any m (.slice p1 m.rise.length c1) (.slice p2 m.cost.length c2) (.slice p3 l.length c3) l n1 W hM hL hl20)
  generalize neaB m l n1 = G at HCC HSCC
  generalize neaI m l n1 = N at HCC HSCC
  refine (HCC.out _ (mp_up (HM0.out) (by repeat (first | with_reducible (first | exact World.gained_refl _ | exact ⟨_, rfl⟩ | apply gain_ext | apply gain_alloc | apply gain_drewN | apply gain_drew) | (refine gain_setCell ?_ (by first | exact Nat.le_refl _ | exact World.size_ext _ _ | (simp; done) | (simp; omega)) _)))) (by with_reducible (repeat (first | exact HL0.out | refine World.sl_ext Ctl.cells_length ?_ _ | refine sl_alloc Ctl.cells_length ?_ _ | refine sl_drew ?_)))).mono ?_
  rintro e w1 ⟨rfl, d5, rfl⟩
  go_wp2_with fail
  refine (HSCC.out _ (mp_up (HM0.out) (by repeat (first | with_reducible (first | exact World.gained_refl _ | exact ⟨_, rfl⟩ | apply gain_ext | apply gain_alloc | apply gain_drewN | apply gain_drew) | (refine gain_setCell ?_ (by first | exact Nat.le_refl _ | exact World.size_ext _ _ | (simp; done) | (simp; omega)) _)))) (by with_reducible (repeat (first | exact HL0.out | refine World.sl_ext Ctl.cells_length ?_ _ | refine sl_alloc Ctl.cells_length ?_ _ | refine sl_drew ?_)))).mono ?_
  rintro e w1 ⟨rfl, d6, rfl⟩
  go_wp2
  go_ret
  exact ⟨rfl, (by repeat (first | with_reducible (first | exact World.gained_refl _ | exact ⟨_, rfl⟩ | apply gain_ext | apply gain_alloc | apply gain_drewN | apply gain_drew) | (refine gain_setCell ?_ (by first | exact Nat.le_refl _ | exact World.size_ext _ _ | (simp; done) | (simp; omega)) _)))⟩
set_option maxRecDepth 100000 in
theorem fnCodes_lifted (os : Os) (started : os.Started) (H : Type) (enc : TypeId × Value → H) :
    ReturnsInHanded {} Try.checked os 4 .any (Rows.fnCodesSpec.pre6 enc Try.prog Try.f4 Rows.fnCodesRow.domain false) (Rows.fnCodesSpec.post enc Try.prog Try.f4 false true false false) := by
  refine returnsInHanded_of_change (C := Try.checked) (by kernel_rfl) started (by kernel_rfl) Try.func4
    (ChangeSpec.witness6 (enc := enc) (C := Try.checked) false ⟨#[], #[.slice none 0 0], []⟩ 8 (by kernel_rfl) (by kernel_rfl) (by kernel_rfl) (by kernel_rfl)) ?_
  intro W base args ds gs before hval0 hW _ _
  have hval : ∀ (j : Nat) t v, Try.f4.params[j]? = some t → args[j]? = some v → Value.okWide Try.prog W .any base t v := hval0
  clear hval0
  have laidOut : laidOutB Try.prog = true := by as_aux_lemma => kernel_rfl
  have hWc := hW
  obtain ⟨p, q, hA0, hV, rfl, _, _⟩ := hWc
  have hA : DataW.TrodAll enc Try.prog W 0 (fun _ => true) true Try.f4.params.toList args.toList ds p := hA0
  clear hA0
  rw [Try.params4] at hA hval
  obtain ⟨v0, vs0, d0, ds0, p0, q0, hargs, rfl, rfl, h0, r0⟩ := trodAll_cons hA
  obtain ⟨rfl, rfl, rfl⟩ := trodAll_nil r0
  obtain rfl : args = #[v0] := by cases args; simp_all
  obtain ⟨rfl, rfl⟩ := trodVars_none hV
  obtain ⟨l1, hs1, hq1, hm1⟩ := read_Bytes (hval 0 22 v0 rfl rfl) h0
  refine (fnCodes_walk v0 l1 W hs1 hq1 hm1).mono fun e W1 ⟨he, hg⟩ => ?_
  subst he
  exact ⟨_, rfl, law_post (tb := 4) laidOut (by kernel_rfl) hW rfl rfl (by kernel_rfl) Try.underlying4 hg⟩
theorem fnCodes_holds : Rows.FnCodesSaid :=
  OpenClaim.holds_of_wide 4 Try.f4 rfl rfl rfl rfl rfl rfl rfl ⟨rfl, rfl, rfl, rfl, rfl⟩ rfl rfl rfl rfl rfl (by kernel_rfl) Try.func4 (by kernel_rfl)
    (of_decide_eq_true (by kernel_rfl)) (by unfold Func.isWrapper; first | (rw [if_pos (by decide +kernel)]; kernel_rfl) | (rw [if_neg (by decide +kernel)]; exact ⟨rfl, rfl⟩))
    (fun os started H enc _ => fnCodes_lifted os started H enc)
#print axioms fnCodes_holds
end Go.Proofs.Ytedpckkoaioooaa
