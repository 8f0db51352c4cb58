/- spec.CodeAt; MoveControl, RecodeControl: the program's and the specification's. Condition: at most 1048576 numbers, controls. -/
import Derived.Test.YtedpckkoaioooaaCtlOps
import Derived.Test.YtedpckkoaioooaaSortC
namespace Go.Ori
theorem codI_hit {m : Mp} {l : List Ctl} {r : Int} {k : Nat} (hg : ctlsB m l = true) (hk : k < l.length) (hno : ∀ (j : Nat) (hj : j < l.length), j < k → (l[j].cell == r) = false) (hf : (l[k].cell == r) = true) : codB m l r = true ∧ codI m l r = l[k].code := by
  have hK : hasC l r = true := List.any_eq_true.2 ⟨_, List.getElem_mem hk, hf⟩
  have hB : codB m l r = true := by simp [codB, hg, hK]
  have he : atC l r = k := by
    have h1 := idxC_yes hK
    have h2 := idxB_some (p := fun e : Ctl => e.cell == r) hk hno hf
    rw [h1] at h2
    exact Int.ofNat.inj h2
  refine ⟨hB, ?_⟩
  rw [codI_yes hB (by rw [he]; exact hk)]
  simp only [he]
theorem codI_miss {m : Mp} {l : List Ctl} {r : Int} (hno : ∀ (j : Nat) (hj : j < l.length), (l[j].cell == r) = false) : codB m l r = false := by
  have : hasC l r = false := by
    unfold hasC
    rw [List.any_eq_false]
    intro x hx
    obtain ⟨j, hj, rfl⟩ := List.getElem_of_mem hx
    simp [hno j hj]
  simp [codB, this]
theorem codB_cell {m : Mp} {l : List Ctl} {r : Int} (hg : ctlsB m l = true) (h : cellB m r = false) : codB m l r = false := by
  cases hK : hasC l r with
  | false => simp [codB, hK]
  | true => rw [hasC_cell hg hK] at h; cases h
theorem wCL_yes {m : Mp} {l r : List Ctl} {i : Nat} {c : Ctl} (hp : r.Perm (l.set i c)) (h1 : AscC r) (h : wCB m l i c = true) : wCL m l i c = r := ((wC_of hp h1).2 h).symm
end Go.Ori
namespace Go.Proofs.Ytedpckkoaioooaa
open Go.RowKit Go.Ori
set_option maxHeartbeats 2000000 in
theorem specCodeAt_any (m : Mp) (rv cv v : Value) (l : List Ctl) (r : Int) (w : World) (hmp : w.mp rv cv m) (h : w.sl Ctl.cells 2 v l) (hl : l.length ≤ 1048576) :
    Calls Try.prog 23 #[.agg #[.int .i64 m.wd, .int .i64 m.ht, rv, cv], v, .int .i64 r] w fun x w' => x = .returned (.tuple #[.int .i64 (codI m l r), .bool (codB m l r)]) ∧ ∃ d, w' = w.ext d := by
  have hm := Lib.hid hmp
  have hs := Lib.hid h
  obtain ⟨p1, c1, p2, c2, rfl, rfl⟩ := mp_form hmp
  obtain ⟨p, c, rfl, _⟩ := id h
  have HG := Lib.hid (fun W hM hL => l6Good_any m (.slice p1 m.rise.length c1) (.slice p2 m.cost.length c2) (.slice p l.length c) l W hM hL hl)
  clear hmp h
  cases hB : ctlsB m l with
  | false =>
    have h0 : codB m l r = false := by simp [codB, hB]
    rw [codI_no h0, h0]
    rw [hB] at HG
    clear h0 hB
    go_enter Try.func23, Try.ntmps23
    go_wp2_with (go_at_call 74; refine (HG.out _ (mp_up (hm.out) (by repeat (first | with_reducible (first | exact World.gained_refl _ | exact ⟨_, rfl⟩ | apply gain_ext | apply gain_alloc | apply gain_drewN | apply gain_drew) | (refine gain_setCell ?_ (by first | exact Nat.le_refl _ | exact World.size_ext _ _ | (simp; done) | (simp; omega)) _)))) (by with_reducible (repeat (first | exact hs.out | refine World.sl_ext Ctl.cells_length ?_ _ | refine sl_alloc Ctl.cells_length ?_ _ | refine sl_drew ?_)))).mono ?_; rintro e w1 ⟨rfl, d1, rfl⟩)
    go_ret2
    exact ⟨rfl, (by repeat (first | with_reducible (first | exact World.gained_refl _ | exact ⟨_, rfl⟩ | apply gain_ext | apply gain_alloc | apply gain_drewN | apply gain_drew) | (refine gain_setCell ?_ (by first | exact Nat.le_refl _ | exact World.size_ext _ _ | (simp; done) | (simp; omega)) _)))⟩
  | true =>
  have HC := Lib.hid (fun W => l2Cell_any m (.slice p1 m.rise.length c1) (.slice p2 m.cost.length c2) r W (ctlsB_map hB))
  cases hC : cellB m r with
  | false =>
    have h0 := codB_cell hB hC
    rw [codI_no h0, h0]
    rw [hB] at HG
    rw [hC] at HC
    clear h0 hB hC
    go_enter Try.func23, Try.ntmps23
    go_wp2_with (first | (go_at_call 74; refine (HG.out _ (mp_up (hm.out) (by repeat (first | with_reducible (first | exact World.gained_refl _ | exact ⟨_, rfl⟩ | apply gain_ext | apply gain_alloc | apply gain_drewN | apply gain_drew) | (refine gain_setCell ?_ (by first | exact Nat.le_refl _ | exact World.size_ext _ _ | (simp; done) | (simp; omega)) _)))) (by with_reducible (repeat (first | exact hs.out | refine World.sl_ext Ctl.cells_length ?_ _ | refine sl_alloc Ctl.cells_length ?_ _ | refine sl_drew ?_)))).mono ?_; rintro e w1 ⟨rfl, d1, rfl⟩) | (go_at_call 83; refine (HC.out _).mono ?_; rintro e w1 ⟨rfl, d2, rfl⟩))
    go_ret2
    exact ⟨rfl, (by repeat (first | with_reducible (first | exact World.gained_refl _ | exact ⟨_, rfl⟩ | apply gain_ext | apply gain_alloc | apply gain_drewN | apply gain_drew) | (refine gain_setCell ?_ (by first | exact Nat.le_refl _ | exact World.size_ext _ _ | (simp; done) | (simp; omega)) _)))⟩
  | true =>
    have HIT := Lib.hid (fun (k : Nat) (hk : k < l.length) hno hf => codI_hit (m := m) (l := l) (r := r) (k := k) hB hk hno hf)
    have HMISS := Lib.hid (fun hno => codI_miss (m := m) (l := l) (r := r) hno)
    have HNO := Lib.hid (fun (h : codB m l r = false) => codI_no h)
    generalize codI m l r = CI at HIT HNO ⊢
    generalize codB m l r = CB at HIT HMISS HNO ⊢
    rw [hB] at HG
    rw [hC] at HC
    clear hB hC
    go_enter Try.func23, Try.ntmps23
    go_wp2_with (first | (go_at_call 74; refine (HG.out _ (mp_up (hm.out) (by repeat (first | with_reducible (first | exact World.gained_refl _ | exact ⟨_, rfl⟩ | apply gain_ext | apply gain_alloc | apply gain_drewN | apply gain_drew) | (refine gain_setCell ?_ (by first | exact Nat.le_refl _ | exact World.size_ext _ _ | (simp; done) | (simp; omega)) _)))) (by with_reducible (repeat (first | exact hs.out | refine World.sl_ext Ctl.cells_length ?_ _ | refine sl_alloc Ctl.cells_length ?_ _ | refine sl_drew ?_)))).mono ?_; rintro e w1 ⟨rfl, d1, rfl⟩) | (go_at_call 83; refine (HC.out _).mono ?_; rintro e w1 ⟨rfl, d2, rfl⟩))
    go_loopw [8] (fun i_ wr => ∃ k : Nat, k ≤ l.length ∧ i_ = .int .i64 k ∧ (∀ (j : Nat) (hj : j < l.length), j < k → (l[j].cell == r) = false) ∧ ∃ d, wr = w.ext d) (fun i_ _ => l.length - (intOf i_).toNat)
    case atStart => exact ⟨0, by omega, rfl, by simp, (by repeat (first | with_reducible (first | exact World.gained_refl _ | exact ⟨_, rfl⟩ | apply gain_ext | apply gain_alloc | apply gain_drewN | apply gain_drew) | (refine gain_setCell ?_ (by first | exact Nat.le_refl _ | exact World.size_ext _ _ | (simp; done) | (simp; omega)) _)))⟩
    case round =>
      obtain ⟨k, hk, rfl, hno, d, rfl⟩ := hrel
      have HN := Lib.hid hno
      clear hno
      by_cases hlt : k < l.length
      · obtain ⟨b, o, rfl⟩ := sl_some hs.out (by omega)
        have c0 := sl_cells hs.out hlt (j := 0) (by omega)
        have c1 := sl_cells hs.out hlt (j := 1) (by omega)
        have H1 := Lib.hid (fun hf => HIT.out k hlt HN.out hf)
        have H2 := Lib.hid (fun (hf : (l[k].cell == r) = false) => (show ∀ (j : Nat) (hj : j < l.length), j < k + 1 → (l[j].cell == r) = false from fun j hj hjk => by
          by_cases e : j = k
          · subst e; exact hf
          · exact HN.out j hj (by omega)))
        generalize l[k] = y at c0 c1 H1 H2
        simp only [Ctl.cells, List.getElem?_cons_zero, List.getElem?_cons_succ, Nat.add_zero] at c0 c1
        have ob := World.oldB_of_cell c0
        cases hf : (y.cell == r) with
        | true =>
          have H1' := Lib.hid (H1.out hf)
          go_wp2
          go_ret2
          rw [H1'.out.1, H1'.out.2]
          exact ⟨rfl, _, rfl⟩
        | false =>
          have H2' := Lib.hid (H2.out hf)
          go_wp2
          go_roundw
          case rel => exact ⟨k + 1, by omega, by go_num, H2'.out, _, rfl⟩
          case measure => simp [intOf]; omega
      · have hM := HMISS.out (fun j hj => HN.out j hj (by omega))
        have hN := HNO.out hM
        subst hM hN
        go_wp2
        go_ret2
        exact ⟨rfl, _, rfl⟩
set_option maxHeartbeats 4000000 in
theorem withControl_any (m : Mp) (rv cv v : Value) (l : List Ctl) (i : Nat) (c : Ctl) (w : World) (hmp : w.mp rv cv m) (h : w.sl Ctl.cells 2 v l) (hl : l.length ≤ 10) (hi : i < l.length) :
    Calls Try.prog 72 #[.agg #[.int .i64 m.wd, .int .i64 m.ht, rv, cv], v, .int .i64 i, .agg #[.int .i64 c.code, .int .i64 c.cell]] w fun x w' => ∃ r, x = .returned (.tuple #[r, .bool (wCB m l i c)]) ∧ (∃ d, w' = w.ext d) ∧ w'.own w.heap.size 46 Ctl.cells 2 r (wCL m l i c) := by
  have hm := Lib.hid hmp
  have hs := Lib.hid h
  obtain ⟨p1, c1, p2, c2, rfl, rfl⟩ := mp_form hmp
  obtain ⟨p, k, rfl, _⟩ := id h
  have HG := Lib.hid (fun v r W hM hL (hr : r.length ≤ 1048576) => areControls_any m (.slice p1 m.rise.length c1) (.slice p2 m.cost.length c2) v r W hM hL hr)
  clear hmp h
  go_enter Try.func72, Try.ntmps72
  go_upto_region 1 with fail
  generalize hW1 : (w.alloc (.cells #[.int .i64 m.wd, .int .i64 m.ht, .slice p1 m.rise.length c1, .slice p2 m.cost.length c2] 26)).alloc (.cells #[.int .i64 c.code, .int .i64 c.cell] 46) = W1
  have bx0 : W1.cell? ⟨w.heap.size, 0, none⟩ = some (.int .i64 m.wd) := by rw [← hW1]; simp [go_sem]
  have bx1 : W1.cell? ⟨w.heap.size, 1, none⟩ = some (.int .i64 m.ht) := by rw [← hW1]; simp [go_sem]
  have bx2 : W1.cell? ⟨w.heap.size, 2, none⟩ = some (.slice p1 m.rise.length c1) := by rw [← hW1]; simp [go_sem]
  have bx3 : W1.cell? ⟨w.heap.size, 3, none⟩ = some (.slice p2 m.cost.length c2) := by rw [← hW1]; simp [go_sem]
  have cx0 : W1.cell? ⟨w.heap.size + 1, 0, none⟩ = some (.int .i64 c.code) := by rw [← hW1]; simp [go_sem]
  have cx1 : W1.cell? ⟨w.heap.size + 1, 1, none⟩ = some (.int .i64 c.cell) := by rw [← hW1]; simp [go_sem]
  have HM1 : Hid (W1.mp (.slice p1 m.rise.length c1) (.slice p2 m.cost.length c2) m) := Lib.hid (by rw [← hW1]; exact (mp_up (hm.out) (by repeat (first | with_reducible (first | exact World.gained_refl _ | exact ⟨_, rfl⟩ | apply gain_ext | apply gain_alloc | apply gain_drewN | apply gain_drew) | (refine gain_setCell ?_ (by first | exact Nat.le_refl _ | exact World.size_ext _ _ | (simp; done) | (simp; omega)) _)))))
  have HL1 : Hid (W1.sl Ctl.cells 2 (.slice p l.length k) l) := Lib.hid (by rw [← hW1]; exact (by with_reducible (repeat (first | exact hs.out | refine World.sl_ext Ctl.cells_length ?_ _ | refine sl_alloc Ctl.cells_length ?_ _ | refine sl_drew ?_))))
  have HGW : Hid (∃ d, W1 = w.ext d) := Lib.hid (by rw [← hW1]; exact (by repeat (first | with_reducible (first | exact World.gained_refl _ | exact ⟨_, rfl⟩ | apply gain_ext | apply gain_alloc | apply gain_drewN | apply gain_drew) | (refine gain_setCell ?_ (by first | exact Nat.le_refl _ | exact World.size_ext _ _ | (simp; done) | (simp; omega)) _))))
  have hgw := gain_size HGW.out
  have obx := World.oldB_of_cell bx0
  have obc := World.oldB_of_cell cx0
  have HLN := Lib.hid (show (l.set i c).length = l.length from List.length_set)
  clear hW1
  generalize w.heap.size + 1 = gC at cx0 cx1 obc ⊢
  generalize hgM : w.heap.size = gM at bx0 bx1 bx2 bx3 obx hgw ⊢
  go_wp2_with (at_builtin; go_must (refine wpList_append_gain (W := W1) (base := W1.heap.size) (m := l) rfl (.tmp 11) (.tmp 12) rfl Try.underlying27 info_Ctl (by rfl) (by omega) Ctl.cells_length Ctl.cells_one (by omega) (by repeat (first | with_reducible (first | exact World.gained_refl _ | exact ⟨_, rfl⟩ | apply gain_ext | apply gain_alloc | apply gain_drewN | apply gain_drew) | (refine gain_setCell ?_ (by first | exact Nat.le_refl _ | exact World.size_ext _ _ | (simp; done) | (simp; omega)) _))) (Nat.le_refl _) (gain_size (by repeat (first | with_reducible (first | exact World.gained_refl _ | exact ⟨_, rfl⟩ | apply gain_ext | apply gain_alloc | apply gain_drewN | apply gain_drew) | (refine gain_setCell ?_ (by first | exact Nat.le_refl _ | exact World.size_ext _ _ | (simp; done) | (simp; omega)) _)))) rfl rfl (own_lit' (l := ([] : List Ctl)) Ctl.cells_length rfl rfl (Nat.le_refl _)) (sl_alloc Ctl.cells_length HL1.out _) (by simp; omega) ?_); intro v' d ho hg; rw [List.nil_append] at ho; obtain ⟨g, cap, rfl, hgb, hgc, hgx⟩ := own_open ho (by omega); have HGX := Lib.hid hgx; have HP := Lib.hid (own_put Ctl.cells_length ho hi c); clear hg ho hgx; obtain ⟨x0, t0, z0⟩ := HGX.out (i * 2) (by omega); obtain ⟨x1, t1, z1⟩ := HGX.out (i * 2 + 1) (by omega))
  generalize hWW : (((W1.ext d).setCell ⟨g, i * 2, none⟩ (.int .i64 c.code)).setCell ⟨g, i * 2 + 1, none⟩ (.int .i64 c.cell)) = W2 at ⊢
  have HP2 : Hid (W2.own W1.heap.size 46 Ctl.cells 2 (.slice (some ⟨g, 0, none⟩) l.length cap) (l.set i c)) := Lib.hid (hWW ▸ HP.out)
  obtain ⟨d2, rfl⟩ : ∃ d2, W2 = W1.ext d2 := by rw [← hWW]; exact gain_setCells c.cells (i * 2) ⟨_, rfl⟩ hgb
  clear hWW HP HGX x0 x1 t0 t1 z0 z1 cx0 cx1 obc
  refine (sortStableC_any W1 _ (l.set i c) _ W1.heap.size HP2.out (by rw [HLN.out]; omega) ⟨_, rfl⟩ (Nat.le_refl _)).mono ?_
  rintro e w1 ⟨rfl, ⟨d3, rfl⟩, r, hr, hp, ha⟩
  have hrl : r.length ≤ 10 := by rw [hp.length_eq, HLN.out]; exact hl
  have HR := Lib.hid hr
  have HWC := Lib.hid (wC_of (m := m) hp ha)
  clear hr hp ha HP2
  cases hB : wCB m l i c with
  | true =>
    have HE := Lib.hid (HWC.out.2 hB)
    go_wp2_with (go_at_call 13; refine (HG.out _ r _ (mp_up (HM1.out) (by repeat (first | with_reducible (first | exact World.gained_refl _ | exact ⟨_, rfl⟩ | apply gain_ext | apply gain_alloc | apply gain_drewN | apply gain_drew) | (refine gain_setCell ?_ (by first | exact Nat.le_refl _ | exact World.size_ext _ _ | (simp; done) | (simp; omega)) _)))) (by with_reducible (repeat (first | exact sl_of_own Ctl.cells_length HR.out | refine World.sl_ext Ctl.cells_length ?_ _ | refine sl_alloc Ctl.cells_length ?_ _ | refine sl_drew ?_))) (by omega)).mono ?_; rw [HWC.out.1, hB]; rintro e w1 ⟨rfl, d4, rfl⟩)
    go_ret2
    rw [hB, ← HE.out]
    exact ⟨_, rfl, gain_trans HGW.out (by repeat (first | with_reducible (first | exact World.gained_refl _ | exact ⟨_, rfl⟩ | apply gain_ext | apply gain_alloc | apply gain_drewN | apply gain_drew) | (refine gain_setCell ?_ (by first | exact Nat.le_refl _ | exact World.size_ext _ _ | (simp; done) | (simp; omega)) _))), own_base (own_up HR.out (by repeat (first | with_reducible (first | exact World.gained_refl _ | exact ⟨_, rfl⟩ | apply gain_ext | apply gain_alloc | apply gain_drewN | apply gain_drew) | (refine gain_setCell ?_ (by first | exact Nat.le_refl _ | exact World.size_ext _ _ | (simp; done) | (simp; omega)) _)))) (by omega)⟩
  | false =>
    have HE := Lib.hid (wCL_no hB)
    go_wp2_with (go_at_call 13; refine (HG.out _ r _ (mp_up (HM1.out) (by repeat (first | with_reducible (first | exact World.gained_refl _ | exact ⟨_, rfl⟩ | apply gain_ext | apply gain_alloc | apply gain_drewN | apply gain_drew) | (refine gain_setCell ?_ (by first | exact Nat.le_refl _ | exact World.size_ext _ _ | (simp; done) | (simp; omega)) _)))) (by with_reducible (repeat (first | exact sl_of_own Ctl.cells_length HR.out | refine World.sl_ext Ctl.cells_length ?_ _ | refine sl_alloc Ctl.cells_length ?_ _ | refine sl_drew ?_))) (by omega)).mono ?_; rw [HWC.out.1, hB]; rintro e w1 ⟨rfl, d4, rfl⟩)
    go_ret2
    rw [hB, HE.out]
    exact ⟨_, rfl, gain_trans HGW.out (by repeat (first | with_reducible (first | exact World.gained_refl _ | exact ⟨_, rfl⟩ | apply gain_ext | apply gain_alloc | apply gain_drewN | apply gain_drew) | (refine gain_setCell ?_ (by first | exact Nat.le_refl _ | exact World.size_ext _ _ | (simp; done) | (simp; omega)) _))), own_nil _ _ _ _ _⟩
end Go.Proofs.Ytedpckkoaioooaa
