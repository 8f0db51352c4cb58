/- spec.MoveControl. Condition: at most 1048576 numbers, controls. -/
import Derived.Test.YtedpckkoaioooaaCtlMov
namespace Go.Proofs.Ytedpckkoaioooaa
open Go.RowKit Go.Ori
set_option maxHeartbeats 4000000 in
theorem specMoveControl_any (m : Mp) (rv cv v : Value) (l : List Ctl) (r s : Int) (w : World) (hmp : w.mp rv cv m) (h : w.sl Ctl.cells 2 v l) (hl : l.length ≤ 1048576) :
    Calls Try.prog 11 #[.agg #[.int .i64 m.wd, .int .i64 m.ht, rv, cv], v, .int .i64 r, .int .i64 s] w fun x w' => ∃ R, x = .returned (.tuple #[R, .bool (movB m l r s)]) ∧ (∃ d, w' = w.ext d) ∧ w'.own w.heap.size 46 Ctl.cells 2 R (movL m l r s) := by
  have hm := Lib.hid hmp
  have hs := Lib.hid h
  obtain ⟨p1, c1, p2, c2, rfl, rfl⟩ := mp_form hmp
  obtain ⟨p, c, rfl, _⟩ := id h
  have HG := Lib.hid (fun W hM hL => l6Good_any m (.slice p1 m.rise.length c1) (.slice p2 m.cost.length c2) (.slice p l.length c) l W hM hL hl)
  have HX := Lib.hid (fun W hL => l6Find_any (.slice p l.length c) l r W hL hl)
  clear hmp h
  cases hB : ctlsB m l with
  | false =>
    have h0 : movB m l r s = false := by simp [movB, hB]
    rw [movL_no h0, h0]
    rw [hB] at HG
    clear h0 hB
    go_enter Try.func11, Try.ntmps11
    go_wp2_with (first | (go_at_call 74; refine (HG.out _ (mp_up (hm.out) (by repeat (first | with_reducible (first | exact World.gained_refl _ | exact ⟨_, rfl⟩ | apply gain_ext | apply gain_alloc | apply gain_drewN | apply gain_drew) | (refine gain_setCell ?_ (by first | exact Nat.le_refl _ | exact World.size_ext _ _ | (simp; done) | (simp; omega)) _)))) (by with_reducible (repeat (first | exact hs.out | refine World.sl_ext Ctl.cells_length ?_ _ | refine sl_alloc Ctl.cells_length ?_ _ | refine sl_drew ?_)))).mono ?_; rintro e w1 ⟨rfl, d1, rfl⟩) | (go_at_call 73; refine (HX.out _ (by with_reducible (repeat (first | exact hs.out | refine World.sl_ext Ctl.cells_length ?_ _ | refine sl_alloc Ctl.cells_length ?_ _ | refine sl_drew ?_)))).mono ?_; rintro e w1 ⟨rfl, d2, rfl⟩))
    go_ret2
    exact ⟨_, rfl, (by repeat (first | with_reducible (first | exact World.gained_refl _ | exact ⟨_, rfl⟩ | apply gain_ext | apply gain_alloc | apply gain_drewN | apply gain_drew) | (refine gain_setCell ?_ (by first | exact Nat.le_refl _ | exact World.size_ext _ _ | (simp; done) | (simp; omega)) _))), own_lit' (l := ([] : List Ctl)) Ctl.cells_length rfl rfl (gain_size (by repeat (first | with_reducible (first | exact World.gained_refl _ | exact ⟨_, rfl⟩ | apply gain_ext | apply gain_alloc | apply gain_drewN | apply gain_drew) | (refine gain_setCell ?_ (by first | exact Nat.le_refl _ | exact World.size_ext _ _ | (simp; done) | (simp; omega)) _))))⟩
  | true =>
  cases hK : hasK l r with
  | false =>
    have h0 : movB m l r s = false := by simp [movB, hK]
    rw [movL_no h0, h0]
    rw [hB] at HG
    rw [idxK_no hK] at HX
    clear h0 hB hK
    go_enter Try.func11, Try.ntmps11
    go_wp2_with (first | (go_at_call 74; refine (HG.out _ (mp_up (hm.out) (by repeat (first | with_reducible (first | exact World.gained_refl _ | exact ⟨_, rfl⟩ | apply gain_ext | apply gain_alloc | apply gain_drewN | apply gain_drew) | (refine gain_setCell ?_ (by first | exact Nat.le_refl _ | exact World.size_ext _ _ | (simp; done) | (simp; omega)) _)))) (by with_reducible (repeat (first | exact hs.out | refine World.sl_ext Ctl.cells_length ?_ _ | refine sl_alloc Ctl.cells_length ?_ _ | refine sl_drew ?_)))).mono ?_; rintro e w1 ⟨rfl, d1, rfl⟩) | (go_at_call 73; refine (HX.out _ (by with_reducible (repeat (first | exact hs.out | refine World.sl_ext Ctl.cells_length ?_ _ | refine sl_alloc Ctl.cells_length ?_ _ | refine sl_drew ?_)))).mono ?_; rintro e w1 ⟨rfl, d2, rfl⟩))
    go_ret2
    exact ⟨_, rfl, (by repeat (first | with_reducible (first | exact World.gained_refl _ | exact ⟨_, rfl⟩ | apply gain_ext | apply gain_alloc | apply gain_drewN | apply gain_drew) | (refine gain_setCell ?_ (by first | exact Nat.le_refl _ | exact World.size_ext _ _ | (simp; done) | (simp; omega)) _))), own_lit' (l := ([] : List Ctl)) Ctl.cells_length rfl rfl (gain_size (by repeat (first | with_reducible (first | exact World.gained_refl _ | exact ⟨_, rfl⟩ | apply gain_ext | apply gain_alloc | apply gain_drewN | apply gain_drew) | (refine gain_setCell ?_ (by first | exact Nat.le_refl _ | exact World.size_ext _ _ | (simp; done) | (simp; omega)) _))))⟩
  | true =>
    have hlt := atK_lt hK
    have hl10 := ctlsB_len hB
    have HMS := Lib.hid (mov_set (cell := s) hB hK)
    have HF : Hid (movB m l r s = wCB m l (atK l r) ⟨r, s⟩) := Lib.hid (by simp [movB, hB, hK])
    have HL : Hid (movL m l r s = wCL m l (atK l r) ⟨r, s⟩) := Lib.hid (by
      unfold movL
      split
      · rfl
      · rename_i hn
        rw [HF.out] at hn
        simp [wCL, hn])
    rw [HF.out, HL.out]
    clear HF HL
    rw [hB] at HG
    rw [idxK_yes hK] at HX
    generalize atK l r = n at *
    clear hB hK
    go_enter Try.func11, Try.ntmps11
    go_upto_region 4 with (first | (go_at_call 74; refine (HG.out _ (mp_up (hm.out) (by repeat (first | with_reducible (first | exact World.gained_refl _ | exact ⟨_, rfl⟩ | apply gain_ext | apply gain_alloc | apply gain_drewN | apply gain_drew) | (refine gain_setCell ?_ (by first | exact Nat.le_refl _ | exact World.size_ext _ _ | (simp; done) | (simp; omega)) _)))) (by with_reducible (repeat (first | exact hs.out | refine World.sl_ext Ctl.cells_length ?_ _ | refine sl_alloc Ctl.cells_length ?_ _ | refine sl_drew ?_)))).mono ?_; rintro e w1 ⟨rfl, d1, rfl⟩) | (go_at_call 73; refine (HX.out _ (by with_reducible (repeat (first | exact hs.out | refine World.sl_ext Ctl.cells_length ?_ _ | refine sl_alloc Ctl.cells_length ?_ _ | refine sl_drew ?_)))).mono ?_; rintro e w1 ⟨rfl, d2, rfl⟩))
    obtain ⟨W1, hW1⟩ : ∃ W1, W1 = ((w.alloc (.cells #[.int .i64 m.wd, .int .i64 m.ht, .slice p1 m.rise.length c1, .slice p2 m.cost.length c2] 26)).ext d2).ext d1 := ⟨_, rfl⟩
    rw [← hW1]
    have bx0 : W1.cell? ⟨w.heap.size, 0, none⟩ = some (.int .i64 m.wd) := by rw [hW1]; simp [go_sem]
    have bx1 : W1.cell? ⟨w.heap.size, 1, none⟩ = some (.int .i64 m.ht) := by rw [hW1]; simp [go_sem]
    have bx2 : W1.cell? ⟨w.heap.size, 2, none⟩ = some (.slice p1 m.rise.length c1) := by rw [hW1]; simp [go_sem]
    have bx3 : W1.cell? ⟨w.heap.size, 3, none⟩ = some (.slice p2 m.cost.length c2) := by rw [hW1]; simp [go_sem]
    have HM1 : Hid (W1.mp (.slice p1 m.rise.length c1) (.slice p2 m.cost.length c2) m) := Lib.hid (by rw [hW1]; exact (mp_up (hm.out) (by repeat (first | with_reducible (first | exact World.gained_refl _ | exact ⟨_, rfl⟩ | apply gain_ext | apply gain_alloc | apply gain_drewN | apply gain_drew) | (refine gain_setCell ?_ (by first | exact Nat.le_refl _ | exact World.size_ext _ _ | (simp; done) | (simp; omega)) _)))))
    have HL1 : Hid (W1.sl Ctl.cells 2 (.slice p l.length c) l) := Lib.hid (by rw [hW1]; exact (by with_reducible (repeat (first | exact hs.out | refine World.sl_ext Ctl.cells_length ?_ _ | refine sl_alloc Ctl.cells_length ?_ _ | refine sl_drew ?_))))
    have HGW : Hid (∃ d, W1 = w.ext d) := Lib.hid (by rw [hW1]; exact (by repeat (first | with_reducible (first | exact World.gained_refl _ | exact ⟨_, rfl⟩ | apply gain_ext | apply gain_alloc | apply gain_drewN | apply gain_drew) | (refine gain_setCell ?_ (by first | exact Nat.le_refl _ | exact World.size_ext _ _ | (simp; done) | (simp; omega)) _))))
    have hgw := gain_size HGW.out
    have obx := World.oldB_of_cell bx0
    clear hW1
    generalize hgM : w.heap.size = gM at bx0 bx1 bx2 bx3 obx hgw ⊢
    have HLN := Lib.hid (show (l.set n (⟨r, s⟩ : Ctl)).length = l.length from List.length_set)
    go_wp2_with (at_builtin; go_must (refine wpList_append_gain (W := W1) (base := W1.heap.size) (m := l) rfl (.tmp 24) (.tmp 25) rfl Try.underlying27 info_Ctl (by rfl) (by omega) Ctl.cells_length Ctl.cells_one (by omega) (by repeat (first | with_reducible (first | exact World.gained_refl _ | exact ⟨_, rfl⟩ | apply gain_ext | apply gain_alloc | apply gain_drewN | apply gain_drew) | (refine gain_setCell ?_ (by first | exact Nat.le_refl _ | exact World.size_ext _ _ | (simp; done) | (simp; omega)) _))) (Nat.le_refl _) (gain_size (by repeat (first | with_reducible (first | exact World.gained_refl _ | exact ⟨_, rfl⟩ | apply gain_ext | apply gain_alloc | apply gain_drewN | apply gain_drew) | (refine gain_setCell ?_ (by first | exact Nat.le_refl _ | exact World.size_ext _ _ | (simp; done) | (simp; omega)) _)))) rfl rfl (own_lit' (l := ([] : List Ctl)) Ctl.cells_length rfl rfl (Nat.le_refl _)) (sl_alloc Ctl.cells_length HL1.out _) (by simp; omega) ?_); intro v' d ho hg; rw [List.nil_append] at ho; obtain ⟨g, cap, rfl, hgb, hgc, hgx⟩ := own_open ho (by omega); have HGX := Lib.hid hgx; have HP := Lib.hid (own_put Ctl.cells_length ho hlt (⟨r, s⟩ : Ctl)); clear hg ho hgx; have hox : gM < W1.heap.size := obx; have hne1 : (g = gM) = False := eq_false (by omega); have hne2 : (gM = g) = False := eq_false (by omega); obtain ⟨x0, t0, z0⟩ := HGX.out (n * 2) (by omega); obtain ⟨x1, t1, z1⟩ := HGX.out (n * 2 + 1) (by omega))
    generalize hWW : (((W1.ext d).setCell ⟨g, n * 2, none⟩ (.int .i64 r)).setCell ⟨g, n * 2 + 1, none⟩ (.int .i64 s)) = W2 at ⊢
    have HP2 : Hid (W2.own W1.heap.size 46 Ctl.cells 2 (.slice (some ⟨g, 0, none⟩) l.length cap) (l.set n (⟨r, s⟩ : Ctl))) := Lib.hid (hWW ▸ HP.out)
    obtain ⟨d3, rfl⟩ : ∃ d3, W2 = W1.ext d3 := by rw [← hWW]; exact gain_setCells (Ctl.cells ⟨r, s⟩) (n * 2) ⟨_, rfl⟩ hgb
    clear hWW HP HGX x0 x1 t0 t1 z0 z1
    refine (l6Good_any m _ _ _ (l.set n (⟨r, s⟩ : Ctl)) _ (mp_up (HM1.out) (by repeat (first | with_reducible (first | exact World.gained_refl _ | exact ⟨_, rfl⟩ | apply gain_ext | apply gain_alloc | apply gain_drewN | apply gain_drew) | (refine gain_setCell ?_ (by first | exact Nat.le_refl _ | exact World.size_ext _ _ | (simp; done) | (simp; omega)) _)))) (sl_of_own Ctl.cells_length HP2.out) (by rw [HLN.out]; exact hl)).mono ?_
    rw [HMS.out.1]
    cases hB : wCB m l n ⟨r, s⟩ with
    | true =>
      have HE := Lib.hid (HMS.out.2 hB)
      rintro e w1 ⟨rfl, d4, rfl⟩
      go_wp2_with fail
      go_ret2
      rw [hB, ← HE.out]
      exact ⟨_, rfl, gain_trans HGW.out (by repeat (first | with_reducible (first | exact World.gained_refl _ | exact ⟨_, rfl⟩ | apply gain_ext | apply gain_alloc | apply gain_drewN | apply gain_drew) | (refine gain_setCell ?_ (by first | exact Nat.le_refl _ | exact World.size_ext _ _ | (simp; done) | (simp; omega)) _))), own_base (own_up HP2.out (by repeat (first | with_reducible (first | exact World.gained_refl _ | exact ⟨_, rfl⟩ | apply gain_ext | apply gain_alloc | apply gain_drewN | apply gain_drew) | (refine gain_setCell ?_ (by first | exact Nat.le_refl _ | exact World.size_ext _ _ | (simp; done) | (simp; omega)) _)))) (by omega)⟩
    | false =>
      have HE := Lib.hid (wCL_no hB)
      rintro e w1 ⟨rfl, d4, rfl⟩
      go_wp2_with fail
      go_ret2
      rw [hB, HE.out]
      exact ⟨_, rfl, gain_trans HGW.out (by repeat (first | with_reducible (first | exact World.gained_refl _ | exact ⟨_, rfl⟩ | apply gain_ext | apply gain_alloc | apply gain_drewN | apply gain_drew) | (refine gain_setCell ?_ (by first | exact Nat.le_refl _ | exact World.size_ext _ _ | (simp; done) | (simp; omega)) _))), own_lit' (l := ([] : List Ctl)) Ctl.cells_length rfl rfl (by have h1 := World.size_ext W1 d3; have h2 := World.size_ext (W1.ext d3) d4; omega)⟩
end Go.Proofs.Ytedpckkoaioooaa
