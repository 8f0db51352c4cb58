/- impl.MoveControl. Condition: at most 1048576 numbers, controls. -/
import Derived.Test.YtedpckkoaioooaaCtlMov
namespace Go.Proofs.Ytedpckkoaioooaa
open Go.RowKit Go.Ori
set_option maxHeartbeats 4000000 in
theorem moveControl_any (m : Mp) (rv cv v : Value) (l : List Ctl) (r s : Int) (w : World) (hmp : w.mp rv cv m) (h : w.sl Ctl.cells 2 v l) (hl : l.length ≤ 1048576) :
    Calls Try.prog 10 #[.agg #[.int .i64 m.wd, .int .i64 m.ht, rv, cv], v, .int .i64 r, .int .i64 s] w fun x w' => ∃ R, x = .returned (.tuple #[R, .bool (movB m l r s)]) ∧ (∃ d, w' = w.ext d) ∧ w'.own w.heap.size 46 Ctl.cells 2 R (movL m l r s) := by
  have hm := Lib.hid hmp
  have hs := Lib.hid h
  obtain ⟨p1, c1, p2, c2, rfl, rfl⟩ := mp_form hmp
  obtain ⟨p, c, rfl, _⟩ := id h
  have HG := Lib.hid (fun W hM hL => areControls_any m (.slice p1 m.rise.length c1) (.slice p2 m.cost.length c2) (.slice p l.length c) l W hM hL hl)
  have HX := Lib.hid (fun W hL => controlOf_any (.slice p l.length c) l r W hL hl)
  clear hmp h
  cases hB : ctlsB m l with
  | false =>
    have h0 : movB m l r s = false := by simp [movB, hB]
    rw [movL_no h0, h0]
    rw [hB] at HG
    clear h0 hB
    go_enter Try.func10, Try.ntmps10
    go_wp2_with (first | (go_at_call 13; refine (HG.out _ (mp_up (hm.out) (by repeat (first | with_reducible (first | exact World.gained_refl _ | exact ⟨_, rfl⟩ | apply gain_ext | apply gain_alloc | apply gain_drewN | apply gain_drew) | (refine gain_setCell ?_ (by first | exact Nat.le_refl _ | exact World.size_ext _ _ | (simp; done) | (simp; omega)) _)))) (by with_reducible (repeat (first | exact hs.out | refine World.sl_ext Ctl.cells_length ?_ _ | refine sl_alloc Ctl.cells_length ?_ _ | refine sl_drew ?_)))).mono ?_; rintro e w1 ⟨rfl, d1, rfl⟩) | (go_at_call 71; refine (HX.out _ (by with_reducible (repeat (first | exact hs.out | refine World.sl_ext Ctl.cells_length ?_ _ | refine sl_alloc Ctl.cells_length ?_ _ | refine sl_drew ?_)))).mono ?_; rintro e w1 ⟨rfl, d2, rfl⟩))
    go_ret2
    exact ⟨_, rfl, (by repeat (first | with_reducible (first | exact World.gained_refl _ | exact ⟨_, rfl⟩ | apply gain_ext | apply gain_alloc | apply gain_drewN | apply gain_drew) | (refine gain_setCell ?_ (by first | exact Nat.le_refl _ | exact World.size_ext _ _ | (simp; done) | (simp; omega)) _))), own_nil _ _ _ _ _⟩
  | true =>
  cases hK : hasK l r with
  | false =>
    have h0 : movB m l r s = false := by simp [movB, hK]
    rw [movL_no h0, h0]
    rw [hB] at HG
    rw [idxK_no hK] at HX
    clear h0 hB hK
    go_enter Try.func10, Try.ntmps10
    go_wp2_with (first | (go_at_call 13; refine (HG.out _ (mp_up (hm.out) (by repeat (first | with_reducible (first | exact World.gained_refl _ | exact ⟨_, rfl⟩ | apply gain_ext | apply gain_alloc | apply gain_drewN | apply gain_drew) | (refine gain_setCell ?_ (by first | exact Nat.le_refl _ | exact World.size_ext _ _ | (simp; done) | (simp; omega)) _)))) (by with_reducible (repeat (first | exact hs.out | refine World.sl_ext Ctl.cells_length ?_ _ | refine sl_alloc Ctl.cells_length ?_ _ | refine sl_drew ?_)))).mono ?_; rintro e w1 ⟨rfl, d1, rfl⟩) | (go_at_call 71; refine (HX.out _ (by with_reducible (repeat (first | exact hs.out | refine World.sl_ext Ctl.cells_length ?_ _ | refine sl_alloc Ctl.cells_length ?_ _ | refine sl_drew ?_)))).mono ?_; rintro e w1 ⟨rfl, d2, rfl⟩))
    go_ret2
    exact ⟨_, rfl, (by repeat (first | with_reducible (first | exact World.gained_refl _ | exact ⟨_, rfl⟩ | apply gain_ext | apply gain_alloc | apply gain_drewN | apply gain_drew) | (refine gain_setCell ?_ (by first | exact Nat.le_refl _ | exact World.size_ext _ _ | (simp; done) | (simp; omega)) _))), own_nil _ _ _ _ _⟩
  | true =>
    have hlt := atK_lt hK
    have hl10 := ctlsB_len hB
    have HF : Hid (movB m l r s = wCB m l (atK l r) ⟨r, s⟩) := Lib.hid (by simp [movB, hB, hK])
    have HL : Hid (movL m l r s = wCL m l (atK l r) ⟨r, s⟩) := Lib.hid (by
      unfold movL
      split
      · rfl
      · rename_i hn
        rw [HF.out] at hn
        simp [wCL, hn])
    rw [HF.out, HL.out]
    clear HF HL
    rw [hB] at HG
    rw [idxK_yes hK] at HX
    generalize atK l r = n at *
    clear hB hK
    go_enter Try.func10, Try.ntmps10
    go_wp2_with (first | (go_at_call 13; refine (HG.out _ (mp_up (hm.out) (by repeat (first | with_reducible (first | exact World.gained_refl _ | exact ⟨_, rfl⟩ | apply gain_ext | apply gain_alloc | apply gain_drewN | apply gain_drew) | (refine gain_setCell ?_ (by first | exact Nat.le_refl _ | exact World.size_ext _ _ | (simp; done) | (simp; omega)) _)))) (by with_reducible (repeat (first | exact hs.out | refine World.sl_ext Ctl.cells_length ?_ _ | refine sl_alloc Ctl.cells_length ?_ _ | refine sl_drew ?_)))).mono ?_; rintro e w1 ⟨rfl, d1, rfl⟩) | (go_at_call 71; refine (HX.out _ (by with_reducible (repeat (first | exact hs.out | refine World.sl_ext Ctl.cells_length ?_ _ | refine sl_alloc Ctl.cells_length ?_ _ | refine sl_drew ?_)))).mono ?_; rintro e w1 ⟨rfl, d2, rfl⟩))
    refine (withControl_any m _ _ _ l n ⟨r, s⟩ _ (mp_up (hm.out) (by repeat (first | with_reducible (first | exact World.gained_refl _ | exact ⟨_, rfl⟩ | apply gain_ext | apply gain_alloc | apply gain_drewN | apply gain_drew) | (refine gain_setCell ?_ (by first | exact Nat.le_refl _ | exact World.size_ext _ _ | (simp; done) | (simp; omega)) _)))) (by with_reducible (repeat (first | exact hs.out | refine World.sl_ext Ctl.cells_length ?_ _ | refine sl_alloc Ctl.cells_length ?_ _ | refine sl_drew ?_))) hl10 hlt).mono ?_
    rintro e w1 ⟨R, rfl, ⟨d3, rfl⟩, ho⟩
    have HO := Lib.hid ho
    clear ho
    go_wp2_with fail
    go_ret2
    exact ⟨_, rfl, (by repeat (first | with_reducible (first | exact World.gained_refl _ | exact ⟨_, rfl⟩ | apply gain_ext | apply gain_alloc | apply gain_drewN | apply gain_drew) | (refine gain_setCell ?_ (by first | exact Nat.le_refl _ | exact World.size_ext _ _ | (simp; done) | (simp; omega)) _))), own_base HO.out (gain_size (by repeat (first | with_reducible (first | exact World.gained_refl _ | exact ⟨_, rfl⟩ | apply gain_ext | apply gain_alloc | apply gain_drewN | apply gain_drew) | (refine gain_setCell ?_ (by first | exact Nat.le_refl _ | exact World.size_ext _ _ | (simp; done) | (simp; omega)) _))))⟩
end Go.Proofs.Ytedpckkoaioooaa
