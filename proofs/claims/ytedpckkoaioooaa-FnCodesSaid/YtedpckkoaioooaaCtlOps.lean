/- CellOfCode, CodeAt: the program's and the specification's; spec.AreControls; laws.vControls. Condition: at most 1048576 numbers, controls. -/
import Derived.Test.YtedpckkoaioooaaPMov
import Derived.Test.YtedpckkoaioooaaAreCtlS
import Derived.Test.YtedpckkoaioooaaMapS
namespace Go.Proofs.Ytedpckkoaioooaa
open Go.RowKit Go.Ori
theorem specAreControls_any (m : Mp) (rv cv v : Value) (l : List Ctl) (w : World) (hmp : w.mp rv cv m) (h : w.sl Ctl.cells 2 v l) (hl : l.length ≤ 1048576) :
    Calls Try.prog 14 #[.agg #[.int .i64 m.wd, .int .i64 m.ht, rv, cv], v] w fun x w' => x = .returned (.bool (ctlsB m l)) ∧ ∃ d, w' = w.ext d := by
  have hm := Lib.hid hmp
  have hs := Lib.hid h
  obtain ⟨p1, c1, p2, c2, rfl, rfl⟩ := mp_form hmp
  obtain ⟨p, c, rfl, _⟩ := id h
  clear hmp h
  go_enter Try.func14, Try.ntmps14
  go_wp2_with (go_at_call 74; refine (l6Good_any m _ _ _ l _ (mp_up (hm.out) (by repeat (first | with_reducible (first | exact World.gained_refl _ | exact ⟨_, rfl⟩ | apply gain_ext | apply gain_alloc | apply gain_drewN | apply gain_drew) | (refine gain_setCell ?_ (by first | exact Nat.le_refl _ | exact World.size_ext _ _ | (simp; done) | (simp; omega)) _)))) (by with_reducible (repeat (first | exact hs.out | refine World.sl_ext Ctl.cells_length ?_ _ | refine sl_alloc Ctl.cells_length ?_ _ | refine sl_drew ?_))) hl).mono ?_; rintro e w1 ⟨rfl, d1, rfl⟩)
  go_ret
  exact ⟨rfl, (by repeat (first | with_reducible (first | exact World.gained_refl _ | exact ⟨_, rfl⟩ | apply gain_ext | apply gain_alloc | apply gain_drewN | apply gain_drew) | (refine gain_setCell ?_ (by first | exact Nat.le_refl _ | exact World.size_ext _ _ | (simp; done) | (simp; omega)) _)))⟩
set_option maxHeartbeats 1000000 in
theorem vControls_same (v v2 : Value) (l : List Ctl) (w : World) (h : w.sl Ctl.cells 2 v l) (h2 : w.sl Ctl.cells 2 v2 l) (hl : l.length ≤ 1048576) :
    Calls Try.prog 12 #[v, v2] w fun x w' => x = .returned (.bool true) ∧ ∃ d, w' = w.ext d := by
  have hs := Lib.hid h
  have hs2 := Lib.hid h2
  obtain ⟨p, c, rfl, _⟩ := h
  obtain ⟨p2, c2, rfl, _⟩ := h2
  go_enter Try.func12, Try.ntmps12
  go_wp2
  go_loopw [5] (fun i wr => ∃ k : Nat, k ≤ l.length ∧ i = .int .i64 k ∧ ∃ d, wr = w.ext d) (fun i _ => l.length - (intOf i).toNat)
  case atStart => exact ⟨0, by omega, rfl, w.gained_refl⟩
  case round =>
    obtain ⟨k, hk, rfl, d, rfl⟩ := hrel
    by_cases hlt : k < l.length
    · obtain ⟨b, o, rfl⟩ := sl_some hs.out (by omega)
      obtain ⟨b2, o2, rfl⟩ := sl_some hs2.out (by omega)
      have c0 := sl_cells hs.out hlt (j := 0) (by omega)
      have c1 := sl_cells hs.out hlt (j := 1) (by omega)
      have e0 := sl_cells hs2.out hlt (j := 0) (by omega)
      have e1 := sl_cells hs2.out hlt (j := 1) (by omega)
      generalize l[k] = x at c0 c1 e0 e1
      simp only [Ctl.cells, List.getElem?_cons_zero, List.getElem?_cons_succ, Nat.add_zero] at c0 c1 e0 e1
      have ob := World.oldB_of_cell c0
      have ob2 := World.oldB_of_cell e0
      go_wp2
      refine wp_region_gain (by kernel_rfl) (by kernel_rfl) ?_
      repeat (first | go_big_quiet_skip | (go_big_quiet_want; go_big_quiet_op; first | go_big_quiet_on))
      refine wpQuiet_nil ?_
      rintro _ ⟨d', rfl⟩
      go_wp2
      go_roundw
      case rel => exact ⟨k + 1, by omega, by go_num, (by repeat (first | with_reducible (first | exact World.gained_refl _ | exact ⟨_, rfl⟩ | apply gain_ext | apply gain_alloc | apply gain_drewN | apply gain_drew) | (refine gain_setCell ?_ (by first | exact Nat.le_refl _ | exact World.size_ext _ _ | (simp; done) | (simp; omega)) _)))⟩
      case measure => simp [intOf]; omega
    · go_wp2
      go_ret
      exact ⟨rfl, _, rfl⟩
theorem cocI_at {m : Mp} {l : List Ctl} {r : Int} (h0 : cocB m l r = true) (hK : hasK l r = true) : cocI m l r = (l[atK l r]'(atK_lt hK)).cell := by rw [cocI_yes h0, cellK_eq hK]
theorem codI_at {m : Mp} {l : List Ctl} {r : Int} (h0 : codB m l r = true) (hK : hasC l r = true) : codI m l r = (l[atC l r]'(atC_lt hK)).code := codI_yes h0 (atC_lt hK)
set_option maxHeartbeats 2000000 in
theorem cellOfCode_any (m : Mp) (rv cv v : Value) (l : List Ctl) (r : Int) (w : World) (hmp : w.mp rv cv m) (h : w.sl Ctl.cells 2 v l) (hl : l.length ≤ 1048576) :
    Calls Try.prog 15 #[.agg #[.int .i64 m.wd, .int .i64 m.ht, rv, cv], v, .int .i64 r] w fun x w' => x = .returned (.tuple #[.int .i64 (cocI m l r), .bool (cocB m l r)]) ∧ ∃ d, w' = w.ext d := by
  have hm := Lib.hid hmp
  have hs := Lib.hid h
  obtain ⟨p1, c1, p2, c2, rfl, rfl⟩ := mp_form hmp
  obtain ⟨p, c, rfl, _⟩ := id h
  have HG := Lib.hid (fun W hM hL => areControls_any m (.slice p1 m.rise.length c1) (.slice p2 m.cost.length c2) (.slice p l.length c) l W hM hL hl)
  have HX := Lib.hid (fun W hL => controlOf_any (.slice p l.length c) l r W hL hl)
  clear hmp h
  cases hB : ctlsB m l with
  | false =>
    have h0 : cocB m l r = false := by simp [cocB, hB]
    rw [cocI_no h0, h0]
    rw [hB] at HG
    clear h0 hB
    go_enter Try.func15, Try.ntmps15
    go_wp2_with (first | (go_at_call 13; refine (HG.out _ (mp_up (hm.out) (by repeat (first | with_reducible (first | exact World.gained_refl _ | exact ⟨_, rfl⟩ | apply gain_ext | apply gain_alloc | apply gain_drewN | apply gain_drew) | (refine gain_setCell ?_ (by first | exact Nat.le_refl _ | exact World.size_ext _ _ | (simp; done) | (simp; omega)) _)))) (by with_reducible (repeat (first | exact hs.out | refine World.sl_ext Ctl.cells_length ?_ _ | refine sl_alloc Ctl.cells_length ?_ _ | refine sl_drew ?_)))).mono ?_; rintro e w1 ⟨rfl, d1, rfl⟩) | (go_at_call 71; refine (HX.out _ (by with_reducible (repeat (first | exact hs.out | refine World.sl_ext Ctl.cells_length ?_ _ | refine sl_alloc Ctl.cells_length ?_ _ | refine sl_drew ?_)))).mono ?_; rintro e w1 ⟨rfl, d2, rfl⟩))
    go_ret2
    exact ⟨rfl, (by repeat (first | with_reducible (first | exact World.gained_refl _ | exact ⟨_, rfl⟩ | apply gain_ext | apply gain_alloc | apply gain_drewN | apply gain_drew) | (refine gain_setCell ?_ (by first | exact Nat.le_refl _ | exact World.size_ext _ _ | (simp; done) | (simp; omega)) _)))⟩
  | true =>
  cases hK : hasK l r with
  | false =>
    have h0 : cocB m l r = false := by simp [cocB, hK]
    rw [cocI_no h0, h0]
    rw [hB] at HG
    rw [idxK_no hK] at HX
    clear h0 hB hK
    go_enter Try.func15, Try.ntmps15
    go_wp2_with (first | (go_at_call 13; refine (HG.out _ (mp_up (hm.out) (by repeat (first | with_reducible (first | exact World.gained_refl _ | exact ⟨_, rfl⟩ | apply gain_ext | apply gain_alloc | apply gain_drewN | apply gain_drew) | (refine gain_setCell ?_ (by first | exact Nat.le_refl _ | exact World.size_ext _ _ | (simp; done) | (simp; omega)) _)))) (by with_reducible (repeat (first | exact hs.out | refine World.sl_ext Ctl.cells_length ?_ _ | refine sl_alloc Ctl.cells_length ?_ _ | refine sl_drew ?_)))).mono ?_; rintro e w1 ⟨rfl, d1, rfl⟩) | (go_at_call 71; refine (HX.out _ (by with_reducible (repeat (first | exact hs.out | refine World.sl_ext Ctl.cells_length ?_ _ | refine sl_alloc Ctl.cells_length ?_ _ | refine sl_drew ?_)))).mono ?_; rintro e w1 ⟨rfl, d2, rfl⟩))
    go_ret2
    exact ⟨rfl, (by repeat (first | with_reducible (first | exact World.gained_refl _ | exact ⟨_, rfl⟩ | apply gain_ext | apply gain_alloc | apply gain_drewN | apply gain_drew) | (refine gain_setCell ?_ (by first | exact Nat.le_refl _ | exact World.size_ext _ _ | (simp; done) | (simp; omega)) _)))⟩
  | true =>
    have h0 : cocB m l r = true := by simp [cocB, hB, hK]
    have hlt := atK_lt hK
    have HE := Lib.hid (cocI_at h0 hK)
    rw [h0]
    rw [hB] at HG
    rw [idxK_yes hK] at HX
    obtain ⟨b, o, rfl⟩ := sl_some hs.out (by omega)
    have c1 := sl_cells hs.out hlt (j := 1) (by omega)
    generalize l[atK l r] = y at c1 HE
    generalize atK l r = n at *
    simp only [Ctl.cells, List.getElem?_cons_zero, List.getElem?_cons_succ, Nat.add_zero] at c1
    have ob := World.oldB_of_cell c1
    clear h0 hB hK
    go_enter Try.func15, Try.ntmps15
    go_wp2_with (first | (go_at_call 13; refine (HG.out _ (mp_up (hm.out) (by repeat (first | with_reducible (first | exact World.gained_refl _ | exact ⟨_, rfl⟩ | apply gain_ext | apply gain_alloc | apply gain_drewN | apply gain_drew) | (refine gain_setCell ?_ (by first | exact Nat.le_refl _ | exact World.size_ext _ _ | (simp; done) | (simp; omega)) _)))) (by with_reducible (repeat (first | exact hs.out | refine World.sl_ext Ctl.cells_length ?_ _ | refine sl_alloc Ctl.cells_length ?_ _ | refine sl_drew ?_)))).mono ?_; rintro e w1 ⟨rfl, d1, rfl⟩) | (go_at_call 71; refine (HX.out _ (by with_reducible (repeat (first | exact hs.out | refine World.sl_ext Ctl.cells_length ?_ _ | refine sl_alloc Ctl.cells_length ?_ _ | refine sl_drew ?_)))).mono ?_; rintro e w1 ⟨rfl, d2, rfl⟩))
    go_ret2
    rw [HE.out]
    exact ⟨rfl, (by repeat (first | with_reducible (first | exact World.gained_refl _ | exact ⟨_, rfl⟩ | apply gain_ext | apply gain_alloc | apply gain_drewN | apply gain_drew) | (refine gain_setCell ?_ (by first | exact Nat.le_refl _ | exact World.size_ext _ _ | (simp; done) | (simp; omega)) _)))⟩
set_option maxHeartbeats 2000000 in
theorem specCellOfCode_any (m : Mp) (rv cv v : Value) (l : List Ctl) (r : Int) (w : World) (hmp : w.mp rv cv m) (h : w.sl Ctl.cells 2 v l) (hl : l.length ≤ 1048576) :
    Calls Try.prog 21 #[.agg #[.int .i64 m.wd, .int .i64 m.ht, rv, cv], v, .int .i64 r] w fun x w' => x = .returned (.tuple #[.int .i64 (cocI m l r), .bool (cocB m l r)]) ∧ ∃ d, w' = w.ext d := by
  have hm := Lib.hid hmp
  have hs := Lib.hid h
  obtain ⟨p1, c1, p2, c2, rfl, rfl⟩ := mp_form hmp
  obtain ⟨p, c, rfl, _⟩ := id h
  have HG := Lib.hid (fun W hM hL => l6Good_any m (.slice p1 m.rise.length c1) (.slice p2 m.cost.length c2) (.slice p l.length c) l W hM hL hl)
  have HX := Lib.hid (fun W hL => l6Find_any (.slice p l.length c) l r W hL hl)
  clear hmp h
  cases hB : ctlsB m l with
  | false =>
    have h0 : cocB m l r = false := by simp [cocB, hB]
    rw [cocI_no h0, h0]
    rw [hB] at HG
    clear h0 hB
    go_enter Try.func21, Try.ntmps21
    go_wp2_with (first | (go_at_call 74; refine (HG.out _ (mp_up (hm.out) (by repeat (first | with_reducible (first | exact World.gained_refl _ | exact ⟨_, rfl⟩ | apply gain_ext | apply gain_alloc | apply gain_drewN | apply gain_drew) | (refine gain_setCell ?_ (by first | exact Nat.le_refl _ | exact World.size_ext _ _ | (simp; done) | (simp; omega)) _)))) (by with_reducible (repeat (first | exact hs.out | refine World.sl_ext Ctl.cells_length ?_ _ | refine sl_alloc Ctl.cells_length ?_ _ | refine sl_drew ?_)))).mono ?_; rintro e w1 ⟨rfl, d1, rfl⟩) | (go_at_call 73; refine (HX.out _ (by with_reducible (repeat (first | exact hs.out | refine World.sl_ext Ctl.cells_length ?_ _ | refine sl_alloc Ctl.cells_length ?_ _ | refine sl_drew ?_)))).mono ?_; rintro e w1 ⟨rfl, d2, rfl⟩))
    go_ret2
    exact ⟨rfl, (by repeat (first | with_reducible (first | exact World.gained_refl _ | exact ⟨_, rfl⟩ | apply gain_ext | apply gain_alloc | apply gain_drewN | apply gain_drew) | (refine gain_setCell ?_ (by first | exact Nat.le_refl _ | exact World.size_ext _ _ | (simp; done) | (simp; omega)) _)))⟩
  | true =>
  cases hK : hasK l r with
  | false =>
    have h0 : cocB m l r = false := by simp [cocB, hK]
    rw [cocI_no h0, h0]
    rw [hB] at HG
    rw [idxK_no hK] at HX
    clear h0 hB hK
    go_enter Try.func21, Try.ntmps21
    go_wp2_with (first | (go_at_call 74; refine (HG.out _ (mp_up (hm.out) (by repeat (first | with_reducible (first | exact World.gained_refl _ | exact ⟨_, rfl⟩ | apply gain_ext | apply gain_alloc | apply gain_drewN | apply gain_drew) | (refine gain_setCell ?_ (by first | exact Nat.le_refl _ | exact World.size_ext _ _ | (simp; done) | (simp; omega)) _)))) (by with_reducible (repeat (first | exact hs.out | refine World.sl_ext Ctl.cells_length ?_ _ | refine sl_alloc Ctl.cells_length ?_ _ | refine sl_drew ?_)))).mono ?_; rintro e w1 ⟨rfl, d1, rfl⟩) | (go_at_call 73; refine (HX.out _ (by with_reducible (repeat (first | exact hs.out | refine World.sl_ext Ctl.cells_length ?_ _ | refine sl_alloc Ctl.cells_length ?_ _ | refine sl_drew ?_)))).mono ?_; rintro e w1 ⟨rfl, d2, rfl⟩))
    go_ret2
    exact ⟨rfl, (by repeat (first | with_reducible (first | exact World.gained_refl _ | exact ⟨_, rfl⟩ | apply gain_ext | apply gain_alloc | apply gain_drewN | apply gain_drew) | (refine gain_setCell ?_ (by first | exact Nat.le_refl _ | exact World.size_ext _ _ | (simp; done) | (simp; omega)) _)))⟩
  | true =>
    have h0 : cocB m l r = true := by simp [cocB, hB, hK]
    have hlt := atK_lt hK
    have HE := Lib.hid (cocI_at h0 hK)
    rw [h0]
    rw [hB] at HG
    rw [idxK_yes hK] at HX
    obtain ⟨b, o, rfl⟩ := sl_some hs.out (by omega)
    have c1 := sl_cells hs.out hlt (j := 1) (by omega)
    generalize l[atK l r] = y at c1 HE
    generalize atK l r = n at *
    simp only [Ctl.cells, List.getElem?_cons_zero, List.getElem?_cons_succ, Nat.add_zero] at c1
    have ob := World.oldB_of_cell c1
    clear h0 hB hK
    go_enter Try.func21, Try.ntmps21
    go_wp2_with (first | (go_at_call 74; refine (HG.out _ (mp_up (hm.out) (by repeat (first | with_reducible (first | exact World.gained_refl _ | exact ⟨_, rfl⟩ | apply gain_ext | apply gain_alloc | apply gain_drewN | apply gain_drew) | (refine gain_setCell ?_ (by first | exact Nat.le_refl _ | exact World.size_ext _ _ | (simp; done) | (simp; omega)) _)))) (by with_reducible (repeat (first | exact hs.out | refine World.sl_ext Ctl.cells_length ?_ _ | refine sl_alloc Ctl.cells_length ?_ _ | refine sl_drew ?_)))).mono ?_; rintro e w1 ⟨rfl, d1, rfl⟩) | (go_at_call 73; refine (HX.out _ (by with_reducible (repeat (first | exact hs.out | refine World.sl_ext Ctl.cells_length ?_ _ | refine sl_alloc Ctl.cells_length ?_ _ | refine sl_drew ?_)))).mono ?_; rintro e w1 ⟨rfl, d2, rfl⟩))
    go_ret2
    rw [HE.out]
    exact ⟨rfl, (by repeat (first | with_reducible (first | exact World.gained_refl _ | exact ⟨_, rfl⟩ | apply gain_ext | apply gain_alloc | apply gain_drewN | apply gain_drew) | (refine gain_setCell ?_ (by first | exact Nat.le_refl _ | exact World.size_ext _ _ | (simp; done) | (simp; omega)) _)))⟩
set_option maxHeartbeats 2000000 in
theorem codeAt_any (m : Mp) (rv cv v : Value) (l : List Ctl) (r : Int) (w : World) (hmp : w.mp rv cv m) (h : w.sl Ctl.cells 2 v l) (hl : l.length ≤ 1048576) :
    Calls Try.prog 16 #[.agg #[.int .i64 m.wd, .int .i64 m.ht, rv, cv], v, .int .i64 r] w fun x w' => x = .returned (.tuple #[.int .i64 (codI m l r), .bool (codB m l r)]) ∧ ∃ d, w' = w.ext d := by
  have hm := Lib.hid hmp
  have hs := Lib.hid h
  obtain ⟨p1, c1, p2, c2, rfl, rfl⟩ := mp_form hmp
  obtain ⟨p, c, rfl, _⟩ := id h
  have HG := Lib.hid (fun W hM hL => areControls_any m (.slice p1 m.rise.length c1) (.slice p2 m.cost.length c2) (.slice p l.length c) l W hM hL hl)
  have HX := Lib.hid (fun W hL => controlIn_any (.slice p l.length c) l r W hL hl)
  clear hmp h
  cases hB : ctlsB m l with
  | false =>
    have h0 : codB m l r = false := by simp [codB, hB]
    rw [codI_no h0, h0]
    rw [hB] at HG
    clear h0 hB
    go_enter Try.func16, Try.ntmps16
    go_wp2_with (first | (go_at_call 13; refine (HG.out _ (mp_up (hm.out) (by repeat (first | with_reducible (first | exact World.gained_refl _ | exact ⟨_, rfl⟩ | apply gain_ext | apply gain_alloc | apply gain_drewN | apply gain_drew) | (refine gain_setCell ?_ (by first | exact Nat.le_refl _ | exact World.size_ext _ _ | (simp; done) | (simp; omega)) _)))) (by with_reducible (repeat (first | exact hs.out | refine World.sl_ext Ctl.cells_length ?_ _ | refine sl_alloc Ctl.cells_length ?_ _ | refine sl_drew ?_)))).mono ?_; rintro e w1 ⟨rfl, d1, rfl⟩) | (go_at_call 78; refine (HX.out _ (by with_reducible (repeat (first | exact hs.out | refine World.sl_ext Ctl.cells_length ?_ _ | refine sl_alloc Ctl.cells_length ?_ _ | refine sl_drew ?_)))).mono ?_; rintro e w1 ⟨rfl, d2, rfl⟩))
    go_ret2
    exact ⟨rfl, (by repeat (first | with_reducible (first | exact World.gained_refl _ | exact ⟨_, rfl⟩ | apply gain_ext | apply gain_alloc | apply gain_drewN | apply gain_drew) | (refine gain_setCell ?_ (by first | exact Nat.le_refl _ | exact World.size_ext _ _ | (simp; done) | (simp; omega)) _)))⟩
  | true =>
  cases hK : hasC l r with
  | false =>
    have h0 : codB m l r = false := by simp [codB, hK]
    rw [codI_no h0, h0]
    rw [hB] at HG
    rw [idxC_no hK] at HX
    clear h0 hB hK
    go_enter Try.func16, Try.ntmps16
    go_wp2_with (first | (go_at_call 13; refine (HG.out _ (mp_up (hm.out) (by repeat (first | with_reducible (first | exact World.gained_refl _ | exact ⟨_, rfl⟩ | apply gain_ext | apply gain_alloc | apply gain_drewN | apply gain_drew) | (refine gain_setCell ?_ (by first | exact Nat.le_refl _ | exact World.size_ext _ _ | (simp; done) | (simp; omega)) _)))) (by with_reducible (repeat (first | exact hs.out | refine World.sl_ext Ctl.cells_length ?_ _ | refine sl_alloc Ctl.cells_length ?_ _ | refine sl_drew ?_)))).mono ?_; rintro e w1 ⟨rfl, d1, rfl⟩) | (go_at_call 78; refine (HX.out _ (by with_reducible (repeat (first | exact hs.out | refine World.sl_ext Ctl.cells_length ?_ _ | refine sl_alloc Ctl.cells_length ?_ _ | refine sl_drew ?_)))).mono ?_; rintro e w1 ⟨rfl, d2, rfl⟩))
    go_ret2
    exact ⟨rfl, (by repeat (first | with_reducible (first | exact World.gained_refl _ | exact ⟨_, rfl⟩ | apply gain_ext | apply gain_alloc | apply gain_drewN | apply gain_drew) | (refine gain_setCell ?_ (by first | exact Nat.le_refl _ | exact World.size_ext _ _ | (simp; done) | (simp; omega)) _)))⟩
  | true =>
    have h0 : codB m l r = true := by simp [codB, hB, hK]
    have hlt := atC_lt hK
    have HE := Lib.hid (codI_at h0 hK)
    rw [h0]
    rw [hB] at HG
    rw [idxC_yes hK] at HX
    obtain ⟨b, o, rfl⟩ := sl_some hs.out (by omega)
    have c1 := sl_cells hs.out hlt (j := 0) (by omega)
    generalize l[atC l r] = y at c1 HE
    generalize atC l r = n at *
    simp only [Ctl.cells, List.getElem?_cons_zero, List.getElem?_cons_succ, Nat.add_zero] at c1
    have ob := World.oldB_of_cell c1
    clear h0 hB hK
    go_enter Try.func16, Try.ntmps16
    go_wp2_with (first | (go_at_call 13; refine (HG.out _ (mp_up (hm.out) (by repeat (first | with_reducible (first | exact World.gained_refl _ | exact ⟨_, rfl⟩ | apply gain_ext | apply gain_alloc | apply gain_drewN | apply gain_drew) | (refine gain_setCell ?_ (by first | exact Nat.le_refl _ | exact World.size_ext _ _ | (simp; done) | (simp; omega)) _)))) (by with_reducible (repeat (first | exact hs.out | refine World.sl_ext Ctl.cells_length ?_ _ | refine sl_alloc Ctl.cells_length ?_ _ | refine sl_drew ?_)))).mono ?_; rintro e w1 ⟨rfl, d1, rfl⟩) | (go_at_call 78; refine (HX.out _ (by with_reducible (repeat (first | exact hs.out | refine World.sl_ext Ctl.cells_length ?_ _ | refine sl_alloc Ctl.cells_length ?_ _ | refine sl_drew ?_)))).mono ?_; rintro e w1 ⟨rfl, d2, rfl⟩))
    go_ret2
    rw [HE.out]
    exact ⟨rfl, (by repeat (first | with_reducible (first | exact World.gained_refl _ | exact ⟨_, rfl⟩ | apply gain_ext | apply gain_alloc | apply gain_drewN | apply gain_drew) | (refine gain_setCell ?_ (by first | exact Nat.le_refl _ | exact World.size_ext _ _ | (simp; done) | (simp; omega)) _)))⟩
end Go.Proofs.Ytedpckkoaioooaa
