/- impl.RefundFor, spec.RefundFor. Condition: at most 1048576 entries. -/
import Derived.Test.YtohmefblkfophaaEntIdx
import Derived.Test.YtohmefblkfophaaL11
import Derived.Test.YtohmefblkfophaaDelEnt
namespace Go.Proofs.Ytohmefblkfophaa
open Go.RowKit Go.Ori
set_option maxHeartbeats 4000000 in
theorem refundFor_any (v : Value) (l : List Ent) (r d : Int) (w : World) (h : w.sl Ent.cells 5 v l) (hl : l.length ≤ 1048576) :
    Calls Try.prog 25 #[v, .int .i64 r, .int .i64 d] w fun x w' => ∃ R, x = .returned (.tuple #[R, .int .i64 (refI l r d), .bool (refOk l r d)]) ∧ (∃ d, w' = w.ext d) ∧ w'.own w.heap.size 56 Ent.cells 5 R (refL l r d) := by
  have hs := Lib.hid h
  obtain ⟨p, cap, rfl, _⟩ := h
  cases hB : entsB l with
  | false =>
    have hcond : refOk l r d = false := by simp [refOk, chOk, hB]
    have HN := Lib.hid (ref_no hcond)
    go_enter Try.func25, Try.ntmps25
    go_wp2_with (first | (go_at_call 52; refine (entryIndex_any _ l r _ hs.out hl).mono ?_; rintro e w1 ⟨rfl, d1, rfl⟩) | (go_at_call 16; refine (areEntries_any _ l _ (by repeat (first | exact hs.out | refine World.sl_ext Ent.cells_length ?_ _ | refine sl_alloc Ent.cells_length ?_ _ | refine sl_drew ?_)) hl).mono ?_; rintro e w1 ⟨rfl, d1, rfl⟩) | (go_at_call 53; refine (isDay_any _ _).mono ?_; rintro e w1 ⟨rfl, rfl⟩))
    go_ret3
    rw [hcond, HN.out.1, HN.out.2]
    refine ⟨_, rfl, ?_, own_nil _ _ _ _ _⟩
    (repeat (first | exact World.gained_refl _ | exact ⟨_, rfl⟩ | apply gain_ext | apply gain_alloc | apply gain_drewN | apply gain_drew | (refine gain_setCell ?_ (by first | exact Nat.le_refl _ | exact World.size_ext _ _ | (simp; done) | (simp; omega)) _)))
  | true =>
  cases hR : hasR l r with
  | false =>
    have hcond : refOk l r d = false := by simp [refOk, chOk, hR]
    have hi := idx_no hR
    have HN := Lib.hid (ref_no hcond)
    go_enter Try.func25, Try.ntmps25
    go_wp2_with (first | (go_at_call 52; refine (entryIndex_any _ l r _ hs.out hl).mono ?_; rintro e w1 ⟨rfl, d1, rfl⟩) | (go_at_call 16; refine (areEntries_any _ l _ (by repeat (first | exact hs.out | refine World.sl_ext Ent.cells_length ?_ _ | refine sl_alloc Ent.cells_length ?_ _ | refine sl_drew ?_)) hl).mono ?_; rintro e w1 ⟨rfl, d1, rfl⟩) | (go_at_call 53; refine (isDay_any _ _).mono ?_; rintro e w1 ⟨rfl, rfl⟩))
    go_ret3
    rw [hcond, HN.out.1, HN.out.2]
    refine ⟨_, rfl, ?_, own_nil _ _ _ _ _⟩
    (repeat (first | exact World.gained_refl _ | exact ⟨_, rfl⟩ | apply gain_ext | apply gain_alloc | apply gain_drewN | apply gain_drew | (refine gain_setCell ?_ (by first | exact Nat.le_refl _ | exact World.size_ext _ _ | (simp; done) | (simp; omega)) _)))
  | true =>
  have hi := idx_yes hR
  have hlt := atR_lt hR
  cases hD : insB d 0 365 with
  | false =>
    have hcond : refOk l r d = false := by simp [refOk, hD]
    have HN := Lib.hid (ref_no hcond)
    go_enter Try.func25, Try.ntmps25
    go_wp2_with (first | (go_at_call 52; refine (entryIndex_any _ l r _ hs.out hl).mono ?_; rintro e w1 ⟨rfl, d1, rfl⟩) | (go_at_call 16; refine (areEntries_any _ l _ (by repeat (first | exact hs.out | refine World.sl_ext Ent.cells_length ?_ _ | refine sl_alloc Ent.cells_length ?_ _ | refine sl_drew ?_)) hl).mono ?_; rintro e w1 ⟨rfl, d1, rfl⟩) | (go_at_call 53; refine (isDay_any _ _).mono ?_; rintro e w1 ⟨rfl, rfl⟩))
    go_ret3
    rw [hcond, HN.out.1, HN.out.2]
    refine ⟨_, rfl, ?_, own_nil _ _ _ _ _⟩
    (repeat (first | exact World.gained_refl _ | exact ⟨_, rfl⟩ | apply gain_ext | apply gain_alloc | apply gain_drewN | apply gain_drew | (refine gain_setCell ?_ (by first | exact Nat.le_refl _ | exact World.size_ext _ _ | (simp; done) | (simp; omega)) _)))
  | true =>
  obtain ⟨b, o, rfl⟩ := sl_some hs.out (by omega)
  have hck := fun j (hj : j < 5) => sl_cells hs.out hlt hj
  have hat := chOk_at (d := d) hB hR
  have HY := Lib.hid (fun h3 => ref_yes (l := l) (r := r) (d := d) hR h3)
  have hpd := entB_paid (entsB_at hB hlt)
  have c2 := hck 2 (by omega)
  have c4 := hck 4 (by omega)
  generalize l[atR l r] = e at c2 c4 hck HY hat hpd
  clear hck
  simp only [Ent.cells, List.getElem?_cons_zero, List.getElem?_cons_succ, Nat.add_zero] at c2 c4
  have ob := World.oldB_of_cell c2
  obtain ⟨A, hA⟩ : ∃ A : Addr, (if cap = atR l r + 1 then some (⟨b, o, none⟩ : Addr) else some ⟨b, o + (atR l r + 1) * 5, none⟩) = some A := by split <;> exact ⟨_, rfl⟩
  have hwr : IntKind.i64.wrap ((atR l r : Int) + 1) = (atR l r : Int) + 1 := by rw [IntKind.wrap_i64]; omega
  have hp0 : (0 : Int) ≤ (atR l r : Int) + 1 := by omega
  have hp1 : (atR l r : Int) + 1 ≤ (l.length : Int) := by omega
  have hp2 : ((atR l r : Int) + 1).toNat = atR l r + 1 := by omega
  have hcp := (sl_cap hs.out)
  have hq0 : (0 : Int) ≤ (atR l r : Int) := by omega
  have hq1 : (atR l r : Int) ≤ (cap : Int) := by omega
  have hq2 : atR l r ≤ cap := by omega
  by_cases hd : e.day ≤ d
  · have hok : refOk l r d = true := by rw [refOk, hD, hat, decide_eq_true hd]; rfl
    replace HY := Lib.hid (HY.out hok)
    clear hat
    by_cases h3 : 300 ≤ d
    · have HI := Lib.hid (show (if 300 ≤ d then e.paid / 2 else e.paid) = e.paid / 2 from if_pos h3)
      go_enter Try.func25, Try.ntmps25
      go_wp2_with (first | (go_at_call 52; refine (entryIndex_any _ l r _ hs.out hl).mono ?_; rintro e w1 ⟨rfl, d1, rfl⟩) | (go_at_call 16; refine (areEntries_any _ l _ (by repeat (first | exact hs.out | refine World.sl_ext Ent.cells_length ?_ _ | refine sl_alloc Ent.cells_length ?_ _ | refine sl_drew ?_)) hl).mono ?_; rintro e w1 ⟨rfl, d1, rfl⟩) | (go_at_call 53; refine (isDay_any _ _).mono ?_; rintro e w1 ⟨rfl, rfl⟩) | (at_builtin; go_must (refine wpList_append_gain (W := w) (m := l) rfl (.tmp 44) (.tmp 45) rfl Try.underlying25 info_Ent (by rfl) (by omega) Ent.cells_length Ent.cells_one (by omega) (by repeat (first | exact World.gained_refl _ | exact ⟨_, rfl⟩ | apply gain_ext | apply gain_alloc | apply gain_drewN | apply gain_drew | (refine gain_setCell ?_ (by first | exact Nat.le_refl _ | exact World.size_ext _ _ | (simp; done) | (simp; omega)) _))) (Nat.le_refl _) (gain_size (by repeat (first | exact World.gained_refl _ | exact ⟨_, rfl⟩ | apply gain_ext | apply gain_alloc | apply gain_drewN | apply gain_drew | (refine gain_setCell ?_ (by first | exact Nat.le_refl _ | exact World.size_ext _ _ | (simp; done) | (simp; omega)) _)))) rfl rfl (own_lit' (l := ([] : List Ent)) Ent.cells_length rfl rfl (gain_size (by repeat (first | exact World.gained_refl _ | exact ⟨_, rfl⟩ | apply gain_ext | apply gain_alloc | apply gain_drewN | apply gain_drew | (refine gain_setCell ?_ (by first | exact Nat.le_refl _ | exact World.size_ext _ _ | (simp; done) | (simp; omega)) _))))) (by repeat (first | exact hs.out | refine World.sl_ext Ent.cells_length ?_ _ | refine sl_alloc Ent.cells_length ?_ _ | refine sl_drew ?_)) (by simpa using (by omega : l.length ≤ 2097152)) ?_); intro v' d' ho hg))
      refine (delete_ents w _ l (atR l r) w.heap.size _ ⟨_, rfl⟩ (Nat.le_refl _) (by simpa using ho) hlt hl).mono ?_
      rintro e w1 ⟨R, rfl, ⟨d3, rfl⟩, hr⟩
      go_wp2
      go_ret3
      rw [hok, HY.out.1, HY.out.2, HI.out]
      exact ⟨_, rfl, (by repeat (first | exact World.gained_refl _ | exact ⟨_, rfl⟩ | apply gain_ext | apply gain_alloc | apply gain_drewN | apply gain_drew | (refine gain_setCell ?_ (by first | exact Nat.le_refl _ | exact World.size_ext _ _ | (simp; done) | (simp; omega)) _))), hr⟩
    · have HI := Lib.hid (show (if 300 ≤ d then e.paid / 2 else e.paid) = e.paid from if_neg h3)
      go_enter Try.func25, Try.ntmps25
      go_wp2_with (first | (go_at_call 52; refine (entryIndex_any _ l r _ hs.out hl).mono ?_; rintro e w1 ⟨rfl, d1, rfl⟩) | (go_at_call 16; refine (areEntries_any _ l _ (by repeat (first | exact hs.out | refine World.sl_ext Ent.cells_length ?_ _ | refine sl_alloc Ent.cells_length ?_ _ | refine sl_drew ?_)) hl).mono ?_; rintro e w1 ⟨rfl, d1, rfl⟩) | (go_at_call 53; refine (isDay_any _ _).mono ?_; rintro e w1 ⟨rfl, rfl⟩) | (at_builtin; go_must (refine wpList_append_gain (W := w) (m := l) rfl (.tmp 44) (.tmp 45) rfl Try.underlying25 info_Ent (by rfl) (by omega) Ent.cells_length Ent.cells_one (by omega) (by repeat (first | exact World.gained_refl _ | exact ⟨_, rfl⟩ | apply gain_ext | apply gain_alloc | apply gain_drewN | apply gain_drew | (refine gain_setCell ?_ (by first | exact Nat.le_refl _ | exact World.size_ext _ _ | (simp; done) | (simp; omega)) _))) (Nat.le_refl _) (gain_size (by repeat (first | exact World.gained_refl _ | exact ⟨_, rfl⟩ | apply gain_ext | apply gain_alloc | apply gain_drewN | apply gain_drew | (refine gain_setCell ?_ (by first | exact Nat.le_refl _ | exact World.size_ext _ _ | (simp; done) | (simp; omega)) _)))) rfl rfl (own_lit' (l := ([] : List Ent)) Ent.cells_length rfl rfl (gain_size (by repeat (first | exact World.gained_refl _ | exact ⟨_, rfl⟩ | apply gain_ext | apply gain_alloc | apply gain_drewN | apply gain_drew | (refine gain_setCell ?_ (by first | exact Nat.le_refl _ | exact World.size_ext _ _ | (simp; done) | (simp; omega)) _))))) (by repeat (first | exact hs.out | refine World.sl_ext Ent.cells_length ?_ _ | refine sl_alloc Ent.cells_length ?_ _ | refine sl_drew ?_)) (by simpa using (by omega : l.length ≤ 2097152)) ?_); intro v' d' ho hg))
      refine (delete_ents w _ l (atR l r) w.heap.size _ ⟨_, rfl⟩ (Nat.le_refl _) (by simpa using ho) hlt hl).mono ?_
      rintro e w1 ⟨R, rfl, ⟨d3, rfl⟩, hr⟩
      go_wp2
      go_ret3
      rw [hok, HY.out.1, HY.out.2, HI.out]
      exact ⟨_, rfl, (by repeat (first | exact World.gained_refl _ | exact ⟨_, rfl⟩ | apply gain_ext | apply gain_alloc | apply gain_drewN | apply gain_drew | (refine gain_setCell ?_ (by first | exact Nat.le_refl _ | exact World.size_ext _ _ | (simp; done) | (simp; omega)) _))), hr⟩
  · have hcond : refOk l r d = false := by rw [refOk, hat, decide_eq_false hd]; simp
    clear hat HY
    have HN := Lib.hid (ref_no hcond)
    go_enter Try.func25, Try.ntmps25
    go_wp2_with (first | (go_at_call 52; refine (entryIndex_any _ l r _ hs.out hl).mono ?_; rintro e w1 ⟨rfl, d1, rfl⟩) | (go_at_call 16; refine (areEntries_any _ l _ (by repeat (first | exact hs.out | refine World.sl_ext Ent.cells_length ?_ _ | refine sl_alloc Ent.cells_length ?_ _ | refine sl_drew ?_)) hl).mono ?_; rintro e w1 ⟨rfl, d1, rfl⟩) | (go_at_call 53; refine (isDay_any _ _).mono ?_; rintro e w1 ⟨rfl, rfl⟩))
    go_ret3
    rw [hcond, HN.out.1, HN.out.2]
    refine ⟨_, rfl, ?_, own_nil _ _ _ _ _⟩
    (repeat (first | exact World.gained_refl _ | exact ⟨_, rfl⟩ | apply gain_ext | apply gain_alloc | apply gain_drewN | apply gain_drew | (refine gain_setCell ?_ (by first | exact Nat.le_refl _ | exact World.size_ext _ _ | (simp; done) | (simp; omega)) _)))
set_option maxHeartbeats 4000000 in
theorem specRefundFor_any (v : Value) (l : List Ent) (r d : Int) (w : World) (h : w.sl Ent.cells 5 v l) (hl : l.length ≤ 1048576) :
    Calls Try.prog 24 #[v, .int .i64 r, .int .i64 d] w fun x w' => ∃ R, x = .returned (.tuple #[R, .int .i64 (refI l r d), .bool (refOk l r d)]) ∧ (∃ d, w' = w.ext d) ∧ w'.own w.heap.size 56 Ent.cells 5 R (refL l r d) := by
  have hs := Lib.hid h
  obtain ⟨p, cap, rfl, _⟩ := h
  cases hB : entsB l with
  | false =>
    have hcond : refOk l r d = false := by simp [refOk, chOk, hB]
    have HN := Lib.hid (ref_no hcond)
    go_enter Try.func24, Try.ntmps24
    go_wp2_with (first | (go_at_call 50; refine (l11Find_any _ l r _ hs.out hl).mono ?_; rintro e w1 ⟨rfl, d1, rfl⟩) | (go_at_call 47; refine (l11Good_any _ l _ (by repeat (first | exact hs.out | refine World.sl_ext Ent.cells_length ?_ _ | refine sl_alloc Ent.cells_length ?_ _ | refine sl_drew ?_)) hl).mono ?_; rintro e w1 ⟨rfl, d1, rfl⟩) | (go_at_call 51; refine (l11Day_any _ _).mono ?_; rintro e w1 ⟨rfl, rfl⟩))
    go_ret3
    rw [hcond, HN.out.1, HN.out.2]
    refine ⟨_, rfl, ?_, own_lit' (l := ([] : List Ent)) Ent.cells_length rfl rfl (gain_size (by repeat (first | exact World.gained_refl _ | exact ⟨_, rfl⟩ | apply gain_ext | apply gain_alloc | apply gain_drewN | apply gain_drew | (refine gain_setCell ?_ (by first | exact Nat.le_refl _ | exact World.size_ext _ _ | (simp; done) | (simp; omega)) _))))⟩
    (repeat (first | exact World.gained_refl _ | exact ⟨_, rfl⟩ | apply gain_ext | apply gain_alloc | apply gain_drewN | apply gain_drew | (refine gain_setCell ?_ (by first | exact Nat.le_refl _ | exact World.size_ext _ _ | (simp; done) | (simp; omega)) _)))
  | true =>
  cases hR : hasR l r with
  | false =>
    have hcond : refOk l r d = false := by simp [refOk, chOk, hR]
    have hi := idx_no hR
    have HN := Lib.hid (ref_no hcond)
    go_enter Try.func24, Try.ntmps24
    go_wp2_with (first | (go_at_call 50; refine (l11Find_any _ l r _ hs.out hl).mono ?_; rintro e w1 ⟨rfl, d1, rfl⟩) | (go_at_call 47; refine (l11Good_any _ l _ (by repeat (first | exact hs.out | refine World.sl_ext Ent.cells_length ?_ _ | refine sl_alloc Ent.cells_length ?_ _ | refine sl_drew ?_)) hl).mono ?_; rintro e w1 ⟨rfl, d1, rfl⟩) | (go_at_call 51; refine (l11Day_any _ _).mono ?_; rintro e w1 ⟨rfl, rfl⟩))
    go_ret3
    rw [hcond, HN.out.1, HN.out.2]
    refine ⟨_, rfl, ?_, own_lit' (l := ([] : List Ent)) Ent.cells_length rfl rfl (gain_size (by repeat (first | exact World.gained_refl _ | exact ⟨_, rfl⟩ | apply gain_ext | apply gain_alloc | apply gain_drewN | apply gain_drew | (refine gain_setCell ?_ (by first | exact Nat.le_refl _ | exact World.size_ext _ _ | (simp; done) | (simp; omega)) _))))⟩
    (repeat (first | exact World.gained_refl _ | exact ⟨_, rfl⟩ | apply gain_ext | apply gain_alloc | apply gain_drewN | apply gain_drew | (refine gain_setCell ?_ (by first | exact Nat.le_refl _ | exact World.size_ext _ _ | (simp; done) | (simp; omega)) _)))
  | true =>
  have hi := idx_yes hR
  have hlt := atR_lt hR
  cases hD : insB d 0 365 with
  | false =>
    have hcond : refOk l r d = false := by simp [refOk, hD]
    have HN := Lib.hid (ref_no hcond)
    go_enter Try.func24, Try.ntmps24
    go_wp2_with (first | (go_at_call 50; refine (l11Find_any _ l r _ hs.out hl).mono ?_; rintro e w1 ⟨rfl, d1, rfl⟩) | (go_at_call 47; refine (l11Good_any _ l _ (by repeat (first | exact hs.out | refine World.sl_ext Ent.cells_length ?_ _ | refine sl_alloc Ent.cells_length ?_ _ | refine sl_drew ?_)) hl).mono ?_; rintro e w1 ⟨rfl, d1, rfl⟩) | (go_at_call 51; refine (l11Day_any _ _).mono ?_; rintro e w1 ⟨rfl, rfl⟩))
    go_ret3
    rw [hcond, HN.out.1, HN.out.2]
    refine ⟨_, rfl, ?_, own_lit' (l := ([] : List Ent)) Ent.cells_length rfl rfl (gain_size (by repeat (first | exact World.gained_refl _ | exact ⟨_, rfl⟩ | apply gain_ext | apply gain_alloc | apply gain_drewN | apply gain_drew | (refine gain_setCell ?_ (by first | exact Nat.le_refl _ | exact World.size_ext _ _ | (simp; done) | (simp; omega)) _))))⟩
    (repeat (first | exact World.gained_refl _ | exact ⟨_, rfl⟩ | apply gain_ext | apply gain_alloc | apply gain_drewN | apply gain_drew | (refine gain_setCell ?_ (by first | exact Nat.le_refl _ | exact World.size_ext _ _ | (simp; done) | (simp; omega)) _)))
  | true =>
  obtain ⟨b, o, rfl⟩ := sl_some hs.out (by omega)
  have hck := fun j (hj : j < 5) => sl_cells hs.out hlt hj
  have hat := chOk_at (d := d) hB hR
  have HY := Lib.hid (fun h3 => ref_yes (l := l) (r := r) (d := d) hR h3)
  have hpd := entB_paid (entsB_at hB hlt)
  have c2 := hck 2 (by omega)
  have c4 := hck 4 (by omega)
  generalize l[atR l r] = e at c2 c4 hck HY hat hpd
  clear hck
  simp only [Ent.cells, List.getElem?_cons_zero, List.getElem?_cons_succ, Nat.add_zero] at c2 c4
  have ob := World.oldB_of_cell c2
  obtain ⟨A, hA⟩ : ∃ A : Addr, (if cap = atR l r + 1 then some (⟨b, o, none⟩ : Addr) else some ⟨b, o + (atR l r + 1) * 5, none⟩) = some A := by split <;> exact ⟨_, rfl⟩
  have hwr : IntKind.i64.wrap ((atR l r : Int) + 1) = (atR l r : Int) + 1 := by rw [IntKind.wrap_i64]; omega
  have hp0 : (0 : Int) ≤ (atR l r : Int) + 1 := by omega
  have hp1 : (atR l r : Int) + 1 ≤ (l.length : Int) := by omega
  have hp2 : ((atR l r : Int) + 1).toNat = atR l r + 1 := by omega
  have hcp := (sl_cap hs.out)
  have hq0 : (0 : Int) ≤ (atR l r : Int) := by omega
  have hq1 : (atR l r : Int) ≤ (cap : Int) := by omega
  have hq2 : atR l r ≤ cap := by omega
  by_cases hd : e.day ≤ d
  · have hok : refOk l r d = true := by rw [refOk, hD, hat, decide_eq_true hd]; rfl
    replace HY := Lib.hid (HY.out hok)
    clear hat
    by_cases h3 : 300 ≤ d
    · have HI := Lib.hid (show (if 300 ≤ d then e.paid / 2 else e.paid) = e.paid / 2 from if_pos h3)
      go_enter Try.func24, Try.ntmps24
      go_wp2_with (first | (go_at_call 50; refine (l11Find_any _ l r _ hs.out hl).mono ?_; rintro e w1 ⟨rfl, d1, rfl⟩) | (go_at_call 47; refine (l11Good_any _ l _ (by repeat (first | exact hs.out | refine World.sl_ext Ent.cells_length ?_ _ | refine sl_alloc Ent.cells_length ?_ _ | refine sl_drew ?_)) hl).mono ?_; rintro e w1 ⟨rfl, d1, rfl⟩) | (go_at_call 51; refine (l11Day_any _ _).mono ?_; rintro e w1 ⟨rfl, rfl⟩))
      go_region_law (first | (refine step_append_gain (W := w) (m := l.take (atR l r)) (u := .slice (some ⟨b, o, none⟩) (atR l r) cap) rfl (.tmp 45) (.tmp 48) rfl Try.underlying25 info_Ent (by rfl) (by omega) Ent.cells_length Ent.cells_one (by omega) (by repeat (first | exact World.gained_refl _ | exact ⟨_, rfl⟩ | apply gain_ext | apply gain_alloc | apply gain_drewN | apply gain_drew | (refine gain_setCell ?_ (by first | exact Nat.le_refl _ | exact World.size_ext _ _ | (simp; done) | (simp; omega)) _))) (Nat.le_refl _) (gain_size (by repeat (first | exact World.gained_refl _ | exact ⟨_, rfl⟩ | apply gain_ext | apply gain_alloc | apply gain_drewN | apply gain_drew | (refine gain_setCell ?_ (by first | exact Nat.le_refl _ | exact World.size_ext _ _ | (simp; done) | (simp; omega)) _)))) (by simp [Act.eval, Act.put]) (by simp [Act.eval, Act.put]) (own_lit' (l := ([] : List Ent)) Ent.cells_length rfl rfl (gain_size (by repeat (first | exact World.gained_refl _ | exact ⟨_, rfl⟩ | apply gain_ext | apply gain_alloc | apply gain_drewN | apply gain_drew | (refine gain_setCell ?_ (by first | exact Nat.le_refl _ | exact World.size_ext _ _ | (simp; done) | (simp; omega)) _))))) (sl_take (by repeat (first | exact hs.out | refine World.sl_ext Ent.cells_length ?_ _ | refine sl_alloc Ent.cells_length ?_ _ | refine sl_drew ?_)) (by omega)) (by simp; omega) ?_; intro vA dA hoA hgA) | (refine step_append_gain (W := w) (m := l.drop (atR l r + 1)) (u := .slice (some A) (l.length - (atR l r + 1)) (cap - (atR l r + 1))) rfl (.tmp 49) (.tmp 53) rfl Try.underlying25 info_Ent (by rfl) (by omega) Ent.cells_length Ent.cells_one (by omega) (by repeat (first | exact World.gained_refl _ | exact ⟨_, rfl⟩ | apply gain_ext | apply gain_alloc | apply gain_drewN | apply gain_drew | (refine gain_setCell ?_ (by first | exact Nat.le_refl _ | exact World.size_ext _ _ | (simp; done) | (simp; omega)) _))) (Nat.le_refl _) (gain_size (by repeat (first | exact World.gained_refl _ | exact ⟨_, rfl⟩ | apply gain_ext | apply gain_alloc | apply gain_drewN | apply gain_drew | (refine gain_setCell ?_ (by first | exact Nat.le_refl _ | exact World.size_ext _ _ | (simp; done) | (simp; omega)) _)))) (by simp [Act.eval, Act.put]) (by simp [Act.eval, Act.put]) hoA (sl_drop_any (by repeat (first | exact hs.out | refine World.sl_ext Ent.cells_length ?_ _ | refine sl_alloc Ent.cells_length ?_ _ | refine sl_drew ?_)) (by omega) hA) (by simp; omega) ?_; intro vB dB hoB hgB))
      go_wp2
      go_ret3
      rw [hok, HY.out.1, HY.out.2, HI.out]
      exact ⟨_, rfl, (by repeat (first | exact World.gained_refl _ | exact ⟨_, rfl⟩ | apply gain_ext | apply gain_alloc | apply gain_drewN | apply gain_drew | (refine gain_setCell ?_ (by first | exact Nat.le_refl _ | exact World.size_ext _ _ | (simp; done) | (simp; omega)) _))), hoB⟩
    · have HI := Lib.hid (show (if 300 ≤ d then e.paid / 2 else e.paid) = e.paid from if_neg h3)
      go_enter Try.func24, Try.ntmps24
      go_wp2_with (first | (go_at_call 50; refine (l11Find_any _ l r _ hs.out hl).mono ?_; rintro e w1 ⟨rfl, d1, rfl⟩) | (go_at_call 47; refine (l11Good_any _ l _ (by repeat (first | exact hs.out | refine World.sl_ext Ent.cells_length ?_ _ | refine sl_alloc Ent.cells_length ?_ _ | refine sl_drew ?_)) hl).mono ?_; rintro e w1 ⟨rfl, d1, rfl⟩) | (go_at_call 51; refine (l11Day_any _ _).mono ?_; rintro e w1 ⟨rfl, rfl⟩))
      go_region_law (first | (refine step_append_gain (W := w) (m := l.take (atR l r)) (u := .slice (some ⟨b, o, none⟩) (atR l r) cap) rfl (.tmp 45) (.tmp 48) rfl Try.underlying25 info_Ent (by rfl) (by omega) Ent.cells_length Ent.cells_one (by omega) (by repeat (first | exact World.gained_refl _ | exact ⟨_, rfl⟩ | apply gain_ext | apply gain_alloc | apply gain_drewN | apply gain_drew | (refine gain_setCell ?_ (by first | exact Nat.le_refl _ | exact World.size_ext _ _ | (simp; done) | (simp; omega)) _))) (Nat.le_refl _) (gain_size (by repeat (first | exact World.gained_refl _ | exact ⟨_, rfl⟩ | apply gain_ext | apply gain_alloc | apply gain_drewN | apply gain_drew | (refine gain_setCell ?_ (by first | exact Nat.le_refl _ | exact World.size_ext _ _ | (simp; done) | (simp; omega)) _)))) (by simp [Act.eval, Act.put]) (by simp [Act.eval, Act.put]) (own_lit' (l := ([] : List Ent)) Ent.cells_length rfl rfl (gain_size (by repeat (first | exact World.gained_refl _ | exact ⟨_, rfl⟩ | apply gain_ext | apply gain_alloc | apply gain_drewN | apply gain_drew | (refine gain_setCell ?_ (by first | exact Nat.le_refl _ | exact World.size_ext _ _ | (simp; done) | (simp; omega)) _))))) (sl_take (by repeat (first | exact hs.out | refine World.sl_ext Ent.cells_length ?_ _ | refine sl_alloc Ent.cells_length ?_ _ | refine sl_drew ?_)) (by omega)) (by simp; omega) ?_; intro vA dA hoA hgA) | (refine step_append_gain (W := w) (m := l.drop (atR l r + 1)) (u := .slice (some A) (l.length - (atR l r + 1)) (cap - (atR l r + 1))) rfl (.tmp 49) (.tmp 53) rfl Try.underlying25 info_Ent (by rfl) (by omega) Ent.cells_length Ent.cells_one (by omega) (by repeat (first | exact World.gained_refl _ | exact ⟨_, rfl⟩ | apply gain_ext | apply gain_alloc | apply gain_drewN | apply gain_drew | (refine gain_setCell ?_ (by first | exact Nat.le_refl _ | exact World.size_ext _ _ | (simp; done) | (simp; omega)) _))) (Nat.le_refl _) (gain_size (by repeat (first | exact World.gained_refl _ | exact ⟨_, rfl⟩ | apply gain_ext | apply gain_alloc | apply gain_drewN | apply gain_drew | (refine gain_setCell ?_ (by first | exact Nat.le_refl _ | exact World.size_ext _ _ | (simp; done) | (simp; omega)) _)))) (by simp [Act.eval, Act.put]) (by simp [Act.eval, Act.put]) hoA (sl_drop_any (by repeat (first | exact hs.out | refine World.sl_ext Ent.cells_length ?_ _ | refine sl_alloc Ent.cells_length ?_ _ | refine sl_drew ?_)) (by omega) hA) (by simp; omega) ?_; intro vB dB hoB hgB))
      go_wp2
      go_ret3
      rw [hok, HY.out.1, HY.out.2, HI.out]
      exact ⟨_, rfl, (by repeat (first | exact World.gained_refl _ | exact ⟨_, rfl⟩ | apply gain_ext | apply gain_alloc | apply gain_drewN | apply gain_drew | (refine gain_setCell ?_ (by first | exact Nat.le_refl _ | exact World.size_ext _ _ | (simp; done) | (simp; omega)) _))), hoB⟩
  · have hcond : refOk l r d = false := by rw [refOk, hat, decide_eq_false hd]; simp
    clear hat HY
    have HN := Lib.hid (ref_no hcond)
    go_enter Try.func24, Try.ntmps24
    go_wp2_with (first | (go_at_call 50; refine (l11Find_any _ l r _ hs.out hl).mono ?_; rintro e w1 ⟨rfl, d1, rfl⟩) | (go_at_call 47; refine (l11Good_any _ l _ (by repeat (first | exact hs.out | refine World.sl_ext Ent.cells_length ?_ _ | refine sl_alloc Ent.cells_length ?_ _ | refine sl_drew ?_)) hl).mono ?_; rintro e w1 ⟨rfl, d1, rfl⟩) | (go_at_call 51; refine (l11Day_any _ _).mono ?_; rintro e w1 ⟨rfl, rfl⟩))
    go_ret3
    rw [hcond, HN.out.1, HN.out.2]
    refine ⟨_, rfl, ?_, own_lit' (l := ([] : List Ent)) Ent.cells_length rfl rfl (gain_size (by repeat (first | exact World.gained_refl _ | exact ⟨_, rfl⟩ | apply gain_ext | apply gain_alloc | apply gain_drewN | apply gain_drew | (refine gain_setCell ?_ (by first | exact Nat.le_refl _ | exact World.size_ext _ _ | (simp; done) | (simp; omega)) _))))⟩
    (repeat (first | exact World.gained_refl _ | exact ⟨_, rfl⟩ | apply gain_ext | apply gain_alloc | apply gain_drewN | apply gain_drew | (refine gain_setCell ?_ (by first | exact Nat.le_refl _ | exact World.size_ext _ _ | (simp; done) | (simp; omega)) _)))
end Go.Proofs.Ytohmefblkfophaa
