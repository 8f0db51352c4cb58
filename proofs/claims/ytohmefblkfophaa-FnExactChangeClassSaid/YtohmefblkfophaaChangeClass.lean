/- impl.ChangeClass, spec.ChangeClass. Condition: at most 1048576 entries. -/
import Derived.Test.YtohmefblkfophaaWithEnt
import Derived.Test.YtohmefblkfophaaEntIdx
namespace Go.Proofs.Ytohmefblkfophaa
open Go.RowKit Go.Ori
set_option maxHeartbeats 2000000 in
theorem changeClass_any (v : Value) (l : List Ent) (r c d : Int) (w : World) (h : w.sl Ent.cells 5 v l) (hl : l.length ≤ 1048576) :
    Calls Try.prog 30 #[v, .int .i64 r, .int .i64 c, .int .i64 d] w fun x w' => ∃ R, x = .returned (.tuple #[R, .bool (chB l r c d)]) ∧ (∃ d, w' = w.ext d) ∧ w'.own w.heap.size 56 Ent.cells 5 R (chL l r c d) := by
  have hs := Lib.hid h
  obtain ⟨p, cap, rfl, _⟩ := h
  cases hB : entsB l with
  | false =>
    have hcond : chOk l r d = false := by rw [chOk, hB]; rfl
    have HN := Lib.hid (ch_no c hcond)
    go_enter Try.func30, Try.ntmps30
    go_wp2_with (first | (go_at_call 52; refine (entryIndex_any _ l r _ hs.out hl).mono ?_; rintro e w1 ⟨rfl, d1, rfl⟩) | (go_at_call 16; refine (areEntries_any _ l _ (by repeat (first | exact hs.out | refine World.sl_ext Ent.cells_length ?_ _ | refine sl_alloc Ent.cells_length ?_ _)) hl).mono ?_; rintro e w1 ⟨rfl, d1, rfl⟩))
    go_ret2
    rw [HN.out.1, HN.out.2]
    refine ⟨_, rfl, ?_, own_nil _ _ _ _ _⟩
    (repeat (first | exact World.gained_refl _ | exact ⟨_, rfl⟩ | apply gain_ext | apply gain_alloc | apply gain_drewN | apply gain_drew | (refine gain_setCell ?_ (by first | exact Nat.le_refl _ | exact World.size_ext _ _ | (simp; done) | (simp; omega)) _)))
  | true =>
  cases hR : hasR l r with
  | false =>
    have hcond : chOk l r d = false := by rw [chOk, hB, hR]; rfl
    have hi := idx_no hR
    have HN := Lib.hid (ch_no c hcond)
    go_enter Try.func30, Try.ntmps30
    go_wp2_with (first | (go_at_call 52; refine (entryIndex_any _ l r _ hs.out hl).mono ?_; rintro e w1 ⟨rfl, d1, rfl⟩) | (go_at_call 16; refine (areEntries_any _ l _ (by repeat (first | exact hs.out | refine World.sl_ext Ent.cells_length ?_ _ | refine sl_alloc Ent.cells_length ?_ _)) hl).mono ?_; rintro e w1 ⟨rfl, d1, rfl⟩))
    go_ret2
    rw [HN.out.1, HN.out.2]
    refine ⟨_, rfl, ?_, own_nil _ _ _ _ _⟩
    (repeat (first | exact World.gained_refl _ | exact ⟨_, rfl⟩ | apply gain_ext | apply gain_alloc | apply gain_drewN | apply gain_drew | (refine gain_setCell ?_ (by first | exact Nat.le_refl _ | exact World.size_ext _ _ | (simp; done) | (simp; omega)) _)))
  | true =>
  have hi := idx_yes hR
  have hlt := atR_lt hR
  obtain ⟨b, o, rfl⟩ := sl_some hs.out (by omega)
  have hck := fun j (hj : j < 5) => sl_cells hs.out hlt hj
  have hat := chOk_at (d := d) hB hR
  have HY := Lib.hid (fun h3 => ch_yes (d := d) c hR h3)
  have c0 := hck 0 (by omega)
  have c1 := hck 1 (by omega)
  have c2 := hck 2 (by omega)
  have c3 := hck 3 (by omega)
  have c4 := hck 4 (by omega)
  generalize l[atR l r] = e at c0 c1 c2 c3 c4 hck HY hat
  clear hck
  simp only [Ent.cells, List.getElem?_cons_zero, List.getElem?_cons_succ, Nat.add_zero] at c0 c1 c2 c3 c4
  have ob := World.oldB_of_cell c0
  by_cases hd : e.day ≤ d
  · replace HY := Lib.hid (HY.out (by rw [hat]; exact decide_eq_true hd))
    clear hat
    go_enter Try.func30, Try.ntmps30
    go_wp2_with (first | (go_at_call 52; refine (entryIndex_any _ l r _ hs.out hl).mono ?_; rintro e w1 ⟨rfl, d1, rfl⟩) | (go_at_call 16; refine (areEntries_any _ l _ (by repeat (first | exact hs.out | refine World.sl_ext Ent.cells_length ?_ _ | refine sl_alloc Ent.cells_length ?_ _)) hl).mono ?_; rintro e w1 ⟨rfl, d1, rfl⟩))
    go_wp2_with fail
    refine (withEntry_any _ l (atR l r) (chE e c d) _ (by repeat (first | exact hs.out | refine World.sl_ext Ent.cells_length ?_ _ | refine sl_alloc Ent.cells_length ?_ _)) hl hlt).mono ?_
    rintro e w1 ⟨R, rfl, ⟨d2, rfl⟩, hr⟩
    go_wp2
    go_ret2
    rw [HY.out.1, HY.out.2]
    exact ⟨_, rfl, (by repeat (first | exact World.gained_refl _ | exact ⟨_, rfl⟩ | apply gain_ext | apply gain_alloc | apply gain_drewN | apply gain_drew | (refine gain_setCell ?_ (by first | exact Nat.le_refl _ | exact World.size_ext _ _ | (simp; done) | (simp; omega)) _))), own_base hr (gain_size (by repeat (first | exact World.gained_refl _ | exact ⟨_, rfl⟩ | apply gain_ext | apply gain_alloc | apply gain_drewN | apply gain_drew | (refine gain_setCell ?_ (by first | exact Nat.le_refl _ | exact World.size_ext _ _ | (simp; done) | (simp; omega)) _))))⟩
  · have hcond : chOk l r d = false := by rw [hat]; exact decide_eq_false hd
    clear hat HY
    have HN := Lib.hid (ch_no c hcond)
    go_enter Try.func30, Try.ntmps30
    go_wp2_with (first | (go_at_call 52; refine (entryIndex_any _ l r _ hs.out hl).mono ?_; rintro e w1 ⟨rfl, d1, rfl⟩) | (go_at_call 16; refine (areEntries_any _ l _ (by repeat (first | exact hs.out | refine World.sl_ext Ent.cells_length ?_ _ | refine sl_alloc Ent.cells_length ?_ _)) hl).mono ?_; rintro e w1 ⟨rfl, d1, rfl⟩))
    go_ret2
    rw [HN.out.1, HN.out.2]
    refine ⟨_, rfl, ?_, own_nil _ _ _ _ _⟩
    (repeat (first | exact World.gained_refl _ | exact ⟨_, rfl⟩ | apply gain_ext | apply gain_alloc | apply gain_drewN | apply gain_drew | (refine gain_setCell ?_ (by first | exact Nat.le_refl _ | exact World.size_ext _ _ | (simp; done) | (simp; omega)) _)))
set_option maxHeartbeats 2000000 in
theorem specChangeClass_any (v : Value) (l : List Ent) (r c d : Int) (w : World) (h : w.sl Ent.cells 5 v l) (hl : l.length ≤ 1048576) :
    Calls Try.prog 29 #[v, .int .i64 r, .int .i64 c, .int .i64 d] w fun x w' => ∃ R, x = .returned (.tuple #[R, .bool (chB l r c d)]) ∧ (∃ d, w' = w.ext d) ∧ w'.own w.heap.size 56 Ent.cells 5 R (chL l r c d) := by
  have hs := Lib.hid h
  obtain ⟨p, cap, rfl, _⟩ := h
  cases hB : entsB l with
  | false =>
    have hcond : chOk l r d = false := by rw [chOk, hB]; rfl
    have HN := Lib.hid (ch_no c hcond)
    go_enter Try.func29, Try.ntmps29
    go_wp2_with (first | (go_at_call 50; refine (l11Find_any _ l r _ hs.out hl).mono ?_; rintro e w1 ⟨rfl, d1, rfl⟩) | (go_at_call 47; refine (l11Good_any _ l _ (by repeat (first | exact hs.out | refine World.sl_ext Ent.cells_length ?_ _ | refine sl_alloc Ent.cells_length ?_ _)) hl).mono ?_; rintro e w1 ⟨rfl, d1, rfl⟩))
    go_ret2
    rw [HN.out.1, HN.out.2]
    refine ⟨_, rfl, ?_, own_lit' (l := ([] : List Ent)) Ent.cells_length rfl rfl (gain_size (by repeat (first | exact World.gained_refl _ | exact ⟨_, rfl⟩ | apply gain_ext | apply gain_alloc | apply gain_drewN | apply gain_drew | (refine gain_setCell ?_ (by first | exact Nat.le_refl _ | exact World.size_ext _ _ | (simp; done) | (simp; omega)) _))))⟩
    (repeat (first | exact World.gained_refl _ | exact ⟨_, rfl⟩ | apply gain_ext | apply gain_alloc | apply gain_drewN | apply gain_drew | (refine gain_setCell ?_ (by first | exact Nat.le_refl _ | exact World.size_ext _ _ | (simp; done) | (simp; omega)) _)))
  | true =>
  cases hR : hasR l r with
  | false =>
    have hcond : chOk l r d = false := by rw [chOk, hB, hR]; rfl
    have hi := idx_no hR
    have HN := Lib.hid (ch_no c hcond)
    go_enter Try.func29, Try.ntmps29
    go_wp2_with (first | (go_at_call 50; refine (l11Find_any _ l r _ hs.out hl).mono ?_; rintro e w1 ⟨rfl, d1, rfl⟩) | (go_at_call 47; refine (l11Good_any _ l _ (by repeat (first | exact hs.out | refine World.sl_ext Ent.cells_length ?_ _ | refine sl_alloc Ent.cells_length ?_ _)) hl).mono ?_; rintro e w1 ⟨rfl, d1, rfl⟩))
    go_ret2
    rw [HN.out.1, HN.out.2]
    refine ⟨_, rfl, ?_, own_lit' (l := ([] : List Ent)) Ent.cells_length rfl rfl (gain_size (by repeat (first | exact World.gained_refl _ | exact ⟨_, rfl⟩ | apply gain_ext | apply gain_alloc | apply gain_drewN | apply gain_drew | (refine gain_setCell ?_ (by first | exact Nat.le_refl _ | exact World.size_ext _ _ | (simp; done) | (simp; omega)) _))))⟩
    (repeat (first | exact World.gained_refl _ | exact ⟨_, rfl⟩ | apply gain_ext | apply gain_alloc | apply gain_drewN | apply gain_drew | (refine gain_setCell ?_ (by first | exact Nat.le_refl _ | exact World.size_ext _ _ | (simp; done) | (simp; omega)) _)))
  | true =>
  have hi := idx_yes hR
  have hlt := atR_lt hR
  obtain ⟨b, o, rfl⟩ := sl_some hs.out (by omega)
  have hck := fun j (hj : j < 5) => sl_cells hs.out hlt hj
  have hat := chOk_at (d := d) hB hR
  have HY := Lib.hid (fun h3 => ch_yes (d := d) c hR h3)
  have c0 := hck 0 (by omega)
  have c1 := hck 1 (by omega)
  have c2 := hck 2 (by omega)
  have c3 := hck 3 (by omega)
  have c4 := hck 4 (by omega)
  generalize l[atR l r] = e at c0 c1 c2 c3 c4 hck HY hat
  clear hck
  simp only [Ent.cells, List.getElem?_cons_zero, List.getElem?_cons_succ, Nat.add_zero] at c0 c1 c2 c3 c4
  have ob := World.oldB_of_cell c0
  by_cases hd : e.day ≤ d
  · replace HY := Lib.hid (HY.out (by rw [hat]; exact decide_eq_true hd))
    clear hat
    go_enter Try.func29, Try.ntmps29
    go_wp2_with (first | (go_at_call 50; refine (l11Find_any _ l r _ hs.out hl).mono ?_; rintro e w1 ⟨rfl, d1, rfl⟩) | (go_at_call 47; refine (l11Good_any _ l _ (by repeat (first | exact hs.out | refine World.sl_ext Ent.cells_length ?_ _ | refine sl_alloc Ent.cells_length ?_ _)) hl).mono ?_; rintro e w1 ⟨rfl, d1, rfl⟩))
    go_wp2_with fail
    refine (l11With_any _ l (atR l r) (chE e c d) _ (by repeat (first | exact hs.out | refine World.sl_ext Ent.cells_length ?_ _ | refine sl_alloc Ent.cells_length ?_ _)) hl hlt).mono ?_
    rintro e w1 ⟨R, rfl, ⟨d2, rfl⟩, hr⟩
    go_wp2
    go_ret2
    rw [HY.out.1, HY.out.2]
    exact ⟨_, rfl, (by repeat (first | exact World.gained_refl _ | exact ⟨_, rfl⟩ | apply gain_ext | apply gain_alloc | apply gain_drewN | apply gain_drew | (refine gain_setCell ?_ (by first | exact Nat.le_refl _ | exact World.size_ext _ _ | (simp; done) | (simp; omega)) _))), own_base hr (gain_size (by repeat (first | exact World.gained_refl _ | exact ⟨_, rfl⟩ | apply gain_ext | apply gain_alloc | apply gain_drewN | apply gain_drew | (refine gain_setCell ?_ (by first | exact Nat.le_refl _ | exact World.size_ext _ _ | (simp; done) | (simp; omega)) _))))⟩
  · have hcond : chOk l r d = false := by rw [hat]; exact decide_eq_false hd
    clear hat HY
    have HN := Lib.hid (ch_no c hcond)
    go_enter Try.func29, Try.ntmps29
    go_wp2_with (first | (go_at_call 50; refine (l11Find_any _ l r _ hs.out hl).mono ?_; rintro e w1 ⟨rfl, d1, rfl⟩) | (go_at_call 47; refine (l11Good_any _ l _ (by repeat (first | exact hs.out | refine World.sl_ext Ent.cells_length ?_ _ | refine sl_alloc Ent.cells_length ?_ _)) hl).mono ?_; rintro e w1 ⟨rfl, d1, rfl⟩))
    go_ret2
    rw [HN.out.1, HN.out.2]
    refine ⟨_, rfl, ?_, own_lit' (l := ([] : List Ent)) Ent.cells_length rfl rfl (gain_size (by repeat (first | exact World.gained_refl _ | exact ⟨_, rfl⟩ | apply gain_ext | apply gain_alloc | apply gain_drewN | apply gain_drew | (refine gain_setCell ?_ (by first | exact Nat.le_refl _ | exact World.size_ext _ _ | (simp; done) | (simp; omega)) _))))⟩
    (repeat (first | exact World.gained_refl _ | exact ⟨_, rfl⟩ | apply gain_ext | apply gain_alloc | apply gain_drewN | apply gain_drew | (refine gain_setCell ?_ (by first | exact Nat.le_refl _ | exact World.size_ext _ _ | (simp; done) | (simp; omega)) _)))
end Go.Proofs.Ytohmefblkfophaa
