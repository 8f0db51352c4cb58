/- impl.withEntry, spec.l11With. Condition: at most 1048576 entries, an index of theirs. -/
import Derived.Test.YtohmefblkfophaaL11
import Derived.Test.YtohmefblkfophaaInfoEnt
namespace Go.Proofs.Ytohmefblkfophaa
open Go.RowKit Go.Ori
set_option maxHeartbeats 2000000 in
theorem withEntry_any (v : Value) (l : List Ent) (i : Nat) (e : Ent) (w : World) (h : w.sl Ent.cells 5 v l) (hl : l.length ≤ 1048576) (hi : i < l.length) :
    Calls Try.prog 58 #[v, .int .i64 i, .agg #[.int .i64 e.runner, .int .i64 e.cls, .int .i64 e.day, .bool e.rent, .int .i64 e.paid]] w fun x w' => ∃ r, x = .returned (.tuple #[r, .bool (withB l i e)]) ∧ (∃ d, w' = w.ext d) ∧ w'.own w.heap.size 56 Ent.cells 5 r (withL l i e) := by
  have HI := Lib.hid h
  have hlen' : (l.set i e).length ≤ 1048576 := by rw [List.length_set]; exact hl
  go_enter Try.func58, Try.ntmps58
  go_wp2_with (at_builtin; go_must (refine wpList_append_gain (m := l) rfl (.tmp 9) (.tmp 10) rfl Try.underlying25 info_Ent (by rfl) (by omega) Ent.cells_length Ent.cells_one (by omega) (gain_alloc (gain_alloc w.gained_refl _) _) (Nat.le_refl _) (gain_size (gain_alloc (gain_alloc w.gained_refl _) _)) rfl rfl (own_lit' (l := ([] : List Ent)) Ent.cells_length rfl (by simp) (by simp)) (sl_alloc Ent.cells_length (sl_alloc Ent.cells_length h _) _) (by simpa using (by omega : l.length ≤ 2097152)) ?_); intro v' d ho hg; have hbox := fun j => (World.cell?_of_block (a := ⟨w.heap.size, j, none⟩) (hg.block w.heap.size (by simp; omega) (by show some w.heap.size ≠ some (w.heap.size + 1); simp))); rw [List.nil_append] at ho; obtain ⟨g, cap, rfl, hgb, hgc, hgx⟩ := own_open ho (by omega); have HGX := Lib.hid hgx; have HP : Hid (((((((w.ext d).setCell ⟨g, i * 5, none⟩ (.int .i64 e.runner)).setCell ⟨g, i * 5 + 1, none⟩ (.int .i64 e.cls)).setCell ⟨g, i * 5 + 2, none⟩ (.int .i64 e.day)).setCell ⟨g, i * 5 + 3, none⟩ (.bool e.rent)).setCell ⟨g, i * 5 + 4, none⟩ (.int .i64 e.paid)).own w.heap.size 56 Ent.cells 5 (.slice (some ⟨g, 0, none⟩) l.length cap) (l.set i e)) := Lib.hid (own_put Ent.cells_length ho hi e); have HO := Lib.hid ho; clear hg ho hgx h; obtain ⟨x0, t0, z0⟩ := HGX.out (i * 5) (by omega); obtain ⟨x1, t1, z1⟩ := HGX.out (i * 5 + 1) (by omega); obtain ⟨x2, t2, z2⟩ := HGX.out (i * 5 + 2) (by omega); obtain ⟨x3, t3, z3⟩ := HGX.out (i * 5 + 3) (by omega); obtain ⟨x4, t4, z4⟩ := HGX.out (i * 5 + 4) (by omega))
  refine (areEntries_any _ (l.set i e) _ (sl_of_own Ent.cells_length HP.out) hlen').mono ?_
  rintro e1 w1 ⟨rfl, d2, rfl⟩
  have HG : Hid (∃ d3, ((((((w.ext d).setCell ⟨g, i * 5, none⟩ (.int .i64 e.runner)).setCell ⟨g, i * 5 + 1, none⟩ (.int .i64 e.cls)).setCell ⟨g, i * 5 + 2, none⟩ (.int .i64 e.day)).setCell ⟨g, i * 5 + 3, none⟩ (.bool e.rent)).setCell ⟨g, i * 5 + 4, none⟩ (.int .i64 e.paid)) = w.ext d3) := Lib.hid (gain_setCells e.cells (i * 5) ⟨_, rfl⟩ hgb)
  clear hbox HGX x0 x1 x2 x3 x4 t0 t1 t2 t3 t4 z0 z1 z2 z3 z4
  cases hb : entsB (l.set i e) with
  | true =>
    have e1 := Lib.hid (show withL l i e = l.set i e by simp [withL, withB, hb])
    have e2 := Lib.hid (show withB l i e = true by simp [withB, hb])
    go_wp2
    go_ret2
    rw [e1.out, e2.out]
    exact ⟨_, rfl, gain_ext HG.out _, own_ext HP.out _⟩
  | false =>
    have e1 := Lib.hid (show withL l i e = [] by simp [withL, withB, hb])
    have e2 := Lib.hid (show withB l i e = false by simp [withB, hb])
    go_wp2
    go_ret2
    rw [e1.out, e2.out]
    exact ⟨_, rfl, gain_ext HG.out _, own_nil _ _ _ _ _⟩
set_option maxHeartbeats 2000000 in
theorem l11With_any (v : Value) (l : List Ent) (i : Nat) (e : Ent) (w : World) (h : w.sl Ent.cells 5 v l) (hl : l.length ≤ 1048576) (hi : i < l.length) :
    Calls Try.prog 56 #[v, .int .i64 i, .agg #[.int .i64 e.runner, .int .i64 e.cls, .int .i64 e.day, .bool e.rent, .int .i64 e.paid]] w fun x w' => ∃ r, x = .returned (.tuple #[r, .bool (withB l i e)]) ∧ (∃ d, w' = w.ext d) ∧ w'.own w.heap.size 56 Ent.cells 5 r (withL l i e) := by
  have HI := Lib.hid h
  have hlen' : (l.set i e).length ≤ 1048576 := by rw [List.length_set]; exact hl
  go_enter Try.func56, Try.ntmps56
  go_wp2_with (at_builtin; go_must (refine wpList_append_gain (m := l) rfl (.tmp 9) (.tmp 10) rfl Try.underlying25 info_Ent (by rfl) (by omega) Ent.cells_length Ent.cells_one (by omega) (gain_alloc (gain_alloc w.gained_refl _) _) (Nat.le_refl _) (gain_size (gain_alloc (gain_alloc w.gained_refl _) _)) rfl rfl (own_lit' (l := ([] : List Ent)) Ent.cells_length rfl (by simp) (by simp)) (sl_alloc Ent.cells_length (sl_alloc Ent.cells_length h _) _) (by simpa using (by omega : l.length ≤ 2097152)) ?_); intro v' d ho hg; have hbox := fun j => (World.cell?_of_block (a := ⟨w.heap.size, j, none⟩) (hg.block w.heap.size (by simp; omega) (by show some w.heap.size ≠ some (w.heap.size + 1); simp))); rw [List.nil_append] at ho; obtain ⟨g, cap, rfl, hgb, hgc, hgx⟩ := own_open ho (by omega); have HGX := Lib.hid hgx; have HP : Hid (((((((w.ext d).setCell ⟨g, i * 5, none⟩ (.int .i64 e.runner)).setCell ⟨g, i * 5 + 1, none⟩ (.int .i64 e.cls)).setCell ⟨g, i * 5 + 2, none⟩ (.int .i64 e.day)).setCell ⟨g, i * 5 + 3, none⟩ (.bool e.rent)).setCell ⟨g, i * 5 + 4, none⟩ (.int .i64 e.paid)).own w.heap.size 56 Ent.cells 5 (.slice (some ⟨g, 0, none⟩) l.length cap) (l.set i e)) := Lib.hid (own_put Ent.cells_length ho hi e); have HO := Lib.hid ho; clear hg ho hgx h; obtain ⟨x0, t0, z0⟩ := HGX.out (i * 5) (by omega); obtain ⟨x1, t1, z1⟩ := HGX.out (i * 5 + 1) (by omega); obtain ⟨x2, t2, z2⟩ := HGX.out (i * 5 + 2) (by omega); obtain ⟨x3, t3, z3⟩ := HGX.out (i * 5 + 3) (by omega); obtain ⟨x4, t4, z4⟩ := HGX.out (i * 5 + 4) (by omega))
  refine (l11Good_any _ (l.set i e) _ (sl_of_own Ent.cells_length HP.out) hlen').mono ?_
  rintro e1 w1 ⟨rfl, d2, rfl⟩
  have HG : Hid (∃ d3, ((((((w.ext d).setCell ⟨g, i * 5, none⟩ (.int .i64 e.runner)).setCell ⟨g, i * 5 + 1, none⟩ (.int .i64 e.cls)).setCell ⟨g, i * 5 + 2, none⟩ (.int .i64 e.day)).setCell ⟨g, i * 5 + 3, none⟩ (.bool e.rent)).setCell ⟨g, i * 5 + 4, none⟩ (.int .i64 e.paid)) = w.ext d3) := Lib.hid (gain_setCells e.cells (i * 5) ⟨_, rfl⟩ hgb)
  clear hbox HGX x0 x1 x2 x3 x4 t0 t1 t2 t3 t4 z0 z1 z2 z3 z4
  cases hb : entsB (l.set i e) with
  | true =>
    have e1 := Lib.hid (show withL l i e = l.set i e by simp [withL, withB, hb])
    have e2 := Lib.hid (show withB l i e = true by simp [withB, hb])
    go_wp2
    go_ret2
    rw [e1.out, e2.out]
    exact ⟨_, rfl, gain_ext HG.out _, own_ext HP.out _⟩
  | false =>
    have e1 := Lib.hid (show withL l i e = [] by simp [withL, withB, hb])
    have e2 := Lib.hid (show withB l i e = false by simp [withB, hb])
    go_wp2
    go_ret2
    rw [e1.out, e2.out]
    exact ⟨_, rfl, gain_alloc (gain_ext HG.out _) _, own_lit' (l := ([] : List Ent)) Ent.cells_length rfl rfl (gain_size (gain_ext HG.out _))⟩
end Go.Proofs.Ytohmefblkfophaa
