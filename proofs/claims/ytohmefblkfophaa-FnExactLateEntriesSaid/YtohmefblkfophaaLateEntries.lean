/- impl.LateEntries, spec.LateEntries. Condition: at most 1048576 entries. -/
import Derived.Test.YtohmefblkfophaaL11
import Derived.Test.YtohmefblkfophaaInfoInt
namespace Go.Proofs.Ytohmefblkfophaa
open Go.RowKit Go.Ori
set_option maxHeartbeats 1000000 in
theorem lateEntries_any (v : Value) (l : List Ent) (w : World) (h : w.sl Ent.cells 5 v l) (hl : l.length ≤ 1048576) :
    Calls Try.prog 19 #[v] w fun x w' => ∃ r, x = .returned (.tuple #[r, .bool (entsB l)]) ∧ (∃ d, w' = w.ext d) ∧ w'.own w.heap.size 3 intC 1 r (lateL l) := by
  have HG := Lib.hid (areEntries_any _ l _ h hl)
  have hs := Lib.hid h
  obtain ⟨p, c, rfl, _⟩ := h
  cases hc : entsB l with
  | false =>
    have e2 := Lib.hid (show lateL l = [] by simp [lateL, hc])
    rw [hc] at HG
    clear hc
    go_enter Try.func19, Try.ntmps19
    go_wp2_with (go_at_call 16; refine HG.out.mono ?_; rintro e w1 ⟨rfl, d1, rfl⟩)
    go_ret2
    rw [e2.out]
    exact ⟨_, rfl, ⟨_, rfl⟩, own_nil _ _ _ _ _⟩
  | true =>
    have e2 := Lib.hid (show lateL l = lateN l l.length by simp [lateL, hc])
    rw [hc] at HG
    have hn := entsB_len hc
    clear hc
    go_enter Try.func19, Try.ntmps19
    go_wp2_with (go_at_call 16; refine HG.out.mono ?_; rintro e w1 ⟨rfl, d1, rfl⟩)
    go_loopw [4, 13] (fun o i wr => ∃ k : Nat, k ≤ l.length ∧ i = .int .i64 k ∧ (∃ d, wr = w.ext d) ∧ wr.own w.heap.size 3 intC 1 o (lateN l k)) (fun _ i _ => l.length - (intOf i).toNat)
    case atStart => exact ⟨0, by omega, rfl, gain_alloc ⟨_, rfl⟩ _, own_base (own_lit (l := ([] : List Int)) intC_length rfl (by simp)) (World.size_ext _ _)⟩
    case round =>
      obtain ⟨k, hk, rfl, ⟨d, rfl⟩, ho⟩ := hrel
      have HO := Lib.hid ho
      clear ho
      by_cases hlt : k < l.length
      · obtain ⟨b, o, rfl⟩ := sl_some hs.out (by omega)
        have hck := fun j (hj : j < 5) => sl_cells hs.out hlt hj
        have HS := Lib.hid (lateN_succ hlt)
        have c0 := hck 0 (by omega)
        have c1 := hck 1 (by omega)
        have c2 := hck 2 (by omega)
        have c3 := hck 3 (by omega)
        have c4 := hck 4 (by omega)
        generalize l[k] = e at c0 c1 c2 c3 c4 hck HS
        clear hck
        simp only [Ent.cells, List.getElem?_cons_zero, List.getElem?_cons_succ, Nat.add_zero] at c0 c1 c2 c3 c4
        have ob := World.oldB_of_cell c0
        by_cases hd : 300 ≤ e.day
        · have HS' : Hid (lateN l (k + 1) = lateN l k ++ [e.runner]) := Lib.hid (by rw [HS.out, if_pos hd])
          go_wp2_with (at_builtin; go_must (refine wpList_append_gain (m := [e.runner]) rfl (.tmp 20) (.tmp 23) rfl Try.underlying29 info_int (by rfl) (by omega) intC_length intC_one (by omega) (gain_alloc (gain_alloc (⟨_, rfl⟩) _) _) (Nat.le_refl _) (gain_size (gain_alloc (gain_alloc (⟨_, rfl⟩) _) _)) rfl rfl (own_alloc (own_alloc (HO.out) _) _) (sl_lit (l := [e.runner]) intC_length rfl (by simp)) (by have := lateN_length l k; simp; omega) ?_); intro v' d' ho hg)
          go_roundw
          case rel => exact ⟨k + 1, by omega, by go_num, ⟨_, rfl⟩, by rw [HS'.out]; exact ho⟩
          case measure => simp [intOf]; omega
        · have HS' : Hid (lateN l (k + 1) = lateN l k) := Lib.hid (by rw [HS.out, if_neg hd, List.append_nil])
          go_wp2
          go_roundw
          case rel => exact ⟨k + 1, by omega, by go_num, gain_alloc ⟨_, rfl⟩ _, by rw [HS'.out]; exact own_alloc HO.out _⟩
          case measure => simp [intOf]; omega
      · go_wp2
        go_ret2
        obtain rfl : k = l.length := by omega
        rw [e2.out]
        exact ⟨_, rfl, ⟨_, rfl⟩, HO.out⟩
set_option maxHeartbeats 1000000 in
theorem specLateEntries_any (v : Value) (l : List Ent) (w : World) (h : w.sl Ent.cells 5 v l) (hl : l.length ≤ 1048576) :
    Calls Try.prog 18 #[v] w fun x w' => ∃ r, x = .returned (.tuple #[r, .bool (entsB l)]) ∧ (∃ d, w' = w.ext d) ∧ w'.own w.heap.size 3 intC 1 r (lateL l) := by
  have HG := Lib.hid (l11Good_any _ l (w.alloc (.cells #[] 3)) (sl_alloc Ent.cells_length h _) hl)
  have hs := Lib.hid h
  obtain ⟨p, c, rfl, _⟩ := h
  cases hc : entsB l with
  | false =>
    have e2 := Lib.hid (show lateL l = [] by simp [lateL, hc])
    rw [hc] at HG
    clear hc
    go_enter Try.func18, Try.ntmps18
    go_wp2_with (go_at_call 47; refine HG.out.mono ?_; rintro e w1 ⟨rfl, d1, rfl⟩)
    go_ret2
    rw [e2.out]
    exact ⟨_, rfl, gain_ext (gain_alloc w.gained_refl _) _, own_ext (own_lit (l := ([] : List Int)) intC_length rfl (by simp)) _⟩
  | true =>
    have e2 := Lib.hid (show lateL l = lateN l l.length by simp [lateL, hc])
    rw [hc] at HG
    have hn := entsB_len hc
    clear hc
    go_enter Try.func18, Try.ntmps18
    go_wp2_with (go_at_call 47; refine HG.out.mono ?_; rintro e w1 ⟨rfl, d1, rfl⟩)
    go_loopw [4, 5] (fun o i wr => ∃ k : Nat, k ≤ l.length ∧ i = .int .i64 k ∧ (∃ d, wr = w.ext d) ∧ wr.own w.heap.size 3 intC 1 o (lateN l k)) (fun _ i _ => l.length - (intOf i).toNat)
    case atStart => exact ⟨0, by omega, rfl, gain_ext (gain_alloc w.gained_refl _) _, own_ext (own_lit (l := ([] : List Int)) intC_length rfl (by simp)) _⟩
    case round =>
      obtain ⟨k, hk, rfl, ⟨d, rfl⟩, ho⟩ := hrel
      have HO := Lib.hid ho
      clear ho
      by_cases hlt : k < l.length
      · obtain ⟨b, o, rfl⟩ := sl_some hs.out (by omega)
        have hck := fun j (hj : j < 5) => sl_cells hs.out hlt hj
        have HS := Lib.hid (lateN_succ hlt)
        have c0 := hck 0 (by omega)
        have c1 := hck 1 (by omega)
        have c2 := hck 2 (by omega)
        have c3 := hck 3 (by omega)
        have c4 := hck 4 (by omega)
        generalize l[k] = e at c0 c1 c2 c3 c4 hck HS
        clear hck
        simp only [Ent.cells, List.getElem?_cons_zero, List.getElem?_cons_succ, Nat.add_zero] at c0 c1 c2 c3 c4
        have ob := World.oldB_of_cell c0
        by_cases hd : 300 ≤ e.day
        · have HS' : Hid (lateN l (k + 1) = lateN l k ++ [e.runner]) := Lib.hid (by rw [HS.out, if_pos hd])
          go_wp2_with (at_builtin; go_must (refine wpList_append_gain (m := [e.runner]) rfl (.tmp 23) (.tmp 29) rfl Try.underlying29 info_int (by rfl) (by omega) intC_length intC_one (by omega) (gain_alloc (⟨_, rfl⟩) _) (Nat.le_refl _) (gain_size (gain_alloc (⟨_, rfl⟩) _)) rfl rfl (own_alloc (HO.out) _) (sl_lit (l := [e.runner]) intC_length rfl (by simp)) (by have := lateN_length l k; simp; omega) ?_); intro v' d' ho hg)
          go_roundw
          case rel => exact ⟨k + 1, by omega, by go_num, ⟨_, rfl⟩, by rw [HS'.out]; exact ho⟩
          case measure => simp [intOf]; omega
        · have HS' : Hid (lateN l (k + 1) = lateN l k) := Lib.hid (by rw [HS.out, if_neg hd, List.append_nil])
          go_wp2
          go_roundw
          case rel => exact ⟨k + 1, by omega, by go_num, ⟨_, rfl⟩, by rw [HS'.out]; exact HO.out⟩
          case measure => simp [intOf]; omega
      · go_wp2
        go_ret2
        obtain rfl : k = l.length := by omega
        rw [e2.out]
        exact ⟨_, rfl, ⟨_, rfl⟩, HO.out⟩
end Go.Proofs.Ytohmefblkfophaa
