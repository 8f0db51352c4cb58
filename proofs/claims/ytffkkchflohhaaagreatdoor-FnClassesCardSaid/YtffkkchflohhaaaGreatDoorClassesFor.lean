/- impl.classesFor, impl.ClassesFor, spec.l7For, spec.ClassesFor. Condition: at most 1048576 classes, their names and the runner's strings too. -/
import Derived.Test.YtffkkchflohhaaaGreatDoorAreClasses
import Derived.Test.YtffkkchflohhaaaGreatDoorAdmit
import Derived.Test.YtffkkchflohhaaaGreatDoorOneRunner
import Derived.Test.YtffkkchflohhaaaGreatDoorInfoCls
import Derived.Test.YtffkkchflohhaaaGreatDoorInfoInt
import Derived.Test.YtffkkchflohhaaaGreatDoorHeld
namespace Go.Ori
/-- The classes among the first k that admit a runner. -/
def forN (l : List Cls) (r : Runner) (k : Nat) : List Cls := (l.take k).filter fun c => admitB c r
theorem forN_succ {l : List Cls} {r : Runner} {k : Nat} (h : k < l.length) : forN l r (k + 1) = forN l r k ++ if admitB l[k] r then [l[k]] else [] := by
  unfold forN
  rw [List.take_succ_eq_append_getElem h, List.filter_append]
  congr 1
  cases h1 : admitB l[k] r <;> simp [h1]
theorem forN_zero (l : List Cls) (r : Runner) : forN l r 0 = [] := by simp [forN]
theorem forN_length (l : List Cls) (r : Runner) (k : Nat) : (forN l r k).length ≤ k := by
  unfold forN
  exact Nat.le_trans (List.length_filter_le _ _) (by rw [List.length_take]; omega)
def forL (l : List Cls) (r : Runner) : List Cls := forN l r l.length
theorem forN_ids {l : List Cls} {r : Runner} {k : Nat} (h : k < l.length) : (forN l r (k + 1)).map Cls.id = (forN l r k).map Cls.id ++ if admitB l[k] r then [l[k].id] else [] := by
  rw [forN_succ h, List.map_append]
  cases admitB l[k] r <;> rfl
def cfB (l : List Cls) (r : Runner) : Bool := clssB l && runnerB r
def cfL (l : List Cls) (r : Runner) : List Int := if cfB l r then (forL l r).map Cls.id else []
theorem runner_born {r : Runner} (h : runnerB r = true) : 1920 ≤ r.born ∧ r.born ≤ 2020 := by
  simp only [runnerB, Bool.and_eq_true, insB_true] at h
  omega
theorem cfL_length (l : List Cls) (r : Runner) : (cfL l r).length ≤ 1048576 := by
  unfold cfL
  split
  · rename_i h
    simp only [cfB, Bool.and_eq_true] at h
    have h1 := clssB_len h.1
    have := forN_length l r l.length
    rw [List.length_map]
    unfold forL
    omega
  · simp
end Go.Ori
namespace Go.Proofs.YtffkkchflohhaaaGreatDoor
open Go.RowKit Go.Ori
set_option maxHeartbeats 2000000 in
theorem classesFor_own (v : Value) (l : List Cls) (r : Runner) (w : World) (h : w.sl Cls.cells 8 v l) (hl : l.length ≤ 1048576) (hb : 1920 ≤ r.born ∧ r.born ≤ 2020) :
    Calls Tryz.prog 42 #[v, .agg #[.int .i64 r.id, .string r.name, .string r.club, .int .i64 r.born, .bool r.woman, .int .i64 r.card]] w fun x w' => ∃ q, x = .returned q ∧ (∃ d, w' = w.ext d) ∧ w'.own w.heap.size 25 Cls.cells 8 q (forL l r) := by
  have hs := Lib.hid h
  obtain ⟨p, c, rfl, _⟩ := h
  go_enter Tryz.func42, Tryz.ntmps42
  go_wp2
  generalize hW : w.alloc (.cells #[.int .i64 r.id, .string r.name, .string r.club, .int .i64 r.born, .bool r.woman, .int .i64 r.card] 35) = W
  have hgW : ∃ d, W = w.ext d := by rw [← hW]; exact gain_alloc w.gained_refl _
  have r0 : W.cell? ⟨w.heap.size, 0, none⟩ = some (.int .i64 r.id) := by rw [← hW]; simp [go_sem]
  have r1 : W.cell? ⟨w.heap.size, 1, none⟩ = some (.string r.name) := by rw [← hW]; simp [go_sem]
  have r2 : W.cell? ⟨w.heap.size, 2, none⟩ = some (.string r.club) := by rw [← hW]; simp [go_sem]
  have r3 : W.cell? ⟨w.heap.size, 3, none⟩ = some (.int .i64 r.born) := by rw [← hW]; simp [go_sem]
  have r4 : W.cell? ⟨w.heap.size, 4, none⟩ = some (.bool r.woman) := by rw [← hW]; simp [go_sem]
  have r5 : W.cell? ⟨w.heap.size, 5, none⟩ = some (.int .i64 r.card) := by rw [← hW]; simp [go_sem]
  have obr := World.oldB_of_cell r0
  have HW := Lib.hid hW
  clear hW
  have hsW := Lib.hid (show W.sl Cls.cells 8 (.slice p l.length c) l by rw [← HW.out]; exact sl_alloc Cls.cells_length hs.out _)
  have hgs := Lib.hid (gain_size hgW)
  go_loopw [5, 11] (fun o i wr => ∃ k : Nat, k ≤ l.length ∧ i = .int .i64 k ∧ (∃ d, wr = W.ext d) ∧ wr.own W.heap.size 25 Cls.cells 8 o (forN l r k)) (fun _ i _ => l.length - (intOf i).toNat)
  case atStart => exact ⟨0, by omega, rfl, gain_alloc W.gained_refl _, by rw [forN_zero]; exact own_lit' (l := ([] : List Cls)) Cls.cells_length rfl (by rw [← HW.out, World.size_alloc]) (Nat.le_refl _)⟩
  case round =>
    obtain ⟨k, hk, rfl, ⟨d, rfl⟩, ho⟩ := hrel
    have HO := Lib.hid ho
    clear ho
    by_cases hlt : k < l.length
    · obtain ⟨b, o, rfl⟩ := sl_some hsW.out (by omega)
      have hck := fun j (hj : j < 8) => sl_cells hsW.out hlt hj
      have HS := Lib.hid (forN_succ (r := r) hlt)
      have c0 := hck 0 (by omega)
      have c1 := hck 1 (by omega)
      have c2 := hck 2 (by omega)
      have c3 := hck 3 (by omega)
      have c4 := hck 4 (by omega)
      have c5 := hck 5 (by omega)
      have c6 := hck 6 (by omega)
      have c7 := hck 7 (by omega)
      generalize l[k] = e at c0 c1 c2 c3 c4 c5 c6 c7 hck HS
      clear hck
      simp only [Cls.cells, List.getElem?_cons_zero, List.getElem?_cons_succ, Nat.add_zero] at c0 c1 c2 c3 c4 c5 c6 c7
      have ob := World.oldB_of_cell c0
      cases ha : admitB e r with
      | true =>
        have HS' : Hid (forN l r (k + 1) = forN l r k ++ [e]) := Lib.hid (by rw [HS.out, ha]; rfl)
        have HA := Lib.hid ha
        clear ha
        go_wp2_with fail
        refine (admits_any e r _ hb).mono ?_
        rintro x1 w1 ⟨rfl, d1, rfl⟩
        rw [HA.out]
        go_wp2_with (at_builtin; go_must (refine wpList_append_gain (m := [e]) rfl (.tmp 18) (.tmp 20) rfl Tryz.underlying33 info_Cls (by rfl) (by omega) Cls.cells_length Cls.cells_one (by omega) (by repeat (first | with_reducible (first | exact World.gained_refl _ | exact ⟨_, rfl⟩ | apply gain_ext | apply gain_alloc | apply gain_drewN | apply gain_drew) | (refine gain_setCell ?_ (by first | exact Nat.le_refl _ | exact World.size_ext _ _ | (simp; done) | (simp; omega)) _))) (Nat.le_refl _) (gain_size (by repeat (first | with_reducible (first | exact World.gained_refl _ | exact ⟨_, rfl⟩ | apply gain_ext | apply gain_alloc | apply gain_drewN | apply gain_drew) | (refine gain_setCell ?_ (by first | exact Nat.le_refl _ | exact World.size_ext _ _ | (simp; done) | (simp; omega)) _)))) rfl rfl (own_up (HO.out) (by repeat (first | with_reducible (first | exact World.gained_refl _ | exact ⟨_, rfl⟩ | apply gain_ext | apply gain_alloc | apply gain_drewN | apply gain_drew) | (refine gain_setCell ?_ (by first | exact Nat.le_refl _ | exact World.size_ext _ _ | (simp; done) | (simp; omega)) _)))) (sl_lit (l := [e]) Cls.cells_length rfl (by simp)) (by have := forN_length l r k; simp; omega) ?_); intro v' d' ho hg)
        go_roundw
        case rel => exact ⟨k + 1, by omega, by go_num, ⟨_, rfl⟩, by rw [HS'.out]; exact ho⟩
        case measure => simp [intOf]; omega
      | false =>
        have HS' : Hid (forN l r (k + 1) = forN l r k) := Lib.hid (by rw [HS.out, ha]; simp)
        have HA := Lib.hid ha
        clear ha
        go_wp2_with fail
        refine (admits_any e r _ hb).mono ?_
        rintro x1 w1 ⟨rfl, d1, rfl⟩
        rw [HA.out]
        go_wp2
        go_roundw
        case rel => exact ⟨k + 1, by omega, by go_num, (by repeat (first | with_reducible (first | exact World.gained_refl _ | exact ⟨_, rfl⟩ | apply gain_ext | apply gain_alloc | apply gain_drewN | apply gain_drew) | (refine gain_setCell ?_ (by first | exact Nat.le_refl _ | exact World.size_ext _ _ | (simp; done) | (simp; omega)) _))), by rw [HS'.out]; exact (own_up (HO.out) (by repeat (first | with_reducible (first | exact World.gained_refl _ | exact ⟨_, rfl⟩ | apply gain_ext | apply gain_alloc | apply gain_drewN | apply gain_drew) | (refine gain_setCell ?_ (by first | exact Nat.le_refl _ | exact World.size_ext _ _ | (simp; done) | (simp; omega)) _))))⟩
        case measure => simp [intOf]; omega
    · go_wp2
      go_ret
      obtain rfl : k = l.length := by omega
      exact ⟨_, rfl, by obtain ⟨d0, hd0⟩ := hgW; rw [hd0, World.ext_ext]; exact ⟨_, rfl⟩, own_base HO.out hgs.out⟩
set_option maxHeartbeats 2000000 in
theorem l7For_own (v : Value) (l : List Cls) (r : Runner) (w : World) (h : w.sl Cls.cells 8 v l) (hl : l.length ≤ 1048576) (hb : 1920 ≤ r.born ∧ r.born ≤ 2020) :
    Calls Tryz.prog 52 #[v, .agg #[.int .i64 r.id, .string r.name, .string r.club, .int .i64 r.born, .bool r.woman, .int .i64 r.card]] w fun x w' => ∃ q, x = .returned q ∧ (∃ d, w' = w.ext d) ∧ w'.own w.heap.size 3 intC 1 q ((forL l r).map Cls.id) := by
  have hs := Lib.hid h
  obtain ⟨p, c, rfl, _⟩ := h
  go_enter Tryz.func52, Tryz.ntmps52
  go_wp2
  generalize hW : w.alloc (.cells #[.int .i64 r.id, .string r.name, .string r.club, .int .i64 r.born, .bool r.woman, .int .i64 r.card] 35) = W
  have hgW : ∃ d, W = w.ext d := by rw [← hW]; exact gain_alloc w.gained_refl _
  have r3 : W.cell? ⟨w.heap.size, 3, none⟩ = some (.int .i64 r.born) := by rw [← hW]; simp [go_sem]
  have r4 : W.cell? ⟨w.heap.size, 4, none⟩ = some (.bool r.woman) := by rw [← hW]; simp [go_sem]
  have obr := World.oldB_of_cell r3
  have HW := Lib.hid hW
  clear hW
  have hsW := Lib.hid (show W.sl Cls.cells 8 (.slice p l.length c) l by rw [← HW.out]; exact sl_alloc Cls.cells_length hs.out _)
  have hgs := Lib.hid (gain_size hgW)
  go_loopw [5, 6] (fun o i wr => ∃ k : Nat, k ≤ l.length ∧ i = .int .i64 k ∧ (∃ d, wr = W.ext d) ∧ wr.own W.heap.size 3 intC 1 o ((forN l r k).map Cls.id)) (fun _ i _ => l.length - (intOf i).toNat)
  case atStart => exact ⟨0, by omega, rfl, gain_alloc W.gained_refl _, by rw [forN_zero]; exact own_lit' (l := ([] : List Int)) intC_length rfl (by rw [← HW.out, World.size_alloc]) (Nat.le_refl _)⟩
  case round =>
    obtain ⟨k, hk, rfl, ⟨d, rfl⟩, ho⟩ := hrel
    have HO := Lib.hid ho
    clear ho
    by_cases hlt : k < l.length
    · obtain ⟨b, o, rfl⟩ := sl_some hsW.out (by omega)
      have hck := fun j (hj : j < 8) => sl_cells hsW.out hlt hj
      have HS := Lib.hid (forN_ids (r := r) hlt)
      have c0 := hck 0 (by omega)
      have c1 := hck 1 (by omega)
      have c2 := hck 2 (by omega)
      have c3 := hck 3 (by omega)
      have c4 := hck 4 (by omega)
      have c5 := hck 5 (by omega)
      have c6 := hck 6 (by omega)
      have c7 := hck 7 (by omega)
      generalize l[k] = e at c0 c1 c2 c3 c4 c5 c6 c7 hck HS
      clear hck
      simp only [Cls.cells, List.getElem?_cons_zero, List.getElem?_cons_succ, Nat.add_zero] at c0 c1 c2 c3 c4 c5 c6 c7
      have ob := World.oldB_of_cell c0
      have HF : Hid (forB e (2026 - r.born) r.woman = admitB e r) := Lib.hid rfl
      cases ha : admitB e r with
      | true =>
        have HS' : Hid ((forN l r (k + 1)).map Cls.id = (forN l r k).map Cls.id ++ [e.id]) := Lib.hid (by rw [HS.out, ha]; rfl)
        rw [ha] at HF
        clear ha
        go_wp2
        refine wp_region_gain (by kernel_rfl) (by kernel_rfl) ?_
        repeat (first | go_big_quiet_skip | (go_big_quiet_want; go_big_quiet_op; first | go_big_quiet_on | ((apply Exists.intro); (refine ⟨fun _ => ?_, ?_⟩); (· (go_at_call 50; exact Calls.gain (HF.out ▸ l7Admits_any e (2026 - r.born) r.woman _))); (go_big_quiet_on))))
        refine wpQuiet_nil ?_
        rintro _ ⟨d', rfl⟩
        go_wp2_with (at_builtin; go_must (refine wpList_append_gain (m := [e.id]) rfl (.tmp 24) (.tmp 30) rfl Tryz.underlying40 info_int (by rfl) (by omega) intC_length intC_one (by omega) (by repeat (first | with_reducible (first | exact World.gained_refl _ | exact ⟨_, rfl⟩ | apply gain_ext | apply gain_alloc | apply gain_drewN | apply gain_drew) | (refine gain_setCell ?_ (by first | exact Nat.le_refl _ | exact World.size_ext _ _ | (simp; done) | (simp; omega)) _))) (Nat.le_refl _) (gain_size (by repeat (first | with_reducible (first | exact World.gained_refl _ | exact ⟨_, rfl⟩ | apply gain_ext | apply gain_alloc | apply gain_drewN | apply gain_drew) | (refine gain_setCell ?_ (by first | exact Nat.le_refl _ | exact World.size_ext _ _ | (simp; done) | (simp; omega)) _)))) rfl rfl (own_up (HO.out) (by repeat (first | with_reducible (first | exact World.gained_refl _ | exact ⟨_, rfl⟩ | apply gain_ext | apply gain_alloc | apply gain_drewN | apply gain_drew) | (refine gain_setCell ?_ (by first | exact Nat.le_refl _ | exact World.size_ext _ _ | (simp; done) | (simp; omega)) _)))) (sl_lit (l := [e.id]) intC_length rfl (by simp)) (by have := forN_length l r k; simp; omega) ?_); intro v' d' ho hg)
        go_roundw
        case rel => exact ⟨k + 1, by omega, by go_num, ⟨_, rfl⟩, by rw [HS'.out]; exact ho⟩
        case measure => simp [intOf]; omega
      | false =>
        have HS' : Hid ((forN l r (k + 1)).map Cls.id = (forN l r k).map Cls.id) := Lib.hid (by rw [HS.out, ha]; simp)
        rw [ha] at HF
        clear ha
        go_wp2
        refine wp_region_gain (by kernel_rfl) (by kernel_rfl) ?_
        repeat (first | go_big_quiet_skip | (go_big_quiet_want; go_big_quiet_op; first | go_big_quiet_on | ((apply Exists.intro); (refine ⟨fun _ => ?_, ?_⟩); (· (go_at_call 50; exact Calls.gain (HF.out ▸ l7Admits_any e (2026 - r.born) r.woman _))); (go_big_quiet_on))))
        refine wpQuiet_nil ?_
        rintro _ ⟨d', rfl⟩
        go_wp2
        go_roundw
        case rel => exact ⟨k + 1, by omega, by go_num, (by repeat (first | with_reducible (first | exact World.gained_refl _ | exact ⟨_, rfl⟩ | apply gain_ext | apply gain_alloc | apply gain_drewN | apply gain_drew) | (refine gain_setCell ?_ (by first | exact Nat.le_refl _ | exact World.size_ext _ _ | (simp; done) | (simp; omega)) _))), by rw [HS'.out]; exact (own_up (HO.out) (by repeat (first | with_reducible (first | exact World.gained_refl _ | exact ⟨_, rfl⟩ | apply gain_ext | apply gain_alloc | apply gain_drewN | apply gain_drew) | (refine gain_setCell ?_ (by first | exact Nat.le_refl _ | exact World.size_ext _ _ | (simp; done) | (simp; omega)) _))))⟩
        case measure => simp [intOf]; omega
    · go_wp2
      go_ret
      obtain rfl : k = l.length := by omega
      exact ⟨_, rfl, by obtain ⟨d0, hd0⟩ := hgW; rw [hd0, World.ext_ext]; exact ⟨_, rfl⟩, own_base HO.out hgs.out⟩
set_option maxHeartbeats 2000000 in
theorem specClassesFor_any (v : Value) (l : List Cls) (r : Runner) (w : World) (h : w.sl Cls.cells 8 v l) (hl : l.length ≤ 1048576) (hq : ∀ x ∈ l, Cls.small x) (hn : r.name.size ≤ 1048576) (hc : r.club.size ≤ 1048576) :
    Calls Tryz.prog 16 #[v, .agg #[.int .i64 r.id, .string r.name, .string r.club, .int .i64 r.born, .bool r.woman, .int .i64 r.card]] w fun x w' => ∃ q, x = .returned (.tuple #[q, .bool (cfB l r)]) ∧ (∃ d, w' = w.ext d) ∧ w'.own w.heap.size 3 intC 1 q (cfL l r) := by
  have hs := Lib.hid h
  obtain ⟨p, c, rfl, _⟩ := h
  have HW := Lib.hid (fun W => l7Good_any (.slice p l.length c) l W)
  cases hC : clssB l with
  | false =>
    have e1 : Hid (cfB l r = false) := Lib.hid (by simp [cfB, hC])
    have e2 : Hid (cfL l r = []) := Lib.hid (by simp [cfL, e1.out])
    go_enter Tryz.func16, Tryz.ntmps16
    go_wp2_with (first | (go_at_call 48; refine (l7Good_any _ l _ (by with_reducible (repeat (first | exact hs.out | refine World.sl_ext Cls.cells_length ?_ _ | refine sl_alloc Cls.cells_length ?_ _ | refine sl_drew ?_))) hl hq).mono ?_; rintro e w1 ⟨rfl, d1, rfl⟩) | (go_at_call 49; refine (l5One_any _ _ hn hc).mono ?_; rintro e w1 ⟨rfl, d1, rfl⟩))
    go_ret2
    rw [e1.out, e2.out]
    exact ⟨_, rfl, (by repeat (first | with_reducible (first | exact World.gained_refl _ | exact ⟨_, rfl⟩ | apply gain_ext | apply gain_alloc | apply gain_drewN | apply gain_drew) | (refine gain_setCell ?_ (by first | exact Nat.le_refl _ | exact World.size_ext _ _ | (simp; done) | (simp; omega)) _))), own_lit' (l := ([] : List Int)) intC_length rfl rfl (gain_size (by repeat (first | with_reducible (first | exact World.gained_refl _ | exact ⟨_, rfl⟩ | apply gain_ext | apply gain_alloc | apply gain_drewN | apply gain_drew) | (refine gain_setCell ?_ (by first | exact Nat.le_refl _ | exact World.size_ext _ _ | (simp; done) | (simp; omega)) _))))⟩
  | true =>
  cases hR : runnerB r with
  | false =>
    have e1 : Hid (cfB l r = false) := Lib.hid (by simp [cfB, hR])
    have e2 : Hid (cfL l r = []) := Lib.hid (by simp [cfL, e1.out])
    go_enter Tryz.func16, Tryz.ntmps16
    go_wp2_with (first | (go_at_call 48; refine (l7Good_any _ l _ (by with_reducible (repeat (first | exact hs.out | refine World.sl_ext Cls.cells_length ?_ _ | refine sl_alloc Cls.cells_length ?_ _ | refine sl_drew ?_))) hl hq).mono ?_; rintro e w1 ⟨rfl, d1, rfl⟩) | (go_at_call 49; refine (l5One_any _ _ hn hc).mono ?_; rintro e w1 ⟨rfl, d1, rfl⟩))
    go_ret2
    rw [e1.out, e2.out]
    exact ⟨_, rfl, (by repeat (first | with_reducible (first | exact World.gained_refl _ | exact ⟨_, rfl⟩ | apply gain_ext | apply gain_alloc | apply gain_drewN | apply gain_drew) | (refine gain_setCell ?_ (by first | exact Nat.le_refl _ | exact World.size_ext _ _ | (simp; done) | (simp; omega)) _))), own_lit' (l := ([] : List Int)) intC_length rfl rfl (gain_size (by repeat (first | with_reducible (first | exact World.gained_refl _ | exact ⟨_, rfl⟩ | apply gain_ext | apply gain_alloc | apply gain_drewN | apply gain_drew) | (refine gain_setCell ?_ (by first | exact Nat.le_refl _ | exact World.size_ext _ _ | (simp; done) | (simp; omega)) _))))⟩
  | true =>
    have e1 : Hid (cfB l r = true) := Lib.hid (by simp [cfB, hC, hR])
    have e2 : Hid (cfL l r = (forL l r).map Cls.id) := Lib.hid (by simp [cfL, e1.out])
    have hb := runner_born hR
    go_enter Tryz.func16, Tryz.ntmps16
    go_wp2_with (first | (go_at_call 48; refine (l7Good_any _ l _ (by with_reducible (repeat (first | exact hs.out | refine World.sl_ext Cls.cells_length ?_ _ | refine sl_alloc Cls.cells_length ?_ _ | refine sl_drew ?_))) hl hq).mono ?_; rintro e w1 ⟨rfl, d1, rfl⟩) | (go_at_call 49; refine (l5One_any _ _ hn hc).mono ?_; rintro e w1 ⟨rfl, d1, rfl⟩) | (go_at_call 52; refine (l7For_own _ l r _ (by with_reducible (repeat (first | exact hs.out | refine World.sl_ext Cls.cells_length ?_ _ | refine sl_alloc Cls.cells_length ?_ _ | refine sl_drew ?_))) hl hb).mono ?_; rintro e w1 ⟨q, rfl, ⟨d1, rfl⟩, ho⟩))
    go_ret2
    rw [e1.out, e2.out]
    exact ⟨_, rfl, (by repeat (first | with_reducible (first | exact World.gained_refl _ | exact ⟨_, rfl⟩ | apply gain_ext | apply gain_alloc | apply gain_drewN | apply gain_drew) | (refine gain_setCell ?_ (by first | exact Nat.le_refl _ | exact World.size_ext _ _ | (simp; done) | (simp; omega)) _))), own_base ho (gain_size (by repeat (first | with_reducible (first | exact World.gained_refl _ | exact ⟨_, rfl⟩ | apply gain_ext | apply gain_alloc | apply gain_drewN | apply gain_drew) | (refine gain_setCell ?_ (by first | exact Nat.le_refl _ | exact World.size_ext _ _ | (simp; done) | (simp; omega)) _))))⟩
set_option maxHeartbeats 2000000 in
theorem classesFor_any (v : Value) (l : List Cls) (r : Runner) (w : World) (h : w.sl Cls.cells 8 v l) (hl : l.length ≤ 1048576) (hq : ∀ x ∈ l, Cls.small x) (hn : r.name.size ≤ 1048576) (hc : r.club.size ≤ 1048576) :
    Calls Tryz.prog 15 #[v, .agg #[.int .i64 r.id, .string r.name, .string r.club, .int .i64 r.born, .bool r.woman, .int .i64 r.card]] w fun x w' => ∃ q, x = .returned (.tuple #[q, .bool (cfB l r)]) ∧ (∃ d, w' = w.ext d) ∧ w'.own w.heap.size 3 intC 1 q (cfL l r) := by
  have hs := Lib.hid h
  obtain ⟨p, c, rfl, _⟩ := h
  cases hC : clssB l with
  | false =>
    have e1 : Hid (cfB l r = false) := Lib.hid (by simp [cfB, hC])
    have e2 : Hid (cfL l r = []) := Lib.hid (by simp [cfL, e1.out])
    go_enter Tryz.func15, Tryz.ntmps15
    go_wp2_with (first | (go_at_call 40; refine (areClasses_any _ l _ (by with_reducible (repeat (first | exact hs.out | refine World.sl_ext Cls.cells_length ?_ _ | refine sl_alloc Cls.cells_length ?_ _ | refine sl_drew ?_))) hl hq).mono ?_; rintro e w1 ⟨rfl, d1, rfl⟩) | (go_at_call 41; refine (isRunner_any _ _ hn hc).mono ?_; rintro e w1 ⟨rfl, d1, rfl⟩))
    go_ret2
    rw [e1.out, e2.out]
    exact ⟨_, rfl, (by repeat (first | with_reducible (first | exact World.gained_refl _ | exact ⟨_, rfl⟩ | apply gain_ext | apply gain_alloc | apply gain_drewN | apply gain_drew) | (refine gain_setCell ?_ (by first | exact Nat.le_refl _ | exact World.size_ext _ _ | (simp; done) | (simp; omega)) _))), own_nil _ _ _ _ _⟩
  | true =>
  cases hR : runnerB r with
  | false =>
    have e1 : Hid (cfB l r = false) := Lib.hid (by simp [cfB, hR])
    have e2 : Hid (cfL l r = []) := Lib.hid (by simp [cfL, e1.out])
    go_enter Tryz.func15, Tryz.ntmps15
    go_wp2_with (first | (go_at_call 40; refine (areClasses_any _ l _ (by with_reducible (repeat (first | exact hs.out | refine World.sl_ext Cls.cells_length ?_ _ | refine sl_alloc Cls.cells_length ?_ _ | refine sl_drew ?_))) hl hq).mono ?_; rintro e w1 ⟨rfl, d1, rfl⟩) | (go_at_call 41; refine (isRunner_any _ _ hn hc).mono ?_; rintro e w1 ⟨rfl, d1, rfl⟩))
    go_ret2
    rw [e1.out, e2.out]
    exact ⟨_, rfl, (by repeat (first | with_reducible (first | exact World.gained_refl _ | exact ⟨_, rfl⟩ | apply gain_ext | apply gain_alloc | apply gain_drewN | apply gain_drew) | (refine gain_setCell ?_ (by first | exact Nat.le_refl _ | exact World.size_ext _ _ | (simp; done) | (simp; omega)) _))), own_nil _ _ _ _ _⟩
  | true =>
    have e1 : Hid (cfB l r = true) := Lib.hid (by simp [cfB, hC, hR])
    have e2 : Hid (cfL l r = (forL l r).map Cls.id) := Lib.hid (by simp [cfL, e1.out])
    have hb := runner_born hR
    have hFl := Lib.hid (show (forL l r).length ≤ 1048576 from by have := forN_length l r l.length; unfold forL; omega)
    go_enter Tryz.func15, Tryz.ntmps15
    go_wp2_with (first | (go_at_call 40; refine (areClasses_any _ l _ (by with_reducible (repeat (first | exact hs.out | refine World.sl_ext Cls.cells_length ?_ _ | refine sl_alloc Cls.cells_length ?_ _ | refine sl_drew ?_))) hl hq).mono ?_; rintro e w1 ⟨rfl, d1, rfl⟩) | (go_at_call 41; refine (isRunner_any _ _ hn hc).mono ?_; rintro e w1 ⟨rfl, d1, rfl⟩))
    refine (classesFor_own _ l r _ (by with_reducible (repeat (first | exact hs.out | refine World.sl_ext Cls.cells_length ?_ _ | refine sl_alloc Cls.cells_length ?_ _ | refine sl_drew ?_))) hl hb).mono ?_
    rintro e W ⟨q, rfl, hgq, hoq⟩
    have hgW : ∃ d, W = w.ext d := gain_trans (by repeat (first | with_reducible (first | exact World.gained_refl _ | exact ⟨_, rfl⟩ | apply gain_ext | apply gain_alloc | apply gain_drewN | apply gain_drew) | (refine gain_setCell ?_ (by first | exact Nat.le_refl _ | exact World.size_ext _ _ | (simp; done) | (simp; omega)) _))) hgq
    have hE := Lib.hid (own_up (own_lit' (l := ([] : List Int)) (e := 3) (base := w.heap.size) intC_length rfl rfl (gain_size (by repeat (first | with_reducible (first | exact World.gained_refl _ | exact ⟨_, rfl⟩ | apply gain_ext | apply gain_alloc | apply gain_drewN | apply gain_drew) | (refine gain_setCell ?_ (by first | exact Nat.le_refl _ | exact World.size_ext _ _ | (simp; done) | (simp; omega)) _))))) hgq)
    have hsq := Lib.hid (sl_of_own Cls.cells_length hoq)
    have HGW := Lib.hid hgW
    have hgs := Lib.hid (gain_size hgW)
    clear hgq hgW hoq
    generalize forL l r = L at hsq e2 hFl
    obtain ⟨pq, cq, rfl, _⟩ := id hsq.out
    go_wp2
    go_loopw [6, 22] (fun o i wr => ∃ k : Nat, k ≤ L.length ∧ i = .int .i64 k ∧ (∃ d, wr = W.ext d) ∧ wr.own0 w.heap.size W.heap.size 3 intC 1 o ((L.take k).map Cls.id)) (fun _ i _ => L.length - (intOf i).toNat)
    case atStart => exact ⟨0, by omega, rfl, W.gained_refl, own0_empty hE.out⟩
    case round =>
      obtain ⟨k, hk, rfl, ⟨d, rfl⟩, ho⟩ := hrel
      have HO := Lib.hid ho
      clear ho
      have hL := hFl.out
      by_cases hlt : k < L.length
      · obtain ⟨b, o, rfl⟩ := sl_some hsq.out (by omega)
        have hck := fun j (hj : j < 8) => sl_cells hsq.out hlt hj
        have HS : Hid ((L.take (k + 1)).map Cls.id = (L.take k).map Cls.id ++ [L[k].id]) := Lib.hid (by rw [List.take_succ_eq_append_getElem hlt, List.map_append]; rfl)
        have c0 := hck 0 (by omega)
        have c1 := hck 1 (by omega)
        have c2 := hck 2 (by omega)
        have c3 := hck 3 (by omega)
        have c4 := hck 4 (by omega)
        have c5 := hck 5 (by omega)
        have c6 := hck 6 (by omega)
        have c7 := hck 7 (by omega)
        generalize L[k] = e at c0 c1 c2 c3 c4 c5 c6 c7 hck HS
        clear hck
        simp only [Cls.cells, List.getElem?_cons_zero, List.getElem?_cons_succ, Nat.add_zero] at c0 c1 c2 c3 c4 c5 c6 c7
        have ob := World.oldB_of_cell c0
        go_wp2_with (at_builtin; go_must (refine wpList_append_gain0 (m := [e.id]) rfl (.tmp 26) (.tmp 29) rfl Tryz.underlying40 info_int (by rfl) (by omega) intC_length intC_one (by omega) (by repeat (first | with_reducible (first | exact World.gained_refl _ | exact ⟨_, rfl⟩ | apply gain_ext | apply gain_alloc | apply gain_drewN | apply gain_drew) | (refine gain_setCell ?_ (by first | exact Nat.le_refl _ | exact World.size_ext _ _ | (simp; done) | (simp; omega)) _))) (Nat.le_refl _) (gain_size (by repeat (first | with_reducible (first | exact World.gained_refl _ | exact ⟨_, rfl⟩ | apply gain_ext | apply gain_alloc | apply gain_drewN | apply gain_drew) | (refine gain_setCell ?_ (by first | exact Nat.le_refl _ | exact World.size_ext _ _ | (simp; done) | (simp; omega)) _)))) rfl rfl (own0_up (HO.out) (by repeat (first | with_reducible (first | exact World.gained_refl _ | exact ⟨_, rfl⟩ | apply gain_ext | apply gain_alloc | apply gain_drewN | apply gain_drew) | (refine gain_setCell ?_ (by first | exact Nat.le_refl _ | exact World.size_ext _ _ | (simp; done) | (simp; omega)) _)))) (sl_lit (l := [e.id]) intC_length rfl (by simp)) (by simp) (by simp; omega) ?_); intro v' d' ho hg)
        go_roundw
        case rel => exact ⟨k + 1, by omega, by go_num, ⟨_, rfl⟩, Or.inl (by rw [HS.out]; exact ho)⟩
        case measure => simp [intOf]; omega
      · go_wp2
        go_ret2
        obtain rfl : k = L.length := by omega
        have hO := HO.out
        rw [List.take_length] at hO
        rw [e1.out, e2.out]
        exact ⟨_, rfl, gain_trans HGW.out ⟨_, rfl⟩, own0_end hO hgs.out⟩
end Go.Proofs.YtffkkchflohhaaaGreatDoor
