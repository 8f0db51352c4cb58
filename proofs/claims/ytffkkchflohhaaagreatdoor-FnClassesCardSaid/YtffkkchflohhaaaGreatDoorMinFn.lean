/- slices.MinFunc over classes. Condition: at most 1048576 classes, ages of classes, ids that rise. -/
import Derived.Test.YtffkkchflohhaaaGreatDoorMinCls
namespace Go.Ori
open Go.RowKit
abbrev putCls (W : World) (g : Nat) (y : Cls) : World := (((((((W.setCell ⟨g, 0, none⟩ (.int .i64 y.id)).setCell ⟨g, 1, none⟩ (.string y.name)).setCell ⟨g, 2, none⟩ (.int .i64 y.low)).setCell ⟨g, 3, none⟩ (.int .i64 y.high)).setCell ⟨g, 4, none⟩ (.bool y.women)).setCell ⟨g, 5, none⟩ (.bool y.men)).setCell ⟨g, 6, none⟩ (.int .i64 y.course)).setCell ⟨g, 7, none⟩ (.int .i64 y.most)
theorem putCls_eq (W : World) (g : Nat) (y : Cls) : putCls W g y = W.setCells g 0 y.cells := rfl
theorem putCls_own {W : World} {base : Nat} {e : TypeId} {g n cap : Nat} {m : Cls} (y : Cls) (h : W.own base e Cls.cells 8 (.slice (some ⟨g, 0, none⟩) n cap) [m]) : (putCls W g y).own base e Cls.cells 8 (.slice (some ⟨g, 0, none⟩) n cap) [y] := by
  rw [putCls_eq]
  have := own_put Cls.cells_length h (i := 0) (by simp) y
  rw [Nat.zero_mul] at this
  exact this
theorem putCls_far {α : Type} {W : World} {base : Nat} {e : TypeId} {enc : α → List Value} {sz g : Nat} {v : Value} {l : List α} (y : Cls) (h : W.own base e enc sz v l) (hne : v.ownBlock ≠ some g) : (putCls W g y).own base e enc sz v l := by
  rw [putCls_eq]
  refine own_mark (v := .slice (some ⟨g, 0, none⟩) 1 1) h (only_setCells y.cells 0 (only_refl _ _)) (fun b hb hb2 => ?_)
  simp only [Value.ownBlock, Option.some.injEq] at hb2
  subst hb2
  exact hne hb
theorem putCls_gain {w W : World} {g : Nat} (y : Cls) (h : ∃ d, W = w.ext d) (hg : w.heap.size ≤ g) : ∃ d, putCls W g y = w.ext d := by
  rw [putCls_eq]
  exact gain_setCells y.cells 0 h hg
end Go.Ori
namespace Go.Proofs.YtffkkchflohhaaaGreatDoor
open Go.RowKit Go.Ori
set_option maxHeartbeats 2000000 in
theorem minFunc_clss (v : Value) (l : List Cls) (w : World) (h : w.sl Cls.cells 8 v l) (hl : l.length ≤ 1048576) (h0 : 0 < l.length) (hag : ∀ x ∈ l, ageOk x) (hord : ∀ (i j : Nat) (hi : i < l.length) (hj : j < l.length), i < j → l[i].id < l[j].id) :
    Calls Tryz.prog 43 #[v, .func (.func 44) #[] #[]] w fun x w' => ∃ m : Cls, bestO l = some m ∧ x = .returned (.agg #[.int .i64 m.id, .string m.name, .int .i64 m.low, .int .i64 m.high, .bool m.women, .bool m.men, .int .i64 m.course, .int .i64 m.most]) ∧ ∃ d, w' = w.ext d := by
  have hs := Lib.hid h
  have HAG := Lib.hid hag
  have HOR := Lib.hid hord
  obtain ⟨p, c, rfl, _⟩ := h
  obtain ⟨b, o, rfl⟩ := sl_some hs.out h0
  clear hag hord
  have hck := fun j (hj : j < 8) => sl_cells hs.out h0 hj
  have f0 := hck 0 (by omega)
  have f1 := hck 1 (by omega)
  have f2 := hck 2 (by omega)
  have f3 := hck 3 (by omega)
  have f4 := hck 4 (by omega)
  have f5 := hck 5 (by omega)
  have f6 := hck 6 (by omega)
  have f7 := hck 7 (by omega)
  have HB1 : Hid (bestO (l.take 1) = some l[0]) := Lib.hid (by
    rw [List.take_succ_eq_append_getElem h0]
    rfl)
  have HF0 := Lib.hid (show ∃ x, l[0] = x from ⟨_, rfl⟩)
  simp only [Cls.cells, List.getElem?_cons_zero, List.getElem?_cons_succ, Nat.add_zero, Nat.zero_mul] at f0 f1 f2 f3 f4 f5 f6 f7
  have ob := World.oldB_of_cell f0
  have hl1 : (1 : Int) ≤ l.length := by omega
  clear hck
  go_enter Tryz.func43, Tryz.ntmps43
  go_wp2
  have HZ : Hid (∃ z : Cls, ((w.alloc (.cells #[.int .i64 0, .string ⟨#[]⟩, .int .i64 0, .int .i64 0, .bool false, .bool false, .int .i64 0, .int .i64 0] 25))).own w.heap.size 25 Cls.cells 8 (.slice (some ⟨w.heap.size, 0, none⟩) 1 1) [z]) := Lib.hid ⟨⟨0, ⟨#[]⟩, 0, 0, false, false, 0, 0⟩, own_lit (l := [_]) Cls.cells_length rfl (by simp)⟩
  go_loopw [6] (fun i wr => ∃ k : Nat, 1 ≤ k ∧ k ≤ l.length ∧ i = .int .i64 k ∧ (∃ d, wr = w.ext d) ∧ ∃ m z : Cls, bestO (l.take k) = some m ∧ wr.own (w.heap.size + 1) 25 Cls.cells 8 (.slice (some ⟨w.heap.size + 1, 0, none⟩) 1 1) [m] ∧ wr.own w.heap.size 25 Cls.cells 8 (.slice (some ⟨w.heap.size, 0, none⟩) 1 1) [z]) (fun i _ => l.length - (intOf i).toNat)
  case atStart =>
    obtain ⟨z, hz⟩ := HZ.out
    exact ⟨1, by omega, by omega, rfl, (by repeat (first | with_reducible (first | exact World.gained_refl _ | exact ⟨_, rfl⟩ | apply gain_ext | apply gain_alloc | apply gain_drewN | apply gain_drew) | (refine gain_setCell ?_ (by first | exact Nat.le_refl _ | exact World.size_ext _ _ | (simp; done) | (simp; omega)) _))), l[0], z, HB1.out, own_lit' (l := [l[0]]) Cls.cells_length rfl (by simp) (by simp), own_up hz (by repeat (first | with_reducible (first | exact World.gained_refl _ | exact ⟨_, rfl⟩ | apply gain_ext | apply gain_alloc | apply gain_drewN | apply gain_drew) | (refine gain_setCell ?_ (by first | exact Nat.le_refl _ | exact World.size_ext _ _ | (simp; done) | (simp; omega)) _)))⟩
  case round =>
    obtain ⟨k, hk1, hk, rfl, ⟨d, rfl⟩, m, z, hb, hm, hz⟩ := hrel
    have HB := Lib.hid hb
    have HM := Lib.hid hm
    have HZ2 := Lib.hid hz
    clear f0 f1 f2 f3 f4 f5 f6 f7 HZ HF0 HB1
    obtain ⟨gm, capm, em, _, _, tm⟩ := own_open hm (by simp)
    simp only [Value.slice.injEq, Option.some.injEq, Addr.mk.injEq, and_true] at em
    obtain ⟨rfl, -⟩ := em
    obtain ⟨gz, capz, ez, _, _, tz⟩ := own_open hz (by simp)
    simp only [Value.slice.injEq, Option.some.injEq, Addr.mk.injEq, and_true] at ez
    obtain ⟨rfl, -⟩ := ez
    have m0 := sl_cells (sl_of_own Cls.cells_length hm) (k := 0) (by simp) (j := 0) (by omega)
    have m1 := sl_cells (sl_of_own Cls.cells_length hm) (k := 0) (by simp) (j := 1) (by omega)
    have m2 := sl_cells (sl_of_own Cls.cells_length hm) (k := 0) (by simp) (j := 2) (by omega)
    have m3 := sl_cells (sl_of_own Cls.cells_length hm) (k := 0) (by simp) (j := 3) (by omega)
    have m4 := sl_cells (sl_of_own Cls.cells_length hm) (k := 0) (by simp) (j := 4) (by omega)
    have m5 := sl_cells (sl_of_own Cls.cells_length hm) (k := 0) (by simp) (j := 5) (by omega)
    have m6 := sl_cells (sl_of_own Cls.cells_length hm) (k := 0) (by simp) (j := 6) (by omega)
    have m7 := sl_cells (sl_of_own Cls.cells_length hm) (k := 0) (by simp) (j := 7) (by omega)
    simp only [Cls.cells, List.getElem_cons_zero, List.getElem?_cons_zero, List.getElem?_cons_succ, Nat.add_zero, Nat.zero_mul, Nat.zero_add] at m0 m1 m2 m3 m4 m5 m6 m7
    have y0 := (tm 0 (by simp)).choose_spec.2
    have y1 := (tm 1 (by simp)).choose_spec.2
    have y2 := (tm 2 (by simp)).choose_spec.2
    have y3 := (tm 3 (by simp)).choose_spec.2
    have y4 := (tm 4 (by simp)).choose_spec.2
    have y5 := (tm 5 (by simp)).choose_spec.2
    have y6 := (tm 6 (by simp)).choose_spec.2
    have y7 := (tm 7 (by simp)).choose_spec.2
    have nb1 : w.newB d (w.heap.size + 1) := World.oldB_of_cell m0
    by_cases hlt : k < l.length
    · have hck := fun j (hj : j < 8) => sl_cells hs.out hlt hj
      have HS : Hid (bestO (l.take (k + 1)) = stepC (some m) l[k]) := Lib.hid (by rw [List.take_succ_eq_append_getElem hlt, bestO_snoc, HB.out])
      have hmem := bestO_mem hb
      have hmid : m.id < l[k].id := by
        obtain ⟨i, hi, hi2⟩ := List.mem_take_iff_getElem.1 hmem
        rw [← hi2]
        exact HOR.out i k (by omega) hlt (by omega)
      have hagm := HAG.out m (List.mem_of_mem_take hmem)
      have hagy := HAG.out _ (List.getElem_mem hlt)
      have e0 := hck 0 (by omega)
      have e1 := hck 1 (by omega)
      have e2 := hck 2 (by omega)
      have e3 := hck 3 (by omega)
      have e4 := hck 4 (by omega)
      have e5 := hck 5 (by omega)
      have e6 := hck 6 (by omega)
      have e7 := hck 7 (by omega)
      generalize l[k] = y at e0 e1 e2 e3 e4 e5 e6 e7 hck HS hmid hagy
      simp only [Cls.cells, List.getElem?_cons_zero, List.getElem?_cons_succ, Nat.add_zero] at e0 e1 e2 e3 e4 e5 e6 e7
      have HC := Lib.hid (fun W => best1_any y m W hagy hagm)
      have HK := Lib.hid (cmpC_key hmid)
      generalize cmpC y m = q at HC HK
      clear hck hb hm hz tm tz hmem hmid hagm hagy
      by_cases hq : q < 0
      · have HS' : Hid (bestO (l.take (k + 1)) = some y) := Lib.hid (by rw [HS.out]; simp [stepC, HK.out.1 hq])
        clear HK
        go_wp2
        refine wp_region_gain (by kernel_rfl) (by kernel_rfl) ?_
        repeat (first | go_big_quiet_skip | (go_big_quiet_want; go_big_quiet_op; first | go_big_quiet_on | ((apply Exists.intro); (refine ⟨fun _ => ?_, ?_⟩); (· (go_at_call 44; exact Calls.gain (HC.out _))); (go_big_quiet_on))))
        refine wpQuiet_nil ?_
        rintro _ ⟨d', rfl⟩
        go_wp2
        go_roundw
        case rel => exact ⟨k + 1, by omega, by omega, by go_num, putCls_gain y ((by repeat (first | with_reducible (first | exact World.gained_refl _ | exact ⟨_, rfl⟩ | apply gain_ext | apply gain_alloc | apply gain_drewN | apply gain_drew) | (refine gain_setCell ?_ (by first | exact Nat.le_refl _ | exact World.size_ext _ _ | (simp; done) | (simp; omega)) _)))) (Nat.le_succ _), y, z, HS'.out, putCls_own y (own_up HM.out (by repeat (first | with_reducible (first | exact World.gained_refl _ | exact ⟨_, rfl⟩ | apply gain_ext | apply gain_alloc | apply gain_drewN | apply gain_drew) | (refine gain_setCell ?_ (by first | exact Nat.le_refl _ | exact World.size_ext _ _ | (simp; done) | (simp; omega)) _)))), putCls_far y (own_up HZ2.out (by repeat (first | with_reducible (first | exact World.gained_refl _ | exact ⟨_, rfl⟩ | apply gain_ext | apply gain_alloc | apply gain_drewN | apply gain_drew) | (refine gain_setCell ?_ (by first | exact Nat.le_refl _ | exact World.size_ext _ _ | (simp; done) | (simp; omega)) _)))) (by simp [Value.ownBlock])⟩
        case measure => simp [intOf]; omega
      · have HS' : Hid (bestO (l.take (k + 1)) = some m) := Lib.hid (by rw [HS.out]; simp [stepC]; intro h; exact absurd (HK.out.2 h) hq)
        clear HK
        go_wp2
        refine wp_region_gain (by kernel_rfl) (by kernel_rfl) ?_
        repeat (first | go_big_quiet_skip | (go_big_quiet_want; go_big_quiet_op; first | go_big_quiet_on | ((apply Exists.intro); (refine ⟨fun _ => ?_, ?_⟩); (· (go_at_call 44; exact Calls.gain (HC.out _))); (go_big_quiet_on))))
        refine wpQuiet_nil ?_
        rintro _ ⟨d', rfl⟩
        go_wp2
        go_roundw
        case rel => exact ⟨k + 1, by omega, by omega, by go_num, (by repeat (first | with_reducible (first | exact World.gained_refl _ | exact ⟨_, rfl⟩ | apply gain_ext | apply gain_alloc | apply gain_drewN | apply gain_drew) | (refine gain_setCell ?_ (by first | exact Nat.le_refl _ | exact World.size_ext _ _ | (simp; done) | (simp; omega)) _))), m, z, HS'.out, own_up HM.out (by repeat (first | with_reducible (first | exact World.gained_refl _ | exact ⟨_, rfl⟩ | apply gain_ext | apply gain_alloc | apply gain_drewN | apply gain_drew) | (refine gain_setCell ?_ (by first | exact Nat.le_refl _ | exact World.size_ext _ _ | (simp; done) | (simp; omega)) _))), own_up HZ2.out (by repeat (first | with_reducible (first | exact World.gained_refl _ | exact ⟨_, rfl⟩ | apply gain_ext | apply gain_alloc | apply gain_drewN | apply gain_drew) | (refine gain_setCell ?_ (by first | exact Nat.le_refl _ | exact World.size_ext _ _ | (simp; done) | (simp; omega)) _)))⟩
        case measure => simp [intOf]; omega
    · obtain rfl : k = l.length := by omega
      have HBE : Hid (bestO l = some m) := Lib.hid (by have := HB.out; rwa [List.take_length] at this)
      obtain ⟨x0, t0, z0⟩ := tz 0 (by simp)
      obtain ⟨x1, t1, z1⟩ := tz 1 (by simp)
      obtain ⟨x2, t2, z2⟩ := tz 2 (by simp)
      obtain ⟨x3, t3, z3⟩ := tz 3 (by simp)
      obtain ⟨x4, t4, z4⟩ := tz 4 (by simp)
      obtain ⟨x5, t5, z5⟩ := tz 5 (by simp)
      obtain ⟨x6, t6, z6⟩ := tz 6 (by simp)
      obtain ⟨x7, t7, z7⟩ := tz 7 (by simp)
      have nb0 : w.newB d w.heap.size := World.oldB_of_cell t0
      clear hb hm hz tm tz
      go_wp2
      refine bodyPost_ret (v := .agg #[.int .i64 m.id, .string m.name, .int .i64 m.low, .int .i64 m.high, .bool m.women, .bool m.men, .int .i64 m.course, .int .i64 m.most]) (by simp [results, Tryz.results43, go_sem, t0, t1, t2, t3, t4, t5, t6, t7]) rfl ?_
      exact ⟨m, HBE.out, rfl, putCls_gain m ((by repeat (first | with_reducible (first | exact World.gained_refl _ | exact ⟨_, rfl⟩ | apply gain_ext | apply gain_alloc | apply gain_drewN | apply gain_drew) | (refine gain_setCell ?_ (by first | exact Nat.le_refl _ | exact World.size_ext _ _ | (simp; done) | (simp; omega)) _)))) (Nat.le_refl _)⟩
end Go.Proofs.YtffkkchflohhaaaGreatDoor
