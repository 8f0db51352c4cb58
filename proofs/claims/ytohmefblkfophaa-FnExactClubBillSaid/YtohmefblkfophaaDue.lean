/- impl.dueFor, spec.l11Due. Conditions: valid fees, valid runners, at most 1048576 of them. -/
import Derived.Test.YtohmefblkfophaaRunIdx
import Derived.Test.YtohmefblkfophaaP11
namespace Go.Ori
def dueI (f : Fees) (r : Runner) (e : Ent) : Int :=
  let s := if 2026 - r.born < 18 then f.child else f.adult
  let s := if 300 ≤ e.day then s + (s * f.late + 99) / 100 else s
  if e.rent then s + f.rent else s
structure FeesOk (f : Fees) : Prop where
  a0 : 0 ≤ f.adult
  a1 : f.adult ≤ 20000
  c0 : 0 ≤ f.child
  c1 : f.child ≤ 20000
  r0 : 0 ≤ f.rent
  r1 : f.rent ≤ 20000
  l0 : 0 ≤ f.late
  l1 : f.late ≤ 100
theorem feesOk {f : Fees} (h : insB f.adult 0 20000 && insB f.child 0 20000 && insB f.rent 0 20000 && insB f.late 0 100) : FeesOk f := by
  simp only [Bool.and_eq_true, insB_true] at h
  obtain ⟨⟨⟨⟨a, b⟩, c, d⟩, e, g⟩, i, j⟩ := h
  exact ⟨a, b, c, d, e, g, i, j⟩
theorem mul_bd {a l : Int} (h0 : 0 ≤ a) (h1 : a ≤ 20000) (h2 : 0 ≤ l) (h3 : l ≤ 100) : 0 ≤ a * l ∧ a * l ≤ 2000000 :=
  ⟨Int.mul_nonneg h0 h2, Int.le_trans (Int.mul_le_mul h1 h3 h2 (by omega)) (by omega)⟩
theorem mul_hundred (a l : Int) : a * (100 + l) = 100 * a + a * l := by rw [Int.mul_add]; omega
theorem dueI_bd {f : Fees} (hf : FeesOk f) (r : Runner) (e : Ent) : 0 ≤ dueI f r e ∧ dueI f r e ≤ 60001 := by
  obtain ⟨a0, a1, c0, c1, r0, r1, l0, l1⟩ := hf
  have ha := mul_bd a0 a1 l0 l1
  have hc := mul_bd c0 c1 l0 l1
  unfold dueI
  simp only
  split <;> split <;> split <;> omega
end Go.Ori
namespace Go.Proofs.Ytohmefblkfophaa
open Go.RowKit Go.Ori
set_option maxHeartbeats 4000000 in
theorem l11Due_any (f : Fees) (r : Runner) (e : Ent) (w : World) (hf : FeesOk f) (hb : 1920 ≤ r.born ∧ r.born ≤ 2020) :
    Calls Try.prog 66 #[.agg #[.int .i64 f.adult, .int .i64 f.child, .int .i64 f.rent, .int .i64 f.late], .agg #[.int .i64 r.id, .string r.name, .string r.club, .int .i64 r.born, .bool r.woman, .int .i64 r.card], .agg #[.int .i64 e.runner, .int .i64 e.cls, .int .i64 e.day, .bool e.rent, .int .i64 e.paid]] w fun x w' => x = .returned (.int .i64 (dueI f r e)) ∧ ∃ d, w' = w.ext d := by
  obtain ⟨a0, a1, c0, c1, r0, r1, l0, l1⟩ := hf
  have ha := mul_bd a0 a1 l0 l1
  have hc := mul_bd c0 c1 l0 l1
  have MA := Lib.hid (mul_hundred f.adult f.late)
  have MC := Lib.hid (mul_hundred f.child f.late)
  have ha2 : 0 ≤ f.adult * (100 + f.late) ∧ f.adult * (100 + f.late) ≤ 4000000 := by rw [MA.out]; omega
  have hc2 : 0 ≤ f.child * (100 + f.late) ∧ f.child * (100 + f.late) ≤ 4000000 := by rw [MC.out]; omega
  by_cases h1 : 2026 - r.born < 18
  · by_cases h2 : 300 ≤ e.day
    · cases h3 : e.rent with
      | true =>
        have HE := Lib.hid (show dueI f r e = f.child + (f.child * f.late + 99) / 100 + f.rent by simp [dueI, h1, h2, h3])
        go_enter Try.func66, Try.ntmps66
        go_wp2
        go_ret
        refine ⟨?_, (by repeat (first | with_reducible (first | exact World.gained_refl _ | exact ⟨_, rfl⟩ | apply gain_ext | apply gain_alloc | apply gain_drewN | apply gain_drew) | (refine gain_setCell ?_ (by first | exact Nat.le_refl _ | exact World.size_ext _ _ | (simp; done) | (simp; omega)) _)))⟩
        rw [HE.out]
        first | rfl | (refine ret_int ?_; have := MA.out; have := MC.out; omega)
      | false =>
        have HE := Lib.hid (show dueI f r e = f.child + (f.child * f.late + 99) / 100 by simp [dueI, h1, h2, h3])
        go_enter Try.func66, Try.ntmps66
        go_wp2
        go_ret
        refine ⟨?_, (by repeat (first | with_reducible (first | exact World.gained_refl _ | exact ⟨_, rfl⟩ | apply gain_ext | apply gain_alloc | apply gain_drewN | apply gain_drew) | (refine gain_setCell ?_ (by first | exact Nat.le_refl _ | exact World.size_ext _ _ | (simp; done) | (simp; omega)) _)))⟩
        rw [HE.out]
        first | rfl | (refine ret_int ?_; have := MA.out; have := MC.out; omega)
    · cases h3 : e.rent with
      | true =>
        have HE := Lib.hid (show dueI f r e = f.child + f.rent by simp [dueI, h1, h2, h3])
        go_enter Try.func66, Try.ntmps66
        go_wp2
        go_ret
        refine ⟨?_, (by repeat (first | with_reducible (first | exact World.gained_refl _ | exact ⟨_, rfl⟩ | apply gain_ext | apply gain_alloc | apply gain_drewN | apply gain_drew) | (refine gain_setCell ?_ (by first | exact Nat.le_refl _ | exact World.size_ext _ _ | (simp; done) | (simp; omega)) _)))⟩
        rw [HE.out]
        first | rfl | (refine ret_int ?_; have := MA.out; have := MC.out; omega)
      | false =>
        have HE := Lib.hid (show dueI f r e = f.child by simp [dueI, h1, h2, h3])
        go_enter Try.func66, Try.ntmps66
        go_wp2
        go_ret
        refine ⟨?_, (by repeat (first | with_reducible (first | exact World.gained_refl _ | exact ⟨_, rfl⟩ | apply gain_ext | apply gain_alloc | apply gain_drewN | apply gain_drew) | (refine gain_setCell ?_ (by first | exact Nat.le_refl _ | exact World.size_ext _ _ | (simp; done) | (simp; omega)) _)))⟩
        rw [HE.out]
        first | rfl | (refine ret_int ?_; have := MA.out; have := MC.out; omega)
  · by_cases h2 : 300 ≤ e.day
    · cases h3 : e.rent with
      | true =>
        have HE := Lib.hid (show dueI f r e = f.adult + (f.adult * f.late + 99) / 100 + f.rent by simp [dueI, h1, h2, h3])
        go_enter Try.func66, Try.ntmps66
        go_wp2
        go_ret
        refine ⟨?_, (by repeat (first | with_reducible (first | exact World.gained_refl _ | exact ⟨_, rfl⟩ | apply gain_ext | apply gain_alloc | apply gain_drewN | apply gain_drew) | (refine gain_setCell ?_ (by first | exact Nat.le_refl _ | exact World.size_ext _ _ | (simp; done) | (simp; omega)) _)))⟩
        rw [HE.out]
        first | rfl | (refine ret_int ?_; have := MA.out; have := MC.out; omega)
      | false =>
        have HE := Lib.hid (show dueI f r e = f.adult + (f.adult * f.late + 99) / 100 by simp [dueI, h1, h2, h3])
        go_enter Try.func66, Try.ntmps66
        go_wp2
        go_ret
        refine ⟨?_, (by repeat (first | with_reducible (first | exact World.gained_refl _ | exact ⟨_, rfl⟩ | apply gain_ext | apply gain_alloc | apply gain_drewN | apply gain_drew) | (refine gain_setCell ?_ (by first | exact Nat.le_refl _ | exact World.size_ext _ _ | (simp; done) | (simp; omega)) _)))⟩
        rw [HE.out]
        first | rfl | (refine ret_int ?_; have := MA.out; have := MC.out; omega)
    · cases h3 : e.rent with
      | true =>
        have HE := Lib.hid (show dueI f r e = f.adult + f.rent by simp [dueI, h1, h2, h3])
        go_enter Try.func66, Try.ntmps66
        go_wp2
        go_ret
        refine ⟨?_, (by repeat (first | with_reducible (first | exact World.gained_refl _ | exact ⟨_, rfl⟩ | apply gain_ext | apply gain_alloc | apply gain_drewN | apply gain_drew) | (refine gain_setCell ?_ (by first | exact Nat.le_refl _ | exact World.size_ext _ _ | (simp; done) | (simp; omega)) _)))⟩
        rw [HE.out]
        first | rfl | (refine ret_int ?_; have := MA.out; have := MC.out; omega)
      | false =>
        have HE := Lib.hid (show dueI f r e = f.adult by simp [dueI, h1, h2, h3])
        go_enter Try.func66, Try.ntmps66
        go_wp2
        go_ret
        refine ⟨?_, (by repeat (first | with_reducible (first | exact World.gained_refl _ | exact ⟨_, rfl⟩ | apply gain_ext | apply gain_alloc | apply gain_drewN | apply gain_drew) | (refine gain_setCell ?_ (by first | exact Nat.le_refl _ | exact World.size_ext _ _ | (simp; done) | (simp; omega)) _)))⟩
        rw [HE.out]
        first | rfl | (refine ret_int ?_; have := MA.out; have := MC.out; omega)
def hasId (l : List Runner) (i : Int) : Bool := l.any fun x => x.id == i
def atId (l : List Runner) (i : Int) : Nat := l.findIdx fun x => x.id == i
theorem id_no {l : List Runner} {i : Int} (h : hasId l i = false) : (idxB l fun e => e.id == i) = -1 := by
  unfold idxB; rw [show (l.any fun e => e.id == i) = false from h]; rfl
theorem id_yes {l : List Runner} {i : Int} (h : hasId l i = true) : (idxB l fun e => e.id == i) = (atId l i : Int) := by
  unfold idxB; rw [show (l.any fun e => e.id == i) = true from h]; rfl
theorem atId_lt {l : List Runner} {i : Int} (h : hasId l i = true) : atId l i < l.length := by
  unfold atId
  rw [List.findIdx_lt_length]
  exact List.any_eq_true.1 h
theorem born_bd {l : List Runner} (h : runsB l = true) {k : Nat} (hk : k < l.length) : 1920 ≤ l[k].born ∧ l[k].born ≤ 2020 := by
  have := runsB_at h hk
  simp only [runnerB, Bool.and_eq_true, insB_true] at this
  exact this.1.2
def dueL (f : Fees) (l : List Runner) (e : Ent) : Int := match l[atId l e.runner]? with | some r => if hasId l e.runner then dueI f r e else 0 | none => 0
set_option maxHeartbeats 4000000 in
theorem dueFor_any (f : Fees) (v : Value) (l : List Runner) (e : Ent) (w : World) (hf : FeesOk f) (h : w.sl Runner.cells 6 v l) (hl : l.length ≤ 1048576) (hr : runsB l = true) :
    Calls Try.prog 70 #[.agg #[.int .i64 f.adult, .int .i64 f.child, .int .i64 f.rent, .int .i64 f.late], v, .agg #[.int .i64 e.runner, .int .i64 e.cls, .int .i64 e.day, .bool e.rent, .int .i64 e.paid]] w fun x w' => x = .returned (.tuple #[.int .i64 (dueL f l e), .bool (hasId l e.runner)]) ∧ ∃ d, w' = w.ext d := by
  have hs := Lib.hid h
  obtain ⟨p, c, rfl, _⟩ := h
  cases hh : hasId l e.runner with
  | false =>
    have hi := id_no hh
    have HE := Lib.hid (show dueL f l e = 0 by unfold dueL; split; rw [hh]; rfl; rfl)
    go_enter Try.func70, Try.ntmps70
    go_wp2_with (go_at_call 75; refine (runnerIndex_any _ l e.runner _ (by with_reducible (repeat (first | exact hs.out | refine World.sl_ext Runner.cells_length ?_ _ | refine sl_alloc Runner.cells_length ?_ _ | refine sl_drew ?_))) hl).mono ?_; rintro e w1 ⟨rfl, d1, rfl⟩)
    go_ret2
    rw [HE.out]
    exact ⟨rfl, (by repeat (first | with_reducible (first | exact World.gained_refl _ | exact ⟨_, rfl⟩ | apply gain_ext | apply gain_alloc | apply gain_drewN | apply gain_drew) | (refine gain_setCell ?_ (by first | exact Nat.le_refl _ | exact World.size_ext _ _ | (simp; done) | (simp; omega)) _)))⟩
  | true =>
    have hi := id_yes hh
    have hlt := atId_lt hh
    obtain ⟨b, o, rfl⟩ := sl_some hs.out (by omega)
    have c3 := sl_cells hs.out hlt (j := 3) (by omega)
    have hb := born_bd hr hlt
    have HD : Hid (dueL f l e = dueI f l[atId l e.runner] e) := Lib.hid (by unfold dueL; rw [List.getElem?_eq_getElem hlt]; simp [hh])
    generalize l[atId l e.runner] = r at c3 hb HD
    simp only [Runner.cells, List.getElem?_cons_zero, List.getElem?_cons_succ, Nat.add_zero] at c3
    have ob := World.oldB_of_cell c3
    rw [HD.out]
    obtain ⟨a0, a1, c0, c1, r0, r1, l0, l1⟩ := hf
    have ha := mul_bd a0 a1 l0 l1
    have hc := mul_bd c0 c1 l0 l1
    by_cases h1 : 2026 - r.born < 18
    · by_cases h2 : 300 ≤ e.day
      · cases h3 : e.rent with
        | true =>
          have HE := Lib.hid (show dueI f r e = f.child + (f.child * f.late + 99) / 100 + f.rent by simp [dueI, h1, h2, h3])
          go_enter Try.func70, Try.ntmps70
          go_wp2_with (go_at_call 75; refine (runnerIndex_any _ l e.runner _ (by with_reducible (repeat (first | exact hs.out | refine World.sl_ext Runner.cells_length ?_ _ | refine sl_alloc Runner.cells_length ?_ _ | refine sl_drew ?_))) hl).mono ?_; rintro e w1 ⟨rfl, d1, rfl⟩)
          go_ret2
          rw [HE.out]
          exact ⟨rfl, (by repeat (first | with_reducible (first | exact World.gained_refl _ | exact ⟨_, rfl⟩ | apply gain_ext | apply gain_alloc | apply gain_drewN | apply gain_drew) | (refine gain_setCell ?_ (by first | exact Nat.le_refl _ | exact World.size_ext _ _ | (simp; done) | (simp; omega)) _)))⟩
        | false =>
          have HE := Lib.hid (show dueI f r e = f.child + (f.child * f.late + 99) / 100 by simp [dueI, h1, h2, h3])
          go_enter Try.func70, Try.ntmps70
          go_wp2_with (go_at_call 75; refine (runnerIndex_any _ l e.runner _ (by with_reducible (repeat (first | exact hs.out | refine World.sl_ext Runner.cells_length ?_ _ | refine sl_alloc Runner.cells_length ?_ _ | refine sl_drew ?_))) hl).mono ?_; rintro e w1 ⟨rfl, d1, rfl⟩)
          go_ret2
          rw [HE.out]
          exact ⟨rfl, (by repeat (first | with_reducible (first | exact World.gained_refl _ | exact ⟨_, rfl⟩ | apply gain_ext | apply gain_alloc | apply gain_drewN | apply gain_drew) | (refine gain_setCell ?_ (by first | exact Nat.le_refl _ | exact World.size_ext _ _ | (simp; done) | (simp; omega)) _)))⟩
      · cases h3 : e.rent with
        | true =>
          have HE := Lib.hid (show dueI f r e = f.child + f.rent by simp [dueI, h1, h2, h3])
          go_enter Try.func70, Try.ntmps70
          go_wp2_with (go_at_call 75; refine (runnerIndex_any _ l e.runner _ (by with_reducible (repeat (first | exact hs.out | refine World.sl_ext Runner.cells_length ?_ _ | refine sl_alloc Runner.cells_length ?_ _ | refine sl_drew ?_))) hl).mono ?_; rintro e w1 ⟨rfl, d1, rfl⟩)
          go_ret2
          rw [HE.out]
          exact ⟨rfl, (by repeat (first | with_reducible (first | exact World.gained_refl _ | exact ⟨_, rfl⟩ | apply gain_ext | apply gain_alloc | apply gain_drewN | apply gain_drew) | (refine gain_setCell ?_ (by first | exact Nat.le_refl _ | exact World.size_ext _ _ | (simp; done) | (simp; omega)) _)))⟩
        | false =>
          have HE := Lib.hid (show dueI f r e = f.child by simp [dueI, h1, h2, h3])
          go_enter Try.func70, Try.ntmps70
          go_wp2_with (go_at_call 75; refine (runnerIndex_any _ l e.runner _ (by with_reducible (repeat (first | exact hs.out | refine World.sl_ext Runner.cells_length ?_ _ | refine sl_alloc Runner.cells_length ?_ _ | refine sl_drew ?_))) hl).mono ?_; rintro e w1 ⟨rfl, d1, rfl⟩)
          go_ret2
          rw [HE.out]
          exact ⟨rfl, (by repeat (first | with_reducible (first | exact World.gained_refl _ | exact ⟨_, rfl⟩ | apply gain_ext | apply gain_alloc | apply gain_drewN | apply gain_drew) | (refine gain_setCell ?_ (by first | exact Nat.le_refl _ | exact World.size_ext _ _ | (simp; done) | (simp; omega)) _)))⟩
    · by_cases h2 : 300 ≤ e.day
      · cases h3 : e.rent with
        | true =>
          have HE := Lib.hid (show dueI f r e = f.adult + (f.adult * f.late + 99) / 100 + f.rent by simp [dueI, h1, h2, h3])
          go_enter Try.func70, Try.ntmps70
          go_wp2_with (go_at_call 75; refine (runnerIndex_any _ l e.runner _ (by with_reducible (repeat (first | exact hs.out | refine World.sl_ext Runner.cells_length ?_ _ | refine sl_alloc Runner.cells_length ?_ _ | refine sl_drew ?_))) hl).mono ?_; rintro e w1 ⟨rfl, d1, rfl⟩)
          go_ret2
          rw [HE.out]
          exact ⟨rfl, (by repeat (first | with_reducible (first | exact World.gained_refl _ | exact ⟨_, rfl⟩ | apply gain_ext | apply gain_alloc | apply gain_drewN | apply gain_drew) | (refine gain_setCell ?_ (by first | exact Nat.le_refl _ | exact World.size_ext _ _ | (simp; done) | (simp; omega)) _)))⟩
        | false =>
          have HE := Lib.hid (show dueI f r e = f.adult + (f.adult * f.late + 99) / 100 by simp [dueI, h1, h2, h3])
          go_enter Try.func70, Try.ntmps70
          go_wp2_with (go_at_call 75; refine (runnerIndex_any _ l e.runner _ (by with_reducible (repeat (first | exact hs.out | refine World.sl_ext Runner.cells_length ?_ _ | refine sl_alloc Runner.cells_length ?_ _ | refine sl_drew ?_))) hl).mono ?_; rintro e w1 ⟨rfl, d1, rfl⟩)
          go_ret2
          rw [HE.out]
          exact ⟨rfl, (by repeat (first | with_reducible (first | exact World.gained_refl _ | exact ⟨_, rfl⟩ | apply gain_ext | apply gain_alloc | apply gain_drewN | apply gain_drew) | (refine gain_setCell ?_ (by first | exact Nat.le_refl _ | exact World.size_ext _ _ | (simp; done) | (simp; omega)) _)))⟩
      · cases h3 : e.rent with
        | true =>
          have HE := Lib.hid (show dueI f r e = f.adult + f.rent by simp [dueI, h1, h2, h3])
          go_enter Try.func70, Try.ntmps70
          go_wp2_with (go_at_call 75; refine (runnerIndex_any _ l e.runner _ (by with_reducible (repeat (first | exact hs.out | refine World.sl_ext Runner.cells_length ?_ _ | refine sl_alloc Runner.cells_length ?_ _ | refine sl_drew ?_))) hl).mono ?_; rintro e w1 ⟨rfl, d1, rfl⟩)
          go_ret2
          rw [HE.out]
          exact ⟨rfl, (by repeat (first | with_reducible (first | exact World.gained_refl _ | exact ⟨_, rfl⟩ | apply gain_ext | apply gain_alloc | apply gain_drewN | apply gain_drew) | (refine gain_setCell ?_ (by first | exact Nat.le_refl _ | exact World.size_ext _ _ | (simp; done) | (simp; omega)) _)))⟩
        | false =>
          have HE := Lib.hid (show dueI f r e = f.adult by simp [dueI, h1, h2, h3])
          go_enter Try.func70, Try.ntmps70
          go_wp2_with (go_at_call 75; refine (runnerIndex_any _ l e.runner _ (by with_reducible (repeat (first | exact hs.out | refine World.sl_ext Runner.cells_length ?_ _ | refine sl_alloc Runner.cells_length ?_ _ | refine sl_drew ?_))) hl).mono ?_; rintro e w1 ⟨rfl, d1, rfl⟩)
          go_ret2
          rw [HE.out]
          exact ⟨rfl, (by repeat (first | with_reducible (first | exact World.gained_refl _ | exact ⟨_, rfl⟩ | apply gain_ext | apply gain_alloc | apply gain_drewN | apply gain_drew) | (refine gain_setCell ?_ (by first | exact Nat.le_refl _ | exact World.size_ext _ _ | (simp; done) | (simp; omega)) _)))⟩
end Go.Proofs.Ytohmefblkfophaa
