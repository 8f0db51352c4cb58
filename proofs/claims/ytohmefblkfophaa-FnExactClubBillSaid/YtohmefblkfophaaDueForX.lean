/- impl.DueFor, spec.DueFor. Condition: at most 1048576 runners, their strings too. -/
import Derived.Test.YtohmefblkfophaaDue
import Derived.Test.YtohmefblkfophaaFeesB
import Derived.Test.YtohmefblkfophaaAreRunners
import Derived.Test.YtohmefblkfophaaL11
namespace Go.Proofs.Ytohmefblkfophaa
open Go.RowKit Go.Ori
def dfB (f : Fees) (l : List Runner) (e : Ent) : Bool := feesB f.adult f.child f.rent f.late && runsB l && entB e && hasId l e.runner
def dfI (f : Fees) (l : List Runner) (e : Ent) : Int := if dfB f l e then dueL f l e else 0
theorem df_no {f : Fees} {l : List Runner} {e : Ent} (h : dfB f l e = false) : dfI f l e = 0 ∧ dfB f l e = false := by simp [dfI, h]
set_option maxHeartbeats 2000000 in
theorem dueForX_any (f : Fees) (v : Value) (l : List Runner) (e : Ent) (w : World) (h : w.sl Runner.cells 6 v l) (hl : l.length ≤ 1048576) (hq : ∀ x ∈ l, Runner.small x) :
    Calls Try.prog 38 #[.agg #[.int .i64 f.adult, .int .i64 f.child, .int .i64 f.rent, .int .i64 f.late], v, .agg #[.int .i64 e.runner, .int .i64 e.cls, .int .i64 e.day, .bool e.rent, .int .i64 e.paid]] w fun x w' => x = .returned (.tuple #[.int .i64 (dfI f l e), .bool (dfB f l e)]) ∧ ∃ d, w' = w.ext d := by
  have hs := Lib.hid h
  obtain ⟨p, c, rfl, _⟩ := h
  cases hF : feesB f.adult f.child f.rent f.late with
  | false =>
    have HE := Lib.hid (df_no (f := f) (l := l) (e := e) (by simp [dfB, hF]))
    go_enter Try.func38, Try.ntmps38
    go_wp2_with (first | (go_at_call 68; refine (areFees_any _ _ _ _ _).mono ?_; rintro e w1 ⟨rfl, d1, rfl⟩) | (go_at_call 69; refine (areRunners_any _ l _ (by with_reducible (repeat (first | exact hs.out | refine World.sl_ext Runner.cells_length ?_ _ | refine sl_alloc Runner.cells_length ?_ _ | refine sl_drew ?_))) hl hq).mono ?_; rintro e w1 ⟨rfl, d1, rfl⟩) | (go_at_call 48; refine (isEntry_any _ _).mono ?_; rintro e w1 ⟨rfl, d1, rfl⟩))
    go_ret2
    rw [HE.out.1, HE.out.2]
    exact ⟨rfl, (by repeat (first | with_reducible (first | exact World.gained_refl _ | exact ⟨_, rfl⟩ | apply gain_ext | apply gain_alloc | apply gain_drewN | apply gain_drew) | (refine gain_setCell ?_ (by first | exact Nat.le_refl _ | exact World.size_ext _ _ | (simp; done) | (simp; omega)) _)))⟩
  | true =>
  cases hR : runsB l with
  | false =>
    have HE := Lib.hid (df_no (f := f) (l := l) (e := e) (by simp [dfB, hR]))
    go_enter Try.func38, Try.ntmps38
    go_wp2_with (first | (go_at_call 68; refine (areFees_any _ _ _ _ _).mono ?_; rintro e w1 ⟨rfl, d1, rfl⟩) | (go_at_call 69; refine (areRunners_any _ l _ (by with_reducible (repeat (first | exact hs.out | refine World.sl_ext Runner.cells_length ?_ _ | refine sl_alloc Runner.cells_length ?_ _ | refine sl_drew ?_))) hl hq).mono ?_; rintro e w1 ⟨rfl, d1, rfl⟩) | (go_at_call 48; refine (isEntry_any _ _).mono ?_; rintro e w1 ⟨rfl, d1, rfl⟩))
    go_ret2
    rw [HE.out.1, HE.out.2]
    exact ⟨rfl, (by repeat (first | with_reducible (first | exact World.gained_refl _ | exact ⟨_, rfl⟩ | apply gain_ext | apply gain_alloc | apply gain_drewN | apply gain_drew) | (refine gain_setCell ?_ (by first | exact Nat.le_refl _ | exact World.size_ext _ _ | (simp; done) | (simp; omega)) _)))⟩
  | true =>
  cases hE : entB e with
  | false =>
    have HE := Lib.hid (df_no (f := f) (l := l) (e := e) (by simp [dfB, hE]))
    go_enter Try.func38, Try.ntmps38
    go_wp2_with (first | (go_at_call 68; refine (areFees_any _ _ _ _ _).mono ?_; rintro e w1 ⟨rfl, d1, rfl⟩) | (go_at_call 69; refine (areRunners_any _ l _ (by with_reducible (repeat (first | exact hs.out | refine World.sl_ext Runner.cells_length ?_ _ | refine sl_alloc Runner.cells_length ?_ _ | refine sl_drew ?_))) hl hq).mono ?_; rintro e w1 ⟨rfl, d1, rfl⟩) | (go_at_call 48; refine (isEntry_any _ _).mono ?_; rintro e w1 ⟨rfl, d1, rfl⟩))
    go_ret2
    rw [HE.out.1, HE.out.2]
    exact ⟨rfl, (by repeat (first | with_reducible (first | exact World.gained_refl _ | exact ⟨_, rfl⟩ | apply gain_ext | apply gain_alloc | apply gain_drewN | apply gain_drew) | (refine gain_setCell ?_ (by first | exact Nat.le_refl _ | exact World.size_ext _ _ | (simp; done) | (simp; omega)) _)))⟩
  | true =>
    have hok := feesOk (f := f) hF
    have HE1 := Lib.hid (show dfB f l e = hasId l e.runner by simp [dfB, hF, hR, hE])
    have HE2 := Lib.hid (show dfI f l e = dueL f l e by simp [dfI, HE1.out]; intro hh; unfold dueL; split; rw [hh]; rfl; rfl)
    go_enter Try.func38, Try.ntmps38
    go_wp2_with (first | (go_at_call 68; refine (areFees_any _ _ _ _ _).mono ?_; rintro e w1 ⟨rfl, d1, rfl⟩) | (go_at_call 69; refine (areRunners_any _ l _ (by with_reducible (repeat (first | exact hs.out | refine World.sl_ext Runner.cells_length ?_ _ | refine sl_alloc Runner.cells_length ?_ _ | refine sl_drew ?_))) hl hq).mono ?_; rintro e w1 ⟨rfl, d1, rfl⟩) | (go_at_call 48; refine (isEntry_any _ _).mono ?_; rintro e w1 ⟨rfl, d1, rfl⟩) | (go_at_call 70; refine (dueFor_any f _ l e _ hok (by with_reducible (repeat (first | exact hs.out | refine World.sl_ext Runner.cells_length ?_ _ | refine sl_alloc Runner.cells_length ?_ _ | refine sl_drew ?_))) hl hR).mono ?_; rintro e w1 ⟨rfl, d1, rfl⟩))
    go_ret2
    rw [HE1.out, HE2.out]
    exact ⟨rfl, (by repeat (first | with_reducible (first | exact World.gained_refl _ | exact ⟨_, rfl⟩ | apply gain_ext | apply gain_alloc | apply gain_drewN | apply gain_drew) | (refine gain_setCell ?_ (by first | exact Nat.le_refl _ | exact World.size_ext _ _ | (simp; done) | (simp; omega)) _)))⟩
set_option maxHeartbeats 2000000 in
theorem specDueFor_any (f : Fees) (v : Value) (l : List Runner) (e : Ent) (w : World) (h : w.sl Runner.cells 6 v l) (hl : l.length ≤ 1048576) (hq : ∀ x ∈ l, Runner.small x) :
    Calls Try.prog 34 #[.agg #[.int .i64 f.adult, .int .i64 f.child, .int .i64 f.rent, .int .i64 f.late], v, .agg #[.int .i64 e.runner, .int .i64 e.cls, .int .i64 e.day, .bool e.rent, .int .i64 e.paid]] w fun x w' => x = .returned (.tuple #[.int .i64 (dfI f l e), .bool (dfB f l e)]) ∧ ∃ d, w' = w.ext d := by
  have hs := Lib.hid h
  obtain ⟨p, c, rfl, _⟩ := h
  cases hF : feesB f.adult f.child f.rent f.late with
  | false =>
    have HE := Lib.hid (df_no (f := f) (l := l) (e := e) (by simp [dfB, hF]))
    go_enter Try.func34, Try.ntmps34
    go_wp2_with (first | (go_at_call 62; refine (l5Find_any _ l e.runner _ (by with_reducible (repeat (first | exact hs.out | refine World.sl_ext Runner.cells_length ?_ _ | refine sl_alloc Runner.cells_length ?_ _ | refine sl_drew ?_))) hl).mono ?_; rintro e w1 ⟨rfl, d1, rfl⟩) | (go_at_call 63; refine (l11Fees_any _ _ _ _ _).mono ?_; rintro e w1 ⟨rfl, d1, rfl⟩) | (go_at_call 64; refine (l5Good_any _ l _ (by with_reducible (repeat (first | exact hs.out | refine World.sl_ext Runner.cells_length ?_ _ | refine sl_alloc Runner.cells_length ?_ _ | refine sl_drew ?_))) hl hq).mono ?_; rintro e w1 ⟨rfl, d1, rfl⟩) | (go_at_call 65; refine (l11One_any _ _).mono ?_; rintro e w1 ⟨rfl, d1, rfl⟩))
    go_ret2
    rw [HE.out.1, HE.out.2]
    exact ⟨rfl, (by repeat (first | with_reducible (first | exact World.gained_refl _ | exact ⟨_, rfl⟩ | apply gain_ext | apply gain_alloc | apply gain_drewN | apply gain_drew) | (refine gain_setCell ?_ (by first | exact Nat.le_refl _ | exact World.size_ext _ _ | (simp; done) | (simp; omega)) _)))⟩
  | true =>
  cases hR : runsB l with
  | false =>
    have HE := Lib.hid (df_no (f := f) (l := l) (e := e) (by simp [dfB, hR]))
    go_enter Try.func34, Try.ntmps34
    go_wp2_with (first | (go_at_call 62; refine (l5Find_any _ l e.runner _ (by with_reducible (repeat (first | exact hs.out | refine World.sl_ext Runner.cells_length ?_ _ | refine sl_alloc Runner.cells_length ?_ _ | refine sl_drew ?_))) hl).mono ?_; rintro e w1 ⟨rfl, d1, rfl⟩) | (go_at_call 63; refine (l11Fees_any _ _ _ _ _).mono ?_; rintro e w1 ⟨rfl, d1, rfl⟩) | (go_at_call 64; refine (l5Good_any _ l _ (by with_reducible (repeat (first | exact hs.out | refine World.sl_ext Runner.cells_length ?_ _ | refine sl_alloc Runner.cells_length ?_ _ | refine sl_drew ?_))) hl hq).mono ?_; rintro e w1 ⟨rfl, d1, rfl⟩) | (go_at_call 65; refine (l11One_any _ _).mono ?_; rintro e w1 ⟨rfl, d1, rfl⟩))
    go_ret2
    rw [HE.out.1, HE.out.2]
    exact ⟨rfl, (by repeat (first | with_reducible (first | exact World.gained_refl _ | exact ⟨_, rfl⟩ | apply gain_ext | apply gain_alloc | apply gain_drewN | apply gain_drew) | (refine gain_setCell ?_ (by first | exact Nat.le_refl _ | exact World.size_ext _ _ | (simp; done) | (simp; omega)) _)))⟩
  | true =>
  cases hE : entB e with
  | false =>
    have HE := Lib.hid (df_no (f := f) (l := l) (e := e) (by simp [dfB, hE]))
    go_enter Try.func34, Try.ntmps34
    go_wp2_with (first | (go_at_call 62; refine (l5Find_any _ l e.runner _ (by with_reducible (repeat (first | exact hs.out | refine World.sl_ext Runner.cells_length ?_ _ | refine sl_alloc Runner.cells_length ?_ _ | refine sl_drew ?_))) hl).mono ?_; rintro e w1 ⟨rfl, d1, rfl⟩) | (go_at_call 63; refine (l11Fees_any _ _ _ _ _).mono ?_; rintro e w1 ⟨rfl, d1, rfl⟩) | (go_at_call 64; refine (l5Good_any _ l _ (by with_reducible (repeat (first | exact hs.out | refine World.sl_ext Runner.cells_length ?_ _ | refine sl_alloc Runner.cells_length ?_ _ | refine sl_drew ?_))) hl hq).mono ?_; rintro e w1 ⟨rfl, d1, rfl⟩) | (go_at_call 65; refine (l11One_any _ _).mono ?_; rintro e w1 ⟨rfl, d1, rfl⟩))
    go_ret2
    rw [HE.out.1, HE.out.2]
    exact ⟨rfl, (by repeat (first | with_reducible (first | exact World.gained_refl _ | exact ⟨_, rfl⟩ | apply gain_ext | apply gain_alloc | apply gain_drewN | apply gain_drew) | (refine gain_setCell ?_ (by first | exact Nat.le_refl _ | exact World.size_ext _ _ | (simp; done) | (simp; omega)) _)))⟩
  | true =>
    have hok := feesOk (f := f) hF
    cases hh : hasId l e.runner with
    | false =>
      have hi := id_no hh
      have HE := Lib.hid (df_no (f := f) (l := l) (e := e) (by simp [dfB, hh]))
      go_enter Try.func34, Try.ntmps34
      go_wp2_with (first | (go_at_call 62; refine (l5Find_any _ l e.runner _ (by with_reducible (repeat (first | exact hs.out | refine World.sl_ext Runner.cells_length ?_ _ | refine sl_alloc Runner.cells_length ?_ _ | refine sl_drew ?_))) hl).mono ?_; rintro e w1 ⟨rfl, d1, rfl⟩) | (go_at_call 63; refine (l11Fees_any _ _ _ _ _).mono ?_; rintro e w1 ⟨rfl, d1, rfl⟩) | (go_at_call 64; refine (l5Good_any _ l _ (by with_reducible (repeat (first | exact hs.out | refine World.sl_ext Runner.cells_length ?_ _ | refine sl_alloc Runner.cells_length ?_ _ | refine sl_drew ?_))) hl hq).mono ?_; rintro e w1 ⟨rfl, d1, rfl⟩) | (go_at_call 65; refine (l11One_any _ _).mono ?_; rintro e w1 ⟨rfl, d1, rfl⟩))
      go_ret2
      rw [HE.out.1, HE.out.2]
      exact ⟨rfl, (by repeat (first | with_reducible (first | exact World.gained_refl _ | exact ⟨_, rfl⟩ | apply gain_ext | apply gain_alloc | apply gain_drewN | apply gain_drew) | (refine gain_setCell ?_ (by first | exact Nat.le_refl _ | exact World.size_ext _ _ | (simp; done) | (simp; omega)) _)))⟩
    | true =>
      have hi := id_yes hh
      have hlt := atId_lt hh
      obtain ⟨b, o, rfl⟩ := sl_some hs.out (by omega)
      have hck := fun j (hj : j < 6) => sl_cells hs.out hlt hj
      have hb := born_bd hR hlt
      have HE1 := Lib.hid (show dfB f l e = true by simp [dfB, hF, hR, hE, hh])
      have HE2 : Hid (dfI f l e = dueI f l[atId l e.runner] e) := Lib.hid (by rw [dfI, HE1.out, dueL, List.getElem?_eq_getElem hlt]; simp [hh])
      have c0 := hck 0 (by omega)
      have c1 := hck 1 (by omega)
      have c2 := hck 2 (by omega)
      have c3 := hck 3 (by omega)
      have c4 := hck 4 (by omega)
      have c5 := hck 5 (by omega)
      generalize l[atId l e.runner] = r at c0 c1 c2 c3 c4 c5 hck hb HE2
      clear hck
      simp only [Runner.cells, List.getElem?_cons_zero, List.getElem?_cons_succ, Nat.add_zero] at c0 c1 c2 c3 c4 c5
      have ob := World.oldB_of_cell c0
      go_enter Try.func34, Try.ntmps34
      go_wp2_with (first | (go_at_call 62; refine (l5Find_any _ l e.runner _ (by with_reducible (repeat (first | exact hs.out | refine World.sl_ext Runner.cells_length ?_ _ | refine sl_alloc Runner.cells_length ?_ _ | refine sl_drew ?_))) hl).mono ?_; rintro e w1 ⟨rfl, d1, rfl⟩) | (go_at_call 63; refine (l11Fees_any _ _ _ _ _).mono ?_; rintro e w1 ⟨rfl, d1, rfl⟩) | (go_at_call 64; refine (l5Good_any _ l _ (by with_reducible (repeat (first | exact hs.out | refine World.sl_ext Runner.cells_length ?_ _ | refine sl_alloc Runner.cells_length ?_ _ | refine sl_drew ?_))) hl hq).mono ?_; rintro e w1 ⟨rfl, d1, rfl⟩) | (go_at_call 65; refine (l11One_any _ _).mono ?_; rintro e w1 ⟨rfl, d1, rfl⟩))
      refine wp_region_gain (by kernel_rfl) (by kernel_rfl) ?_
      repeat (first | go_big_quiet_skip | (go_big_quiet_want; go_big_quiet_op; first | go_big_quiet_on | ((apply Exists.intro); (refine ⟨fun _ => ?_, ?_⟩); (· (go_at_call 66; exact Calls.gain (l11Due_any f r e _ hok hb))); (go_big_quiet_on))))
      refine wpQuiet_nil ?_
      rintro _ ⟨d', rfl⟩
      go_wp2
      go_ret2
      rw [HE1.out, HE2.out]
      exact ⟨rfl, (by repeat (first | with_reducible (first | exact World.gained_refl _ | exact ⟨_, rfl⟩ | apply gain_ext | apply gain_alloc | apply gain_drewN | apply gain_drew) | (refine gain_setCell ?_ (by first | exact Nat.le_refl _ | exact World.size_ext _ _ | (simp; done) | (simp; omega)) _)))⟩
end Go.Proofs.Ytohmefblkfophaa
