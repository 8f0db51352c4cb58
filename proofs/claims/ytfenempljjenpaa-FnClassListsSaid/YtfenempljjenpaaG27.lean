/- Texts laid together: impl.CourseOf, spec.CourseOf. Condition: at most 1048576 classes, their names too.; laws.rBig, vInts, vHas. Conditions: at most 1048576 numbers.; laws.rTable: of two that read alike it says true. Condition: a size of at most 1048576. -/
import Derived.Test.YtfenempljjenpaaG8
import Derived.Test.YtfenempljjenpaaG3
import Derived.Test.YtfenempljjenpaaG2
import Derived.Test.YtfenempljjenpaaG6
/- impl.CourseOf, spec.CourseOf. Condition: at most 1048576 classes, their names too. -/
namespace Go.Ori
def hasC (l : List Cls) (i : Int) : Bool := l.any fun x => x.id == i
def atC (l : List Cls) (i : Int) : Nat := l.findIdx fun x => x.id == i
theorem cid_no {l : List Cls} {i : Int} (h : hasC l i = false) : (idxB l fun e => e.id == i) = -1 := by
  unfold idxB; rw [show (l.any fun e => e.id == i) = false from h]; rfl
theorem cid_yes {l : List Cls} {i : Int} (h : hasC l i = true) : (idxB l fun e => e.id == i) = (atC l i : Int) := by
  unfold idxB; rw [show (l.any fun e => e.id == i) = true from h]; rfl
theorem atC_lt {l : List Cls} {i : Int} (h : hasC l i = true) : atC l i < l.length := by
  unfold atC
  rw [List.findIdx_lt_length]
  exact List.any_eq_true.1 h
def courseB (l : List Cls) (i : Int) : Bool := clssB l && hasC l i
def courseI (l : List Cls) (i : Int) : Int := if courseB l i then (match l[atC l i]? with | some c => c.course | none => 0) else 0
theorem course_no {l : List Cls} {i : Int} (h : courseB l i = false) : courseI l i = 0 ∧ courseB l i = false := by simp [courseI, h]
theorem course_yes {l : List Cls} {i : Int} (h1 : clssB l = true) (h2 : hasC l i = true) : courseI l i = (l[atC l i]'(atC_lt h2)).course ∧ courseB l i = true := by
  simp [courseI, courseB, h1, h2, List.getElem?_eq_getElem (atC_lt h2)]
theorem course_at {l : List Cls} {i : Int} {k : Nat} (hk : k < l.length) (hn : ∀ (j : Nat) (hj : j < l.length), j < k → (l[j].id == i) = false) (hf : (l[k].id == i) = true) (h1 : clssB l = true) : courseI l i = l[k].course ∧ courseB l i = true := by
  have e := idxB_some (p := fun e : Cls => e.id == i) hk hn hf
  have h2 : hasC l i = true := List.any_eq_true.2 ⟨l[k], List.getElem_mem hk, hf⟩
  rw [cid_yes h2] at e
  have e2 : atC l i = k := by omega
  have := course_yes h1 h2
  simp only [e2] at this
  exact this
end Go.Ori
namespace Go.Proofs.Ytfenempljjenpaa
open Go.RowKit Go.Ori
theorem courseOf1_any (n : Cls) (r : Int) (a : Addr) (w : World) (ob : w.oldB a.block) (hc : w.cell? a = some (.int .i64 r)) :
    Calls Try.prog 43 #[.agg #[.int .i64 n.id, .string n.name, .int .i64 n.low, .int .i64 n.high, .bool n.women, .bool n.men, .int .i64 n.course, .int .i64 n.most], .pointer (some a)] w fun x w' => x = .returned (.bool (n.id == r)) ∧ ∃ d, w' = w.ext d := by
  go_enter Try.func43, Try.ntmps43
  go_wp2
  go_ret
  exact ⟨rfl, gain_alloc w.gained_refl _⟩
set_option maxHeartbeats 1000000 in
theorem courseOf_any (v : Value) (l : List Cls) (i : Int) (w : World) (h : w.sl Cls.cells 8 v l) (hl : l.length ≤ 1048576) (hq : ∀ x ∈ l, Cls.small x) :
    Calls Try.prog 19 #[v, .int .i64 i] w fun x w' => x = .returned (.tuple #[.int .i64 (courseI l i), .bool (courseB l i)]) ∧ ∃ d, w' = w.ext d := by
  have hs := Lib.hid h
  obtain ⟨p, c, rfl, _⟩ := h
  cases hC : clssB l with
  | false =>
    have HE := Lib.hid (course_no (l := l) (i := i) (by simp [courseB, hC]))
    go_enter Try.func19, Try.ntmps19
    go_wp2_with fail
    refine (indexFunc_clss 43 _ (fun e => e.id == i) _ l _ (by with_reducible (repeat (first | exact hs.out | refine World.sl_ext Cls.cells_length ?_ _ | refine sl_alloc Cls.cells_length ?_ _ | refine sl_drew ?_))) hl (fun _ _ => by kernel_rfl) (fun n d => ?hcl)).mono ?_
    case hcl =>
      refine courseOf1_any n i _ _ ?_ ?_
      · simp [go_sem]
      · simp [go_sem]
    rintro e w1 ⟨rfl, d1, rfl⟩
    go_wp2_with (go_at_call 17; refine (areClasses_any _ l _ (by with_reducible (repeat (first | exact hs.out | refine World.sl_ext Cls.cells_length ?_ _ | refine sl_alloc Cls.cells_length ?_ _ | refine sl_drew ?_))) hl hq).mono ?_; rintro e w1 ⟨rfl, d1, rfl⟩)
    go_ret2
    rw [HE.out.1, HE.out.2]
    exact ⟨rfl, (by repeat (first | with_reducible (first | exact World.gained_refl _ | exact ⟨_, rfl⟩ | apply gain_ext | apply gain_alloc | apply gain_drewN | apply gain_drew) | (refine gain_setCell ?_ (by first | exact Nat.le_refl _ | exact World.size_ext _ _ | (simp; done) | (simp; omega)) _)))⟩
  | true =>
  cases hh : hasC l i with
  | false =>
    have HE := Lib.hid (course_no (l := l) (i := i) (by simp [courseB, hh]))
    have hi := cid_no hh
    go_enter Try.func19, Try.ntmps19
    go_wp2_with fail
    refine (indexFunc_clss 43 _ (fun e => e.id == i) _ l _ (by with_reducible (repeat (first | exact hs.out | refine World.sl_ext Cls.cells_length ?_ _ | refine sl_alloc Cls.cells_length ?_ _ | refine sl_drew ?_))) hl (fun _ _ => by kernel_rfl) (fun n d => ?hcl)).mono ?_
    case hcl =>
      refine courseOf1_any n i _ _ ?_ ?_
      · simp [go_sem]
      · simp [go_sem]
    rintro e w1 ⟨rfl, d1, rfl⟩
    go_wp2_with (go_at_call 17; refine (areClasses_any _ l _ (by with_reducible (repeat (first | exact hs.out | refine World.sl_ext Cls.cells_length ?_ _ | refine sl_alloc Cls.cells_length ?_ _ | refine sl_drew ?_))) hl hq).mono ?_; rintro e w1 ⟨rfl, d1, rfl⟩)
    go_ret2
    rw [HE.out.1, HE.out.2]
    exact ⟨rfl, (by repeat (first | with_reducible (first | exact World.gained_refl _ | exact ⟨_, rfl⟩ | apply gain_ext | apply gain_alloc | apply gain_drewN | apply gain_drew) | (refine gain_setCell ?_ (by first | exact Nat.le_refl _ | exact World.size_ext _ _ | (simp; done) | (simp; omega)) _)))⟩
  | true =>
    have HE := Lib.hid (course_yes hC hh)
    have hi := cid_yes hh
    have hlt := atC_lt hh
    obtain ⟨b, o, rfl⟩ := sl_some hs.out (by omega)
    have c6 := sl_cells hs.out hlt (j := 6) (by omega)
    generalize l[atC l i] = y at c6 HE
    simp only [Cls.cells, List.getElem?_cons_zero, List.getElem?_cons_succ, Nat.add_zero] at c6
    have ob := World.oldB_of_cell c6
    go_enter Try.func19, Try.ntmps19
    go_wp2_with fail
    refine (indexFunc_clss 43 _ (fun e => e.id == i) _ l _ (by with_reducible (repeat (first | exact hs.out | refine World.sl_ext Cls.cells_length ?_ _ | refine sl_alloc Cls.cells_length ?_ _ | refine sl_drew ?_))) hl (fun _ _ => by kernel_rfl) (fun n d => ?hcl)).mono ?_
    case hcl =>
      refine courseOf1_any n i _ _ ?_ ?_
      · simp [go_sem]
      · simp [go_sem]
    rintro e w1 ⟨rfl, d1, rfl⟩
    go_wp2_with (go_at_call 17; refine (areClasses_any _ l _ (by with_reducible (repeat (first | exact hs.out | refine World.sl_ext Cls.cells_length ?_ _ | refine sl_alloc Cls.cells_length ?_ _ | refine sl_drew ?_))) hl hq).mono ?_; rintro e w1 ⟨rfl, d1, rfl⟩)
    go_ret2
    rw [HE.out.1, HE.out.2]
    exact ⟨rfl, (by repeat (first | with_reducible (first | exact World.gained_refl _ | exact ⟨_, rfl⟩ | apply gain_ext | apply gain_alloc | apply gain_drewN | apply gain_drew) | (refine gain_setCell ?_ (by first | exact Nat.le_refl _ | exact World.size_ext _ _ | (simp; done) | (simp; omega)) _)))⟩
set_option maxHeartbeats 1000000 in
theorem specCourseOf_any (v : Value) (l : List Cls) (i : Int) (w : World) (h : w.sl Cls.cells 8 v l) (hl : l.length ≤ 1048576) (hq : ∀ x ∈ l, Cls.small x) :
    Calls Try.prog 20 #[v, .int .i64 i] w fun x w' => x = .returned (.tuple #[.int .i64 (courseI l i), .bool (courseB l i)]) ∧ ∃ d, w' = w.ext d := by
  have hs := Lib.hid h
  obtain ⟨p, c, rfl, _⟩ := h
  have HG := Lib.hid (l7Good_any _ l _ hs.out hl hq)
  cases hC : clssB l with
  | false =>
    have HE := Lib.hid (course_no (l := l) (i := i) (by simp [courseB, hC]))
    rw [hC] at HG
    clear hC
    go_enter Try.func20, Try.ntmps20
    go_wp2_with (go_at_call 25; refine HG.out.mono ?_; rintro e w1 ⟨rfl, d1, rfl⟩)
    go_ret2
    rw [HE.out.1, HE.out.2]
    exact ⟨rfl, (by repeat (first | with_reducible (first | exact World.gained_refl _ | exact ⟨_, rfl⟩ | apply gain_ext | apply gain_alloc | apply gain_drewN | apply gain_drew) | (refine gain_setCell ?_ (by first | exact Nat.le_refl _ | exact World.size_ext _ _ | (simp; done) | (simp; omega)) _)))⟩
  | true =>
    rw [hC] at HG
    have HC := Lib.hid hC
    clear hC
    go_enter Try.func20, Try.ntmps20
    go_wp2_with (go_at_call 25; refine HG.out.mono ?_; rintro e w1 ⟨rfl, d1, rfl⟩)
    go_loopw [6] (fun i_ wr => ∃ k : Nat, k ≤ l.length ∧ i_ = .int .i64 k ∧ (∀ (j : Nat) (hj : j < l.length), j < k → (l[j].id == i) = false) ∧ ∃ d, wr = w.ext d) (fun i_ _ => l.length - (intOf i_).toNat)
    case atStart => exact ⟨0, by omega, rfl, by simp, (by repeat (first | with_reducible (first | exact World.gained_refl _ | exact ⟨_, rfl⟩ | apply gain_ext | apply gain_alloc | apply gain_drewN | apply gain_drew) | (refine gain_setCell ?_ (by first | exact Nat.le_refl _ | exact World.size_ext _ _ | (simp; done) | (simp; omega)) _)))⟩
    case round =>
      obtain ⟨k, hk, rfl, hno, d, rfl⟩ := hrel
      have HN := Lib.hid hno
      clear hno
      by_cases hlt : k < l.length
      · obtain ⟨b, o, rfl⟩ := sl_some hs.out (by omega)
        have c0 := sl_cells hs.out hlt (j := 0) (by omega)
        have c6 := sl_cells hs.out hlt (j := 6) (by omega)
        have H1 := Lib.hid (fun hf => course_at hlt HN.out hf HC.out)
        have H2 := Lib.hid (fun (hf : (l[k].id == i) = false) => (show ∀ (j : Nat) (hj : j < l.length), j < k + 1 → (l[j].id == i) = false from fun j hj hjk => by
          by_cases e : j = k
          · subst e; exact hf
          · exact HN.out j hj (by omega)))
        generalize l[k] = y at c0 c6 H1 H2
        simp only [Cls.cells, List.getElem?_cons_zero, List.getElem?_cons_succ, Nat.add_zero] at c0 c6
        have ob := World.oldB_of_cell c0
        cases hf : (y.id == i) with
        | true =>
          have H1' := Lib.hid (H1.out hf)
          go_wp2
          go_ret2
          rw [H1'.out.1, H1'.out.2]
          exact ⟨rfl, (by repeat (first | with_reducible (first | exact World.gained_refl _ | exact ⟨_, rfl⟩ | apply gain_ext | apply gain_alloc | apply gain_drewN | apply gain_drew) | (refine gain_setCell ?_ (by first | exact Nat.le_refl _ | exact World.size_ext _ _ | (simp; done) | (simp; omega)) _)))⟩
        | false =>
          have H2' := Lib.hid (H2.out hf)
          go_wp2
          go_roundw
          case rel => exact ⟨k + 1, by omega, by go_num, H2'.out, (by repeat (first | with_reducible (first | exact World.gained_refl _ | exact ⟨_, rfl⟩ | apply gain_ext | apply gain_alloc | apply gain_drewN | apply gain_drew) | (refine gain_setCell ?_ (by first | exact Nat.le_refl _ | exact World.size_ext _ _ | (simp; done) | (simp; omega)) _)))⟩
          case measure => simp [intOf]; omega
      · have HE := Lib.hid (course_no (l := l) (i := i) (by
          have : hasC l i = false := by
            unfold hasC
            rw [List.any_eq_false]
            intro x hx
            obtain ⟨j, hj, rfl⟩ := List.getElem_of_mem hx
            simpa using HN.out j hj (by omega)
          simp [courseB, this]))
        go_wp2
        go_ret2
        rw [HE.out.1, HE.out.2]
        exact ⟨rfl, (by repeat (first | with_reducible (first | exact World.gained_refl _ | exact ⟨_, rfl⟩ | apply gain_ext | apply gain_alloc | apply gain_drewN | apply gain_drew) | (refine gain_setCell ?_ (by first | exact Nat.le_refl _ | exact World.size_ext _ _ | (simp; done) | (simp; omega)) _)))⟩
end Go.Proofs.Ytfenempljjenpaa
/- laws.rBig, vInts, vHas. Conditions: at most 1048576 numbers. -/
namespace Go.Proofs.Ytfenempljjenpaa
open Go.RowKit Go.Ori
theorem rBig_any (p : Option Addr) (n c : Nat) (w : World) (hn : n ≤ 9223372036854775807) :
    Calls Try.prog 4 #[.slice p n c] w fun x w' => x = .returned (.bool (decide (65536 < n))) ∧ w = w' := by
  by_cases h : 65536 < n
  · have hb : decide (65536 < n) = true := decide_eq_true h
    have hb2 : decide (65536 < (n : Int)) = true := decide_eq_true (by omega)
    go_enter Try.func4, Try.ntmps4
    go_wp2
    go_ret
    rw [hb]
    exact ⟨rfl, rfl⟩
  · have hb : decide (65536 < n) = false := decide_eq_false h
    have hb2 : decide (65536 < (n : Int)) = false := decide_eq_false (by omega)
    go_enter Try.func4, Try.ntmps4
    go_wp2
    go_ret
    rw [hb]
    exact ⟨rfl, rfl⟩
set_option maxHeartbeats 1000000 in
theorem rInts_same (v v2 : Value) (l : List Int) (w : World) (h : w.sl intC 1 v l) (h2 : w.sl intC 1 v2 l) (hl : l.length ≤ 1048576) :
    Calls Try.prog 8 #[v, v2] w fun x w' => x = .returned (.bool true) ∧ ∃ d, w' = w.ext d := by
  have hs := Lib.hid h
  have hs2 := Lib.hid h2
  obtain ⟨p, c, rfl, _⟩ := h
  obtain ⟨p2, c2, rfl, _⟩ := h2
  go_enter Try.func8, Try.ntmps8
  go_wp2
  go_loopw [5] (fun i wr => ∃ k : Nat, k ≤ l.length ∧ i = .int .i64 k ∧ ∃ d, wr = w.ext d) (fun i _ => l.length - (intOf i).toNat)
  case atStart => exact ⟨0, by omega, rfl, w.gained_refl⟩
  case round =>
    obtain ⟨k, hk, rfl, d, rfl⟩ := hrel
    by_cases hlt : k < l.length
    · obtain ⟨b, o, rfl⟩ := sl_some hs.out (by omega)
      obtain ⟨b2, o2, rfl⟩ := sl_some hs2.out (by omega)
      have c0 := sl_int hs.out hlt
      have e0 := sl_int hs2.out hlt
      generalize l[k] = x at c0 e0
      have ob := World.oldB_of_cell c0
      have ob2 := World.oldB_of_cell e0
      go_wp2
      refine wp_region_gain (by kernel_rfl) (by kernel_rfl) ?_
      repeat (first | go_big_quiet_skip | (go_big_quiet_want; go_big_quiet_op; first | go_big_quiet_on))
      refine wpQuiet_nil ?_
      rintro _ ⟨d', rfl⟩
      go_wp2
      go_roundw
      case rel => exact ⟨k + 1, by omega, by go_num, (by repeat (first | with_reducible (first | exact World.gained_refl _ | exact ⟨_, rfl⟩ | apply gain_ext | apply gain_alloc | apply gain_drewN | apply gain_drew) | (refine gain_setCell ?_ (by first | exact Nat.le_refl _ | exact World.size_ext _ _ | (simp; done) | (simp; omega)) _)))⟩
      case measure => simp [intOf]; omega
    · go_wp2
      go_ret
      exact ⟨rfl, _, rfl⟩
end Go.Proofs.Ytfenempljjenpaa
/- laws.rTable: of two that read alike it says true. Condition: a size of at most 1048576. -/
namespace Go.Proofs.Ytfenempljjenpaa
open Go.RowKit Go.Ori
theorem rInts1_same (v v2 : Value) (l : List Int) (w : World) (h : w.sl1 v l) (h2 : w.sl1 v2 l) (hT : tot1 l ≤ 1048576) :
    Calls Try.prog 8 #[v, v2] w fun x w' => x = .returned (.bool true) ∧ ∃ d, w' = w.ext d := rInts_same v v2 l w h h2 hT
set_option maxHeartbeats 1000000 in
theorem rTable_same (v v2 : Value) (l : List (List Int)) (w : World) (h : w.sl2 v l) (h2 : w.sl2 v2 l) (hT : tot2 l ≤ 1048576) :
    Calls Try.prog 13 #[v, v2] w fun x w' => x = .returned (.bool true) ∧ ∃ d, w' = w.ext d := by
  have hs := Lib.hid h
  have hs2 := Lib.hid h2
  have hl : l.length ≤ 1048576 := by unfold tot2 at hT; omega
  have HT := Lib.hid (fun (k : Nat) (hk : k < l.length) => Nat.le_trans (tot2_at hk) hT)
  obtain ⟨p, c, rfl⟩ := sl2_form h
  obtain ⟨p2, c2, rfl⟩ := sl2_form h2
  clear h h2 hT
  go_enter Try.func13, Try.ntmps13
  go_wp2
  go_loopw [5] (fun i wr => ∃ k : Nat, k ≤ l.length ∧ i = .int .i64 k ∧ ∃ d, wr = w.ext d) (fun i _ => l.length - (intOf i).toNat)
  case atStart => exact ⟨0, by omega, rfl, w.gained_refl⟩
  case round =>
    obtain ⟨k, hk, rfl, d, rfl⟩ := hrel
    by_cases hlt : k < l.length
    · obtain ⟨b, o, rfl⟩ := slOf_some hs.out (by omega)
      obtain ⟨b2, o2, rfl⟩ := slOf_some hs2.out (by omega)
      obtain ⟨u, c0, hu⟩ := slOf_at hs.out hlt
      obtain ⟨u2, e0, hu2⟩ := slOf_at hs2.out hlt
      have hu := Lib.hid hu
      have hu2 := Lib.hid hu2
      have ob := World.oldB_of_cell c0
      have ob2 := World.oldB_of_cell e0
      have hTk := Lib.hid (HT.out k hlt)
      go_wp2
      refine wp_region_gain (by kernel_rfl) (by kernel_rfl) ?_
      repeat (first | go_big_quiet_skip | (go_big_quiet_want; go_big_quiet_op; first | go_big_quiet_on | ((apply Exists.intro); (refine ⟨fun _ => ?_, ?_⟩); (· (go_at_call 8; exact Calls.gain (rInts1_same u u2 l[k] _ (sl1_up hu.out (by repeat (first | with_reducible (first | exact World.gained_refl _ | exact ⟨_, rfl⟩ | apply gain_ext | apply gain_alloc | apply gain_drewN | apply gain_drew) | (refine gain_setCell ?_ (by first | exact Nat.le_refl _ | exact World.size_ext _ _ | (simp; done) | (simp; omega)) _)))) (sl1_up hu2.out (by repeat (first | with_reducible (first | exact World.gained_refl _ | exact ⟨_, rfl⟩ | apply gain_ext | apply gain_alloc | apply gain_drewN | apply gain_drew) | (refine gain_setCell ?_ (by first | exact Nat.le_refl _ | exact World.size_ext _ _ | (simp; done) | (simp; omega)) _)))) hTk.out))); (go_big_quiet_on))))
      refine wpQuiet_nil ?_
      rintro _ ⟨d', rfl⟩
      go_wp2
      go_roundw
      case rel => exact ⟨k + 1, by omega, by go_num, gain_ext ⟨_, rfl⟩ _⟩
      case measure => simp [intOf]; omega
    · go_wp2
      go_ret
      exact ⟨rfl, _, rfl⟩
end Go.Proofs.Ytfenempljjenpaa
