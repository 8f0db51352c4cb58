/- Texts laid together: The draws of classes, runners. Condition: at most 1048576 bytes.; impl.isFor, impl.admits, spec.l7Admits; impl.DoesAdmit, spec.DoesAdmit. Condition: strings of at most 1048576 bytes. -/
import Derived.Test.YtfenempljjenpaaG9
import Derived.Test.YtfenempljjenpaaG15
import Derived.Test.YtfenempljjenpaaG3
import Derived.Test.YtfenempljjenpaaG7
import Derived.Test.YtfenempljjenpaaG11
/- The draws of classes, runners. Condition: at most 1048576 bytes. -/
namespace Go.Proofs.Ytfenempljjenpaa
open Go.RowKit Go.Ori
set_option maxHeartbeats 2000000 in
theorem drawFillClasses_any (v : Value) (L : List Int) (w : World) (h : w.sl byteC 1 v L) (hq : ∀ x ∈ L, 0 ≤ x ∧ x ≤ 255) (hl : L.length ≤ 1048576) :
    Calls Try.prog 5 #[v] w fun x w' => ∃ (lv rv : Value) (l : List Cls) (rs : List Runner), x = .returned (.tuple #[lv, rv]) ∧ (∃ d, w' = w.ext d) ∧ w'.sl Cls.cells 8 lv l ∧ w'.sl Runner.cells 6 rv rs ∧ l.length ≤ 20 ∧ rs.length ≤ 20 ∧ (∀ x ∈ l, Cls.small x) ∧ (∀ x ∈ rs, Runner.small x) := by
  have hs := Lib.hid h
  have HQ := Lib.hid hq
  obtain ⟨p, c, rfl, _⟩ := h
  clear hq
  have HCN := Lib.hid (cur_new (e := 54) hs.out HQ.out hl)
  go_enter Try.func5, Try.ntmps5
  go_wp2_with fail
  generalize w.alloc (.cells #[.slice p L.length c, .int .i64 0, .int .u64 0] 54) = w0 at HCN ⊢
  generalize w.heap.size = g at HCN ⊢
  refine (classes_any w w0 g 0 HCN.out (by omega)).mono ?_
  rintro e w1 ⟨lv, l, rfl, hls, hll⟩
  have HL := Lib.hid hls
  have HO := Lib.hid (own_base hls.own (Nat.zero_le _))
  have HSM := Lib.hid hls.sm
  obtain ⟨pl, kl, rfl, _⟩ := sl_of_own Cls.cells_length hls.own
  clear hls HCN
  go_wp2_with fail
  refine (runners_any w w1 g _ HL.out.cur (by omega)).mono ?_
  rintro e w2 ⟨rv, rs, rfl, hrs, hrl⟩
  have hsl := sl_of_own Cls.cells_length (own_cur HL.out.own HL.out.g2 hrs.gr)
  go_wp2
  go_ret2
  exact ⟨_, _, l, rs, rfl, hrs.cur.up, hsl, sl_of_own Runner.cells_length hrs.own, hll, hrl, HSM.out, hrs.sm⟩
set_option maxHeartbeats 2000000 in
theorem drawAgesWithout_any (v : Value) (L : List Int) (w : World) (h : w.sl byteC 1 v L) (hq : ∀ x ∈ L, 0 ≤ x ∧ x ≤ 255) (hl : L.length ≤ 1048576) :
    Calls Try.prog 10 #[v] w fun x w' => ∃ (lv : Value) (l : List Cls) (b : Bool), x = .returned (.tuple #[lv, .bool b]) ∧ (∃ d, w' = w.ext d) ∧ w'.sl Cls.cells 8 lv l ∧ l.length ≤ 20 ∧ (∀ x ∈ l, Cls.small x) := by
  have hs := Lib.hid h
  have HQ := Lib.hid hq
  obtain ⟨p, c, rfl, _⟩ := h
  clear hq
  have HCN := Lib.hid (cur_new (e := 54) hs.out HQ.out hl)
  go_enter Try.func10, Try.ntmps10
  go_wp2_with fail
  generalize w.alloc (.cells #[.slice p L.length c, .int .i64 0, .int .u64 0] 54) = w0 at HCN ⊢
  generalize w.heap.size = g at HCN ⊢
  refine (classes_any w w0 g 0 HCN.out (by omega)).mono ?_
  rintro e w1 ⟨lv, l, rfl, hls, hll⟩
  have HL := Lib.hid hls
  have HO := Lib.hid (own_base hls.own (Nat.zero_le _))
  have HSM := Lib.hid hls.sm
  obtain ⟨pl, kl, rfl, _⟩ := sl_of_own Cls.cells_length hls.own
  clear hls HCN
  go_wp2_with fail
  refine (one_any w w1 g _ _ HL.out.cur (by omega)).mono ?_
  rintro e w2 ⟨b, rfl, hc1, hg1⟩
  have hsl := sl_of_own Cls.cells_length (own_cur HL.out.own HL.out.g2 hg1)
  go_wp2
  go_ret2
  exact ⟨_, l, b, rfl, hc1.up, hsl, hll, HSM.out⟩
set_option maxHeartbeats 2000000 in
theorem drawAreClasses_any (v : Value) (L : List Int) (w : World) (h : w.sl byteC 1 v L) (hq : ∀ x ∈ L, 0 ≤ x ∧ x ≤ 255) (hl : L.length ≤ 1048576) :
    Calls Try.prog 35 #[v] w fun x w' => ∃ (lv : Value) (l : List Cls), x = .returned lv ∧ (∃ d, w' = w.ext d) ∧ w'.sl Cls.cells 8 lv l ∧ l.length ≤ 20 ∧ (∀ x ∈ l, Cls.small x) := by
  have hs := Lib.hid h
  have HQ := Lib.hid hq
  obtain ⟨p, c, rfl, _⟩ := h
  clear hq
  have HCN := Lib.hid (cur_new (e := 54) hs.out HQ.out hl)
  go_enter Try.func35, Try.ntmps35
  go_wp2_with fail
  generalize w.alloc (.cells #[.slice p L.length c, .int .i64 0, .int .u64 0] 54) = w0 at HCN ⊢
  generalize w.heap.size = g at HCN ⊢
  refine (classes_any w w0 g 0 HCN.out (by omega)).mono ?_
  rintro e w1 ⟨lv, l, rfl, hls, hll⟩
  have HL := Lib.hid hls
  have HO := Lib.hid (own_base hls.own (Nat.zero_le _))
  have HSM := Lib.hid hls.sm
  obtain ⟨pl, kl, rfl, _⟩ := sl_of_own Cls.cells_length hls.own
  clear hls HCN
  go_wp2
  go_ret
  exact ⟨_, l, rfl, HL.out.cur.up, sl_of_own Cls.cells_length HL.out.own, hll, HSM.out⟩
set_option maxHeartbeats 2000000 in
theorem drawSharedCourses_any (v : Value) (L : List Int) (w : World) (h : w.sl byteC 1 v L) (hq : ∀ x ∈ L, 0 ≤ x ∧ x ≤ 255) (hl : L.length ≤ 1048576) :
    Calls Try.prog 14 #[v] w fun x w' => ∃ (lv : Value) (l : List Cls), x = .returned lv ∧ (∃ d, w' = w.ext d) ∧ w'.sl Cls.cells 8 lv l ∧ l.length ≤ 20 ∧ (∀ x ∈ l, Cls.small x) := by
  have hs := Lib.hid h
  have HQ := Lib.hid hq
  obtain ⟨p, c, rfl, _⟩ := h
  go_enter Try.func14, Try.ntmps14
  go_wp2_with fail
  refine (drawAreClasses_any _ L _ hs.out HQ.out hl).mono ?_
  rintro e w1 ⟨lv, l, rfl, hg, hsl, hll, hsm⟩
  obtain ⟨pl, kl, rfl, _⟩ := id hsl
  go_wp2
  go_ret
  exact ⟨_, l, rfl, hg, hsl, hll, hsm⟩
set_option maxHeartbeats 4000000 in
set_option maxRecDepth 100000 in
theorem drawCourseOf_any (v : Value) (L : List Int) (w : World) (h : w.sl byteC 1 v L) (hq : ∀ x ∈ L, 0 ≤ x ∧ x ≤ 255) (hl : L.length ≤ 1048576) :
    Calls Try.prog 18 #[v] w fun x w' => ∃ (lv : Value) (l : List Cls) (i : Int), x = .returned (.tuple #[lv, .int .i64 i]) ∧ (∃ d, w' = w.ext d) ∧ w'.sl Cls.cells 8 lv l ∧ l.length ≤ 20 ∧ (∀ x ∈ l, Cls.small x) := by
  have hs := Lib.hid h
  have HQ := Lib.hid hq
  obtain ⟨p, c, rfl, _⟩ := h
  clear hq
  have HCN := Lib.hid (cur_new (e := 54) hs.out HQ.out hl)
  go_enter Try.func18, Try.ntmps18
  go_wp2_with fail
  generalize w.alloc (.cells #[.slice p L.length c, .int .i64 0, .int .u64 0] 54) = w0 at HCN ⊢
  generalize w.heap.size = g at HCN ⊢
  refine (classes_any w w0 g 0 HCN.out (by omega)).mono ?_
  rintro e w1 ⟨lv, l, rfl, hls, hll⟩
  have HL := Lib.hid hls
  have HO := Lib.hid (own_base hls.own (Nat.zero_le _))
  have HSM := Lib.hid hls.sm
  obtain ⟨pl, kl, rfl, _⟩ := sl_of_own Cls.cells_length hls.own
  clear hls HCN
  by_cases h0 : l.length = 0
  · have hz : decide (0 < (l.length : Int)) = false := decide_eq_false (by omega)
    have hz2 : decide (0 < l.length) = false := decide_eq_false (by omega)
    clear h0
    go_wp2_with fail
    refine (among_any w _ g _ _ [0, 1, 50] (w1).heap.size (HL.out.cur.gain (by repeat (first | with_reducible (first | exact World.gained_refl _ | exact ⟨_, rfl⟩ | apply gain_ext | apply gain_alloc | apply gain_drewN | apply gain_drew) | (refine gain_setCell ?_ (by first | exact Nat.le_refl _ | exact World.size_ext _ _ | (simp; done) | (simp; omega)) _)))) (by omega) (own_lit' (w := w1) (e := 3) (base := (w1).heap.size) (C := #[.int .i64 0, .int .i64 1, .int .i64 50]) (l := [0, 1, 50]) intC_length rfl rfl (Nat.le_refl _)) HL.out.cur.lt (by simp) (by simp)).mono ?_
    rintro e w3 ⟨x1, rfl, -, hc1, hg1⟩
    have hsl := sl_of_own Cls.cells_length (own_cur (own_up HL.out.own (by repeat (first | with_reducible (first | exact World.gained_refl _ | exact ⟨_, rfl⟩ | apply gain_ext | apply gain_alloc | apply gain_drewN | apply gain_drew) | (refine gain_setCell ?_ (by first | exact Nat.le_refl _ | exact World.size_ext _ _ | (simp; done) | (simp; omega)) _)))) HL.out.g2 hg1)
    go_wp2
    go_ret2
    exact ⟨_, l, _, rfl, hc1.up, hsl, hll, HSM.out⟩
  · have hz : decide (0 < (l.length : Int)) = true := decide_eq_true (by omega)
    have hz2 : decide (0 < l.length) = true := decide_eq_true (by omega)
    have h1 : 0 < l.length := by omega
    clear h0
    go_wp2_with fail
    refine (one_any w w1 g _ _ HL.out.cur (by omega)).mono ?_
    rintro e w2 ⟨b, rfl, hc1, hg1⟩
    have HL2 := Lib.hid (HL.out.on hc1 hg1)
    clear hc1 hg1
    cases b with
    | true =>
      go_wp2_with fail
      refine (among_any w _ g _ _ [0, 1, 50] (w2).heap.size (HL2.out.cur.gain (by repeat (first | with_reducible (first | exact World.gained_refl _ | exact ⟨_, rfl⟩ | apply gain_ext | apply gain_alloc | apply gain_drewN | apply gain_drew) | (refine gain_setCell ?_ (by first | exact Nat.le_refl _ | exact World.size_ext _ _ | (simp; done) | (simp; omega)) _)))) (by omega) (own_lit' (w := w2) (e := 3) (base := (w2).heap.size) (C := #[.int .i64 0, .int .i64 1, .int .i64 50]) (l := [0, 1, 50]) intC_length rfl rfl (Nat.le_refl _)) HL2.out.cur.lt (by simp) (by simp)).mono ?_
      rintro e w3 ⟨x1, rfl, -, hc1, hg1⟩
      have hsl := sl_of_own Cls.cells_length (own_cur (own_up HL2.out.own (by repeat (first | with_reducible (first | exact World.gained_refl _ | exact ⟨_, rfl⟩ | apply gain_ext | apply gain_alloc | apply gain_drewN | apply gain_drew) | (refine gain_setCell ?_ (by first | exact Nat.le_refl _ | exact World.size_ext _ _ | (simp; done) | (simp; omega)) _)))) HL2.out.g2 hg1)
      go_wp2
      go_ret2
      exact ⟨_, l, _, rfl, hc1.up, hsl, hll, HSM.out⟩
    | false =>
      obtain ⟨b, o, rfl⟩ := sl_some (sl_of_own Cls.cells_length HL2.out.own) h1
      go_upto_region 4 with fail
      refine wp_region_held_drew (S := (fun w' => w'.sl Cls.cells 8 (.slice (some ⟨b, o, none⟩) l.length kl) l)) (by kernel_rfl) (sl_drew (sl_of_own Cls.cells_length HL2.out.own)) (fun hHeld => ?_)
      refine wpAnyH_take (i := 0) (oi := ⟨_, _, _, _, _, _⟩) (v := ?_) rfl (by kernel_rfl) (by kernel_rfl) (by kernel_rfl) (fun _ _ _ h => h) (Or.inl ⟨by rfl, ?_⟩) (by assumption) ?_
      rotate_left
      · intro w hSw; (try dsimp only at hSw); go_simp; (try with_reducible rfl)
      try simp only [Act.put, List.setIfInBounds_toArray, List.set_cons_zero, List.set_cons_succ]
      refine wpAnyH_take (i := 1) (oi := ⟨_, _, _, _, _, _⟩) (v := ?_) rfl (by kernel_rfl) (by kernel_rfl) (by kernel_rfl) (fun _ _ _ h => h) (Or.inl ⟨by rfl, ?_⟩) (by assumption) ?_
      rotate_left
      · intro w hSw; (try dsimp only at hSw); go_simp; (try with_reducible rfl)
      try simp only [Act.put, List.setIfInBounds_toArray, List.set_cons_zero, List.set_cons_succ]
      refine wpAnyH_take (i := 2) (oi := ⟨_, _, _, _, _, _⟩) (v := ?_) rfl (by kernel_rfl) (by kernel_rfl) (by kernel_rfl) (fun _ _ _ h => h) (Or.inl ⟨by rfl, ?_⟩) (by assumption) ?_
      rotate_left
      · intro w hSw; (try dsimp only at hSw); go_simp; (try with_reducible rfl)
      try simp only [Act.put, List.setIfInBounds_toArray, List.set_cons_zero, List.set_cons_succ]
      refine wpAnyH_take (i := 3) (oi := ⟨_, _, _, _, _, _⟩) (v := ?_) rfl (by kernel_rfl) (by kernel_rfl) (by kernel_rfl) (fun _ _ _ h => h) (Or.inl ⟨by rfl, ?_⟩) (by assumption) ?_
      rotate_left
      · intro w hSw; (try dsimp only at hSw); go_simp; (try with_reducible rfl)
      try simp only [Act.put, List.setIfInBounds_toArray, List.set_cons_zero, List.set_cons_succ]
      refine wpAnyH_take (i := 4) (oi := ⟨_, _, _, _, _, _⟩) (v := ?_) rfl (by kernel_rfl) (by kernel_rfl) (by kernel_rfl) (fun _ _ _ h => h) (Or.inl ⟨by rfl, ?_⟩) (by assumption) ?_
      rotate_left
      · intro w hSw; (try dsimp only at hSw); go_simp; (try with_reducible rfl)
      try simp only [Act.put, List.setIfInBounds_toArray, List.set_cons_zero, List.set_cons_succ]
      refine wpAnyH_ready (rs := [5]) (by kernel_rfl) (by simp) ?_
      refine AllReadyH.cons rfl (fun K hK => ?_) (AllReadyH.nil)
      go_simp
      go_wp2_with fail
      refine (pick_any w _ g _ _ (HL2.out.cur.gain (by repeat (first | with_reducible (first | exact World.gained_refl _ | exact ⟨_, rfl⟩ | apply gain_ext | apply gain_alloc | apply gain_drewN | apply gain_drew) | (refine gain_setCell ?_ (by first | exact Nat.le_refl _ | exact World.size_ext _ _ | (simp; done) | (simp; omega)) _)))) (by omega)).mono ?_
      rintro e w3 ⟨r, rfl, q1, q2, hcq, hgq⟩
      obtain ⟨k, rfl⟩ : ∃ k : Nat, r = (k : Int) := ⟨r.toNat, by omega⟩
      have hk : k < l.length := by omega
      have HL3 := Lib.hid ((HL2.out.up (by repeat (first | with_reducible (first | exact World.gained_refl _ | exact ⟨_, rfl⟩ | apply gain_ext | apply gain_alloc | apply gain_drewN | apply gain_drew) | (refine gain_setCell ?_ (by first | exact Nat.le_refl _ | exact World.size_ext _ _ | (simp; done) | (simp; omega)) _)))).on hcq hgq)
      clear hcq hgq q1 q2
      (try dsimp only)
      refine hK.out _ _ ?_ (fun hHeld => ?_)
      · exact sl_of_own Cls.cells_length HL3.out.own
      clear hK K
      try simp only [Act.put, List.setIfInBounds_toArray, List.set_cons_zero, List.set_cons_succ]
      have hk0 : (0 : Int) ≤ (k : Int) := by omega
      have hk1 : (k : Int) < (l.length : Int) := by omega
      obtain ⟨y, hy⟩ : ∃ y, l[k].id = y := ⟨_, rfl⟩
      refine wpAnyH_take (i := 6) (oi := ⟨_, _, _, _, _, _⟩) (v := ?_) rfl (by kernel_rfl) (by kernel_rfl) (by kernel_rfl) (fun _ _ _ h => h) (Or.inl ⟨by rfl, ?_⟩) (by assumption) ?_
      rotate_left
      · intro w hSw; (try dsimp only at hSw); go_simp; (try with_reducible rfl)
      try simp only [Act.put, List.setIfInBounds_toArray, List.set_cons_zero, List.set_cons_succ]
      refine wpAnyH_take (i := 7) (oi := ⟨_, _, _, _, _, _⟩) (v := ?_) rfl (by kernel_rfl) (by kernel_rfl) (by kernel_rfl) (fun _ _ _ h => h) (Or.inl ⟨by rfl, ?_⟩) (by assumption) ?_
      rotate_left
      · intro w hSw; (try dsimp only at hSw); go_simp; (try with_reducible rfl)
      try simp only [Act.put, List.setIfInBounds_toArray, List.set_cons_zero, List.set_cons_succ]
      refine wpAnyH_take (i := 8) (oi := ⟨_, _, _, _, _, _⟩) (v := .int .i64 y) rfl (by kernel_rfl) (by kernel_rfl) (by kernel_rfl) (fun _ _ _ h => h) (Or.inl ⟨by rfl, ?_⟩) (by assumption) ?_
      · intro w hSw
        (try dsimp only at hSw)
        have ck := sl_cells hSw hk (j := 0) (by omega)
        simp only [Cls.cells, List.getElem?_cons_zero, hy, Nat.add_zero] at ck
        have ob := World.oldB_of_cell ck
        clear hSw
        go_simp
        (try with_reducible rfl)
      try simp only [Act.put, List.setIfInBounds_toArray, List.set_cons_zero, List.set_cons_succ]
      refine wpAnyH_take (i := 9) (oi := ⟨_, _, _, _, _, _⟩) (v := ?_) rfl (by kernel_rfl) (by kernel_rfl) (by kernel_rfl) (fun _ _ _ h => h) (Or.inl ⟨by rfl, ?_⟩) (by assumption) ?_
      rotate_left
      · intro w hSw; (try dsimp only at hSw); go_simp; (try with_reducible rfl)
      try simp only [Act.put, List.setIfInBounds_toArray, List.set_cons_zero, List.set_cons_succ]
      refine wpAnyH_take (i := 10) (oi := ⟨_, _, _, _, _, _⟩) (v := ?_) rfl (by kernel_rfl) (by kernel_rfl) (by kernel_rfl) (fun _ _ _ h => h) (Or.inl ⟨by rfl, ?_⟩) (by assumption) ?_
      rotate_left
      · intro w hSw; (try dsimp only at hSw); go_simp; (try with_reducible rfl)
      try simp only [Act.put, List.setIfInBounds_toArray, List.set_cons_zero, List.set_cons_succ]
      refine wpAnyH_done (by kernel_rfl) ?_ _
      go_wp2
      go_ret2
      exact ⟨_, l, _, rfl, HL3.out.cur.up, sl_of_own Cls.cells_length HL3.out.own, hll, HSM.out⟩
end Go.Proofs.Ytfenempljjenpaa
/- impl.isFor, impl.admits, spec.l7Admits; impl.DoesAdmit, spec.DoesAdmit. Condition: strings of at most 1048576 bytes. -/
namespace Go.Proofs.Ytfenempljjenpaa
open Go.RowKit Go.Ori
set_option maxHeartbeats 1000000 in
theorem isFor_any (c : Cls) (age : Int) (woman : Bool) (w : World) :
    Calls Try.prog 34 #[.agg #[.int .i64 c.id, .string c.name, .int .i64 c.low, .int .i64 c.high, .bool c.women, .bool c.men, .int .i64 c.course, .int .i64 c.most], .int .i64 age, .bool woman] w fun x w' => x = .returned (.bool (forB c age woman)) ∧ ∃ d, w' = w.ext d := by
  go_enter Try.func34, Try.ntmps34
  go_wp2_with (go_at_call 51; refine (inside_any _ _ _ _).mono ?_; rintro e w1 ⟨rfl, rfl⟩)
  all_goals go_ret
  all_goals refine ⟨?_, gain_alloc w.gained_refl _⟩
  all_goals simp [forB, *]
set_option maxHeartbeats 1000000 in
theorem l7Admits_any (c : Cls) (age : Int) (woman : Bool) (w : World) :
    Calls Try.prog 27 #[.agg #[.int .i64 c.id, .string c.name, .int .i64 c.low, .int .i64 c.high, .bool c.women, .bool c.men, .int .i64 c.course, .int .i64 c.most], .int .i64 age, .bool woman] w fun x w' => x = .returned (.bool (forB c age woman)) ∧ ∃ d, w' = w.ext d := by
  go_enter Try.func27, Try.ntmps27
  go_wp2_with (go_at_call 50; refine (l1In_any _ _ _ _).mono ?_; rintro e w1 ⟨rfl, rfl⟩)
  all_goals go_ret
  all_goals refine ⟨?_, gain_alloc w.gained_refl _⟩
  all_goals simp [forB, *]
/-- A year of birth is one of Go's numbers: so the age is. -/
theorem admits_any (c : Cls) (r : Runner) (w : World) (hb : 1920 ≤ r.born ∧ r.born ≤ 2020) :
    Calls Try.prog 30 #[.agg #[.int .i64 c.id, .string c.name, .int .i64 c.low, .int .i64 c.high, .bool c.women, .bool c.men, .int .i64 c.course, .int .i64 c.most], .agg #[.int .i64 r.id, .string r.name, .string r.club, .int .i64 r.born, .bool r.woman, .int .i64 r.card]] w fun x w' => x = .returned (.bool (admitB c r)) ∧ ∃ d, w' = w.ext d := by
  go_enter Try.func30, Try.ntmps30
  go_wp2_with (go_at_call 34; refine (isFor_any _ _ _ _).mono ?_; rintro e w1 ⟨rfl, d1, rfl⟩)
  go_ret
  exact ⟨rfl, (by repeat (first | with_reducible (first | exact World.gained_refl _ | exact ⟨_, rfl⟩ | apply gain_ext | apply gain_alloc | apply gain_drewN | apply gain_drew) | (refine gain_setCell ?_ (by first | exact Nat.le_refl _ | exact World.size_ext _ _ | (simp; done) | (simp; omega)) _)))⟩
end Go.Proofs.Ytfenempljjenpaa
