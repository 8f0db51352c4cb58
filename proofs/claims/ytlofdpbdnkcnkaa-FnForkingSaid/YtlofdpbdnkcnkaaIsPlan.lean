/- impl.IsPlanOf, spec.IsPlanOf, impl.isRows, spec.l9Good. Condition: a size of at most 1048576. -/
import Derived.Test.YtlofdpbdnkcnkaaRows
import Derived.Test.YtlofdpbdnkcnkaaPlanB
import Derived.Test.YtlofdpbdnkcnkaaIdxInts
import Derived.Test.YtlofdpbdnkcnkaaInside
import Derived.Test.YtlofdpbdnkcnkaaL1In
namespace Go.Proofs.Ytlofdpbdnkcnkaa
open Go.RowKit Go.Ori
theorem areLegs_any (legs forks : Int) (w : World) :
    Calls Try.prog 50 #[.int .i64 legs, .int .i64 forks] w fun x w' => x = .returned (.bool (sizeB legs forks)) ∧ w = w' := by
  go_enter Try.func50, Try.ntmps50
  go_wp2_with (go_at_call 51; refine (inside_any _ _ _ _).mono ?_; rintro e w1 ⟨rfl, rfl⟩)
  all_goals go_ret
  all_goals refine ⟨?_, rfl⟩
  all_goals simp [sizeB, *]
theorem l9Size_any (legs forks : Int) (w : World) :
    Calls Try.prog 56 #[.int .i64 legs, .int .i64 forks] w fun x w' => x = .returned (.bool (sizeB legs forks)) ∧ w = w' := by
  go_enter Try.func56, Try.ntmps56
  go_wp2_with (go_at_call 57; refine (l1In_any _ _ _ _).mono ?_; rintro e w1 ⟨rfl, rfl⟩)
  all_goals go_ret
  all_goals refine ⟨?_, rfl⟩
  all_goals simp [sizeB, *]
theorem isRows1_any (n m : Int) (a : Addr) (w : World) (ob : w.oldB a.block) (hc : w.cell? a = some (.int .i64 m)) :
    Calls Try.prog 72 #[.int .i64 n, .pointer (some a)] w fun x w' => x = .returned (.bool (!insB n 0 m)) ∧ ∃ d, w' = w.ext d := by
  go_enter Try.func72, Try.ntmps72
  go_wp2_with (go_at_call 51; refine (inside_any _ _ _ _).mono ?_; rintro e w1 ⟨rfl, rfl⟩)
  go_ret
  exact ⟨rfl, w.gained_refl⟩
theorem any_not_all (row : List Int) (m : Int) : (row.any fun n => !insB n 0 m) = !(row.all fun n => insB n 0 m) := by
  rw [List.not_all_eq_any_not]
set_option maxHeartbeats 1000000 in
theorem isRows_any (v : Value) (l : List (List Int)) (count size most : Int) (w : World) (h : w.sl2 v l) (hT : tot2 l ≤ 1048576) :
    Calls Try.prog 54 #[v, .int .i64 count, .int .i64 size, .int .i64 most] w fun x w' => x = .returned (.bool (rowsB count size most l)) ∧ ∃ d, w' = w.ext d := by
  have hs := Lib.hid h
  have HT := Lib.hid (fun (k : Nat) (hk : k < l.length) => Nat.le_trans (tot2_at hk) hT)
  have hl : l.length ≤ 1048576 := by have := tot2_len l; omega
  obtain ⟨p, c, rfl⟩ := sl2_form h
  clear h hT
  cases hc : decide ((l.length : Int) = count) with
  | false =>
    have HR := Lib.hid (show rowsB count size most l = false by simp [rowsB, hc])
    have hne : ¬ (l.length : Int) = count := by simpa using hc
    go_enter Try.func54, Try.ntmps54
    go_wp2
    go_ret
    rw [HR.out]
    exact ⟨rfl, (by repeat (first | with_reducible (first | exact World.gained_refl _ | exact ⟨_, rfl⟩ | apply gain_ext | apply gain_alloc | apply gain_drewN | apply gain_drew) | (refine gain_setCell ?_ (by first | exact Nat.le_refl _ | exact World.size_ext _ _ | (simp; done) | (simp; omega)) _)))⟩
  | true =>
    have he : (l.length : Int) = count := by simpa using hc
    have HR := Lib.hid (show rowsB count size most l = l.all (rowB size most) by simp [rowsB, he])
    subst he
    clear hc
    go_enter Try.func54, Try.ntmps54
    go_wp2
    generalize hW : w.alloc (.cells #[.int .i64 most] 3) = W
    have hgW : ∃ d, W = w.ext d := by rw [← hW]; exact gain_alloc w.gained_refl _
    have hb0 : W.cell? ⟨w.heap.size, 0, none⟩ = some (.int .i64 most) := by rw [← hW]; simp [go_sem]
    have hsW := Lib.hid (sl2_up hs.out hgW)
    have HGW := Lib.hid hgW
    clear hW hgW hs
    have obb := World.oldB_of_cell hb0
    go_loopw [17] (fun i wr => ∃ k : Nat, k ≤ l.length ∧ i = .int .i64 k ∧ (∀ (j : Nat) (hj : j < l.length), j < k → rowB size most l[j] = true) ∧ ∃ d, wr = W.ext d) (fun i _ => l.length - (intOf i).toNat)
    case atStart => exact ⟨0, by omega, rfl, by simp, W.gained_refl⟩
    case round =>
      obtain ⟨k, hk, rfl, hno, d, rfl⟩ := hrel
      have HN := Lib.hid hno
      clear hno
      by_cases hlt : k < l.length
      · obtain ⟨b, o, rfl⟩ := slOf_some hsW.out (by omega)
        obtain ⟨u, c0, hu⟩ := slOf_at hsW.out hlt
        have hlk := Lib.hid (HT.out k hlt)
        have H1 := Lib.hid (fun (hf : rowB size most l[k] = false) => all_no hlt hf)
        have H2 := Lib.hid (fun (hf : rowB size most l[k] = true) => step_at HN.out (fun _ => hf))
        generalize l[k] = row at hu hlk H1 H2
        obtain ⟨pr, cr, rfl⟩ := sl1_form hu
        have HU := Lib.hid hu
        clear hu
        have ob := World.oldB_of_cell c0
        cases hlen : decide ((row.length : Int) = size) with
        | false =>
          have hne : ¬ (row.length : Int) = size := by simpa using hlen
          have H1' := Lib.hid (H1.out (by simp [rowB, hlen]))
          clear hlen
          go_wp2
          go_ret
          rw [HR.out, H1'.out]
          exact ⟨rfl, gain_trans HGW.out (by repeat (first | with_reducible (first | exact World.gained_refl _ | exact ⟨_, rfl⟩ | apply gain_ext | apply gain_alloc | apply gain_drewN | apply gain_drew) | (refine gain_setCell ?_ (by first | exact Nat.le_refl _ | exact World.size_ext _ _ | (simp; done) | (simp; omega)) _)))⟩
        | true =>
          have hee : (row.length : Int) = size := by simpa using hlen
          have HRow := Lib.hid (show rowB size most row = (row.all fun n => insB n 0 most) by simp [rowB, hee])
          clear hlen
          have HCF := Lib.hid (fun (w' : World) (hw : ∃ d, w' = W.ext d) => containsFunc_ints 72 #[.pointer (some ⟨w.heap.size, 0, none⟩)] (fun n => !insB n 0 most) _ row w' (sl1_up HU.out hw) hlk.out (fun _ _ => by kernel_rfl) (fun n d' => isRows1_any n most _ _ (by
            obtain ⟨d0, rfl⟩ := hw
            exact World.oldB_of_cell (cell_ext (cell_ext hb0 _) _)) (by
            obtain ⟨d0, rfl⟩ := hw
            exact cell_ext (cell_ext hb0 _) _)))
          cases hal : (row.all fun n => insB n 0 most) with
          | false =>
            have H1' := Lib.hid (H1.out (by rw [HRow.out, hal]))
            rw [any_not_all, hal] at HCF
            clear hal
            go_wp2_with (go_at_call 71; refine (HCF.out _ ⟨_, rfl⟩).mono ?_; rintro e w1 ⟨rfl, d1, rfl⟩)
            go_ret
            rw [HR.out, H1'.out]
            exact ⟨rfl, gain_trans HGW.out (by repeat (first | with_reducible (first | exact World.gained_refl _ | exact ⟨_, rfl⟩ | apply gain_ext | apply gain_alloc | apply gain_drewN | apply gain_drew) | (refine gain_setCell ?_ (by first | exact Nat.le_refl _ | exact World.size_ext _ _ | (simp; done) | (simp; omega)) _)))⟩
          | true =>
            have H2' := Lib.hid (H2.out (by rw [HRow.out, hal]))
            rw [any_not_all, hal] at HCF
            clear hal
            go_wp2_with (go_at_call 71; refine (HCF.out _ ⟨_, rfl⟩).mono ?_; rintro e w1 ⟨rfl, d1, rfl⟩)
            go_roundw
            case rel => exact ⟨k + 1, by omega, by go_num, H2'.out, (by repeat (first | with_reducible (first | exact World.gained_refl _ | exact ⟨_, rfl⟩ | apply gain_ext | apply gain_alloc | apply gain_drewN | apply gain_drew) | (refine gain_setCell ?_ (by first | exact Nat.le_refl _ | exact World.size_ext _ _ | (simp; done) | (simp; omega)) _)))⟩
            case measure => simp [intOf]; omega
      · have HY := Lib.hid (all_yes (l := l) (p := rowB size most) (fun j hj => HN.out j hj (by omega)))
        go_wp2
        go_ret
        rw [HR.out, HY.out]
        exact ⟨rfl, gain_trans HGW.out (by repeat (first | with_reducible (first | exact World.gained_refl _ | exact ⟨_, rfl⟩ | apply gain_ext | apply gain_alloc | apply gain_drewN | apply gain_drew) | (refine gain_setCell ?_ (by first | exact Nat.le_refl _ | exact World.size_ext _ _ | (simp; done) | (simp; omega)) _)))⟩
theorem isPlanOf1_any (v : Value) (l : List (List Int)) (L F : Nat) (a b : Addr) (w : World) (h : w.sl2 v l) (hT : tot2 l ≤ 1048576) (h1 : 1 ≤ L) (h2 : L ≤ 4) (oa : w.oldB a.block) (ob : w.oldB b.block) (ha : w.cell? a = some (.int .i64 L)) (hb : w.cell? b = some (.int .i64 F)) :
    Calls Try.prog 53 #[v, .pointer (some a), .pointer (some b)] w fun x w' => x = .returned (.bool (!rowsB L F ((L : Int) - 1) l)) ∧ ∃ d, w' = w.ext d := by
  obtain ⟨p, c, rfl⟩ := sl2_form h
  go_enter Try.func53, Try.ntmps53
  go_wp2_with fail
  refine (isRows_any _ l L F ((L : Int) - 1) _ h hT).mono ?_
  rintro e w1 ⟨rfl, d1, rfl⟩
  go_wp2
  go_ret
  exact ⟨rfl, _, rfl⟩
set_option maxHeartbeats 1000000 in
theorem indexFunc_plans (K : FuncId) (caps : Array Value) (f : List (List Int) → Bool) (v : Value) (l : List (List (List Int))) (w : World) (h : w.sl3 v l) (hl : l.length ≤ 1048576)
    (hcf : ∀ args W, (callFunc K args).run Try.prog W = .ok (.enter K args) W)
    (hcl : ∀ (k : Nat) (hk : k < l.length) u d, (w.ext d).sl2 u l[k] → Calls Try.prog K (#[u] ++ caps) (w.ext d) fun x w' => x = .returned (.bool (f l[k])) ∧ ∃ d', w' = (w.ext d).ext d') :
    Calls Try.prog 70 #[v, .func (.func K) #[] caps] w fun x w' => x = .returned (.int .i64 (idxB l f)) ∧ ∃ d, w' = w.ext d := by
  have hs := Lib.hid h
  have HCL := Lib.hid hcl
  obtain ⟨p, c, rfl⟩ := sl3_form h
  clear hcl h
  go_enter Try.func70, Try.ntmps70
  go_wp2
  go_loopw [8] (fun i wr => ∃ k : Nat, k ≤ l.length ∧ i = .int .i64 k ∧ (∀ (j : Nat) (hj : j < l.length), j < k → f l[j] = false) ∧ ∃ d, wr = w.ext d) (fun i _ => l.length - (intOf i).toNat)
  case atStart => exact ⟨0, by omega, rfl, by simp, w.gained_refl⟩
  case round =>
    obtain ⟨k, hk, rfl, hno, d, rfl⟩ := hrel
    have HN := Lib.hid hno
    clear hno
    by_cases hlt : k < l.length
    · obtain ⟨b, o, rfl⟩ := slOf_some hs.out (by omega)
      obtain ⟨u, c0, hu⟩ := slOf_at hs.out hlt
      have H1 := Lib.hid (fun (hf : f l[k] = true) => idxB_some hlt (HN.out) hf)
      have H2 := Lib.hid (fun (hf : f l[k] = false) => (show ∀ (j : Nat) (hj : j < l.length), j < k + 1 → f l[j] = false from fun j hj hjk => by
        by_cases e : j = k
        · subst e; exact hf
        · exact HN.out j hj (by omega)))
      have HC := Lib.hid (HCL.out k hlt u d (sl2_up hu ⟨_, rfl⟩))
      generalize hy : f l[k] = y at H1 H2 HC
      clear hy hu
      have ob := World.oldB_of_cell c0
      go_wp2_with fail
      refine HC.out.mono ?_
      rintro e w1 ⟨rfl, d1, rfl⟩
      cases y
      · have H2' := Lib.hid (H2.out rfl)
        go_wp2
        go_roundw
        case rel => exact ⟨k + 1, by omega, by go_num, H2'.out, gain_ext ⟨_, rfl⟩ _⟩
        case measure => simp [intOf]; omega
      · have H1' := Lib.hid (H1.out rfl)
        go_wp2
        go_ret
        exact ⟨ret_int H1'.out.symm, gain_ext ⟨_, rfl⟩ _⟩
    · go_wp2
      go_ret
      exact ⟨ret_int (by rw [idxB_none (fun j hj => HN.out j hj (by omega))]), _, rfl⟩
theorem containsFunc_plans (K : FuncId) (caps : Array Value) (f : List (List Int) → Bool) (v : Value) (l : List (List (List Int))) (w : World) (h : w.sl3 v l) (hl : l.length ≤ 1048576)
    (hcf : ∀ args W, (callFunc K args).run Try.prog W = .ok (.enter K args) W)
    (hcl : ∀ (k : Nat) (hk : k < l.length) u d, (w.ext d).sl2 u l[k] → Calls Try.prog K (#[u] ++ caps) (w.ext d) fun x w' => x = .returned (.bool (f l[k])) ∧ ∃ d', w' = (w.ext d).ext d') :
    Calls Try.prog 52 #[v, .func (.func K) #[] caps] w fun x w' => x = .returned (.bool (l.any f)) ∧ ∃ d, w' = w.ext d := by
  have HI := Lib.hid (indexFunc_plans K caps f v l w h hl hcf hcl)
  clear hcl hcf
  obtain ⟨p, c, rfl⟩ := sl3_form h
  go_enter Try.func52, Try.ntmps52
  go_wp2_with fail
  refine HI.out.mono ?_
  rintro e w1 ⟨rfl, d1, rfl⟩
  have HA := Lib.hid (idxB_any l f)
  go_wp2
  go_ret
  exact ⟨ret_bool HA.out, _, rfl⟩
theorem any_not_rows (l : List (List (List Int))) (a b c : Int) : (l.any fun x => !rowsB a b c x) = !(l.all (rowsB a b c)) := by
  rw [List.not_all_eq_any_not]
set_option maxHeartbeats 1000000 in
theorem isPlanOf_any (v : Value) (l : List (List (List Int))) (legs forks : Int) (w : World) (h : w.sl3 v l) (hT : tot3 l ≤ 1048576) :
    Calls Try.prog 14 #[v, .int .i64 legs, .int .i64 forks] w fun x w' => x = .returned (.bool (planB l legs forks)) ∧ ∃ d, w' = w.ext d := by
  have hs := Lib.hid h
  have HT := Lib.hid (fun (k : Nat) (hk : k < l.length) => Nat.le_trans (tot3_at hk) hT)
  have hl : l.length ≤ 1048576 := by have := tot3_len l; omega
  obtain ⟨p, c, rfl⟩ := sl3_form h
  clear h hT
  cases hS : sizeB legs forks with
  | false =>
    have HR := Lib.hid (show planB l legs forks = false by simp [planB, hS])
    go_enter Try.func14, Try.ntmps14
    go_wp2_with (first | (go_at_call 50; refine (areLegs_any _ _ _).mono ?_; rintro e w1 ⟨rfl, rfl⟩) | (go_at_call 51; refine (inside_any _ _ _ _).mono ?_; rintro e w1 ⟨rfl, rfl⟩))
    go_ret
    rw [HR.out]
    exact ⟨rfl, (by repeat (first | with_reducible (first | exact World.gained_refl _ | exact ⟨_, rfl⟩ | apply gain_ext | apply gain_alloc | apply gain_drewN | apply gain_drew) | (refine gain_setCell ?_ (by first | exact Nat.le_refl _ | exact World.size_ext _ _ | (simp; done) | (simp; omega)) _)))⟩
  | true =>
  cases hI : insB l.length 1 6 with
  | false =>
    have HR := Lib.hid (show planB l legs forks = false by simp [planB, hI])
    go_enter Try.func14, Try.ntmps14
    go_wp2_with (first | (go_at_call 50; refine (areLegs_any _ _ _).mono ?_; rintro e w1 ⟨rfl, rfl⟩) | (go_at_call 51; refine (inside_any _ _ _ _).mono ?_; rintro e w1 ⟨rfl, rfl⟩))
    go_ret
    rw [HR.out]
    exact ⟨rfl, (by repeat (first | with_reducible (first | exact World.gained_refl _ | exact ⟨_, rfl⟩ | apply gain_ext | apply gain_alloc | apply gain_drewN | apply gain_drew) | (refine gain_setCell ?_ (by first | exact Nat.le_refl _ | exact World.size_ext _ _ | (simp; done) | (simp; omega)) _)))⟩
  | true =>
    have HR := Lib.hid (show planB l legs forks = l.all (rowsB legs forks (legs - 1)) by simp [planB, hS, hI])
    obtain ⟨L, F, rfl, rfl, a1, a2, a3⟩ := sizeB_true hS
    have HS := Lib.hid hS
    have HI := Lib.hid hI
    have HCF := Lib.hid (fun (w' : World) (p1 p2 : Addr) (hw : ∃ d, w' = w.ext d) (o1 : w'.oldB p1.block) (o2 : w'.oldB p2.block) (k1 : w'.cell? p1 = some (.int .i64 L)) (k2 : w'.cell? p2 = some (.int .i64 F)) => containsFunc_plans 53 #[.pointer (some p1), .pointer (some p2)] (fun x => !rowsB L F ((L : Int) - 1) x) _ l w' (sl3_up hs.out hw) hl (fun _ _ => by kernel_rfl) (fun k hk u d hu =>
      isPlanOf1_any u l[k] L F p1 p2 _ hu (HT.out k hk) a1 a2 (World.lt_of_cell (by rw [cell_ext k1 _]; rfl)) (World.lt_of_cell (by rw [cell_ext k2 _]; rfl)) (cell_ext k1 _) (cell_ext k2 _)))
    rw [any_not_rows] at HCF
    generalize l.all (rowsB L F ((L : Int) - 1)) = y at HCF HR
    cases y with
    | false =>
      go_enter Try.func14, Try.ntmps14
      go_wp2_with (first | (go_at_call 50; refine (areLegs_any _ _ _).mono ?_; rintro e w1 ⟨rfl, rfl⟩) | (go_at_call 51; refine (inside_any _ _ _ _).mono ?_; rintro e w1 ⟨rfl, rfl⟩) | (go_at_call 52; refine (HCF.out _ _ _ (by repeat (first | with_reducible (first | exact World.gained_refl _ | exact ⟨_, rfl⟩ | apply gain_ext | apply gain_alloc | apply gain_drewN | apply gain_drew) | (refine gain_setCell ?_ (by first | exact Nat.le_refl _ | exact World.size_ext _ _ | (simp; done) | (simp; omega)) _))) (by simp [go_sem]) (by simp [go_sem]) (by simp [go_sem]) (by simp [go_sem])).mono ?_; rintro e w1 ⟨rfl, d1, rfl⟩))
      go_ret
      rw [HR.out]
      exact ⟨rfl, (by repeat (first | with_reducible (first | exact World.gained_refl _ | exact ⟨_, rfl⟩ | apply gain_ext | apply gain_alloc | apply gain_drewN | apply gain_drew) | (refine gain_setCell ?_ (by first | exact Nat.le_refl _ | exact World.size_ext _ _ | (simp; done) | (simp; omega)) _)))⟩
    | true =>
      go_enter Try.func14, Try.ntmps14
      go_wp2_with (first | (go_at_call 50; refine (areLegs_any _ _ _).mono ?_; rintro e w1 ⟨rfl, rfl⟩) | (go_at_call 51; refine (inside_any _ _ _ _).mono ?_; rintro e w1 ⟨rfl, rfl⟩) | (go_at_call 52; refine (HCF.out _ _ _ (by repeat (first | with_reducible (first | exact World.gained_refl _ | exact ⟨_, rfl⟩ | apply gain_ext | apply gain_alloc | apply gain_drewN | apply gain_drew) | (refine gain_setCell ?_ (by first | exact Nat.le_refl _ | exact World.size_ext _ _ | (simp; done) | (simp; omega)) _))) (by simp [go_sem]) (by simp [go_sem]) (by simp [go_sem]) (by simp [go_sem])).mono ?_; rintro e w1 ⟨rfl, d1, rfl⟩))
      go_ret
      rw [HR.out]
      exact ⟨rfl, (by repeat (first | with_reducible (first | exact World.gained_refl _ | exact ⟨_, rfl⟩ | apply gain_ext | apply gain_alloc | apply gain_drewN | apply gain_drew) | (refine gain_setCell ?_ (by first | exact Nat.le_refl _ | exact World.size_ext _ _ | (simp; done) | (simp; omega)) _)))⟩
end Go.Proofs.Ytlofdpbdnkcnkaa
