/- spec.l9Good, spec.IsPlanOf. Condition: a size of at most 1048576. -/
import Derived.Test.YtlofdpbdnkcnkaaIsPlan
namespace Go.Proofs.Ytlofdpbdnkcnkaa
open Go.RowKit Go.Ori
set_option maxHeartbeats 2000000 in
theorem l9Good_any (v : Value) (l : List (List (List Int))) (legs forks : Int) (w : World) (h : w.sl3 v l) (hT : tot3 l ≤ 1048576) :
    Calls Try.prog 45 #[v, .int .i64 legs, .int .i64 forks] w fun x w' => x = .returned (.bool (planB l legs forks)) ∧ ∃ d, w' = w.ext d := by
  have hs := Lib.hid h
  have HT := Lib.hid (fun (k : Nat) (hk : k < l.length) => Nat.le_trans (tot3_at hk) hT)
  have hl : l.length ≤ 1048576 := by have := tot3_len l; omega
  obtain ⟨p, c, rfl⟩ := sl3_form h
  clear h hT
  cases hS : sizeB legs forks with
  | false =>
    have HR := Lib.hid (show planB l legs forks = false by simp [planB, hS])
    go_enter Try.func45, Try.ntmps45
    go_wp2_with (first | (go_at_call 56; refine (l9Size_any _ _ _).mono ?_; rintro e w1 ⟨rfl, rfl⟩) | (go_at_call 57; refine (l1In_any _ _ _ _).mono ?_; rintro e w1 ⟨rfl, rfl⟩))
    go_ret
    rw [HR.out]
    exact ⟨rfl, (by repeat (first | with_reducible (first | exact World.gained_refl _ | exact ⟨_, rfl⟩ | apply gain_ext | apply gain_alloc | apply gain_drewN | apply gain_drew) | (refine gain_setCell ?_ (by first | exact Nat.le_refl _ | exact World.size_ext _ _ | (simp; done) | (simp; omega)) _)))⟩
  | true =>
  cases hI : insB l.length 1 6 with
  | false =>
    have HR := Lib.hid (show planB l legs forks = false by simp [planB, hI])
    go_enter Try.func45, Try.ntmps45
    go_wp2_with (first | (go_at_call 56; refine (l9Size_any _ _ _).mono ?_; rintro e w1 ⟨rfl, rfl⟩) | (go_at_call 57; refine (l1In_any _ _ _ _).mono ?_; rintro e w1 ⟨rfl, rfl⟩))
    go_ret
    rw [HR.out]
    exact ⟨rfl, (by repeat (first | with_reducible (first | exact World.gained_refl _ | exact ⟨_, rfl⟩ | apply gain_ext | apply gain_alloc | apply gain_drewN | apply gain_drew) | (refine gain_setCell ?_ (by first | exact Nat.le_refl _ | exact World.size_ext _ _ | (simp; done) | (simp; omega)) _)))⟩
  | true =>
    have HR := Lib.hid (show planB l legs forks = l.all (rowsB legs forks (legs - 1)) by simp [planB, hS, hI])
    obtain ⟨L, F, rfl, rfl, a1, a2, a3⟩ := sizeB_true hS
    go_enter Try.func45, Try.ntmps45
    go_wp2_with (first | (go_at_call 56; refine (l9Size_any _ _ _).mono ?_; rintro e w1 ⟨rfl, rfl⟩) | (go_at_call 57; refine (l1In_any _ _ _ _).mono ?_; rintro e w1 ⟨rfl, rfl⟩))
    clear hS hI
    go_loopw [7] (fun i wr => ∃ k : Nat, k ≤ l.length ∧ i = .int .i64 k ∧ (∀ (j : Nat) (hj : j < l.length), j < k → rowsB L F ((L : Int) - 1) l[j] = true) ∧ ∃ d, wr = w.ext d) (fun i _ => l.length - (intOf i).toNat)
    case atStart => exact ⟨0, by omega, rfl, by simp, w.gained_refl⟩
    case round =>
      obtain ⟨k, hk, rfl, hno, d, rfl⟩ := hrel
      have HN := Lib.hid hno
      clear hno
      by_cases hlt : k < l.length
      · obtain ⟨b, o, rfl⟩ := slOf_some hs.out (by omega)
        obtain ⟨u, c0, hu⟩ := slOf_at hs.out hlt
        have H1 := Lib.hid (fun (hf : rowsB L F ((L : Int) - 1) l[k] = false) => all_no hlt hf)
        have H2 := Lib.hid (fun (hf : rowsB L F ((L : Int) - 1) l[k] = true) => step_at HN.out (fun _ => hf))
        generalize l[k] = rows at hu H1 H2
        obtain ⟨pr, cr, rfl⟩ := sl2_form hu
        have HU := Lib.hid hu
        clear hu
        have ob := World.oldB_of_cell c0
        by_cases hlen : rows.length = L
        · have HRow := Lib.hid (show rowsB L F ((L : Int) - 1) rows = rows.all (rowB F ((L : Int) - 1)) by simp [rowsB, hlen])
          subst hlen
          go_wp2
          go_loopw [8] (fun i wr => ∃ q : Nat, q ≤ rows.length ∧ i = .int .i64 q ∧ (∀ (j : Nat) (hj : j < rows.length), j < q → rowB F ((rows.length : Int) - 1) rows[j] = true) ∧ ∃ d, wr = w.ext d) (fun i _ => rows.length - (intOf i).toNat)
          case atStart => exact ⟨0, by omega, rfl, by simp, (by repeat (first | with_reducible (first | exact World.gained_refl _ | exact ⟨_, rfl⟩ | apply gain_ext | apply gain_alloc | apply gain_drewN | apply gain_drew) | (refine gain_setCell ?_ (by first | exact Nat.le_refl _ | exact World.size_ext _ _ | (simp; done) | (simp; omega)) _)))⟩
          case round =>
            obtain ⟨q, hq, rfl, hno, d, rfl⟩ := hrel
            have HN2 := Lib.hid hno
            clear hno
            by_cases hqlt : q < rows.length
            · obtain ⟨b1, o1, rfl⟩ := slOf_some HU.out (by omega)
              obtain ⟨u1, c1, hu1⟩ := slOf_at HU.out hqlt
              have J1 := Lib.hid (fun (hf : rowB F ((rows.length : Int) - 1) rows[q] = false) => all_no hqlt hf)
              have J2 := Lib.hid (fun (hf : rowB F ((rows.length : Int) - 1) rows[q] = true) => step_at HN2.out (fun _ => hf))
              generalize rows[q] = row at hu1 J1 J2
              obtain ⟨pw, cw, rfl⟩ := sl1_form hu1
              have HU1 := Lib.hid hu1
              clear hu1
              have ob1 := World.oldB_of_cell c1
              by_cases hlen2 : row.length = F
              · have HRow2 := Lib.hid (show rowB F ((rows.length : Int) - 1) row = row.all (fun n => insB n 0 ((rows.length : Int) - 1)) by simp [rowB, hlen2])
                subst hlen2
                go_wp2
                go_loopw [9] (fun i wr => ∃ f : Nat, f ≤ row.length ∧ i = .int .i64 f ∧ (∀ (j : Nat) (hj : j < row.length), j < f → insB row[j] 0 ((rows.length : Int) - 1) = true) ∧ ∃ d, wr = w.ext d) (fun i _ => row.length - (intOf i).toNat)
                case atStart => exact ⟨0, by omega, rfl, by simp, (by repeat (first | with_reducible (first | exact World.gained_refl _ | exact ⟨_, rfl⟩ | apply gain_ext | apply gain_alloc | apply gain_drewN | apply gain_drew) | (refine gain_setCell ?_ (by first | exact Nat.le_refl _ | exact World.size_ext _ _ | (simp; done) | (simp; omega)) _)))⟩
                case round =>
                  obtain ⟨f, hf, rfl, hno, d, rfl⟩ := hrel
                  have HN3 := Lib.hid hno
                  clear hno
                  by_cases hflt : f < row.length
                  · obtain ⟨b2, o2, rfl⟩ := sl_some HU1.out (by omega)
                    have c2 := sl_int HU1.out hflt
                    have ob2 := World.oldB_of_cell c2
                    have K1 := Lib.hid (fun (hf : insB row[f] 0 ((rows.length : Int) - 1) = false) => all_no (p := fun n => insB n 0 ((rows.length : Int) - 1)) hflt hf)
                    have K2 := Lib.hid (fun (hf : insB row[f] 0 ((rows.length : Int) - 1) = true) => step_at (p := fun n => insB n 0 ((rows.length : Int) - 1)) HN3.out (fun _ => hf))
                    generalize row[f] = n at c2 K1 K2
                    cases hin : insB n 0 ((rows.length : Int) - 1) with
                    | false =>
                      have hF := Lib.hid (H1.out (by rw [HRow.out]; exact J1.out (by rw [HRow2.out]; exact K1.out hin)))
                      go_wp2_with (go_at_call 57; refine (l1In_any _ _ _ _).mono ?_; rintro e w1 ⟨rfl, rfl⟩)
                      go_ret
                      rw [HR.out, hF.out]
                      exact ⟨rfl, (by repeat (first | with_reducible (first | exact World.gained_refl _ | exact ⟨_, rfl⟩ | apply gain_ext | apply gain_alloc | apply gain_drewN | apply gain_drew) | (refine gain_setCell ?_ (by first | exact Nat.le_refl _ | exact World.size_ext _ _ | (simp; done) | (simp; omega)) _)))⟩
                    | true =>
                      have hF := Lib.hid (K2.out hin)
                      go_wp2_with (go_at_call 57; refine (l1In_any _ _ _ _).mono ?_; rintro e w1 ⟨rfl, rfl⟩)
                      go_roundw
                      case rel => exact ⟨f + 1, by omega, by go_num, hF.out, (by repeat (first | with_reducible (first | exact World.gained_refl _ | exact ⟨_, rfl⟩ | apply gain_ext | apply gain_alloc | apply gain_drewN | apply gain_drew) | (refine gain_setCell ?_ (by first | exact Nat.le_refl _ | exact World.size_ext _ _ | (simp; done) | (simp; omega)) _)))⟩
                      case measure => simp [intOf]; omega
                  · have hF := Lib.hid (J2.out (by rw [HRow2.out]; exact all_yes (fun j hj => HN3.out j hj (by omega))))
                    go_wp2
                    go_roundw
                    case rel => exact ⟨q + 1, by omega, by go_num, hF.out, (by repeat (first | with_reducible (first | exact World.gained_refl _ | exact ⟨_, rfl⟩ | apply gain_ext | apply gain_alloc | apply gain_drewN | apply gain_drew) | (refine gain_setCell ?_ (by first | exact Nat.le_refl _ | exact World.size_ext _ _ | (simp; done) | (simp; omega)) _)))⟩
                    case measure => simp [intOf]; omega
              · have hF := Lib.hid (H1.out (by rw [HRow.out]; exact J1.out (by simp [rowB]; omega)))
                go_wp2
                go_ret
                rw [HR.out, hF.out]
                exact ⟨rfl, (by repeat (first | with_reducible (first | exact World.gained_refl _ | exact ⟨_, rfl⟩ | apply gain_ext | apply gain_alloc | apply gain_drewN | apply gain_drew) | (refine gain_setCell ?_ (by first | exact Nat.le_refl _ | exact World.size_ext _ _ | (simp; done) | (simp; omega)) _)))⟩
            · have hF := Lib.hid (H2.out (by rw [HRow.out]; exact all_yes (fun j hj => HN2.out j hj (by omega))))
              go_wp2
              go_roundw
              case rel => exact ⟨k + 1, by omega, by go_num, hF.out, (by repeat (first | with_reducible (first | exact World.gained_refl _ | exact ⟨_, rfl⟩ | apply gain_ext | apply gain_alloc | apply gain_drewN | apply gain_drew) | (refine gain_setCell ?_ (by first | exact Nat.le_refl _ | exact World.size_ext _ _ | (simp; done) | (simp; omega)) _)))⟩
              case measure => simp [intOf]; omega
        · have hF := Lib.hid (H1.out (by simp [rowsB]; intro e; omega))
          go_wp2
          go_ret
          rw [HR.out, hF.out]
          exact ⟨rfl, (by repeat (first | with_reducible (first | exact World.gained_refl _ | exact ⟨_, rfl⟩ | apply gain_ext | apply gain_alloc | apply gain_drewN | apply gain_drew) | (refine gain_setCell ?_ (by first | exact Nat.le_refl _ | exact World.size_ext _ _ | (simp; done) | (simp; omega)) _)))⟩
      · have HY := Lib.hid (all_yes (l := l) (p := rowsB L F ((L : Int) - 1)) (fun j hj => HN.out j hj (by omega)))
        go_wp2
        go_ret
        rw [HR.out, HY.out]
        exact ⟨rfl, (by repeat (first | with_reducible (first | exact World.gained_refl _ | exact ⟨_, rfl⟩ | apply gain_ext | apply gain_alloc | apply gain_drewN | apply gain_drew) | (refine gain_setCell ?_ (by first | exact Nat.le_refl _ | exact World.size_ext _ _ | (simp; done) | (simp; omega)) _)))⟩
end Go.Proofs.Ytlofdpbdnkcnkaa
