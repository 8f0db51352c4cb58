/- Texts laid together: impl.IsRunner, spec.l5One. Condition: a name and a club of at most 1048576 bytes.; impl.cardIndex: where a card's runner stands; slices.IndexFunc over runners. Condition: at most 1048576 runners. -/
import Derived.Test.YtfenempljjenpaaG7
import Derived.Test.YtfenempljjenpaaRows
/- impl.IsRunner, spec.l5One. Condition: a name and a club of at most 1048576 bytes. -/
namespace Go.Proofs.Ytfenempljjenpaa
open Go.RowKit Go.Ori
set_option maxHeartbeats 1000000 in
theorem isRunner_any (r : Runner) (w : World) (hn : r.name.size ≤ 1048576) (hc : r.club.size ≤ 1048576) :
    Calls Try.prog 29 #[.agg #[.int .i64 r.id, .string r.name, .string r.club, .int .i64 r.born, .bool r.woman, .int .i64 r.card]] w fun x w' => x = .returned (.bool (runnerB r)) ∧ ∃ d, w' = w.ext d := by
  go_enter Try.func29, Try.ntmps29
  go_wp2_with (first | (go_at_call 51; refine (inside_any _ _ _ _).mono ?_; rintro e w1 ⟨rfl, rfl⟩) | (go_at_call 52; refine (isWord_any _ _ (by assumption)).mono ?_; rintro e w1 ⟨rfl, rfl⟩))
  all_goals go_ret
  all_goals refine ⟨?_, gain_alloc w.gained_refl _⟩
  all_goals simp [runnerB, *]
set_option maxHeartbeats 1000000 in
theorem l5One_any (r : Runner) (w : World) (hn : r.name.size ≤ 1048576) (hc : r.club.size ≤ 1048576) :
    Calls Try.prog 49 #[.agg #[.int .i64 r.id, .string r.name, .string r.club, .int .i64 r.born, .bool r.woman, .int .i64 r.card]] w fun x w' => x = .returned (.bool (runnerB r)) ∧ ∃ d, w' = w.ext d := by
  go_enter Try.func49, Try.ntmps49
  go_wp2_with (first | (go_at_call 50; refine (l1In_any _ _ _ _).mono ?_; rintro e w1 ⟨rfl, rfl⟩) | (go_at_call 61; refine (l2Word_any _ _ (by assumption)).mono ?_; rintro e w1 ⟨rfl, rfl⟩))
  all_goals go_ret
  all_goals refine ⟨?_, gain_alloc w.gained_refl _⟩
  all_goals simp [runnerB, *]
end Go.Proofs.Ytfenempljjenpaa
/- impl.cardIndex: where a card's runner stands; slices.IndexFunc over runners. Condition: at most 1048576 runners. -/
namespace Go.Proofs.Ytfenempljjenpaa
open Go.RowKit Go.Ori
set_option maxHeartbeats 1000000 in
theorem indexFunc_runs (K : FuncId) (caps : Array Value) (f : Runner → Bool) (v : Value) (l : List Runner) (w : World) (h : w.sl Runner.cells 6 v l) (hl : l.length ≤ 1048576)
    (hcf : ∀ args W, (callFunc K args).run Try.prog W = .ok (.enter K args) W)
    (hcl : ∀ (n : Runner) d, Calls Try.prog K (#[.agg #[.int .i64 n.id, .string n.name, .string n.club, .int .i64 n.born, .bool n.woman, .int .i64 n.card]] ++ caps) (w.ext d) fun x w1 => x = .returned (.bool (f n)) ∧ ∃ d1, w1 = (w.ext d).ext d1) :
    Calls Try.prog 59 #[v, .func (.func K) #[] caps] w fun x w' => x = .returned (.int .i64 (idxB l f)) ∧ ∃ d, w' = w.ext d := by
  have hs := Lib.hid h
  obtain ⟨p, c, rfl, _⟩ := h
  have HCL := Lib.hid hcl
  clear hcl
  go_enter Try.func59, Try.ntmps59
  go_wp2
  go_loopw [8] (fun i wr => ∃ k : Nat, k ≤ l.length ∧ i = .int .i64 k ∧ (∀ (j : Nat) (hj : j < l.length), j < k → f l[j] = false) ∧ ∃ d, wr = w.ext d) (fun i _ => l.length - (intOf i).toNat)
  case atStart => exact ⟨0, by omega, rfl, by simp, w.gained_refl⟩
  case round =>
    obtain ⟨k, hk, rfl, hno, d, rfl⟩ := hrel
    have HN := Lib.hid hno
    clear hno
    by_cases hlt : k < l.length
    · obtain ⟨b, o, rfl⟩ := sl_some hs.out (by omega)
      have hck := fun j (hj : j < 6) => sl_cells hs.out hlt hj
      have c0 := hck 0 (by omega)
      have c1 := hck 1 (by omega)
      have c2 := hck 2 (by omega)
      have c3 := hck 3 (by omega)
      have c4 := hck 4 (by omega)
      have c5 := hck 5 (by omega)
      have H1 := Lib.hid (fun (hf : f l[k] = true) => idxB_some hlt (HN.out) hf)
      have H2 := Lib.hid (fun (hf : f l[k] = false) => (show ∀ (j : Nat) (hj : j < l.length), j < k + 1 → f l[j] = false from fun j hj hjk => by
        by_cases e : j = k
        · subst e; exact hf
        · exact HN.out j hj (by omega)))
      have HMY := Lib.hid (List.getElem_mem hlt)
      generalize l[k] = y at c0 c1 c2 c3 c4 c5 hck H1 H2 HMY
      clear hck
      simp only [Runner.cells, List.getElem?_cons_zero, List.getElem?_cons_succ, Nat.add_zero] at c0 c1 c2 c3 c4 c5
      have ob := World.oldB_of_cell c0
      go_wp2_with fail
      refine (HCL.out y d).mono ?_
      rintro e w1 ⟨rfl, d1, rfl⟩
      cases hf : f y
      · have H2' := Lib.hid (H2.out hf)
        clear hf
        go_wp2
        go_roundw
        case rel => exact ⟨k + 1, by omega, by go_num, H2'.out, gain_ext ⟨_, rfl⟩ _⟩
        case measure => simp [intOf]; omega
      · have H1' := Lib.hid (H1.out hf)
        clear hf
        go_wp2
        go_ret
        exact ⟨ret_int H1'.out.symm, gain_ext ⟨_, rfl⟩ _⟩
    · go_wp2
      go_ret
      exact ⟨ret_int (by rw [idxB_none (fun j hj => HN.out j hj (by omega))]), _, rfl⟩
theorem cardIndex1_any (n : Runner) (r : Int) (a : Addr) (w : World) (ob : w.oldB a.block) (hc : w.cell? a = some (.int .i64 r)) :
    Calls Try.prog 60 #[.agg #[.int .i64 n.id, .string n.name, .string n.club, .int .i64 n.born, .bool n.woman, .int .i64 n.card], .pointer (some a)] w fun x w' => x = .returned (.bool (n.card == r)) ∧ ∃ d, w' = w.ext d := by
  go_enter Try.func60, Try.ntmps60
  go_wp2
  go_ret
  exact ⟨rfl, gain_alloc w.gained_refl _⟩
theorem cardIndex_any (v : Value) (l : List Runner) (r : Int) (w : World) (h : w.sl Runner.cells 6 v l) (hl : l.length ≤ 1048576) :
    Calls Try.prog 47 #[v, .int .i64 r] w fun x w' => x = .returned (.int .i64 (idxB l fun e => e.card == r)) ∧ ∃ d, w' = w.ext d := by
  go_enter Try.func47, Try.ntmps47
  go_wp2_with fail
  refine (indexFunc_runs 60 _ (fun e => e.card == r) _ l _ (sl_alloc Runner.cells_length h _) hl (fun _ _ => by kernel_rfl) (fun n d => ?hcl)).mono ?_
  case hcl =>
    refine cardIndex1_any n r _ _ ?_ ?_
    · simp [go_sem]
    · simp [go_sem]
  rintro e w1 ⟨rfl, d1, rfl⟩
  go_wp2
  go_ret
  exact ⟨rfl, gain_ext (gain_alloc w.gained_refl _) _⟩
end Go.Proofs.Ytfenempljjenpaa
