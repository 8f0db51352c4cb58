/- impl.entryIndex, spec.l11Find: where a runner's entry stands. Condition: at most 1048576 entries. -/
import Derived.Test.YtohmefblkfophaaRows
import Derived.Test.YtohmefblkfophaaP11
namespace Go.Proofs.Ytohmefblkfophaa
open Go.RowKit Go.Ori
set_option maxHeartbeats 1000000 in
theorem indexFunc_ents (K : FuncId) (caps : Array Value) (f : Ent → Bool) (v : Value) (l : List Ent) (w : World) (h : w.sl Ent.cells 5 v l) (hl : l.length ≤ 1048576)
    (hcf : ∀ args W, (callFunc K args).run Try.prog W = .ok (.enter K args) W)
    (hcl : ∀ (n : Ent) d, Calls Try.prog K (#[.agg #[.int .i64 n.runner, .int .i64 n.cls, .int .i64 n.day, .bool n.rent, .int .i64 n.paid]] ++ caps) (w.ext d) fun x w1 => x = .returned (.bool (f n)) ∧ ∃ d1, w1 = (w.ext d).ext d1) :
    Calls Try.prog 76 #[v, .func (.func K) #[] caps] w fun x w' => x = .returned (.int .i64 (idxB l f)) ∧ ∃ d, w' = w.ext d := by
  have hs := Lib.hid h
  obtain ⟨p, c, rfl, _⟩ := h
  have HCL := Lib.hid hcl
  clear hcl
  go_enter Try.func76, Try.ntmps76
  go_wp2
  go_loopw [8] (fun i wr => ∃ k : Nat, k ≤ l.length ∧ i = .int .i64 k ∧ (∀ (j : Nat) (hj : j < l.length), j < k → f l[j] = false) ∧ ∃ d, wr = w.ext d) (fun i _ => l.length - (intOf i).toNat)
  case atStart => exact ⟨0, by omega, rfl, by simp, w.gained_refl⟩
  case round =>
    obtain ⟨k, hk, rfl, hno, d, rfl⟩ := hrel
    have HN := Lib.hid hno
    clear hno
    by_cases hlt : k < l.length
    · obtain ⟨b, o, rfl⟩ := sl_some hs.out (by omega)
      have hck := fun j (hj : j < 5) => sl_cells hs.out hlt hj
      have c0 := hck 0 (by omega)
      have c1 := hck 1 (by omega)
      have c2 := hck 2 (by omega)
      have c3 := hck 3 (by omega)
      have c4 := hck 4 (by omega)
      have H1 := Lib.hid (fun (hf : f l[k] = true) => idxB_some hlt (HN.out) hf)
      have H2 := Lib.hid (fun (hf : f l[k] = false) => (show ∀ (j : Nat) (hj : j < l.length), j < k + 1 → f l[j] = false from fun j hj hjk => by
        by_cases e : j = k
        · subst e; exact hf
        · exact HN.out j hj (by omega)))
      generalize l[k] = y at c0 c1 c2 c3 c4 hck H1 H2
      clear hck
      simp only [Ent.cells, List.getElem?_cons_zero, List.getElem?_cons_succ, Nat.add_zero] at c0 c1 c2 c3 c4
      have ob := World.oldB_of_cell c0
      go_wp2_with fail
      refine (HCL.out y d).mono ?_
      rintro e w1 ⟨rfl, d1, rfl⟩
      cases hf : f y
      · have H2' := Lib.hid (H2.out hf)
        clear hf
        go_wp2
        go_roundw
        case rel => exact ⟨k + 1, by omega, by go_num, H2'.out, gain_ext ⟨_, rfl⟩ _⟩
        case measure => simp [intOf]; omega
      · have H1' := Lib.hid (H1.out hf)
        clear hf
        go_wp2
        go_ret
        exact ⟨ret_int H1'.out.symm, gain_ext ⟨_, rfl⟩ _⟩
    · go_wp2
      go_ret
      exact ⟨ret_int (by rw [idxB_none (fun j hj => HN.out j hj (by omega))]), _, rfl⟩
theorem entryIndex1_any (n : Ent) (r : Int) (a : Addr) (w : World) (ob : w.oldB a.block) (hc : w.cell? a = some (.int .i64 r)) :
    Calls Try.prog 77 #[.agg #[.int .i64 n.runner, .int .i64 n.cls, .int .i64 n.day, .bool n.rent, .int .i64 n.paid], .pointer (some a)] w fun x w' => x = .returned (.bool (n.runner == r)) ∧ ∃ d, w' = w.ext d := by
  go_enter Try.func77, Try.ntmps77
  go_wp2
  go_ret
  exact ⟨rfl, gain_alloc w.gained_refl _⟩
theorem entryIndex_any (v : Value) (l : List Ent) (r : Int) (w : World) (h : w.sl Ent.cells 5 v l) (hl : l.length ≤ 1048576) :
    Calls Try.prog 52 #[v, .int .i64 r] w fun x w' => x = .returned (.int .i64 (idxB l fun e => e.runner == r)) ∧ ∃ d, w' = w.ext d := by
  go_enter Try.func52, Try.ntmps52
  go_wp2_with fail
  refine (indexFunc_ents 77 _ (fun e => e.runner == r) _ l _ (sl_alloc Ent.cells_length h _) hl (fun _ _ => by kernel_rfl) (fun n d => ?hcl)).mono ?_
  case hcl =>
    refine entryIndex1_any n r _ _ ?_ ?_
    · simp [go_sem]
    · simp [go_sem]
  rintro e w1 ⟨rfl, d1, rfl⟩
  go_wp2
  go_ret
  exact ⟨rfl, gain_ext (gain_alloc w.gained_refl _) _⟩
theorem l11Find_any (v : Value) (l : List Ent) (r : Int) (w : World) (h : w.sl Ent.cells 5 v l) (hl : l.length ≤ 1048576) :
    Calls Try.prog 50 #[v, .int .i64 r] w fun x w' => x = .returned (.int .i64 (idxB l fun e => e.runner == r)) ∧ ∃ d, w' = w.ext d := by
  have hs := Lib.hid h
  obtain ⟨p, c, rfl, _⟩ := h
  go_enter Try.func50, Try.ntmps50
  go_wp2
  go_loopw [5] (fun i wr => ∃ k : Nat, k ≤ l.length ∧ i = .int .i64 k ∧ (∀ (j : Nat) (hj : j < l.length), j < k → (l[j].runner == r) = false) ∧ ∃ d, wr = w.ext d) (fun i _ => l.length - (intOf i).toNat)
  case atStart => exact ⟨0, by omega, rfl, by simp, w.gained_refl⟩
  case round =>
    obtain ⟨k, hk, rfl, hno, d, rfl⟩ := hrel
    have HN := Lib.hid hno
    clear hno
    by_cases hlt : k < l.length
    · obtain ⟨b, o, rfl⟩ := sl_some hs.out (by omega)
      have c0 := sl_cells hs.out hlt (j := 0) (by omega)
      have H1 := Lib.hid (fun (hf : (l[k].runner == r) = true) => idxB_some (p := fun e : Ent => e.runner == r) hlt (HN.out) hf)
      have H2 := Lib.hid (fun (hf : (l[k].runner == r) = false) => (show ∀ (j : Nat) (hj : j < l.length), j < k + 1 → (l[j].runner == r) = false from fun j hj hjk => by
        by_cases e : j = k
        · subst e; exact hf
        · exact HN.out j hj (by omega)))
      generalize l[k] = y at c0 H1 H2
      simp only [Ent.cells, List.getElem?_cons_zero, Nat.add_zero] at c0
      have ob := World.oldB_of_cell c0
      cases hf : (y.runner == r) with
      | true =>
        have H1' := Lib.hid (H1.out hf)
        go_wp2
        go_ret
        exact ⟨ret_int H1'.out.symm, _, rfl⟩
      | false =>
        have H2' := Lib.hid (H2.out hf)
        go_wp2
        go_roundw
        case rel => exact ⟨k + 1, by omega, by go_num, H2'.out, _, rfl⟩
        case measure => simp [intOf]; omega
    · have HE := Lib.hid (idxB_none (l := l) (p := fun e : Ent => e.runner == r) (fun j hj => HN.out j hj (by omega)))
      go_wp2
      go_ret
      exact ⟨ret_int HE.out.symm, _, rfl⟩
end Go.Proofs.Ytohmefblkfophaa
