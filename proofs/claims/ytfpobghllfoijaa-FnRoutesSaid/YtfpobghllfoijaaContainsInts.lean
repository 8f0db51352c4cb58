/- slices.Index and slices.Contains over ints. Condition: at most 1048576 elements. -/
import Derived.Test.YtfpobghllfoijaaRows
import Derived.Test.YtfpobghllfoijaaPlain
namespace Go.Proofs.Ytfpobghllfoijaa
open Go.RowKit Go.Ori
theorem index_ints (v : Value) (l : List Int) (n : Int) (w : World) (h : w.sl intC 1 v l) (hl : l.length ≤ 1048576) :
    Calls Try.prog 63 #[v, .int .i64 n] w fun x w' => x = .returned (.int .i64 (idxB l fun x => n == x)) ∧ ∃ d, w' = w.ext d := by
  obtain ⟨p, c, rfl, hp, hcap⟩ := h
  go_enter Try.func63, Try.ntmps63
  go_wp2
  go_loopw [8] (fun i wr => ∃ k : Nat, k ≤ l.length ∧ i = .int .i64 k ∧ (∀ (j : Nat) (hj : j < l.length), j < k → (n == l[j]) = false) ∧ ∃ d, wr = w.ext d) (fun i _ => l.length - (intOf i).toNat)
  case atStart => exact ⟨0, by omega, rfl, by simp, w.gained_refl⟩
  case round =>
    obtain ⟨k, hk, rfl, hno, d, rfl⟩ := hrel
    have HN := Lib.hid hno
    clear hno
    by_cases hlt : k < l.length
    · obtain ⟨b, o, rfl, hc⟩ := hp (by omega)
      have c0 := hc k hlt 0 (by omega)
      have H1 := Lib.hid (fun (h : (n == l[k]) = true) => idxB_some (l := l) (p := fun x => n == x) hlt (fun j hj hjk => HN.out j hj hjk) h)
      have H2 := Lib.hid (fun (h : (n == l[k]) = false) => (show ∀ (j : Nat) (hj : j < l.length), j < k + 1 → (n == l[j]) = false from fun j hj hjk => by
        by_cases e : j = k
        · subst e; exact h
        · exact HN.out j hj (by omega)))
      generalize l[k] = y at c0 H1 H2
      clear hc hp
      simp only [intC, List.getElem?_cons_zero, Nat.add_zero, Nat.mul_one] at c0
      have ob := World.oldB_of_cell c0
      cases hf : (n == y) with
      | true =>
        have H1' := Lib.hid (H1.out hf)
        go_wp2
        go_ret
        exact ⟨ret_int H1'.out.symm, _, rfl⟩
      | false =>
        have H2' := Lib.hid (H2.out hf)
        go_wp2
        go_roundw
        case rel => exact ⟨k + 1, by omega, by go_num, H2'.out, _, rfl⟩
        case measure => simp [intOf]; omega
    · have HE := Lib.hid (idxB_none (l := l) (p := fun x => n == x) (fun j hj => HN.out j hj (by omega)))
      go_wp2
      go_ret
      exact ⟨ret_int HE.out.symm, _, rfl⟩
theorem contains_ints (v : Value) (l : List Int) (n : Int) (w : World) (h : w.sl intC 1 v l) (hl : l.length ≤ 1048576) :
    Calls Try.prog 51 #[v, .int .i64 n] w fun x w' => x = .returned (.bool (hasB l n)) ∧ ∃ d, w' = w.ext d := by
  have HI := Lib.hid (index_ints v l n w h hl)
  go_enter Try.func51, Try.ntmps51
  go_wp2_with fail
  refine HI.out.mono ?_
  rintro e w1 ⟨rfl, d1, rfl⟩
  have HA := Lib.hid (idxB_any l (fun x => n == x))
  go_wp2
  go_ret
  exact ⟨ret_bool HA.out, _, rfl⟩
end Go.Proofs.Ytfpobghllfoijaa
