/- spec.l1Has: a number stands in a list. Condition: at most 1048576 elements. -/
import Derived.Test.YtepjemfkmnpepaaRows
import Derived.Test.YtepjemfkmnpepaaPlain
namespace Go.Proofs.Ytepjemfkmnpepaa
open Go.RowKit Go.Ori
theorem l1Has_any (v : Value) (l : List Int) (n : Int) (w : World) (h : w.sl intC 1 v l) (hl : l.length ≤ 1048576) :
    Calls Try.prog 37 #[v, .int .i64 n] w fun x w' => x = .returned (.bool (hasB l n)) ∧ ∃ d, w' = w.ext d := by
  obtain ⟨p, c, rfl, hp, hcap⟩ := h
  go_enter Try.func37, Try.ntmps37
  go_wp2
  go_loopw [5] (fun i wr => ∃ k : Nat, k ≤ l.length ∧ i = .int .i64 k ∧ (∀ (j : Nat) (hj : j < l.length), j < k → (n == l[j]) = false) ∧ ∃ d, wr = w.ext d) (fun i _ => l.length - (intOf i).toNat)
  case atStart => exact ⟨0, by omega, rfl, by simp, w.gained_refl⟩
  case round =>
    obtain ⟨k, hk, rfl, hno, d, rfl⟩ := hrel
    have HN := Lib.hid hno
    clear hno
    by_cases hlt : k < l.length
    · obtain ⟨b, o, rfl, hc⟩ := hp (by omega)
      have c0 := hc k hlt 0 (by omega)
      have H1 := Lib.hid (fun (h : (n == l[k]) = true) => hasB_yes hlt h)
      have H2 := Lib.hid (fun (h : (n == l[k]) = false) => (show ∀ (j : Nat) (hj : j < l.length), j < k + 1 → (n == l[j]) = false from fun j hj hjk => by
        by_cases e : j = k
        · subst e; exact h
        · exact HN.out j hj (by omega)))
      generalize l[k] = y at c0 H1 H2
      clear hc hp
      simp only [intC, List.getElem?_cons_zero, Nat.add_zero, Nat.mul_one] at c0
      have ob := World.oldB_of_cell c0
      cases hf : (y == n) with
      | true =>
        have H1' := Lib.hid (H1.out (by rw [BEq.comm]; exact hf))
        go_wp2
        go_ret
        exact ⟨ret_bool H1'.out.symm, _, rfl⟩
      | false =>
        have H2' := Lib.hid (H2.out (by rw [BEq.comm]; exact hf))
        go_wp2
        go_roundw
        case rel => exact ⟨k + 1, by omega, by go_num, H2'.out, _, rfl⟩
        case measure => simp [intOf]; omega
    · have HE := Lib.hid (hasB_no (l := l) (n := n) (fun j hj => HN.out j hj (by omega)))
      go_wp2
      go_ret
      exact ⟨ret_bool HE.out.symm, _, rfl⟩
end Go.Proofs.Ytepjemfkmnpepaa
