/- slices.IndexFunc and slices.ContainsFunc over ints, at a function of which a contract is known. Condition: at most 1048576 elements. -/
import Derived.Test.YtepjemfkmnpepaaRows
import Derived.Test.YtepjemfkmnpepaaPlain
import Derived.Test.YtepjemfkmnpepaaOwn
namespace Go.Proofs.Ytepjemfkmnpepaa
open Go.RowKit Go.Ori
set_option maxHeartbeats 400000 in
theorem indexFunc_ints (K : FuncId) (caps : Array Value) (f : Int → Bool) (v : Value) (l : List Int) (w : World) (h : w.sl intC 1 v l) (hl : l.length ≤ 1048576)
    (hcf : ∀ args W, (callFunc K args).run Try.prog W = .ok (.enter K args) W)
    (hcl : ∀ n d, Calls Try.prog K (#[.int .i64 n] ++ caps) (w.ext d) fun x w' => x = .returned (.bool (f n)) ∧ ∃ d', w' = (w.ext d).ext d') :
    Calls Try.prog 51 #[v, .func (.func K) #[] caps] w fun x w' => x = .returned (.int .i64 (idxB l f)) ∧ ∃ d, w' = w.ext d := by
  obtain ⟨p, c, rfl, hp, hcap⟩ := h
  have HCL := Lib.hid hcl
  clear hcl
  go_enter Try.func51, Try.ntmps51
  go_wp2
  go_loopw [8] (fun i wr => ∃ k : Nat, k ≤ l.length ∧ i = .int .i64 k ∧ (∀ (j : Nat) (hj : j < l.length), j < k → f l[j] = false) ∧ ∃ d, wr = w.ext d) (fun i _ => l.length - (intOf i).toNat)
  case atStart => exact ⟨0, by omega, rfl, by simp, w.gained_refl⟩
  case round =>
    obtain ⟨k, hk, rfl, hno, d, rfl⟩ := hrel
    have HN := Lib.hid hno
    clear hno
    by_cases hlt : k < l.length
    · obtain ⟨b, o, rfl, hc⟩ := hp (by omega)
      have c0 := hc k hlt 0 (by omega)
      have he : l[k]? = some l[k] := by simp
      have hnk : ∀ x, l[k] = x → f x = true → idxB l f = k := fun x hx hf => idxB_some hlt (HN.out) (by rw [hx]; exact hf)
      have hnk2 : ∀ x, l[k] = x → f x = false → ∀ (j : Nat) (hj : j < l.length), j < k + 1 → f l[j] = false := fun x hx hf j hj hjk => by
        by_cases e : j = k
        · subst e; rw [hx]; exact hf
        · exact HN.out j hj (by omega)
      generalize l[k] = y at c0 hnk hnk2
      have H1 := Lib.hid (hnk y rfl)
      have H2 := Lib.hid (hnk2 y rfl)
      clear hc hp hnk hnk2 he
      simp only [intC, List.getElem?_cons_zero, Nat.add_zero, Nat.mul_one] at c0
      have ob := World.oldB_of_cell c0
      go_wp2_with fail
      refine (HCL.out y d).mono ?_
      rintro e w1 ⟨rfl, d1, rfl⟩
      cases hf : f y
      · have H2' := Lib.hid (H2.out hf)
        clear hf
        go_wp2
        go_roundw
        case rel => exact ⟨k + 1, by omega, by go_num, H2'.out, gain_ext ⟨_, rfl⟩ _⟩
        case measure => simp [intOf]; omega
      · have H1' := Lib.hid (H1.out hf)
        clear hf
        go_wp2
        go_ret
        exact ⟨ret_int H1'.out.symm, gain_ext ⟨_, rfl⟩ _⟩
    · go_wp2
      go_ret
      exact ⟨ret_int (by rw [idxB_none (fun j hj => HN.out j hj (by omega))]), _, rfl⟩
theorem containsFunc_ints (K : FuncId) (caps : Array Value) (f : Int → Bool) (v : Value) (l : List Int) (w : World) (h : w.sl intC 1 v l) (hl : l.length ≤ 1048576)
    (hcf : ∀ args W, (callFunc K args).run Try.prog W = .ok (.enter K args) W)
    (hcl : ∀ n d, Calls Try.prog K (#[.int .i64 n] ++ caps) (w.ext d) fun x w' => x = .returned (.bool (f n)) ∧ ∃ d', w' = (w.ext d).ext d') :
    Calls Try.prog 43 #[v, .func (.func K) #[] caps] w fun x w' => x = .returned (.bool (l.any f)) ∧ ∃ d, w' = w.ext d := by
  have HI := Lib.hid (indexFunc_ints K caps f v l w h hl hcf hcl)
  clear hcl hcf
  go_enter Try.func43, Try.ntmps43
  go_wp2_with fail
  refine HI.out.mono ?_
  rintro e w1 ⟨rfl, d1, rfl⟩
  have HA := Lib.hid (idxB_any l f)
  go_wp2
  go_ret
  exact ⟨ret_bool HA.out, _, rfl⟩
end Go.Proofs.Ytepjemfkmnpepaa
