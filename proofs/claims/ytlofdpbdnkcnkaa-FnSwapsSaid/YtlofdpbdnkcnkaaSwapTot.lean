/- The size of a plan in which two legs have changed places. No condition. -/
import Derived.Test.YtlofdpbdnkcnkaaSwapP
import Derived.Test.YtlofdpbdnkcnkaaNestApp
namespace Go.Ori
theorem swapL_tot (l : List (List (List Int))) (legs forks team a b : Int) : tot3 (swapL l legs forks team a b) ≤ 1048576 := by
  cases h : swapB l legs forks team a b with
  | false => rw [(swap_no h).1]; simp [tot3, psum]
  | true =>
    obtain ⟨L, F, T, A, B, rfl, rfl, rfl, rfl, rfl, hS⟩ := swapB_true h
    rw [(swapL_yes h).1]
    have hTl := hS.t
    have hrow : ∀ x ∈ l.set T (swap2 (l.getD T []) A B), x.length = L ∧ ∀ y ∈ x, y.length = F := by
      have h0 : ∀ x ∈ l, x.length = L ∧ ∀ y ∈ x, y.length = F := fun x hx => by
        obtain ⟨t, ht, rfl⟩ := List.getElem_of_mem hx
        refine ⟨(hS.rows t ht).1, fun y hy => ?_⟩
        obtain ⟨q, hq, rfl⟩ := List.getElem_of_mem hy
        exact (hS.rows t ht).2 q hq
      intro x hx
      rcases List.mem_or_eq_of_mem_set hx with hx | rfl
      · exact h0 x hx
      · have hT := h0 _ (List.getElem_mem hS.t)
        rw [List.getD_eq_getElem?_getD, List.getElem?_eq_getElem hS.t, Option.getD_some]
        have hA : A < l[T].length := by rw [hT.1]; exact hS.a
        have hB : B < l[T].length := by rw [hT.1]; exact hS.b
        refine ⟨by rw [swap2_length]; exact hT.1, fun y hy => ?_⟩
        rw [swap2, List.getD_eq_getElem?_getD, List.getD_eq_getElem?_getD, List.getElem?_eq_getElem hA, List.getElem?_eq_getElem hB, Option.getD_some, Option.getD_some] at hy
        rcases List.mem_or_eq_of_mem_set hy with hy | rfl
        · rcases List.mem_or_eq_of_mem_set hy with hy | rfl
          · exact hT.2 y hy
          · exact hT.2 _ (List.getElem_mem hB)
        · exact hT.2 _ (List.getElem_mem hA)
    unfold tot3
    have hb := psum_bd tot2 (l.set T (swap2 (l.getD T []) A B)) 20 (by
      intro x hx
      obtain ⟨h1, h2⟩ := hrow x hx
      unfold tot2
      have := psum_bd tot1 x 4 (fun y hy => by rw [tot1, h2 y hy]; exact hS.f4)
      have := hS.l4
      omega)
    have := hS.n6
    rw [List.length_set] at hb ⊢
    omega
end Go.Ori
