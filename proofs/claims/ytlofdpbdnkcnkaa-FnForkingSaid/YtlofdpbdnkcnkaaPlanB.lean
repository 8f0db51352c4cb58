/- Plans of forks: plain functions. No condition. -/
import Derived.Test.YtlofdpbdnkcnkaaNest
namespace Go.Ori
theorem all_no {α : Type} {l : List α} {p : α → Bool} {k : Nat} (hk : k < l.length) (h : p l[k] = false) : l.all p = false := by
  rw [List.all_eq_false]
  exact ⟨l[k], List.getElem_mem hk, by simp [h]⟩
theorem all_yes {α : Type} {l : List α} {p : α → Bool} (h : ∀ (j : Nat) (hj : j < l.length), p l[j] = true) : l.all p = true := by
  rw [List.all_eq_true]
  intro x hx
  obtain ⟨j, hj, rfl⟩ := List.getElem_of_mem hx
  exact h j hj
theorem step_at {α : Type} {l : List α} {p : α → Bool} {k : Nat} (h : ∀ (j : Nat) (hj : j < l.length), j < k → p l[j] = true) (hk : ∀ hk : k < l.length, p l[k] = true) : ∀ (j : Nat) (hj : j < l.length), j < k + 1 → p l[j] = true := by
  intro j hj hjk
  by_cases e : j = k
  · subst e; exact hk hj
  · exact h j hj (by omega)
def sizeB (legs forks : Int) : Bool := insB legs 1 4 && insB forks 0 4
theorem sizeB_true {legs forks : Int} (h : sizeB legs forks = true) : ∃ L F : Nat, legs = L ∧ forks = F ∧ 1 ≤ L ∧ L ≤ 4 ∧ F ≤ 4 := by
  simp only [sizeB, Bool.and_eq_true, insB_true] at h
  exact ⟨legs.toNat, forks.toNat, by omega, by omega, by omega, by omega, by omega⟩
def rowB (size most : Int) (row : List Int) : Bool := decide ((row.length : Int) = size) && row.all (fun n => insB n 0 most)
def rowsB (count size most : Int) (rows : List (List Int)) : Bool := decide ((rows.length : Int) = count) && rows.all (rowB size most)
def planB (l : List (List (List Int))) (legs forks : Int) : Bool := sizeB legs forks && insB l.length 1 6 && l.all (rowsB legs forks (legs - 1))
theorem planB_true {l : List (List (List Int))} {legs forks : Int} (h : planB l legs forks = true) : ∃ L F : Nat, legs = L ∧ forks = F ∧ 1 ≤ L ∧ L ≤ 4 ∧ F ≤ 4 ∧ 1 ≤ l.length ∧ l.length ≤ 6 ∧
    ∀ (t : Nat) (ht : t < l.length), l[t].length = L ∧ ∀ (q : Nat) (hq : q < l[t].length), l[t][q].length = F ∧ ∀ (f : Nat) (hf : f < l[t][q].length), 0 ≤ l[t][q][f] ∧ l[t][q][f] < L := by
  simp only [planB, Bool.and_eq_true] at h
  obtain ⟨⟨h1, h2⟩, h3⟩ := h
  obtain ⟨L, F, rfl, rfl, a1, a2, a3⟩ := sizeB_true h1
  rw [insB_true] at h2
  refine ⟨L, F, rfl, rfl, a1, a2, a3, by omega, by omega, fun t ht => ?_⟩
  rw [List.all_eq_true] at h3
  have h4 := h3 l[t] (List.getElem_mem ht)
  simp only [rowsB, Bool.and_eq_true, decide_eq_true_eq, List.all_eq_true] at h4
  refine ⟨by omega, fun q hq => ?_⟩
  have h5 := h4.2 l[t][q] (List.getElem_mem hq)
  simp only [rowB, Bool.and_eq_true, decide_eq_true_eq, List.all_eq_true] at h5
  refine ⟨by omega, fun f hf => ?_⟩
  have h6 := h5.2 l[t][q][f] (List.getElem_mem hf)
  rw [insB_true] at h6
  omega
end Go.Ori
