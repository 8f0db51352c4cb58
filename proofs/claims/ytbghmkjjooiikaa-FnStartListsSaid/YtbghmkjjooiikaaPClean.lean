/- Start lists without clashes: the search in plain Lean. No condition. -/
import Derived.Test.YtbghmkjjooiikaaP10
namespace Go.Ori
/-- The first of f k, f (k + 1), .. (r of them) that is not empty. -/
def firstN (f : Nat → List Int) : Nat → Nat → List Int
  | 0, _ => []
  | r + 1, k => if 0 < (f k).length then f k else firstN f r (k + 1)
theorem firstN_no {f : Nat → List Int} {n k : Nat} (hk : k < n) (h : ¬ 0 < (f k).length) : firstN f (n - k) k = firstN f (n - (k + 1)) (k + 1) := by
  obtain ⟨r, hr⟩ : ∃ r, n - k = r + 1 := ⟨n - k - 1, by omega⟩
  rw [hr, show n - (k + 1) = r by omega, firstN, if_neg h]
theorem firstN_yes {f : Nat → List Int} {n k : Nat} (hk : k < n) (h : 0 < (f k).length) : firstN f (n - k) k = f k := by
  obtain ⟨r, hr⟩ : ∃ r, n - k = r + 1 := ⟨n - k - 1, by omega⟩
  rw [hr, firstN, if_pos h]
theorem firstN_end {f : Nat → List Int} {n : Nat} : firstN f (n - n) n = [] := by rw [Nat.sub_self]; rfl
/-- The last of l has the club of starter k. -/
def tieB (clubs l : List Int) (k : Nat) : Bool := match l[l.length - 1]? with
  | some y => (match clubs[y.toNat]?, clubs[k]? with | some a, some b => a == b | _, _ => false)
  | none => false
theorem tieB_nil (clubs l : List Int) (k : Nat) (h : ¬ 0 < l.length) : tieB clubs l k = false := by
  have : l = [] := List.eq_nil_of_length_eq_zero (by omega)
  subst this; rfl
theorem tieB_at {clubs l : List Int} {k m : Nat} (h : 0 < l.length) (hm : l[l.length - 1]'(by omega) = (m : Int)) (hml : m < clubs.length) (hk : k < clubs.length) : tieB clubs l k = (clubs[m] == clubs[k]) := by
  unfold tieB
  rw [List.getElem?_eq_getElem (by omega), hm]
  simp [hml, hk]
def cleanF (clubs : List Int) (rec : List Int → List Int) (l : List Int) (k : Nat) : List Int := if hasB l k || tieB clubs l k then [] else rec (l ++ [(k : Int)])
def clean (clubs : List Int) : Nat → List Int → List Int
  | 0, l => l
  | m + 1, l => firstN (cleanF clubs (clean clubs m) l) clubs.length 0
theorem clean_succ (clubs : List Int) (m : Nat) (l : List Int) : clean clubs (m + 1) l = firstN (cleanF clubs (clean clubs m) l) (clubs.length - 0) 0 := rfl
theorem firstN_len {f : Nat → List Int} {n : Nat} (h : ∀ k, (f k).length ≤ n) : ∀ r k, (firstN f r k).length ≤ n
  | 0, _ => by simp [firstN]
  | r + 1, k => by rw [firstN]; split; exact h k; exact firstN_len h r (k + 1)
theorem clean_len (clubs : List Int) : ∀ (m : Nat) (l : List Int), (clean clubs m l).length ≤ l.length + m
  | 0, l => Nat.le_refl _
  | m + 1, l => by
    rw [clean_succ]
    refine firstN_len (fun k => ?_) _ _
    unfold cleanF
    split
    · simp
    · refine Nat.le_trans (clean_len clubs m _) ?_
      simp; omega
theorem bound_snoc {l : List Int} {n k : Nat} (h : ∀ x ∈ l, 0 ≤ x ∧ x < (n : Int)) (hk : k < n) : ∀ x ∈ l ++ [(k : Int)], 0 ≤ x ∧ x < (n : Int) := by
  intro x hx
  rw [List.mem_append, List.mem_singleton] at hx
  cases hx with
  | inl a => exact h x a
  | inr a => omega
theorem bound_at {l : List Int} {n k : Nat} (h : ∀ x ∈ l, 0 ≤ x ∧ x < (n : Int)) (hk : k < l.length) : ∃ m : Nat, l[k] = (m : Int) ∧ m < n := by
  have := h _ (List.getElem_mem hk)
  exact ⟨l[k].toNat, by omega, by omega⟩
def cleanL (clubs : List Int) : List Int := if clubsB clubs then clean clubs clubs.length [] else []
def cleanB (clubs : List Int) : Bool := decide (0 < (cleanL clubs).length)
theorem cleanL_length (clubs : List Int) : (cleanL clubs).length ≤ 1048576 := by
  unfold cleanL
  split
  · rename_i h
    have := (clubsB_true h).2.1
    have h2 := clean_len clubs clubs.length []
    simp at h2; omega
  · simp
end Go.Ori
