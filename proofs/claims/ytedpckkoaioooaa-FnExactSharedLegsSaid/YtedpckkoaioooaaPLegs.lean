/- The legs that two courses share: plain. No condition. -/
import Derived.Test.YtedpckkoaioooaaPlain
namespace Go.Ori
/-- The pairs (i, k) with a[i] = b[k] and a[i + 1] = b[k + 1]: row by row. -/
def legEq (a b : List Int) (i k : Nat) : Bool := (a.getD i 0 == b.getD k 0) && (a.getD (i + 1) 0 == b.getD (k + 1) 0)
def legRow (a b : List Int) (i : Nat) : Nat → List (Int × Int)
  | 0 => []
  | k + 1 => legRow a b i k ++ if legEq a b i k then [((i : Int), (k : Int))] else []
def legAll (a b : List Int) : Nat → List (Int × Int)
  | 0 => []
  | i + 1 => legAll a b i ++ legRow a b i (b.length - 1)
theorem legRow_len (a b : List Int) (i : Nat) : ∀ k, (legRow a b i k).length ≤ k
  | 0 => by simp [legRow]
  | k + 1 => by
    have := legRow_len a b i k
    rw [legRow, List.length_append]
    split <;> simp <;> omega
theorem legAll_len (a b : List Int) : ∀ k, (legAll a b k).length ≤ k * (b.length - 1)
  | 0 => by simp [legAll]
  | k + 1 => by
    have h1 := legAll_len a b k
    have h2 := legRow_len a b k (b.length - 1)
    rw [legAll, List.length_append, Nat.add_mul]
    omega
theorem legEq_at {a b : List Int} {i k : Nat} (hi : i + 1 < a.length) (hk : k + 1 < b.length) : legEq a b i k = ((a[i] == b[k]) && (a[i + 1] == b[k + 1])) := by
  simp [legEq, List.getD_eq_getElem?_getD, List.getElem?_eq_getElem hi, List.getElem?_eq_getElem hk, List.getElem?_eq_getElem (show i < a.length by omega), List.getElem?_eq_getElem (show k < b.length by omega)]
end Go.Ori
