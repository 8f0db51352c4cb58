/- What the functions of routes answer: plain functions and their laws. No condition. -/
import Derived.Test.YtfpobghllfoijaaPTri
namespace Go.Ori
def goB (m : Mp) (a b : Int) : Bool := (openB m a && openB m b) && decide (timeB m a.toNat b.toNat < 1073741824)
def leastI (m : Mp) (a b : Int) : Int := if goB m a b then timeB m a.toNat b.toNat else 0
def bestL (m : Mp) (a b : Int) : List Int := if goB m a b then (routeL m a.toNat b.toNat).map (fun k : Nat => (k : Int)) else []
def detB (m : Mp) (a y b : Int) : Bool := ((openB m a && openB m y) && openB m b) && (decide (timeB m a.toNat y.toNat < 1073741824) && decide (timeB m y.toNat b.toNat < 1073741824))
def detI (m : Mp) (a y b : Int) : Int := if detB m a y b then timeB m a.toNat y.toNat + timeB m y.toNat b.toNat - timeB m a.toNat b.toNat else 0
def crossT (m : Mp) (a b c : Int) : Bool := ((openB m a && openB m b) && openB m c) && decide (timeB m a.toNat b.toNat < 1073741824)
def crossB (m : Mp) (a b c : Int) : Bool := crossT m a b c && (detB m a c b && (detI m a c b == 0))
def withinB (m : Mp) (a t : Int) : Bool := openB m a && decide (0 ≤ t)
def withinP (m : Mp) (a : Nat) (t : Int) (c : Nat) : Bool := decide (0 < costAt m c) && decide (timeB m a c ≤ min t 1073741823)
def withinN (m : Mp) (a : Nat) (t : Int) (k : Nat) : List Int := ((List.range k).filter (withinP m a t)).map (fun c : Nat => (c : Int))
def withinL (m : Mp) (a t : Int) : List Int := if withinB m a t then withinN m a.toNat t m.cost.length else []
def farN (m : Mp) (a : Nat) : Nat → Int × Int
  | 0 => (0, -1)
  | k + 1 => if (decide (0 < costAt m k) && decide (timeB m a k < 1073741824)) && decide ((farN m a k).2 < timeB m a k) then ((k : Int), timeB m a k) else farN m a k
def farI (m : Mp) (a : Int) : Int × Int := if openB m a then farN m a.toNat m.cost.length else (0, 0)
theorem goB_true {m : Mp} {a b : Int} (h : goB m a b = true) : ∃ A B : Nat, a = A ∧ b = B ∧ A < m.cost.length ∧ 0 < costAt m A ∧ B < m.cost.length ∧ 0 < costAt m B ∧ timeB m A B < 1073741824 ∧ mapB m = true := by
  simp only [goB, Bool.and_eq_true, decide_eq_true_eq] at h
  obtain ⟨⟨h1, h2⟩, h3⟩ := h
  have hm : mapB m = true := by simp only [openB, cellB, Bool.and_eq_true] at h1; exact h1.1.1
  obtain ⟨A, rfl, a1, a2⟩ := openB_true h1
  obtain ⟨B, rfl, b1, b2⟩ := openB_true h2
  exact ⟨A, B, rfl, rfl, a1, a2, b1, b2, by simpa using h3, hm⟩
theorem openB_map {m : Mp} {a : Int} (h : openB m a = true) : mapB m = true := by simp only [openB, cellB, Bool.and_eq_true] at h; exact h.1.1
theorem openB_of {m : Mp} {k : Nat} (hm : mapB m = true) (hk : k < m.cost.length) (h0 : 0 < costAt m k) : openB m (k : Int) = true := by
  simp only [openB, cellB, hm, Bool.true_and, Bool.and_eq_true, insB_true, decide_eq_true_eq, Int.toNat_natCast]
  exact ⟨by omega, h0⟩
/-- (P4) A detour never saves time; a detour that costs nothing crosses the cell. -/
theorem det_ge (m : Mp) (a y b : Int) : 0 ≤ detI m a y b ∧ (detB m a y b = true → crossT m a b y = true ∧ crossB m a b y = (detI m a y b == 0)) := by
  by_cases h : detB m a y b = true
  · have h' := h
    simp only [detB, Bool.and_eq_true, decide_eq_true_eq] at h
    obtain ⟨⟨⟨h1, h2⟩, h3⟩, h4, h5⟩ := h
    obtain ⟨W, H, hm⟩ := mapB_ok (openB_map h1)
    have q1 := h1
    have q2 := h2
    have q3 := h3
    obtain ⟨A, rfl, a1, a2⟩ := openB_true h1
    obtain ⟨Y, rfl, b1, b2⟩ := openB_true h2
    obtain ⟨B, rfl, c1, c2⟩ := openB_true h3
    simp only [Int.toNat_natCast] at h4 h5
    have ht := time_tri hm a1 b1 c1 h4 h5
    have e : detI m A Y B = timeB m A Y + timeB m Y B - timeB m A B := by rw [detI, if_pos h']; simp
    have hT : crossT m A B Y = true := by simp only [crossT, q1, q2, q3, Int.toNat_natCast, Bool.true_and, Bool.and_self, decide_eq_true_eq]; exact ht.2
    refine ⟨by rw [e]; omega, fun _ => ⟨hT, ?_⟩⟩
    rw [crossB, hT, h', Bool.true_and, Bool.true_and]
  · exact ⟨by rw [detI, if_neg h]; omega, fun q => absurd q h⟩
theorem within_mem {m : Mp} {a t : Int} {x : Int} (h : withinB m a t = true) : x ∈ withinL m a t ↔ ∃ c : Nat, x = c ∧ c < m.cost.length ∧ 0 < costAt m c ∧ timeB m a.toNat c ≤ min t 1073741823 := by
  rw [withinL, if_pos h, withinN, List.mem_map]
  simp only [List.mem_filter, List.mem_range, withinP, Bool.and_eq_true, decide_eq_true_eq]
  constructor
  · rintro ⟨c, ⟨h1, h2, h3⟩, rfl⟩
    exact ⟨c, rfl, h1, h2, h3⟩
  · rintro ⟨c, rfl, h1, h2, h3⟩
    exact ⟨c, ⟨h1, h2, h3⟩, rfl⟩
theorem within_more {m : Mp} {a t : Int} (h : withinB m a t = true) : withinB m a (t + 1) = true ∧ ∀ x ∈ withinL m a t, x ∈ withinL m a (t + 1) := by
  have h2 : withinB m a (t + 1) = true := by
    simp only [withinB, Bool.and_eq_true, decide_eq_true_eq] at h ⊢
    exact ⟨h.1, by omega⟩
  refine ⟨h2, fun x hx => ?_⟩
  rw [within_mem h] at hx
  obtain ⟨c, rfl, q1, q2, q3⟩ := hx
  rw [within_mem h2]
  exact ⟨c, rfl, q1, q2, by omega⟩
theorem within_self {m : Mp} {a t : Int} (h : withinB m a t = true) : a ∈ withinL m a t := by
  have h' := h
  simp only [withinB, Bool.and_eq_true, decide_eq_true_eq] at h
  obtain ⟨W, H, hm⟩ := mapB_ok (openB_map h.1)
  obtain ⟨A, rfl, a1, a2⟩ := openB_true h.1
  rw [within_mem h']
  refine ⟨A, rfl, a1, a2, ?_⟩
  have := time_self hm a1
  simp only [Int.toNat_natCast]
  omega
theorem far_inv {m : Mp} {a W H : Nat} (hm : MapOk m W H) (ha : a < m.cost.length) (h0 : 0 < costAt m a) : ∀ k, k ≤ m.cost.length → ((farN m a k).2 = -1 ∧ k ≤ a ∨ ∃ c : Nat, (farN m a k).1 = c ∧ c < m.cost.length ∧ 0 < costAt m c ∧ (farN m a k).2 = timeB m a c ∧ timeB m a c < 1073741824)
  | 0, _ => .inl ⟨rfl, Nat.zero_le _⟩
  | k + 1, hk => by
    have ih := far_inv hm ha h0 k (by omega)
    rw [farN]
    split
    · rename_i h
      simp only [Bool.and_eq_true, decide_eq_true_eq] at h
      exact .inr ⟨k, rfl, by omega, h.1.1, rfl, h.1.2⟩
    · rename_i h
      rcases ih with ⟨e1, e2⟩ | ih
      · by_cases e : k = a
        · subst e
          have ht := time_self hm ha
          exfalso
          apply h
          simp only [Bool.and_eq_true, decide_eq_true_eq, ht, e1]
          exact ⟨⟨h0, by omega⟩, by omega⟩
        · exact .inl ⟨e1, by omega⟩
      · exact .inr ih
theorem far_ok {m : Mp} {a : Int} (h : openB m a = true) : ∃ c : Nat, (farI m a).1 = c ∧ c < m.cost.length ∧ 0 < costAt m c ∧ (farI m a).2 = timeB m a.toNat c ∧ timeB m a.toNat c < 1073741824 := by
  obtain ⟨W, H, hm⟩ := mapB_ok (openB_map h)
  have h' := h
  obtain ⟨A, rfl, a1, a2⟩ := openB_true h
  rw [farI, if_pos h']
  simp only [Int.toNat_natCast]
  rcases far_inv hm a1 a2 _ (Nat.le_refl _) with ⟨_, e⟩ | q
  · omega
  · exact q
/-- The farthest cell is within a time exactly if its own is. -/
theorem within_far {m : Mp} {a t : Int} (h : withinB m a t = true) : hasB (withinL m a t) (farI m a).1 = decide ((farI m a).2 ≤ t) := by
  have h' := h
  simp only [withinB, Bool.and_eq_true, decide_eq_true_eq] at h
  obtain ⟨c, e1, e2, e3, e4, e5⟩ := far_ok h.1
  rw [Bool.eq_iff_iff, hasB_iff, within_mem h', decide_eq_true_eq, e1, e4]
  constructor
  · rintro ⟨d, q, _, _, q2⟩
    obtain rfl : c = d := by omega
    omega
  · intro q
    exact ⟨c, rfl, e2, e3, by omega⟩
theorem far_bd (m : Mp) (a : Int) : (farI m a).2 ≤ 1073741824 ∧ -1 ≤ (farI m a).2 := by
  by_cases h : openB m a = true
  · obtain ⟨c, _, e2, _, e4, e5⟩ := far_ok h
    obtain ⟨W, H, hm⟩ := mapB_ok (openB_map h)
    have := (time_hi hm e2 a.toNat).1
    omega
  · rw [farI, if_neg h]
    simp
end Go.Ori
