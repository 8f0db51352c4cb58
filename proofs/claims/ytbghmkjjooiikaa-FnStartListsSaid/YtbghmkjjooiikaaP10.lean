/- Start lists: plain functions. No condition. -/
import Derived.Test.YtbghmkjjooiikaaPlain
namespace Go.Ori
def clubsB (l : List Int) : Bool := l.all (fun n => insB n 0 5) && insB l.length 1 8
theorem clubsB_alt (l : List Int) : (insB l.length 1 8 && !(l.any fun n => !insB n 0 5)) = clubsB l := by
  unfold clubsB
  rw [Bool.and_comm]
  congr 1
  induction l with
  | nil => rfl
  | cons a l ih => simp [List.any_cons, List.all_cons, Bool.not_or, ih]
theorem clubsB_true {l : List Int} (h : clubsB l = true) : 1 ≤ l.length ∧ l.length ≤ 8 ∧ ∀ n ∈ l, 0 ≤ n ∧ n ≤ 5 := by
  simp only [clubsB, Bool.and_eq_true, List.all_eq_true, insB_true] at h
  obtain ⟨h1, h2, h3⟩ := h
  exact ⟨by omega, by omega, h1⟩
def listB (clubs list : List Int) : Bool := decide (list.length = clubs.length) && !twiceB list && !(list.any fun s => !insB s 0 ((clubs.length : Int) - 1))
def startsB (clubs list : List Int) : Bool := clubsB clubs && listB clubs list
theorem listB_true {clubs list : List Int} (h : listB clubs list = true) : list.length = clubs.length ∧ list.Nodup ∧ ∀ s ∈ list, 0 ≤ s ∧ s < clubs.length := by
  simp only [listB, Bool.and_eq_true, decide_eq_true_eq, Bool.not_eq_true', twiceB_nodup] at h
  obtain ⟨⟨h1, h2⟩, h3⟩ := h
  refine ⟨h1, h2, fun s hs => ?_⟩
  rw [List.any_eq_false] at h3
  have := h3 s hs
  simp only [Bool.not_eq_true, Bool.not_eq_false', insB_true] at this
  omega
/-- A place of a start list over n starters is good. -/
def goodAt (n : Nat) (l2 : List Int) (k : Nat) : Bool := match l2[k]? with
  | some y => insB y 0 ((n : Int) - 1) && !hasB (l2.take k) y
  | none => true
theorem goodAt_eq {n : Nat} {l2 : List Int} {k : Nat} (h : k < l2.length) : goodAt n l2 k = (insB l2[k] 0 ((n : Int) - 1) && !hasB (l2.take k) l2[k]) := by
  rw [goodAt, List.getElem?_eq_getElem h]
theorem goods_eq (n : Nat) (l2 : List Int) : allB l2.length (goodAt n l2) = (!twiceB l2 && !(l2.any fun s => !insB s 0 ((n : Int) - 1))) := by
  rw [Bool.eq_iff_iff, allB_iff]
  simp only [Bool.and_eq_true, Bool.not_eq_true', twiceB, Bool.not_not, List.any_eq_false, allB_iff, Bool.not_eq_false']
  constructor
  · intro h
    refine ⟨fun j hj => ?_, fun s hs => ?_⟩
    · have := h j hj
      rw [goodAt_eq hj, Bool.and_eq_true] at this
      rw [freshAt_eq hj]; exact this.2
    · obtain ⟨j, hj, rfl⟩ := List.getElem_of_mem hs
      have := h j hj
      rw [goodAt_eq hj, Bool.and_eq_true] at this
      simp [this.1]
  · intro ⟨h1, h2⟩ j hj
    rw [goodAt_eq hj, Bool.and_eq_true]
    have := h1 j hj
    rw [freshAt_eq hj] at this
    have h3 := h2 _ (List.getElem_mem hj)
    exact ⟨by simpa using h3, this⟩
theorem startsB_no {l l2 : List Int} {k : Nat} (hk : k < l2.length) (hb : goodAt l.length l2 k = false) : startsB l l2 = false := by
  have h := allB_no hk hb
  rw [goods_eq] at h
  unfold startsB listB
  rw [Bool.and_assoc, h]
  simp
theorem startsB_yes {l l2 : List Int} (h : ∀ j, j < l2.length → goodAt l.length l2 j = true) : startsB l l2 = (clubsB l && decide (l2.length = l.length)) := by
  have h := allB_yes h
  rw [goods_eq] at h
  unfold startsB listB
  rw [Bool.and_assoc, h]
  simp
def minutesB (a b : Int) : Bool := insB a 0 600 && insB b 1 10
theorem minutesB_true {a b : Int} (h : minutesB a b = true) : (0 ≤ a ∧ a ≤ 600) ∧ 1 ≤ b ∧ b ≤ 10 := by
  simpa only [minutesB, Bool.and_eq_true, insB_true] using h
def lastB (l : List Int) (a b : Int) : Bool := clubsB l && minutesB a b
def lastI (l : List Int) (a b : Int) : Int := if lastB l a b then a + ((l.length : Int) - 1) * b else 0
/-- Two neighbours of a start list are of one club. -/
def sameAt (clubs list : List Int) (k : Nat) : Bool := match list[k]?, list[k - 1]? with
  | some a, some b => clubs[a.toNat]? == clubs[b.toNat]?
  | _, _ => false
theorem sameAt_eq {clubs list : List Int} {k m1 m2 : Nat} {y1 y2 : Int} (h : list[k]? = some (m1 : Int)) (h' : list[k - 1]? = some (m2 : Int)) (hc : clubs[m1]? = some y1) (hc' : clubs[m2]? = some y2) : sameAt clubs list k = (y1 == y2) := by
  simp [sameAt, h, h', hc, hc']
def clashN (clubs list : List Int) : Nat → Int
  | 0 => 0
  | k + 1 => clashN clubs list k + if decide (1 ≤ k) && sameAt clubs list k then 1 else 0
theorem clashN_bd (clubs list : List Int) : ∀ k, 0 ≤ clashN clubs list k ∧ clashN clubs list k ≤ k
  | 0 => by simp [clashN]
  | k + 1 => by
    have := clashN_bd clubs list k
    unfold clashN
    split <;> omega
theorem clashN_one (clubs list : List Int) : clashN clubs list 1 = 0 := by simp [clashN]
theorem clashN_yes {clubs list : List Int} {k : Nat} (h1 : 1 ≤ k) (h : sameAt clubs list k = true) : clashN clubs list (k + 1) = clashN clubs list k + 1 := by
  simp [clashN, h1, h]
theorem clashN_no {clubs list : List Int} {k : Nat} (h : sameAt clubs list k = false) : clashN clubs list (k + 1) = clashN clubs list k := by
  simp [clashN, h]
def clashI (clubs list : List Int) : Int := if startsB clubs list then clashN clubs list list.length else 0
theorem startsB_true {clubs list : List Int} (h : startsB clubs list = true) : clubsB clubs = true ∧ listB clubs list = true := by
  simpa [startsB] using h
/-- The starter at a place. -/
theorem start_at {clubs list : List Int} (h : startsB clubs list = true) {k : Nat} (hk : k < list.length) : ∃ m : Nat, list[k] = (m : Int) ∧ m < clubs.length := by
  obtain ⟨_, h2⟩ := startsB_true h
  obtain ⟨_, _, h3⟩ := listB_true h2
  have := h3 _ (List.getElem_mem hk)
  exact ⟨list[k].toNat, by omega, by omega⟩
def timesB (clubs list : List Int) (a b : Int) : Bool := startsB clubs list && minutesB a b
def timesN (n : Nat) (list : List Int) (a b : Int) : Nat → List Int
  | 0 => List.replicate n 0
  | k + 1 => (timesN n list a b k).set ((list.getD k 0).toNat) (a + (k : Int) * b)
theorem timesN_length (n : Nat) (list : List Int) (a b : Int) : ∀ k, (timesN n list a b k).length = n
  | 0 => by simp [timesN]
  | k + 1 => by rw [timesN, List.length_set, timesN_length n list a b k]
def timesL (clubs list : List Int) (a b : Int) : List Int := if timesB clubs list a b then timesN clubs.length list a b list.length else []
theorem timesL_length (clubs list : List Int) (a b : Int) : (timesL clubs list a b).length ≤ 1048576 := by
  unfold timesL
  split
  · rename_i h
    rw [timesN_length]
    simp only [timesB, Bool.and_eq_true] at h
    have := clubsB_true (startsB_true h.1).1
    omega
  · simp
/-- How many starters a club has. -/
def cntI (l : List Int) (c : Nat) : Int := ((l.count (c : Int) : Nat) : Int)
theorem cntI_bd (l : List Int) (c : Nat) : 0 ≤ cntI l c ∧ cntI l c ≤ l.length := by
  unfold cntI
  have := List.count_le_length (a := (c : Int)) (l := l)
  omega
def sizesL (l : List Int) : List Int := (List.range 6).map (cntI l)
theorem sizesL_length (l : List Int) : (sizesL l).length = 6 := by simp [sizesL]
theorem sizesL_get (l : List Int) (i : Nat) (h : i < (sizesL l).length) : (sizesL l)[i] = cntI l i := by simp [sizesL]
theorem cntI_take {l : List Int} {k : Nat} (h : k < l.length) (c : Nat) : cntI (l.take (k + 1)) c = cntI (l.take k) c + if (l[k] == (c : Int)) = true then 1 else 0 := by
  unfold cntI
  rw [List.take_succ_eq_append_getElem h, List.count_append, List.count_singleton]
  split <;> simp_all
theorem sizes_step {l : List Int} {k m : Nat} (h : k < l.length) (hm : l[k] = (m : Int)) : sizesL (l.take (k + 1)) = (sizesL (l.take k)).set m (cntI (l.take k) m + 1) := by
  apply List.ext_getElem
  · simp [sizesL]
  · intro i h1 h2
    rw [sizesL_get, List.getElem_set, cntI_take h, hm]
    by_cases e : m = i
    · subst e; simp
    · rw [if_neg e, sizesL_get, if_neg (by simpa using fun x => e (by omega))]
      omega
/-- The largest of a list that is not empty. -/
def maxN (l : List Int) : Nat → Int
  | 0 => l.getD 0 0
  | k + 1 => if maxN l k < l.getD (k + 1) 0 then l.getD (k + 1) 0 else maxN l k
/-- The largest club among the first k, and how many starters it has. -/
def largeN (l : List Int) : Nat → Int × Int
  | 0 => (0, -1)
  | k + 1 => if (largeN l k).2 < cntI l k then ((k : Int), cntI l k) else largeN l k
theorem largeN_succ (l : List Int) (k : Nat) : largeN l (k + 1) = if (largeN l k).2 < cntI l k then ((k : Int), cntI l k) else largeN l k := rfl
theorem largeN_one (l : List Int) : largeN l 1 = (0, cntI l 0) := by
  have := cntI_bd l 0
  rw [largeN_succ, if_pos (show (largeN l 0).2 < cntI l 0 by show (-1 : Int) < _; omega)]
  rfl
theorem largeN_bd (l : List Int) : ∀ k, -1 ≤ (largeN l k).2 ∧ (largeN l k).2 ≤ l.length ∧ 0 ≤ (largeN l k).1 ∧ (largeN l k).1 ≤ k
  | 0 => by simp [largeN]
  | k + 1 => by
    have h := largeN_bd l k
    have := cntI_bd l k
    rw [largeN_succ]
    split
    · simp only; omega
    · omega
theorem max_large (l : List Int) : ∀ k, k < 6 → maxN (sizesL l) k = (largeN l (k + 1)).2
  | 0, _ => by
    rw [largeN_one]
    rfl
  | k + 1, h => by
    have ih := max_large l k (by omega)
    have e : (sizesL l).getD (k + 1) 0 = cntI l (k + 1) := by
      rw [List.getD_eq_getElem?_getD, List.getElem?_eq_getElem (by rw [sizesL_length]; exact h), sizesL_get]; rfl
    rw [maxN, e, ih, largeN_succ l (k + 1)]
    split <;> rfl
def mostI (l : List Int) : Int := (largeN l 6).2
def bestI (l : List Int) : Int := (largeN l 6).1
theorem most_max (l : List Int) : maxN (sizesL l) 5 = mostI l := max_large l 5 (by omega)
theorem large_first (l : List Int) : ∀ k, k < 6 → ∃ m : Nat, m ≤ k ∧ (largeN l (k + 1)).1 = (m : Int) ∧ (largeN l (k + 1)).2 = cntI l m ∧ ∀ j, j < m → cntI l j < cntI l m
  | 0, _ => by
    rw [largeN_one]
    exact ⟨0, by omega, rfl, rfl, fun j hj => by omega⟩
  | k + 1, h => by
    obtain ⟨m, hm, h1, h2, h3⟩ := large_first l k (by omega)
    have key : ∀ j, j ≤ k → cntI l j ≤ (largeN l (k + 1)).2 := fun j hj => by
      clear h h1 h2 h3 hm
      induction k with
      | zero =>
        obtain rfl : j = 0 := by omega
        rw [largeN_one]
        exact Int.le_refl _
      | succ k ih =>
        rw [largeN_succ]
        by_cases hjk : j ≤ k
        · have := ih hjk
          split
          · simp only; omega
          · exact this
        · obtain rfl : j = k + 1 := by omega
          split
          · simp
          · omega
    rw [largeN_succ l (k + 1)]
    split
    · rename_i hlt
      refine ⟨k + 1, by omega, rfl, rfl, fun j hj => ?_⟩
      have := key j (by omega)
      omega
    · exact ⟨m, by omega, h1, h2, h3⟩
theorem best_idx (l : List Int) : idxB (sizesL l) (fun x => mostI l == x) = bestI l := by
  obtain ⟨m, hm, h1, h2, h3⟩ := large_first l 5 (by omega)
  have hl : m < (sizesL l).length := by rw [sizesL_length]; omega
  unfold bestI mostI
  rw [h1]
  refine idxB_some hl (fun j hj hjm => ?_) ?_
  · rw [sizesL_get, h2]
    have := h3 j hjm
    simp
    omega
  · rw [sizesL_get, h2]
    simp
theorem mostI_bd (l : List Int) : -1 ≤ mostI l ∧ mostI l ≤ l.length := ⟨(largeN_bd l 6).1, (largeN_bd l 6).2.1⟩
def leastI (l : List Int) : Int := if clubsB l then (if 0 < 2 * mostI l - l.length - 1 then 2 * mostI l - l.length - 1 else 0) else 0
def fullC (l : List Int) : Int := if clubsB l then bestI l else 0
def fullN (l : List Int) : Int := if clubsB l then mostI l else 0
end Go.Ori
