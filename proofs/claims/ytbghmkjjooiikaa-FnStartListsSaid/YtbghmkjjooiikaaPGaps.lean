/- Gaps between the starters of a club: plain functions. No condition. -/
import Derived.Test.YtbghmkjjooiikaaP10
namespace Go.Ori
def clubAt (l l2 : List Int) (k : Nat) : Nat := (l.getD (l2.getD k 0).toNat 0).toNat
theorem clubAt_eq {l l2 : List Int} {k m : Nat} (hk : k < l2.length) (hm : l2[k] = (m : Int)) (hml : m < l.length) {V : Nat} (hV : l[m] = (V : Int)) : clubAt l l2 k = V := by
  unfold clubAt
  simp only [List.getD_eq_getElem?_getD, List.getElem?_eq_getElem hk, Option.getD_some, hm, Int.toNat_natCast, List.getElem?_eq_getElem hml, hV]
/-- The place, from 1 on, at which a club was seen last among the first k; 0: never. -/
def gl (l l2 : List Int) (c : Nat) : Nat → Int
  | 0 => 0
  | k + 1 => if clubAt l l2 k = c then (k : Int) + 1 else gl l l2 c k
def gb (l l2 : List Int) (c : Nat) : Nat → Int
  | 0 => 0
  | k + 1 => if clubAt l l2 k = c ∧ 0 < gl l l2 c k ∧ (gb l l2 c k = 0 ∨ (k : Int) + 1 - gl l l2 c k < gb l l2 c k) then (k : Int) + 1 - gl l l2 c k else gb l l2 c k
theorem gl_bd (l l2 : List Int) (c k : Nat) : 0 ≤ gl l l2 c k ∧ gl l l2 c k ≤ k := by
  induction k with
  | zero => simp [gl]
  | succ k ih => rw [gl]; split <;> omega
theorem gb_bd (l l2 : List Int) (c k : Nat) : 0 ≤ gb l l2 c k ∧ gb l l2 c k ≤ k := by
  induction k with
  | zero => simp [gb]
  | succ k ih => have := gl_bd l l2 c k; rw [gb]; split <;> omega
def glN (l l2 : List Int) (k : Nat) : List Int := (List.range 6).map fun c => gl l l2 c k
def gbN (l l2 : List Int) (k : Nat) : List Int := (List.range 6).map fun c => gb l l2 c k
theorem glN_length (l l2 : List Int) (k : Nat) : (glN l l2 k).length = 6 := by simp [glN]
theorem gbN_length (l l2 : List Int) (k : Nat) : (gbN l l2 k).length = 6 := by simp [gbN]
theorem glN_at {l l2 : List Int} {k V : Nat} (h : V < 6) : (glN l l2 k)[V]? = some (gl l l2 V k) := by simp [glN, h]
theorem gbN_at {l l2 : List Int} {k V : Nat} (h : V < 6) : (gbN l l2 k)[V]? = some (gb l l2 V k) := by simp [gbN, h]
theorem glN_succ {l l2 : List Int} {k V : Nat} (h : clubAt l l2 k = V) : glN l l2 (k + 1) = (glN l l2 k).set V ((k : Int) + 1) := by
  apply List.ext_getElem (by simp [glN])
  intro i h1 h2
  rw [List.getElem_set]
  simp only [glN, List.getElem_map, List.getElem_range, gl, h]
theorem gb_set {l l2 : List Int} {k V : Nat} (h : clubAt l l2 k = V) (hc : 0 < gl l l2 V k ∧ (gb l l2 V k = 0 ∨ (k : Int) + 1 - gl l l2 V k < gb l l2 V k)) : gb l l2 V (k + 1) = (k : Int) + 1 - gl l l2 V k := by
  rw [gb, if_pos ⟨h, hc⟩]
theorem gb_same {l l2 : List Int} {k V c : Nat} (h : clubAt l l2 k = V) (hc : c ≠ V ∨ ¬ (0 < gl l l2 c k ∧ (gb l l2 c k = 0 ∨ (k : Int) + 1 - gl l l2 c k < gb l l2 c k))) : gb l l2 c (k + 1) = gb l l2 c k := by
  rw [gb, if_neg]
  rintro ⟨h1, h2⟩
  rcases hc with hc | hc
  · exact hc (h1.symm.trans h)
  · exact hc h2
theorem gbN_set {l l2 : List Int} {k V : Nat} (h : clubAt l l2 k = V) (hc : 0 < gl l l2 V k ∧ (gb l l2 V k = 0 ∨ (k : Int) + 1 - gl l l2 V k < gb l l2 V k)) : gbN l l2 (k + 1) = (gbN l l2 k).set V ((k : Int) + 1 - gl l l2 V k) := by
  apply List.ext_getElem (by simp [gbN])
  intro i h1 h2
  rw [List.getElem_set]
  simp only [gbN, List.getElem_map, List.getElem_range]
  by_cases e : V = i
  · subst e; simp [gb_set h hc]
  · rw [if_neg e]; exact gb_same h (.inl (fun q => e q.symm))
theorem gbN_same {l l2 : List Int} {k V : Nat} (h : clubAt l l2 k = V) (hc : ¬ (0 < gl l l2 V k ∧ (gb l l2 V k = 0 ∨ (k : Int) + 1 - gl l l2 V k < gb l l2 V k))) : gbN l l2 (k + 1) = gbN l l2 k := by
  apply List.ext_getElem (by simp [gbN])
  intro i h1 h2
  simp only [gbN, List.getElem_map, List.getElem_range]
  by_cases e : V = i
  · subst e; exact gb_same h (.inr hc)
  · exact gb_same h (.inl (fun q => e q.symm))
/-- What stands in the spec's table: whole for the clubs below C, at C for the first k places. -/
def gsN (l l2 : List Int) (C k : Nat) : List Int := (List.range 6).map fun c => if c < C then gb l l2 c l2.length else if c = C then gb l l2 c k else 0
theorem gsN_length (l l2 : List Int) (C k : Nat) : (gsN l l2 C k).length = 6 := by simp [gsN]
theorem gsN_at {l l2 : List Int} {C k : Nat} (h : C < 6) : (gsN l l2 C k)[C]? = some (gb l l2 C k) := by simp [gsN, h]
theorem gsN_zero (l l2 : List Int) : gsN l l2 0 0 = List.replicate 6 0 := by
  simp [gsN, gb]; decide
theorem gsN_next (l l2 : List Int) (C : Nat) : gsN l l2 C l2.length = gsN l l2 (C + 1) 0 := by
  apply List.ext_getElem (by simp [gsN])
  intro i h1 h2
  simp only [gsN, List.getElem_map, List.getElem_range]
  by_cases e1 : i < C
  · rw [if_pos e1, if_pos (by omega)]
  · by_cases e2 : i = C
    · rw [if_neg e1, if_pos e2, if_pos (by omega)]
    · rw [if_neg e1, if_neg e2, if_neg (by omega)]
      split <;> simp [gb]
theorem gsN_full (l l2 : List Int) : gsN l l2 6 0 = gbN l l2 l2.length := by
  apply List.ext_getElem (by simp [gsN, gbN])
  intro i h1 h2
  have : i < 6 := by simpa [gsN] using h1
  simp [gsN, gbN, this]
theorem gsN_set {l l2 : List Int} {C k : Nat} {x : Int} (h : gb l l2 C (k + 1) = x) : gsN l l2 C (k + 1) = (gsN l l2 C k).set C x := by
  apply List.ext_getElem (by simp [gsN])
  intro i h1 h2
  rw [List.getElem_set]
  simp only [gsN, List.getElem_map, List.getElem_range]
  by_cases e : C = i
  · subst e; simp [h]
  · rw [if_neg e, if_neg (c := i = C) (fun q => e q.symm), if_neg (c := i = C) (fun q => e q.symm)]
theorem gsN_same {l l2 : List Int} {C k : Nat} (h : gb l l2 C (k + 1) = gb l l2 C k) : gsN l l2 C (k + 1) = gsN l l2 C k := by
  apply List.ext_getElem (by simp [gsN])
  intro i h1 h2
  simp only [gsN, List.getElem_map, List.getElem_range]
  by_cases e : C = i
  · subst e; simp [h]
  · rw [if_neg (c := i = C) (fun q => e q.symm), if_neg (c := i = C) (fun q => e q.symm)]
def gapsL (l l2 : List Int) : List Int := if startsB l l2 then gbN l l2 l2.length else []
theorem gapsL_length (l l2 : List Int) : (gapsL l l2).length ≤ 1048576 := by
  unfold gapsL
  split
  · rw [gbN_length]; omega
  · simp
end Go.Ori
