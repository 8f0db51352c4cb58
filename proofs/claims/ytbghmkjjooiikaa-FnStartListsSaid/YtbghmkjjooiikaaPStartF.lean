/- Start lists: what the great law says, in plain Lean. No condition. -/
import Derived.Test.YtbghmkjjooiikaaP10
import Derived.Test.YtbghmkjjooiikaaMoveToEnd
namespace Go.Ori
theorem getD_put (L : List Int) (i : Nat) (x : Int) (k : Nat) (hi : i < L.length) : (L.set i x).getD k 0 = if i = k then x else L.getD k 0 := by
  simp only [List.getD_eq_getElem?_getD, List.getElem?_set]
  split
  · first | rfl | (rw [if_pos hi]; rfl)
  · rfl
theorem times_at {n : Nat} {l : List Int} {a b : Int} (hn : l.Nodup) (hr : ∀ x ∈ l, 0 ≤ x ∧ x < n) : ∀ k, k ≤ l.length → ∀ i (h : i < l.length), i < k → (timesN n l a b k).getD (l[i]).toNat 0 = a + (i : Int) * b
  | 0, _, _, _, h => absurd h (Nat.not_lt_zero _)
  | k + 1, hk, i, h, hik => by
    have hkl : k < l.length := by omega
    have hkr := hr _ (List.getElem_mem hkl)
    have hir := hr _ (List.getElem_mem h)
    have hg : l.getD k 0 = l[k] := by rw [List.getD_eq_getElem?_getD, List.getElem?_eq_getElem hkl]; rfl
    rw [timesN, hg, getD_put _ _ _ _ (by rw [timesN_length]; omega)]
    by_cases e : i = k
    · subst e; rw [if_pos rfl]
    · rw [if_neg]
      · exact times_at hn hr k (by omega) i h (by omega)
      · intro e2
        have e3 : l[k] = l[i] := by omega
        exact e ((List.getElem_inj hn).1 e3).symm
theorem timesL_at {c l : List Int} {a b : Int} (h : timesB c l a b = true) {i : Nat} (hi : i < l.length) : (timesL c l a b).getD (l[i]).toNat 0 = a + (i : Int) * b ∧ (l[i]).toNat < (timesL c l a b).length ∧ 0 ≤ l[i] := by
  have hs : startsB c l = true := by simp only [timesB, Bool.and_eq_true] at h; exact h.1
  obtain ⟨h1, h2, h3⟩ := listB_true (startsB_true hs).2
  have hr := h3 _ (List.getElem_mem hi)
  refine ⟨?_, ?_, hr.1⟩
  · rw [timesL, if_pos h]; exact times_at h2 h3 _ (Nat.le_refl _) i hi hi
  · rw [timesL, if_pos h, timesN_length]; omega
theorem hasB_at {L : List Int} {k : Nat} {x : Int} (hk : k < L.length) (h : L.getD k 0 = x) : hasB L x = true := by
  rw [hasB_iff]
  rw [List.getD_eq_getElem?_getD, List.getElem?_eq_getElem hk, Option.getD_some] at h
  rw [← h]
  exact List.getElem_mem hk
theorem has_last {c l : List Int} {a b : Int} (h : timesB c l a b = true) : lastB c a b = true ∧ hasB (timesL c l a b) (lastI c a b) = true ∧ hasB (timesL c l a b) a = true := by
  have h0 := h
  simp only [timesB, Bool.and_eq_true] at h0
  obtain ⟨hc, hl⟩ := startsB_true h0.1
  have hn := (clubsB_true hc).1
  have he := (listB_true hl).1
  have hB : lastB c a b = true := by simp [lastB, hc, h0.2]
  refine ⟨hB, ?_, ?_⟩
  · have h1 := timesL_at h (i := l.length - 1) (by omega)
    refine hasB_at h1.2.1 (h1.1.trans ?_)
    rw [lastI, if_pos hB]
    congr 2
    omega
  · have h1 := timesL_at h (i := 0) (by omega)
    refine hasB_at h1.2.1 (h1.1.trans ?_)
    simp
theorem nodup_le : ∀ (n : Nat) (l : List Int), l.Nodup → (∀ x ∈ l, 0 ≤ x ∧ x < n) → l.length ≤ n
  | 0, [], _, _ => Nat.le_refl _
  | 0, x :: l, _, h => by have := h x (by simp); omega
  | n + 1, l, hd, h => by
    by_cases hm : (n : Int) ∈ l
    · have h1 := nodup_le n (l.erase (n : Int)) (hd.erase _) (fun x hx => by
        have h2 := (hd.mem_erase_iff).1 hx
        have := h x h2.2
        omega)
      rw [List.length_erase_of_mem hm] at h1
      omega
    · have := nodup_le n l hd (fun x hx => by
        have h2 := h x hx
        have h3 : x ≠ n := fun e => hm (e ▸ hx)
        omega)
      omega
theorem all_in_list {n : Nat} {l : List Int} (hl : l.length = n) (hd : l.Nodup) (hr : ∀ x ∈ l, 0 ≤ x ∧ x < n) {s : Int} (h0 : 0 ≤ s) (h1 : s < n) : s ∈ l := by
  by_cases h : s ∈ l
  · exact h
  · have := nodup_le n (s :: l) (List.nodup_cons.2 ⟨h, hd⟩) (fun x hx => by
      rcases List.mem_cons.1 hx with rfl | hx
      · exact ⟨h0, h1⟩
      · exact hr x hx)
    simp only [List.length_cons] at this
    omega
theorem mv_facts {c l : List Int} {s : Int} (h : mvB c l s = true) : ∃ m, mvL c l s = m ++ [s] ∧ startsB c (mvL c l s) = true ∧ mvB c (mvL c l s) s = true ∧ mvL c (mvL c l s) s = mvL c l s := by
  have h0 := h
  simp only [mvB, Bool.and_eq_true, insB_true] at h0
  obtain ⟨hs, hs0, hs1⟩ := h0
  obtain ⟨hc, hl⟩ := startsB_true hs
  obtain ⟨hlen, hnd, hrg⟩ := listB_true hl
  have hmem := all_in_list hlen hnd hrg hs0 (by omega)
  have e1 : mvL c l s = (l.filter fun x => !(x == s)) ++ [s] := by rw [mvL, if_pos h]
  have hfl : (l.filter fun x => !(x == s)).length + 1 = l.length := by
    have e2 : l.filter (fun x => !(x == s)) = l.erase s := by
      rw [hnd.erase_eq_filter]
      congr 1
    rw [e2, List.length_erase_of_mem hmem]
    have := List.length_pos_of_mem hmem
    omega
  have hnd2 : ((l.filter fun x => !(x == s)) ++ [s]).Nodup := by
    rw [List.nodup_append]
    refine ⟨hnd.filter _, by simp, fun a ha b hb e => ?_⟩
    rw [List.mem_singleton] at hb
    have := (List.mem_filter.1 ha).2
    rw [e, hb] at this
    simp at this
  have hst : startsB c (mvL c l s) = true := by
    rw [e1, startsB, hc, Bool.true_and, listB, twiceB_nodup.2 hnd2]
    have q1 : ((l.filter fun x => !(x == s)) ++ [s]).length = c.length := by simp; omega
    have q2 : (((l.filter fun x => !(x == s)) ++ [s]).any fun s => !insB s 0 ((c.length : Int) - 1)) = false := by
      rw [List.any_eq_false]
      intro x hx
      have hx2 : 0 ≤ x ∧ x < c.length := by
        rcases List.mem_append.1 hx with hx | hx
        · exact hrg x (List.mem_filter.1 hx).1
        · rw [List.mem_singleton] at hx; subst hx; omega
      rw [Bool.not_eq_true, Bool.not_eq_false', insB_true]
      omega
    rw [q2, decide_eq_true q1]
    rfl
  have hmv : mvB c (mvL c l s) s = true := by
    simp only [mvB, Bool.and_eq_true, insB_true]
    exact ⟨hst, hs0, hs1⟩
  refine ⟨_, e1, hst, hmv, ?_⟩
  rw [mvL, if_pos hmv, e1, List.filter_append]
  simp
end Go.Ori
