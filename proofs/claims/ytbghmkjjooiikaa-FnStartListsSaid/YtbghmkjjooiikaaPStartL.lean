/- Start lists without clashes: when there is one, and the least number of clashes. No condition. -/
import Derived.Test.YtbghmkjjooiikaaPStartF
import Derived.Test.YtbghmkjjooiikaaPClean
import Derived.Test.YtbghmkjjooiikaaPGaps
namespace Go.Ori
/-- The club of a starter. -/
def clubO (c : List Int) (y : Int) : Int := c.getD y.toNat 0
/-- How many neighbours are alike; `o` stands ahead of the first. -/
def adjN : Option Int → List Int → Nat
  | _, [] => 0
  | o, x :: t => (if o = some x then 1 else 0) + adjN (some x) t
def lastO : Option Int → List Int → Option Int
  | o, [] => o
  | _, x :: t => lastO (some x) t
theorem adj_append : ∀ (o : Option Int) (l e : List Int), adjN o (l ++ e) = adjN o l + adjN (lastO o l) e
  | _, [], _ => by simp [adjN, lastO]
  | o, x :: t, e => by simp only [List.cons_append, adjN, lastO, adj_append (some x) t e]; omega
theorem lastO_snoc : ∀ (o : Option Int) (l : List Int) (x : Int), lastO o (l ++ [x]) = some x
  | _, [], _ => rfl
  | _, y :: t, x => by simp only [List.cons_append, lastO]; exact lastO_snoc (some y) t x
theorem adj_cons {o : Option Int} {x : Int} {t : List Int} : adjN o (x :: t) = 0 ↔ o ≠ some x ∧ adjN (some x) t = 0 := by
  simp only [adjN]
  split
  · rename_i h; simp [h]
  · rename_i h; simp [h]
theorem adj_one (o : Option Int) (x : Int) : adjN o [x] = if o = some x then 1 else 0 := by simp [adjN]
theorem adj_bound (x : Int) : ∀ (d : List Int) (o : Option Int), 2 * d.count x ≤ d.length + adjN o d + (if o = some x then 0 else 1)
  | [], o => by simp
  | a :: d, o => by
    have ih := adj_bound x d (some a)
    simp only [List.count_cons, List.length_cons, adjN]
    by_cases e : a = x
    · subst e
      simp only [beq_self_eq_true, if_pos] at ih ⊢
      split <;> omega
    · have e1 : (a == x) = false := by simpa using e
      have e2 : ¬ (some a = some x) := by simpa using e
      rw [if_neg e2] at ih
      rw [e1]
      simp only [Bool.false_eq_true, if_false]
      omega
theorem count_two {a b : Int} (h : a ≠ b) : ∀ l : List Int, l.count a + l.count b ≤ l.length
  | [] => by simp
  | x :: t => by
    have := count_two h t
    simp only [List.count_cons, List.length_cons]
    by_cases e : x = a
    · subst e
      rw [if_pos (by simp), if_neg (by simpa using h)]
      omega
    · rw [if_neg (by simpa using e)]
      split <;> omega
theorem argmax {α : Type} (P : α → Prop) (f : α → Nat) : ∀ l : List α, (∃ y ∈ l, P y) → ∃ y ∈ l, P y ∧ ∀ z ∈ l, P z → f z ≤ f y
  | [], h => by obtain ⟨y, hy, _⟩ := h; cases hy
  | a :: t, h => by
    by_cases ht : ∃ y ∈ t, P y
    · obtain ⟨y, hy, py, hm⟩ := argmax P f t ht
      by_cases pa : P a
      · by_cases hle : f a ≤ f y
        · exact ⟨y, List.mem_cons_of_mem _ hy, py, fun z hz pz => by
            rcases List.mem_cons.1 hz with rfl | hz
            · exact hle
            · exact hm z hz pz⟩
        · exact ⟨a, List.mem_cons_self, pa, fun z hz pz => by
            rcases List.mem_cons.1 hz with rfl | hz
            · exact Nat.le_refl _
            · have := hm z hz pz; omega⟩
      · exact ⟨y, List.mem_cons_of_mem _ hy, py, fun z hz pz => by
          rcases List.mem_cons.1 hz with rfl | hz
          · exact absurd pz pa
          · exact hm z hz pz⟩
    · obtain ⟨y, hy, py⟩ := h
      rcases List.mem_cons.1 hy with rfl | hy
      · exact ⟨y, List.mem_cons_self, py, fun z hz pz => by
          rcases List.mem_cons.1 hz with rfl | hz
          · exact Nat.le_refl _
          · exact absurd ⟨z, hz, pz⟩ ht⟩
      · exact absurd ⟨y, hy, py⟩ ht
theorem arrange (g : Int → Int) : ∀ (k : Nat) (rem : List Int) (o : Option Int), rem.length = k → (∀ x, 2 * (rem.map g).count x ≤ k + 1) → (∀ x, o = some x → 2 * (rem.map g).count x ≤ k) → ∃ e : List Int, e.Perm rem ∧ adjN o (e.map g) = 0
  | 0, rem, o, h, _, _ => by
    have : rem = [] := List.eq_nil_of_length_eq_zero h
    subst this
    exact ⟨[], List.Perm.refl _, rfl⟩
  | k + 1, rem, o, h, h1, h2 => by
    have hex : ∃ y ∈ rem, o ≠ some (g y) := by
      apply Classical.byContradiction
      intro hn
      have hall : ∀ y ∈ rem, o = some (g y) := fun y hy => Classical.byContradiction fun q => hn ⟨y, hy, q⟩
      have h0 : 0 < rem.length := by omega
      have hy0 := hall _ (List.getElem_mem h0)
      have hc : (rem.map g).count (g rem[0]) = (rem.map g).length := by
        rw [List.count_eq_length]
        intro b hb
        obtain ⟨z, hz, rfl⟩ := List.mem_map.1 hb
        have := hall z hz
        rw [hy0] at this
        exact Option.some.inj this
      have := h2 _ hy0
      rw [hc, List.length_map] at this
      omega
    obtain ⟨y, hy, hoy, hmax⟩ := argmax (fun y => o ≠ some (g y)) (fun y => (rem.map g).count (g y)) rem hex
    have hp := List.perm_cons_erase hy
    have hcnt : ∀ x, (rem.map g).count x = ((rem.erase y).map g).count x + if g y == x then 1 else 0 := fun x => by
      rw [(hp.map g).count_eq x, List.map_cons, List.count_cons]
    have hlen : (rem.erase y).length = k := by rw [List.length_erase_of_mem hy]; omega
    have q1 : ∀ x, 2 * ((rem.erase y).map g).count x ≤ k + 1 := fun x => by
      have e1 := hcnt x
      have e2 := h1 x
      by_cases e : g y = x
      · rw [if_pos (by simpa using e)] at e1; omega
      · rw [if_neg (by simpa using e)] at e1
        by_cases eo : o = some x
        · have := h2 x eo; omega
        · by_cases e0 : (rem.map g).count x = 0
          · omega
          · have hm : x ∈ rem.map g := by
              rw [← List.count_pos_iff]; omega
            obtain ⟨z, hz, rfl⟩ := List.mem_map.1 hm
            have m1 := hmax z hz eo
            have m2 := count_two e (rem.map g)
            rw [List.length_map, h] at m2
            omega
    have q2 : ∀ x, some (g y) = some x → 2 * ((rem.erase y).map g).count x ≤ k := fun x hx => by
      have e : g y = x := Option.some.inj hx
      have e1 := hcnt x
      have e2 := h1 x
      rw [if_pos (by simpa using e)] at e1
      omega
    obtain ⟨e, he, ha⟩ := arrange g k (rem.erase y) (some (g y)) hlen q1 q2
    exact ⟨y :: e, (he.cons y).trans hp.symm, by rw [List.map_cons, adj_cons]; exact ⟨hoy, ha⟩⟩
theorem firstN_pos {f : Nat → List Int} {j : Nat} (h : 0 < (f j).length) : ∀ r k, k ≤ j → j < k + r → 0 < (firstN f r k).length
  | 0, k, _, _ => by omega
  | r + 1, k, h1, h2 => by
    rw [firstN]
    split
    · assumption
    · rename_i hn
      exact firstN_pos h r (k + 1) (by by_cases e : k = j; · subst e; exact absurd h hn
                                       · omega) (by omega)
theorem firstN_form (f : Nat → List Int) : ∀ r k, firstN f r k = [] ∨ ∃ j, k ≤ j ∧ j < k + r ∧ firstN f r k = f j
  | 0, _ => .inl rfl
  | r + 1, k => by
    rw [firstN]
    split
    · exact .inr ⟨k, Nat.le_refl _, by omega, rfl⟩
    · rcases firstN_form f r (k + 1) with h | ⟨j, h1, h2, h3⟩
      · exact .inl h
      · exact .inr ⟨j, by omega, by omega, h3⟩
theorem clubO_nat {c : List Int} {k : Nat} (hk : k < c.length) : clubO c (k : Int) = c[k] := by
  simp [clubO, List.getD_eq_getElem?_getD, List.getElem?_eq_getElem hk]
theorem snoc_form (l : List Int) (h : l ≠ []) : ∃ L b, l = L ++ [b] := ⟨l.dropLast, l.getLast h, (List.dropLast_concat_getLast h).symm⟩
theorem tie_eq {c l : List Int} {k : Nat} (hb : ∀ x ∈ l, 0 ≤ x ∧ x < (c.length : Int)) (hk : k < c.length) : tieB c l k = decide (lastO none (l.map (clubO c)) = some (clubO c k)) := by
  by_cases h : l = []
  · subst h; simp [tieB, lastO]
  · obtain ⟨L, b, rfl⟩ := snoc_form l h
    have h1 := hb b (by simp)
    obtain ⟨m, rfl⟩ : ∃ m : Nat, b = (m : Int) := ⟨b.toNat, by omega⟩
    have hm : m < c.length := by omega
    rw [tieB_at (m := m) (by simp) (by simp) hm hk, List.map_append, List.map_cons, List.map_nil, lastO_snoc, clubO_nat hm, clubO_nat hk]
    by_cases e : c[m] = c[k] <;> simp [e]
theorem clean_pos (c : List Int) : ∀ (m : Nat) (l e : List Int), e.length = m → 0 < (l ++ e).length → (∀ x ∈ l ++ e, 0 ≤ x ∧ x < (c.length : Int)) → (l ++ e).Nodup → adjN (lastO none (l.map (clubO c))) (e.map (clubO c)) = 0 → 0 < (clean c m l).length
  | 0, l, e, he, h0, _, _, _ => by
    have : e = [] := List.eq_nil_of_length_eq_zero he
    subst this
    simpa [clean] using h0
  | m + 1, l, [], he, _, _, _, _ => by simp at he
  | m + 1, l, y :: e, he, h0, hb, hn, ha => by
    have hy := hb y (by simp)
    obtain ⟨k, rfl⟩ : ∃ k : Nat, y = (k : Int) := ⟨y.toNat, by omega⟩
    have hk : k < c.length := by omega
    rw [List.map_cons, adj_cons] at ha
    have hbl : ∀ x ∈ l, 0 ≤ x ∧ x < (c.length : Int) := fun x hx => hb x (List.mem_append.2 (.inl hx))
    rw [clean_succ]
    refine firstN_pos (j := k) ?_ _ _ (Nat.zero_le _) (by omega)
    have e1 : hasB l k = false := by
      cases hh : hasB l (k : Int) with
      | false => rfl
      | true =>
        rw [hasB_iff] at hh
        rw [List.nodup_append] at hn
        exact absurd rfl (hn.2.2 _ hh (k : Int) List.mem_cons_self)
    have e2 : tieB c l k = false := by rw [tie_eq hbl hk]; exact decide_eq_false ha.1
    rw [cleanF, e1, e2]
    simp only [Bool.or_self, Bool.false_eq_true, if_false]
    have e3 : l ++ [(k : Int)] ++ e = l ++ (k : Int) :: e := by simp
    refine clean_pos c m (l ++ [(k : Int)]) e (by simpa using he) (by rw [e3]; exact h0) (by rw [e3]; exact hb) (by rw [e3]; exact hn) ?_
    rw [List.map_append, List.map_cons, List.map_nil, lastO_snoc]
    exact ha.2
def Good10 (c l : List Int) : Prop := (∀ x ∈ l, 0 ≤ x ∧ x < (c.length : Int)) ∧ l.Nodup ∧ adjN none (l.map (clubO c)) = 0
theorem clean_good (c : List Int) : ∀ (m : Nat) (l : List Int), Good10 c l → 0 < (clean c m l).length → Good10 c (clean c m l) ∧ (clean c m l).length = l.length + m
  | 0, l, h, _ => ⟨h, rfl⟩
  | m + 1, l, h, hp => by
    rw [clean_succ] at hp ⊢
    rcases firstN_form (cleanF c (clean c m) l) (c.length - 0) 0 with e | ⟨k, _, hk, e⟩
    · rw [e] at hp; simp at hp
    · have hk : k < c.length := by omega
      rw [e] at hp ⊢
      unfold cleanF at hp ⊢
      split at hp
      · simp at hp
      · rename_i hno
        simp only [Bool.or_eq_true, not_or, Bool.not_eq_true] at hno
        rw [if_neg (by simp [hno.1, hno.2])]
        have hg : Good10 c (l ++ [(k : Int)]) := by
          refine ⟨bound_snoc h.1 hk, ?_, ?_⟩
          · rw [List.nodup_append]
            refine ⟨h.2.1, by simp, fun a ha b hb e => ?_⟩
            rw [List.mem_singleton] at hb
            subst hb; subst e
            have := hasB_iff.2 ha
            rw [hno.1] at this
            cases this
          · rw [List.map_append, adj_append, h.2.2, List.map_cons, List.map_nil, adj_one, if_neg]
            have := hno.2
            rw [tie_eq h.1 hk] at this
            exact of_decide_eq_false this
        obtain ⟨g1, g2⟩ := clean_good c m _ hg hp
        exact ⟨g1, by rw [g2, List.length_append, List.length_singleton]; omega⟩
theorem listB_of {c l : List Int} (h1 : l.length = c.length) (h2 : l.Nodup) (h3 : ∀ x ∈ l, 0 ≤ x ∧ x < (c.length : Int)) : listB c l = true := by
  rw [listB, twiceB_nodup.2 h2, decide_eq_true h1]
  have : (l.any fun s => !insB s 0 ((c.length : Int) - 1)) = false := by
    rw [List.any_eq_false]
    intro x hx
    have := h3 x hx
    rw [Bool.not_eq_true, Bool.not_eq_false', insB_true]
    omega
  rw [this]; rfl
theorem same_club {c l : List Int} (h : startsB c l = true) {k : Nat} (hk : k < l.length) (h1 : 1 ≤ k) : sameAt c l k = decide (clubO c (l[k - 1]'(by omega)) = clubO c l[k]) := by
  obtain ⟨m1, e1, b1⟩ := start_at h hk
  obtain ⟨m2, e2, b2⟩ := start_at h (show k - 1 < l.length by omega)
  rw [sameAt_eq (m1 := m1) (m2 := m2) (by rw [List.getElem?_eq_getElem hk, e1]) (by rw [List.getElem?_eq_getElem (by omega), e2]) (List.getElem?_eq_getElem b1) (List.getElem?_eq_getElem b2), e1, e2, clubO_nat b1, clubO_nat b2]
  by_cases e : c[m1] = c[m2]
  · simp [e]
  · have : ¬ c[m2] = c[m1] := fun q => e q.symm
    simp [e, this]
theorem clash_adj {c l : List Int} (h : startsB c l = true) : ∀ k, k ≤ l.length → clashN c l k = (adjN none ((l.take k).map (clubO c)) : Nat)
  | 0, _ => by simp [clashN, adjN]
  | k + 1, hk => by
    have ih := clash_adj h k (by omega)
    rw [clashN, ih, List.take_succ_eq_append_getElem (by omega), List.map_append, adj_append, List.map_cons, List.map_nil, adj_one]
    by_cases h0 : 1 ≤ k
    · rw [same_club h (by omega) h0]
      obtain ⟨j, rfl⟩ : ∃ j, k = j + 1 := ⟨k - 1, by omega⟩
      rw [List.take_succ_eq_append_getElem (show j < l.length by omega), List.map_append, List.map_cons, List.map_nil, lastO_snoc]
      by_cases e : clubO c l[j] = clubO c l[j + 1]
      · simp [e]
      · simp [e]
    · have : k = 0 := by omega
      subst this
      simp [lastO, adjN]
theorem clubs_perm {c l : List Int} (h : startsB c l = true) : (l.map (clubO c)).Perm c := by
  obtain ⟨h1, h2, h3⟩ := listB_true (startsB_true h).2
  have hp : l.Perm ((List.range c.length).map fun i : Nat => (i : Int)) := by
    have hn : ((List.range c.length).map fun i : Nat => (i : Int)).Nodup := by
      rw [List.Nodup, List.pairwise_map]
      exact List.nodup_range.imp (fun q e => q (by omega))
    rw [List.perm_iff_count]
    intro a
    rw [h2.count, hn.count]
    by_cases ha : 0 ≤ a ∧ a < c.length
    · rw [if_pos (all_in_list h1 h2 h3 ha.1 ha.2), if_pos]
      exact List.mem_map.2 ⟨a.toNat, List.mem_range.2 (by omega), by omega⟩
    · rw [if_neg (fun q => ha (h3 a q)), if_neg]
      intro q
      obtain ⟨i, hi, rfl⟩ := List.mem_map.1 q
      exact ha ⟨by omega, by have := List.mem_range.1 hi; omega⟩
  have e : ((List.range c.length).map fun i : Nat => (i : Int)).map (clubO c) = c := by
    apply List.ext_getElem (by simp)
    intro i q1 q2
    simp only [List.getElem_map, List.getElem_range]
    exact clubO_nat q2
  have := hp.map (clubO c)
  rw [e] at this
  exact this
theorem clash_all {c l : List Int} (h : startsB c l = true) : clashI c l = (adjN none (l.map (clubO c)) : Nat) := by
  rw [clashI, if_pos h, clash_adj h _ (Nat.le_refl _), List.take_of_length_le (Nat.le_refl _)]
theorem least_le {c l : List Int} (h : startsB c l = true) : leastI c ≤ clashI c l := by
  have hc := (startsB_true h).1
  obtain ⟨m, _, _, h2, _⟩ := large_first c 5 (by omega)
  have hb := adj_bound (m : Int) (l.map (clubO c)) none
  rw [(clubs_perm h).count_eq, (clubs_perm h).length_eq] at hb
  rw [clash_all h, leastI, if_pos hc, show mostI c = cntI c m from h2, cntI]
  simp only [reduceCtorEq, if_false] at hb
  split <;> omega
theorem most_all {c : List Int} (hc : clubsB c = true) (x : Int) : (c.count x : Int) ≤ mostI c := by
  have key : ∀ k j, j < k → cntI c j ≤ (largeN c k).2 := fun k => by
    induction k with
    | zero => intro j hj; omega
    | succ k ih =>
      intro j hj
      rw [largeN_succ]
      by_cases e : j = k
      · subst e; split
        · exact Int.le_refl _
        · omega
      · have := ih j (by omega)
        split
        · simp only; omega
        · exact this
  by_cases hx : x ∈ c
  · have := (clubsB_true hc).2.2 x hx
    have h2 := key 6 x.toNat (by omega)
    rw [cntI, show ((x.toNat : Nat) : Int) = x by omega] at h2
    exact h2
  · rw [List.count_eq_zero_of_not_mem hx]
    have := key 6 0 (by omega)
    have h2 := cntI_bd c 0
    simp only [mostI]
    omega
theorem clean_iff {c : List Int} (hc : clubsB c = true) : cleanB c = decide (leastI c = 0) := by
  have hn := (clubsB_true hc).1
  rw [Bool.eq_iff_iff, cleanB, decide_eq_true_eq, decide_eq_true_eq, cleanL, if_pos hc]
  constructor
  · intro hp
    obtain ⟨⟨g1, g2, g3⟩, g4⟩ := clean_good c c.length [] ⟨by simp, by simp, rfl⟩ hp
    have hs : startsB c (clean c c.length []) = true := by rw [startsB, hc, listB_of (by simpa using g4) g2 g1]; rfl
    have := least_le hs
    rw [clash_all hs, g3] at this
    have h0 : 0 ≤ leastI c := by rw [leastI, if_pos hc]; split <;> omega
    omega
  · intro h0
    have hm : 2 * mostI c ≤ c.length + 1 := by
      rw [leastI, if_pos hc] at h0
      split at h0 <;> omega
    have e : ((List.range c.length).map fun i : Nat => (i : Int)).map (clubO c) = c := by
      apply List.ext_getElem (by simp)
      intro i q1 q2
      simp only [List.getElem_map, List.getElem_range]
      exact clubO_nat q2
    obtain ⟨l, hl, ha⟩ := arrange (clubO c) c.length ((List.range c.length).map fun i : Nat => (i : Int)) none (by simp) (fun x => by rw [e]; have := most_all hc x; omega) (fun x hx => by cases hx)
    refine clean_pos c c.length [] l (by rw [hl.length_eq]; simp) (by rw [List.nil_append, hl.length_eq]; simp; omega) (fun x hx => ?_) ?_ ha
    · have := hl.mem_iff.1 (by simpa using hx)
      obtain ⟨i, hi, rfl⟩ := List.mem_map.1 this
      have := List.mem_range.1 hi
      omega
    · rw [List.nil_append, hl.nodup_iff, List.Nodup, List.pairwise_map]
      exact List.nodup_range.imp (fun q e => q (by omega))
theorem clean_list {c : List Int} (h : cleanB c = true) : startsB c (cleanL c) = true ∧ clashI c (cleanL c) = 0 := by
  have hc : clubsB c = true := by
    cases hc : clubsB c with
    | true => rfl
    | false => simp [cleanB, cleanL, hc] at h
  rw [cleanB, decide_eq_true_eq] at h
  rw [cleanL, if_pos hc] at h ⊢
  obtain ⟨⟨g1, g2, g3⟩, g4⟩ := clean_good c c.length [] ⟨by simp, by simp, rfl⟩ h
  have hs : startsB c (clean c c.length []) = true := by rw [startsB, hc, listB_of (by simpa using g4) g2 g1]; rfl
  exact ⟨hs, by rw [clash_all hs, g3]; rfl⟩
theorem gl_last {l l2 : List Int} {c k : Nat} : 0 < k → (gl l l2 c k = k ↔ clubAt l l2 (k - 1) = c) := fun h => by
  obtain ⟨j, rfl⟩ : ∃ j, k = j + 1 := ⟨k - 1, by omega⟩
  have := gl_bd l l2 c j
  rw [gl, Nat.add_sub_cancel]
  constructor
  · intro q
    apply Classical.byContradiction
    intro hn
    rw [if_neg hn] at q
    omega
  · intro q
    rw [if_pos q]; omega
theorem gb_one (l l2 : List Int) (c : Nat) : ∀ k, gb l l2 c k = 1 ↔ ∃ j, 1 ≤ j ∧ j < k ∧ clubAt l l2 j = c ∧ clubAt l l2 (j - 1) = c
  | 0 => by simp [gb]
  | k + 1 => by
    have ih := gb_one l l2 c k
    have hbd := gb_bd l l2 c k
    have hgl := gl_bd l l2 c k
    rw [gb]
    constructor
    · intro q
      split at q
      · rename_i hh
        have hk : 0 < k := by omega
        exact ⟨k, hk, by omega, hh.1, (gl_last hk).1 (by omega)⟩
      · obtain ⟨j, j1, j2, j3⟩ := ih.1 q
        exact ⟨j, j1, by omega, j3⟩
    · rintro ⟨j, j1, j2, j3, j4⟩
      by_cases e : j = k
      · subst e
        have hg := (gl_last j1).2 j4
        split
        · omega
        · rename_i hh
          have hd : gb l l2 c j = 1 ∨ gb l l2 c j ≠ 1 := by omega
          rcases hd with hd | hd
          · exact hd
          · exact absurd ⟨j3, by omega, by omega⟩ hh
      · have h1 := ih.2 ⟨j, j1, by omega, j3, j4⟩
        split
        · rename_i hh; omega
        · exact h1
theorem clashN_pos (c l : List Int) : ∀ k, 0 < clashN c l k ↔ ∃ j, 1 ≤ j ∧ j < k ∧ sameAt c l j = true
  | 0 => by simp [clashN]
  | k + 1 => by
    have ih := clashN_pos c l k
    have hbd := clashN_bd c l k
    rw [clashN]
    constructor
    · intro q
      split at q
      · rename_i hh
        simp only [Bool.and_eq_true, decide_eq_true_eq] at hh
        exact ⟨k, hh.1, by omega, hh.2⟩
      · obtain ⟨j, j1, j2, j3⟩ := ih.1 (by omega)
        exact ⟨j, j1, by omega, j3⟩
    · rintro ⟨j, j1, j2, j3⟩
      by_cases e : j = k
      · subst e
        rw [if_pos (by simp [j1, j3])]
        omega
      · have := ih.2 ⟨j, j1, by omega, j3⟩
        split <;> omega
theorem clubAt_club {c l : List Int} (h : startsB c l = true) {k : Nat} (hk : k < l.length) : clubAt c l k < 6 ∧ clubO c l[k] = (clubAt c l k : Int) := by
  obtain ⟨m, e, hm⟩ := start_at h hk
  have hb := (clubsB_true (startsB_true h).1).2.2 _ (List.getElem_mem hm)
  have h1 := clubAt_eq hk e hm (V := (c[m]).toNat) (by omega)
  rw [h1, e, clubO_nat hm]
  omega
theorem gaps_one {c l : List Int} (h : startsB c l = true) : hasB (gapsL c l) 1 = decide (0 < clashI c l) := by
  rw [Bool.eq_iff_iff, hasB_iff, decide_eq_true_eq, gapsL, if_pos h, clashI, if_pos h, clashN_pos]
  constructor
  · intro q
    obtain ⟨V, hV, e⟩ := List.mem_map.1 q
    obtain ⟨j, j1, j2, j3, j4⟩ := (gb_one c l V l.length).1 e
    refine ⟨j, j1, j2, ?_⟩
    rw [same_club h j2 j1, decide_eq_true_eq, (clubAt_club h j2).2, (clubAt_club h (show j - 1 < l.length by omega)).2, j3, j4]
  · rintro ⟨j, j1, j2, j3⟩
    rw [same_club h j2 j1, decide_eq_true_eq, (clubAt_club h j2).2, (clubAt_club h (show j - 1 < l.length by omega)).2] at j3
    exact List.mem_map.2 ⟨clubAt c l j, List.mem_range.2 (clubAt_club h j2).1, (gb_one c l _ l.length).2 ⟨j, j1, j2, rfl, by omega⟩⟩
end Go.Ori
