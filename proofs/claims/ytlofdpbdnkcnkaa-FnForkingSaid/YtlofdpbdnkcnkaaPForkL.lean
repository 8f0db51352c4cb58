/- Plans of forks: what the great laws say, in plain Lean. No condition. -/
import Derived.Test.YtlofdpbdnkcnkaaFairPlan
import Derived.Test.YtlofdpbdnkcnkaaTeamTimes
import Derived.Test.YtlofdpbdnkcnkaaRotated
import Derived.Test.YtlofdpbdnkcnkaaSameForks
import Derived.Test.YtlofdpbdnkcnkaaVarCount
import Derived.Test.YtlofdpbdnkcnkaaSwapP
namespace Go.Ori
def sumI : List Int → Int
  | [] => 0
  | x :: t => x + sumI t
theorem sumI_perm {l l' : List Int} (h : l.Perm l') : sumI l = sumI l' := by
  induction h with
  | nil => rfl
  | cons x _ ih => simp only [sumI, ih]
  | swap x y t => simp only [sumI]; omega
  | trans _ _ i1 i2 => exact i1.trans i2
theorem sumI_append : ∀ (l m : List Int), sumI (l ++ m) = sumI l + sumI m
  | [], m => by simp [sumI]
  | x :: t, m => by simp only [List.cons_append, sumI, sumI_append t m]; omega
theorem sumI_set : ∀ (l : List Int) (i : Nat) (x : Int), i < l.length → sumI (l.set i x) = sumI l - l.getD i 0 + x
  | [], i, x, h => by simp at h
  | a :: t, 0, x, _ => by simp [sumI]; omega
  | a :: t, i + 1, x, h => by
    have := sumI_set t i x (by simpa using h)
    simp only [List.set_cons_succ, sumI, this, List.getD_cons_succ]
    omega
theorem sumI_zero (n : Nat) : sumI (List.replicate n 0) = 0 := by
  induction n with
  | zero => rfl
  | succ n ih => rw [List.replicate_succ, sumI, ih]; rfl
theorem mem_full : ∀ (n : Nat) (l : List Int), l.Nodup → (∀ x ∈ l, 0 ≤ x ∧ x < n) → l.length ≤ n
  | 0, [], _, _ => Nat.le_refl _
  | 0, x :: l, _, h => by have := h x (by simp); omega
  | n + 1, l, hd, h => by
    by_cases hm : (n : Int) ∈ l
    · have h1 := mem_full n (l.erase (n : Int)) (hd.erase _) (fun x hx => by
        have h2 := (hd.mem_erase_iff).1 hx
        have := h x h2.2
        omega)
      rw [List.length_erase_of_mem hm] at h1
      omega
    · have := mem_full n l hd (fun x hx => by
        have h2 := h x hx
        have h3 : x ≠ n := fun e => hm (e ▸ hx)
        omega)
      omega
theorem perm_range {n : Nat} {l : List Int} (hl : l.length = n) (hd : l.Nodup) (hr : ∀ x ∈ l, 0 ≤ x ∧ x < n) : l.Perm ((List.range n).map fun i : Nat => (i : Int)) := by
  have hn : ((List.range n).map fun i : Nat => (i : Int)).Nodup := by
    rw [List.Nodup, List.pairwise_map]
    exact List.nodup_range.imp (fun q e => q (by omega))
  rw [List.perm_iff_count]
  intro a
  rw [hd.count, hn.count]
  by_cases ha : 0 ≤ a ∧ a < n
  · rw [if_pos, if_pos]
    · exact List.mem_map.2 ⟨a.toNat, List.mem_range.2 (by omega), by omega⟩
    · apply Classical.byContradiction
      intro hm
      have := mem_full n (a :: l) (List.nodup_cons.2 ⟨hm, hd⟩) (fun x hx => by
        rcases List.mem_cons.1 hx with rfl | hx
        · exact ha
        · exact hr x hx)
      simp only [List.length_cons] at this
      omega
  · rw [if_neg (fun q => ha (hr a q)), if_neg]
    intro q
    obtain ⟨i, hi, rfl⟩ := List.mem_map.1 q
    exact ha ⟨by omega, by have := List.mem_range.1 hi; omega⟩
/-- The time that a team takes at fork f on its first q legs. -/
def forkT (rows : List (List Int)) (ts : List (List Int)) (f : Nat) : Nat → Int
  | 0 => 0
  | q + 1 => forkT rows ts f q + (ts.getD f []).getD ((rows.getD q []).getD f 0).toNat 0
theorem sumT_zero (rows ts : List (List Int)) : ∀ q, sumT rows 0 ts q = 0
  | 0 => rfl
  | q + 1 => by rw [sumT, sumT_zero rows ts q]; rfl
theorem sumT_fork (rows ts : List (List Int)) (F : Nat) : ∀ q, sumT rows (F + 1) ts q = sumT rows F ts q + forkT rows ts F q
  | 0 => rfl
  | q + 1 => by
    rw [sumT, sumT_fork rows ts F q, sumT, forkT, rowT]
    omega
theorem forkT_sum (rows ts : List (List Int)) (f : Nat) : ∀ q, q ≤ rows.length → forkT rows ts f q = sumI ((colN rows f q).map fun v => (ts.getD f []).getD v.toNat 0)
  | 0, _ => by simp [forkT, colN, sumI]
  | q + 1, h => by
    rw [forkT, forkT_sum rows ts f q (by omega), colN_succ (by omega), List.map_append, sumI_append, List.getD_eq_getElem?_getD (l := rows), List.getElem?_eq_getElem (by omega : q < rows.length)]
    simp [sumI]
/-- A fair team's time does not hang on the order of its variants. -/
theorem sumT_fair {rows rows' ts : List (List Int)} {L : Nat} (h1 : rows.length = L) (h2 : rows'.length = L) : ∀ (F : Nat),
    (∀ (f : Nat), f < F → (colN rows f L).Nodup ∧ ∀ x ∈ colN rows f L, 0 ≤ x ∧ x < L) → (∀ (f : Nat), f < F → (colN rows' f L).Nodup ∧ ∀ x ∈ colN rows' f L, 0 ≤ x ∧ x < L) → sumT rows F ts L = sumT rows' F ts L
  | 0, _, _ => by rw [sumT_zero, sumT_zero]
  | F + 1, q1, q2 => by
    rw [sumT_fork, sumT_fork, sumT_fair h1 h2 F (fun f hf => q1 f (by omega)) (fun f hf => q2 f (by omega))]
    have p1 := perm_range (colN_len rows F L (by omega)) (q1 F (by omega)).1 (q1 F (by omega)).2
    have p2 := perm_range (colN_len rows' F L (by omega)) (q2 F (by omega)).1 (q2 F (by omega)).2
    rw [forkT_sum rows ts F L (by omega), forkT_sum rows' ts F L (by omega), sumI_perm ((p1.trans p2.symm).map _)]
theorem col_ok {l : List (List (List Int))} {legs forks : Int} (h : planB l legs forks = true) {t : Nat} (ht : t < l.length) (hf : fairB l[t] forks.toNat = true) : l[t].length = legs.toNat ∧ ∀ (f : Nat), f < forks.toNat → (colN l[t] f legs.toNat).Nodup ∧ ∀ x ∈ colN l[t] f legs.toNat, 0 ≤ x ∧ x < legs.toNat := by
  obtain ⟨L, F, rfl, rfl, _, _, _, _, _, hall⟩ := planB_true h
  obtain ⟨h1, h2⟩ := hall t ht
  simp only [Int.toNat_natCast] at hf ⊢
  refine ⟨h1, fun f hfF => ?_⟩
  rw [fairB, allB_iff] at hf
  have h3 := hf f hfF
  rw [h1, Bool.not_eq_true', twiceB_nodup] at h3
  refine ⟨h3, fun x hx => ?_⟩
  obtain ⟨r, hr, rfl⟩ := List.mem_map.1 hx
  obtain ⟨q, hq, rfl⟩ := List.getElem_of_mem (List.mem_of_mem_take hr)
  obtain ⟨h4, h5⟩ := h2 q hq
  have h6 := h5 f (by omega)
  rw [List.getD_eq_getElem?_getD, List.getElem?_eq_getElem (by omega), Option.getD_some]
  exact h6
theorem fairI_at {l : List (List (List Int))} {legs forks : Int} : fairI l legs forks = true ↔ planB l legs forks = true ∧ ∀ (t : Nat) (ht : t < l.length), fairB l[t] forks.toNat = true := by
  rw [fairI, Bool.and_eq_true, decide_eq_true_eq]
  constructor
  · rintro ⟨h, h2⟩
    refine ⟨h, fun t ht => ?_⟩
    rw [unfL, if_pos h] at h2
    have h3 := List.eq_nil_of_length_eq_zero h2
    rw [unfN, List.map_eq_nil_iff, List.filter_eq_nil_iff] at h3
    have := h3 t (List.mem_range.2 ht)
    rw [List.getD_eq_getElem?_getD, List.getElem?_eq_getElem ht, Option.getD_some] at this
    simpa using this
  · rintro ⟨h, h2⟩
    refine ⟨h, ?_⟩
    rw [unfL, if_pos h, unfN, List.length_map, List.length_eq_zero_iff, List.filter_eq_nil_iff]
    intro t ht
    have ht := List.mem_range.1 ht
    rw [List.getD_eq_getElem?_getD, List.getElem?_eq_getElem ht, Option.getD_some, h2 t ht]
    simp
/-- (P9) In a fair plan all teams have the same sum. -/
theorem team_same {l : List (List (List Int))} {legs forks : Int} {ts : List (List Int)} (hf : fairI l legs forks = true) {i j : Nat} (hi : i < (teamL l legs forks ts).length) (hj : j < (teamL l legs forks ts).length) : (teamL l legs forks ts)[i] = (teamL l legs forks ts)[j] := by
  obtain ⟨hp, hall⟩ := fairI_at.1 hf
  by_cases hT : timedB l legs forks ts = true
  · have e : teamL l legs forks ts = teamN l forks.toNat ts legs.toNat l.length := by rw [teamL, if_pos hT]
    have hlen : (teamL l legs forks ts).length = l.length := by rw [e, teamN]; simp
    have at_ : ∀ (k : Nat) (hk : k < (teamL l legs forks ts).length), (teamL l legs forks ts)[k] = sumT (l[k]'(by omega)) forks.toNat ts legs.toNat := fun k hk => by
      simp only [e, teamN, List.take_length, List.getElem_map]
    rw [at_ i hi, at_ j hj]
    obtain ⟨a1, a2⟩ := col_ok hp (show i < l.length by omega) (hall i (by omega))
    obtain ⟨b1, b2⟩ := col_ok hp (show j < l.length by omega) (hall j (by omega))
    exact sumT_fair a1 b1 _ a2 b2
  · have : (teamL l legs forks ts).length = 0 := by rw [teamL, if_neg hT]; rfl
    omega
theorem team_len {l : List (List (List Int))} {legs forks : Int} {ts : List (List Int)} (h : timedB l legs forks ts = true) : (teamL l legs forks ts).length = l.length := by
  rw [teamL, if_pos h, teamN]; simp
theorem leg_len {l : List (List (List Int))} {legs forks leg : Int} {ts : List (List Int)} (h : timedB l legs forks ts = true) (h0 : 0 ≤ leg) (h1 : leg < legs) : legB' l legs forks ts leg = true ∧ (legL l legs forks ts leg).length = l.length ∧ legL l legs forks ts leg = legN l forks.toNat ts leg.toNat l.length := by
  have hb : legB' l legs forks ts leg = true := by rw [legB', h, Bool.true_and, insB_true]; omega
  refine ⟨hb, ?_, ?_⟩
  · rw [legL, if_pos hb, legN]; simp
  · rw [legL, if_pos hb]
/-- Counting the teams' variants counts the teams. -/
theorem vc_sum {l : List (List (List Int))} {legs forks leg fork : Int} (h : vcB l legs forks leg fork = true) : sumI (vcL l legs forks leg fork) = l.length := by
  have h0 := h
  simp only [vcB, Bool.and_eq_true, insB_true] at h0
  obtain ⟨⟨hp, hg⟩, hk⟩ := h0
  obtain ⟨L, F, rfl, rfl, _, _, _, _, _, hall⟩ := planB_true hp
  rw [vcL, if_pos h]
  simp only [Int.toNat_natCast]
  have key : ∀ k, k ≤ l.length → sumI (vcN l L leg.toNat fork.toNat k) = k := fun k => by
    induction k with
    | zero => intro _; rw [vcN, sumI_zero]; rfl
    | succ k ih =>
      intro hkl
      obtain ⟨h1, h2⟩ := hall k (by omega)
      obtain ⟨h3, h4⟩ := h2 leg.toNat (by omega)
      have h5 := h4 fork.toNat (by omega)
      rw [vcN, sumI_set _ _ _ (by rw [vcN_length, at3_eq (by omega) (by omega) (by omega)]; omega), ih (by omega)]
      omega
  exact key _ (Nat.le_refl _)
theorem sameN_comm (x y : List Int) : ∀ k, sameN x y k = sameN y x k
  | 0 => rfl
  | k + 1 => by
    rw [sameN, sameN, sameN_comm x y k]
    congr 1
    by_cases e : x.getD k 0 = y.getD k 0
    · rw [if_pos e, if_pos e.symm]
    · rw [if_neg e, if_neg (fun q => e q.symm)]
theorem same_sym (l : List (List (List Int))) (legs forks a b leg : Int) : legB l legs forks b a leg = legB l legs forks a b leg ∧ sameI l legs forks b a leg = sameI l legs forks a b leg := by
  have e : legB l legs forks b a leg = legB l legs forks a b leg := by
    unfold legB
    cases planB l legs forks <;> cases insB a 0 ((l.length : Int) - 1) <;> cases insB b 0 ((l.length : Int) - 1) <;> rfl
  refine ⟨e, ?_⟩
  unfold sameI
  rw [e, sameN_comm]
theorem same_le {l : List (List (List Int))} {legs forks a b leg : Int} (h : 0 < sameI l legs forks a b leg) : sameI l legs forks a b leg ≤ forks := by
  unfold sameI at h ⊢
  split at h
  · rename_i hb
    rw [if_pos hb]
    have h0 := hb
    simp only [legB, Bool.and_eq_true] at h0
    obtain ⟨L, F, rfl, rfl, _⟩ := planB_true h0.1.1.1
    have := sameN_le ((l.getD a.toNat []).getD leg.toNat []) ((l.getD b.toNat []).getD leg.toNat []) F
    simp only [Int.toNat_natCast]
    omega
  · omega
theorem swap2_at {r : List (List Int)} {a b i : Nat} (ha : a < r.length) (hb : b < r.length) (hi : i < r.length) : (swap2 r a b)[i]'(by rw [swap2_length]; exact hi) = if b = i then r[a] else if a = i then r[b] else r[i] := by
  simp only [swap2, List.getElem_set, List.getD_eq_getElem?_getD, List.getElem?_eq_getElem ha, List.getElem?_eq_getElem hb, Option.getD_some]
theorem swap2_twice {r : List (List Int)} {a b : Nat} (ha : a < r.length) (hb : b < r.length) : swap2 (swap2 r a b) a b = r := by
  apply List.ext_getElem (by rw [swap2_length, swap2_length])
  intro i h1 h2
  rw [swap2_at (by rw [swap2_length]; exact ha) (by rw [swap2_length]; exact hb) (by rw [swap2_length]; exact h2), swap2_at ha hb ha, swap2_at ha hb hb, swap2_at ha hb h2]
  by_cases e1 : b = i
  · subst e1
    rw [if_pos rfl]
    by_cases e2 : b = a
    · subst e2; rw [if_pos rfl]
    · rw [if_neg e2, if_pos rfl]
  · rw [if_neg e1]
    by_cases e2 : a = i
    · subst e2
      rw [if_pos rfl, if_pos rfl]
    · rw [if_neg e2, if_neg e1, if_neg e2]
theorem swap2_perm {r : List (List Int)} {a b : Nat} (ha : a < r.length) (hb : b < r.length) : (swap2 r a b).Perm r := by
  rw [List.perm_iff_count]
  intro x
  have ga : r.getD a [] = r[a] := by rw [List.getD_eq_getElem?_getD, List.getElem?_eq_getElem ha]; rfl
  have gb : r.getD b [] = r[b] := by rw [List.getD_eq_getElem?_getD, List.getElem?_eq_getElem hb]; rfl
  have c1 : r.count r[a] ≥ 1 := List.count_pos_iff.2 (List.getElem_mem ha)
  rw [swap2, ga, gb, List.count_set (by rw [List.length_set]; exact hb), List.count_set ha, List.getElem_set]
  by_cases e : a = b
  · subst e
    rw [if_pos rfl]
    by_cases q : r[a] == x
    · have : r[a] = x := by simpa using q
      rw [this] at c1
      simp only [q, if_true]
      omega
    · simp [q]
  · rw [if_neg e]
    by_cases q1 : r[a] = x
    · by_cases q2 : r[b] = x
      · rw [q1] at c1
        simp only [q1, q2, beq_self_eq_true, if_true]
        omega
      · rw [q1] at c1
        have : (r[b] == x) = false := by simpa using q2
        simp only [q1, this, beq_self_eq_true, if_true, Bool.false_eq_true, if_false]
        omega
    · have n1 : (r[a] == x) = false := by simpa using q1
      by_cases q2 : r[b] = x
      · simp only [q2, n1, beq_self_eq_true, if_true, Bool.false_eq_true, if_false]
        omega
      · have n2 : (r[b] == x) = false := by simpa using q2
        simp [n1, n2]
theorem fairB_perm {r r' : List (List Int)} (h : r.Perm r') (F : Nat) : fairB r F = fairB r' F := by
  have key : ∀ {r r' : List (List Int)}, r.Perm r' → fairB r F = true → fairB r' F = true := fun {r r'} h q => by
    rw [fairB, allB_iff] at q ⊢
    intro f hf
    have := q f hf
    rw [Bool.not_eq_true', twiceB_nodup, colN, List.take_length] at this ⊢
    exact (h.map _).nodup_iff.1 this
  rw [Bool.eq_iff_iff]
  exact ⟨key h, key h.symm⟩
theorem rowsB_perm {r r' : List (List Int)} (h : r.Perm r') {c s m : Int} (q : rowsB c s m r = true) : rowsB c s m r' = true := by
  simp only [rowsB, Bool.and_eq_true, decide_eq_true_eq, List.all_eq_true] at q ⊢
  exact ⟨by rw [← h.length_eq]; exact q.1, fun x hx => q.2 x (h.mem_iff.2 hx)⟩
/-- (P9) Legs that are swapped twice are as before. -/
theorem swap_facts {l : List (List (List Int))} {legs forks team a b : Int} (h : swapB l legs forks team a b = true) : planB l legs forks = true ∧ planB (swapL l legs forks team a b) legs forks = true ∧ swapB (swapL l legs forks team a b) legs forks team a b = true ∧
    swapL (swapL l legs forks team a b) legs forks team a b = l ∧ fairI (swapL l legs forks team a b) legs forks = fairI l legs forks := by
  have h0 := h
  simp only [swapB, Bool.and_eq_true] at h0
  obtain ⟨⟨⟨hp, ht⟩, ha⟩, hb⟩ := h0
  obtain ⟨L, F, T, A, B, rfl, rfl, rfl, rfl, rfl, S⟩ := swapB_true h
  have hT := S.t
  have gT : l.getD T [] = l[T] := by rw [List.getD_eq_getElem?_getD, List.getElem?_eq_getElem hT]; rfl
  have hA : A < l[T].length := by rw [(S.rows T hT).1]; exact S.a
  have hB : B < l[T].length := by rw [(S.rows T hT).1]; exact S.b
  have e1 : swapL l L F T A B = l.set T (swap2 l[T] A B) := by rw [(swapL_yes h).1, gT]
  have p2 : planB (l.set T (swap2 l[T] A B)) L F = true := by
    simp only [planB, Bool.and_eq_true, List.all_eq_true, List.length_set] at hp ⊢
    refine ⟨hp.1, fun x hx => ?_⟩
    rcases List.mem_or_eq_of_mem_set hx with hx | rfl
    · exact hp.2 x hx
    · exact rowsB_perm (swap2_perm hA hB).symm (hp.2 _ (List.getElem_mem hT))
  have s2 : swapB (l.set T (swap2 l[T] A B)) L F T A B = true := by
    simp only [swapB, Bool.and_eq_true, List.length_set]
    exact ⟨⟨⟨p2, ht⟩, ha⟩, hb⟩
  have g2 : (l.set T (swap2 l[T] A B)).getD T [] = swap2 l[T] A B := by rw [List.getD_eq_getElem?_getD, List.getElem?_set_self hT]; rfl
  rw [e1]
  refine ⟨hp, p2, s2, ?_, ?_⟩
  · rw [(swapL_yes s2).1, g2, swap2_twice hA hB, List.set_set, List.set_getElem_self]
  · have f1 : ∀ (t : Nat) (h1 : t < l.length), fairB ((l.set T (swap2 l[T] A B))[t]'(by rw [List.length_set]; exact h1)) (F : Int).toNat = fairB l[t] (F : Int).toNat := fun t h1 => by
      rw [List.getElem_set]
      split
      · rename_i e; subst e; exact fairB_perm (swap2_perm hA hB) _
      · rfl
    rw [Bool.eq_iff_iff, fairI_at, fairI_at]
    constructor
    · rintro ⟨_, q⟩
      exact ⟨hp, fun t h1 => by rw [← f1 t h1]; exact q t (by rw [List.length_set]; exact h1)⟩
    · rintro ⟨_, q⟩
      exact ⟨p2, fun t h1 => by rw [f1 t (by rw [List.length_set] at h1; exact h1)]; exact q t (by rw [List.length_set] at h1; exact h1)⟩
theorem rotE_bd {L : Nat} (t l f : Nat) (h : 1 ≤ L) : 0 ≤ rotE L t l f ∧ rotE L t l f < L := by
  have h0 : 0 ≤ (l : Int) + (t : Int) * ((f : Int) + 1) := Int.add_nonneg (by omega) (Int.mul_nonneg (by omega) (by omega))
  rw [rotE, Int.tmod_eq_emod_of_nonneg h0]
  exact ⟨Int.emod_nonneg _ (by omega), Int.emod_lt_of_pos _ (by omega)⟩
theorem rotE_inj {L : Nat} {t f i j : Nat} (h1 : 1 ≤ L) (h4 : L ≤ 4) (hi : i < L) (hj : j < L) (e : rotE L t i f = rotE L t j f) : i = j := by
  have h0 : 0 ≤ (t : Int) * ((f : Int) + 1) := Int.mul_nonneg (by omega) (by omega)
  unfold rotE at e
  generalize (t : Int) * ((f : Int) + 1) = c at e h0
  rw [Int.tmod_eq_emod_of_nonneg (by omega), Int.tmod_eq_emod_of_nonneg (by omega)] at e
  have : L = 1 ∨ L = 2 ∨ L = 3 ∨ L = 4 := by omega
  rcases this with rfl | rfl | rfl | rfl
  · omega
  · omega
  · omega
  · omega
/-- A plan made by turning is fair. -/
theorem rot_fair {teams legs forks : Int} (h : rotB teams legs forks = true) : planB (rotL teams legs forks) legs forks = true ∧ fairI (rotL teams legs forks) legs forks = true ∧ ((rotL teams legs forks).length : Int) = teams := by
  have h0 := h
  simp only [rotB, Bool.and_eq_true] at h0
  obtain ⟨T, L, F, rfl, rfl, rfl, t1, t6, l1, l4, f4⟩ := rotB_true h
  rw [(rotL_yes h).1]
  have hp : planB (rotPlan L F T) L F = true := by
    simp only [planB, Bool.and_eq_true, rotPlan_length, List.all_eq_true]
    refine ⟨⟨h0.1, h0.2⟩, fun x hx => ?_⟩
    obtain ⟨t, _, rfl⟩ := List.mem_map.1 hx
    simp only [rowsB, Bool.and_eq_true, decide_eq_true_eq, List.all_eq_true, rotTeam_length, true_and]
    intro y hy
    obtain ⟨q, _, rfl⟩ := List.mem_map.1 hy
    simp only [rowB, Bool.and_eq_true, decide_eq_true_eq, List.all_eq_true, rotRow_length, true_and]
    intro z hz
    obtain ⟨f, _, rfl⟩ := List.mem_map.1 hz
    have := rotE_bd t q f l1
    rw [insB_true]
    omega
  refine ⟨hp, ?_, by rw [rotPlan_length]⟩
  rw [fairI_at]
  refine ⟨hp, fun t ht => ?_⟩
  have e : (rotPlan L F T)[t] = rotTeam L F t L := by simp [rotPlan]
  rw [e, fairB, allB_iff]
  intro f hf
  simp only [Int.toNat_natCast] at hf
  rw [Bool.not_eq_true', twiceB_nodup, colN, List.take_length]
  have e2 : (rotTeam L F t L).map (fun r => r.getD f 0) = (List.range L).map fun q => rotE L t q f := by
    rw [rotTeam, List.map_map]
    apply List.map_congr_left
    intro q _
    simp [rotRow, List.getD_eq_getElem?_getD, hf]
  rw [e2, List.Nodup, List.pairwise_map]
  refine List.Pairwise.imp_of_mem ?_ List.nodup_range
  intro i j hi hj hne e3
  exact hne (rotE_inj l1 l4 (List.mem_range.1 hi) (List.mem_range.1 hj) e3)
end Go.Ori
