/- The parts of a map: plain functions, plain law. No condition. -/
import Derived.Test.YtepjemfkmnpepaaPMap
namespace Go.Ori
theorem gapN_symm (W a b : Nat) : gapN W a b = gapN W b a := by unfold gapN; omega
/-- Which cells can be reached from a cell, over cells that are not forbidden. -/
inductive Reach (m : Mp) (c : Nat) : Nat → Prop
  | here : Reach m c c
  | on {a k : Nat} : Reach m c a → k ∈ nextL m a → Reach m c k
theorem reach_lt {m : Mp} {c k : Nat} (hc : c < m.cost.length) (h : Reach m c k) : k < m.cost.length := by
  cases h with
  | here => exact hc
  | on _ h => exact (next_mem.1 h).1
theorem reach_open {m : Mp} {c k : Nat} (hc : 0 < costAt m c) (h : Reach m c k) : 0 < costAt m k := by
  cases h with
  | here => exact hc
  | on _ h => exact (next_mem.1 h).2.1
theorem reach_trans {m : Mp} {a b c : Nat} (h : Reach m a b) (h2 : Reach m b c) : Reach m a c := by
  induction h2 with
  | here => exact h
  | on _ hk ih => exact ih.on hk
theorem next_symm {m : Mp} {a k : Nat} (ha : a < m.cost.length) (h0 : 0 < costAt m a) (h : k ∈ nextL m a) : a ∈ nextL m k :=
  next_mem.2 ⟨ha, h0, by rw [gapN_symm]; exact (next_mem.1 h).2.2⟩
theorem reach_symm {m : Mp} {c k : Nat} (hc : c < m.cost.length) (h0 : 0 < costAt m c) (h : Reach m c k) : Reach m k c := by
  induction h with
  | here => exact .here
  | on ha hk ih => exact reach_trans (Reach.here.on (next_symm (reach_lt hc ha) (reach_open h0 ha) hk)) ih
open Classical in
/-- The part that a cell lies in, its cells in order. -/
noncomputable def partL (m : Mp) (c : Nat) : List Nat := (List.range m.cost.length).filter fun k => decide (Reach m c k)
open Classical in
theorem part_mem {m : Mp} {c k : Nat} : k ∈ partL m c ↔ k < m.cost.length ∧ Reach m c k := by
  unfold partL
  rw [List.mem_filter, List.mem_range, decide_eq_true_eq]
theorem part_asc (m : Mp) (c : Nat) : (partL m c).Pairwise (· < ·) := List.Pairwise.filter _ List.pairwise_lt_range
theorem part_len (m : Mp) (c : Nat) : (partL m c).length ≤ m.cost.length := by
  unfold partL
  exact Nat.le_trans (List.length_filter_le _ _) (by simp)
/-- A list in order with the same cells is the part. -/
theorem part_eq {m : Mp} {c : Nat} (hc : c < m.cost.length) {l : List Nat} (h1 : l.Pairwise (· < ·)) (h2 : ∀ k, k ∈ l ↔ Reach m c k) : l = partL m c := by
  have hn1 : l.Nodup := h1.imp fun h => by omega
  have hn2 : (partL m c).Nodup := (part_asc m c).imp fun h => by omega
  have hp : l.Perm (partL m c) := by
    rw [List.perm_iff_count]
    intro a
    rw [hn1.count, hn2.count]
    have e : a ∈ l ↔ a ∈ partL m c := by
      rw [h2, part_mem]
      exact ⟨fun h => ⟨reach_lt hc h, h⟩, fun h => h.2⟩
    by_cases ha : a ∈ l
    · rw [if_pos ha, if_pos (e.1 ha)]
    · rw [if_neg ha, if_neg (fun x => ha (e.2 x))]
  exact List.Perm.eq_of_pairwise (le := fun a b : Nat => a ≤ b) (fun a b _ _ h h' => by omega) (h1.imp fun h => by omega) ((part_asc m c).imp fun h => by omega) hp
/-- The first cell of a part. -/
def IsHead (m : Mp) (c : Nat) : Prop := 0 < costAt m c ∧ ∀ j, Reach m c j → c ≤ j
theorem head_first {m : Mp} {c : Nat} (hc : c < m.cost.length) (h0 : 0 < costAt m c) : IsHead m c ↔ (partL m c).head? = some c := by
  have hin : c ∈ partL m c := part_mem.2 ⟨hc, .here⟩
  have hp := part_asc m c
  have hm : ∀ j, Reach m c j → j ∈ partL m c := fun j hj => part_mem.2 ⟨reach_lt hc hj, hj⟩
  have hr : ∀ j ∈ partL m c, Reach m c j := fun j hj => (part_mem.1 hj).2
  generalize partL m c = l at *
  cases l with
  | nil => cases hin
  | cons a t =>
    rw [List.pairwise_cons] at hp
    simp only [List.head?_cons, Option.some.injEq]
    constructor
    · intro h
      have h1 := h.2 a (hr a List.mem_cons_self)
      rcases List.mem_cons.1 hin with e | e
      · exact e.symm
      · have := hp.1 c e; omega
    · rintro rfl
      refine ⟨h0, fun j hj => ?_⟩
      rcases List.mem_cons.1 (hm j hj) with e | e
      · omega
      · exact Nat.le_of_lt (hp.1 j e)
open Classical in
/-- The parts whose first cell is one of the first k. -/
noncomputable def partsN (m : Mp) : Nat → List (List Nat)
  | 0 => []
  | k + 1 => partsN m k ++ if IsHead m k then [partL m k] else []
open Classical in
theorem parts_head {m : Mp} {k : Nat} (h : IsHead m k) : partsN m (k + 1) = partsN m k ++ [partL m k] := by rw [partsN, if_pos h]
open Classical in
theorem parts_no {m : Mp} {k : Nat} (h : ¬ IsHead m k) : partsN m (k + 1) = partsN m k := by rw [partsN, if_neg h, List.append_nil]
theorem parts_len (m : Mp) : ∀ k, (partsN m k).length ≤ k
  | 0 => Nat.le_refl _
  | k + 1 => by
    have := parts_len m k
    by_cases h : IsHead m k
    · rw [parts_head h, List.length_append]; simp; omega
    · rw [parts_no h]; omega
/-- A cell has been seen before the k-th: it lies in the part of an elder first cell. -/
def Seen (m : Mp) (k x : Nat) : Prop := ∃ h, h < k ∧ h < m.cost.length ∧ IsHead m h ∧ Reach m h x
/-- Each cell that is not forbidden has a first cell. -/
theorem head_of {m : Mp} : ∀ (N c : Nat), c ≤ N → c < m.cost.length → 0 < costAt m c → ∃ h, h ≤ c ∧ IsHead m h ∧ Reach m h c := by
  intro N
  induction N with
  | zero =>
    intro c hN hc h0
    exact ⟨c, Nat.le_refl _, ⟨h0, fun j _ => by omega⟩, .here⟩
  | succ N ih =>
    intro c hN hc h0
    by_cases h : ∃ j, Reach m c j ∧ j < c
    · obtain ⟨j, hj, hlt⟩ := h
      obtain ⟨x, hx, hh, hr⟩ := ih j (by omega) (reach_lt hc hj) (reach_open h0 hj)
      exact ⟨x, by omega, hh, reach_trans hr (reach_symm hc h0 hj)⟩
    · exact ⟨c, Nat.le_refl _, ⟨h0, fun j hj => Nat.le_of_not_lt fun hl => h ⟨j, hj, hl⟩⟩, .here⟩
theorem head_one {m : Mp} {g h x : Nat} (hg : g < m.cost.length) (hh : h < m.cost.length) (h1 : IsHead m g) (h2 : IsHead m h) (r1 : Reach m g x) (r2 : Reach m h x) : g = h := by
  have a := h1.2 h (reach_trans r1 (reach_symm hh h2.1 r2))
  have b := h2.2 g (reach_trans r2 (reach_symm hg h1.1 r1))
  omega
/-- At the k-th cell: it is a first cell just if it has not been seen. -/
theorem seen_head {m : Mp} {k : Nat} (hk : k < m.cost.length) (h0 : 0 < costAt m k) : Seen m k k ↔ ¬ IsHead m k := by
  constructor
  · rintro ⟨h, hlt, hl, hh, hr⟩ hk2
    have := hk2.2 h (reach_symm hl hh.1 hr)
    omega
  · intro hn
    obtain ⟨h, hle, hh, hr⟩ := head_of k k (Nat.le_refl _) hk h0
    rcases Nat.lt_or_ge h k with e | e
    · exact ⟨h, e, by omega, hh, hr⟩
    · obtain rfl : h = k := by omega
      exact absurd hh hn
theorem seen_no {m : Mp} {k : Nat} (h : ¬ IsHead m k) (x : Nat) : Seen m (k + 1) x ↔ Seen m k x := by
  constructor
  · rintro ⟨g, h1, h2, h3, h4⟩
    refine ⟨g, ?_, h2, h3, h4⟩
    rcases Nat.lt_or_ge g k with e | e
    · exact e
    · obtain rfl : g = k := by omega
      exact absurd h3 h
  · rintro ⟨g, h1, h2, h3, h4⟩
    exact ⟨g, by omega, h2, h3, h4⟩
theorem seen_yes {m : Mp} {k : Nat} (hk : k < m.cost.length) (h : IsHead m k) (x : Nat) : Seen m (k + 1) x ↔ Seen m k x ∨ Reach m k x := by
  constructor
  · rintro ⟨g, h1, h2, h3, h4⟩
    rcases Nat.lt_or_ge g k with e | e
    · exact .inl ⟨g, e, h2, h3, h4⟩
    · obtain rfl : g = k := by omega
      exact .inr h4
  · rintro (⟨g, h1, h2, h3, h4⟩ | hr)
    · exact ⟨g, by omega, h2, h3, h4⟩
    · exact ⟨k, by omega, hk, h, hr⟩
/-- No cell of a new part has been seen. -/
theorem seen_apart {m : Mp} {k x : Nat} (hk : k < m.cost.length) (h : IsHead m k) (hr : Reach m k x) : ¬ Seen m k x := by
  rintro ⟨g, h1, h2, h3, h4⟩
  have := head_one h2 hk h3 h h4 hr
  omega
/-- A list from k that is closed under steps holds all that can be reached. -/
theorem reach_closed {m : Mp} {k : Nat} {l : List Nat} (h0 : k ∈ l) (h : ∀ a ∈ l, ∀ b ∈ nextL m a, b ∈ l) {x : Nat} (hr : Reach m k x) : x ∈ l := by
  induction hr with
  | here => exact h0
  | on _ hk ih => exact h _ ih _ hk
open Classical in
/-- The first k cells: how many lie in the parts of first cells below n. -/
theorem parts_count {m : Mp} (x : Nat) (hx : x < m.cost.length) : ∀ k, k ≤ m.cost.length → ((partsN m k).countP fun p => decide (x ∈ p)) = if Seen m k x then 1 else 0
  | 0, _ => by
    rw [if_neg (by rintro ⟨h, hh, _⟩; omega)]; rfl
  | k + 1, hk => by
    have ih := parts_count x hx k (by omega)
    by_cases h : IsHead m k
    · rw [parts_head h, List.countP_append, ih]
      by_cases hr : Reach m k x
      · rw [if_neg (seen_apart (by omega) h hr), if_pos ((seen_yes (by omega) h x).2 (.inr hr))]
        simp [part_mem, hx, hr]
      · have e : Seen m (k + 1) x ↔ Seen m k x := by
          rw [seen_yes (by omega) h x]
          exact ⟨fun h => h.elim id (fun h => absurd h hr), .inl⟩
        simp [part_mem, hr, e]
    · rw [parts_no h, ih]
      simp [seen_no h]
open Classical in
theorem len_count {n : Nat} : ∀ {p : List Nat}, p.Nodup → (∀ x ∈ p, x < n) → p.length = ((List.range n).map fun x => if x ∈ p then 1 else 0).sum := by
  induction n with
  | zero =>
    intro p _ h
    cases p with
    | nil => rfl
    | cons a t => have := h a List.mem_cons_self; omega
  | succ n ih =>
    intro p hp h
    rw [List.range_succ, List.map_append, List.sum_append]
    have h1 := ih (p := p.erase n) (hp.erase n) (fun x hx => by
      have hx2 := (List.Nodup.mem_erase_iff hp).1 hx
      have := h x hx2.2
      omega)
    have h2 : ((List.range n).map fun x => if x ∈ p.erase n then 1 else 0) = ((List.range n).map fun x => if x ∈ p then 1 else 0) := by
      refine List.map_congr_left fun x hx => ?_
      have hx2 := List.mem_range.1 hx
      have e : x ∈ p.erase n ↔ x ∈ p := by
        rw [List.Nodup.mem_erase_iff hp]
        exact ⟨fun h => h.2, fun h => ⟨by omega, h⟩⟩
      simp [e]
    rw [h2] at h1
    rw [← h1]
    by_cases hn : n ∈ p
    · have := List.length_erase_of_mem hn
      have h0 : 0 < p.length := List.length_pos_of_mem hn
      simp [hn]; omega
    · rw [List.erase_of_not_mem hn]
      simp [hn]
open Classical in
theorem sum_swap {n : Nat} : ∀ (ps : List (List Nat)), (∀ p ∈ ps, p.Nodup ∧ ∀ x ∈ p, x < n) → (ps.map List.length).sum = ((List.range n).map fun x => ps.countP fun p => decide (x ∈ p)).sum
  | [], _ => by
    simp only [List.map_nil, List.sum_nil, List.countP_nil]
    generalize List.range n = l
    induction l with
    | nil => rfl
    | cons a l ih => rw [List.map_cons, List.sum_cons, ← ih]; rfl
  | p :: ps, h => by
    have h1 := len_count (h p List.mem_cons_self).1 (h p List.mem_cons_self).2
    have h2 := sum_swap ps (fun q hq => h q (List.mem_cons_of_mem _ hq))
    rw [List.map_cons, List.sum_cons, h1, h2]
    generalize List.range n = l
    induction l with
    | nil => rfl
    | cons a l ih =>
      have e : (p :: ps).countP (fun p => decide (a ∈ p)) = ps.countP (fun p => decide (a ∈ p)) + if a ∈ p then 1 else 0 := by
        rw [List.countP_cons]
        simp only [decide_eq_true_eq]
      rw [List.map_cons, List.sum_cons, List.map_cons, List.sum_cons, List.map_cons, List.sum_cons, ← ih, e]
      omega
open Classical in
/-- The parts have all cells that are not forbidden, each once. -/
theorem parts_total (m : Mp) : ((partsN m m.cost.length).map List.length).sum = (List.range m.cost.length).countP fun x => decide (0 < costAt m x) := by
  have hall : ∀ k, ∀ p ∈ partsN m k, p.Nodup ∧ ∀ x ∈ p, x < m.cost.length := by
    intro k
    induction k with
    | zero => intro p hp; cases hp
    | succ k ih =>
      intro p hp
      by_cases h : IsHead m k
      · rw [parts_head h, List.mem_append, List.mem_singleton] at hp
        rcases hp with hp | rfl
        · exact ih p hp
        · exact ⟨(part_asc m k).imp fun h => by omega, fun x hx => (part_mem.1 hx).1⟩
      · rw [parts_no h] at hp
        exact ih p hp
  rw [sum_swap _ (hall _)]
  have hs : ∀ x, x < m.cost.length → (Seen m m.cost.length x ↔ 0 < costAt m x) := fun x hx => by
    constructor
    · rintro ⟨h, _, h2, h3, h4⟩
      exact reach_open h3.1 h4
    · intro h0
      obtain ⟨h, h1, h2, h3⟩ := head_of x x (Nat.le_refl _) hx h0
      exact ⟨h, by omega, by omega, h2, h3⟩
  have hmap : ((List.range m.cost.length).map fun x => (partsN m m.cost.length).countP fun p => decide (x ∈ p)) = ((List.range m.cost.length).map fun x => if 0 < costAt m x then 1 else 0) := by
    refine List.map_congr_left fun x hx => ?_
    have hx2 := List.mem_range.1 hx
    rw [parts_count x hx2 _ (Nat.le_refl _)]
    simp [hs x hx2]
  rw [hmap]
  generalize List.range m.cost.length = l
  induction l with
  | nil => rfl
  | cons a l ih =>
    rw [List.map_cons, List.sum_cons, List.countP_cons, ih]
    simp only [decide_eq_true_eq]
    omega
end Go.Ori
