/- The parts of a map, gathered by a flood: plain law. No condition. -/
import Derived.Test.YtepjemfkmnpepaaPParts
import Derived.Test.YtepjemfkmnpepaaPartS
namespace Go.Ori
/-- A flood from k: the cells gathered. -/
structure Fl (m : Mp) (k : Nat) (L : List Nat) : Prop where
  nd : L.Nodup
  re : ∀ x ∈ L, Reach m k x
  me : k ∈ L
theorem Fl.start (m : Mp) (k : Nat) : Fl m k [k] := ⟨by simp, fun x hx => by obtain rfl : x = k := by simpa using hx
                                                                             exact .here, by simp⟩
theorem Fl.len {m : Mp} {k : Nat} {L : List Nat} (h : Fl m k L) (hk : k < m.cost.length) : L.length ≤ m.cost.length := by
  have h1 := len_count (n := m.cost.length) (p := L) h.nd (fun x hx => reach_lt hk (h.re x hx))
  have h2 := sum01 (fun x => x ∈ L) (List.range m.cost.length)
  rw [List.length_range] at h2
  exact Nat.le_trans (Nat.le_of_eq h1) h2
theorem Fl.put {m : Mp} {k a b : Nat} {L : List Nat} (h : Fl m k L) (ha : a ∈ L) (hb : b ∈ nextL m a) (hn : b ∉ L) : Fl m k (L ++ [b]) := by
  refine ⟨?_, fun x hx => ?_, List.mem_append_left _ h.me⟩
  · rw [List.nodup_append]
    refine ⟨h.nd, by simp, fun x hx y hy => ?_⟩
    simp only [List.mem_singleton] at hy
    subst hy
    rintro rfl
    exact hn hx
  · rcases List.mem_append.1 hx with hx | hx
    · exact h.re x hx
    · simp only [List.mem_singleton] at hx
      subst hx
      exact (h.re a ha).on hb
/-- t cells of it are done; q neighbours of the t-th are. -/
def FT (m : Mp) (k : Nat) (L : List Nat) (t : Nat) : Prop := Fl m k L ∧ t ≤ L.length ∧ ∀ (a : Nat) (h : a < L.length), a < t → ∀ b ∈ nextL m L[a], b ∈ L
def FQ (m : Mp) (k : Nat) (L : List Nat) (t c q : Nat) : Prop := FT m k L t ∧ L[t]? = some c ∧ ∀ b ∈ (nextL m c).take q, b ∈ L
theorem FT.start (m : Mp) (k : Nat) : FT m k [k] 0 := ⟨Fl.start m k, by simp, fun a _ h => by omega⟩
theorem FQ.start {m : Mp} {k t : Nat} {L : List Nat} (h : FT m k L t) (ht : t < L.length) : FQ m k L t L[t] 0 := ⟨h, by simp [ht], fun b hb => by simp at hb⟩
theorem FQ.old {m : Mp} {k t c q : Nat} {L : List Nat} (h : FQ m k L t c q) (hq : q < (nextL m c).length) (hm : (nextL m c)[q] ∈ L) : FQ m k L t c (q + 1) := by
  refine ⟨h.1, h.2.1, fun b hb => ?_⟩
  rw [List.take_succ_eq_append_getElem hq, List.mem_append, List.mem_singleton] at hb
  rcases hb with hb | rfl
  · exact h.2.2 b hb
  · exact hm
theorem FQ.new {m : Mp} {k t c q : Nat} {L : List Nat} (h : FQ m k L t c q) (hq : q < (nextL m c).length) (hm : (nextL m c)[q] ∉ L) : FQ m k (L ++ [(nextL m c)[q]]) t c (q + 1) := by
  obtain ⟨⟨h1, h2, h3⟩, h4, h5⟩ := h
  obtain ⟨ht, hc⟩ := List.getElem?_eq_some_iff.1 h4
  have hin : c ∈ L := by rw [← hc]; exact List.getElem_mem ht
  refine ⟨⟨h1.put hin (List.getElem_mem hq) hm, by simp; omega, fun a ha hat b hb => ?_⟩, ?_, fun b hb => ?_⟩
  · rw [List.getElem_append_left (by omega)] at hb
    exact List.mem_append_left _ (h3 a (by omega) hat b hb)
  · rw [List.getElem?_append_left ht, h4]
  · rw [List.take_succ_eq_append_getElem hq, List.mem_append] at hb
    rcases hb with hb | hb
    · exact List.mem_append_left _ (h5 b hb)
    · exact List.mem_append_right _ hb
theorem FQ.fin {m : Mp} {k t c q : Nat} {L : List Nat} (h : FQ m k L t c q) (hq : (nextL m c).length ≤ q) : FT m k L (t + 1) := by
  obtain ⟨⟨h1, h2, h3⟩, h4, h5⟩ := h
  obtain ⟨ht, hc⟩ := List.getElem?_eq_some_iff.1 h4
  rw [List.take_of_length_le hq] at h5
  refine ⟨h1, by omega, fun a ha hat b hb => ?_⟩
  rcases Nat.lt_or_ge a t with e | e
  · exact h3 a ha e b hb
  · obtain rfl : a = t := by omega
    rw [hc] at hb
    exact h5 b hb
theorem FT.mem {m : Mp} {k t : Nat} {L : List Nat} (h : FT m k L t) (ht : L.length ≤ t) (x : Nat) : x ∈ L ↔ Reach m k x := by
  refine ⟨h.1.re x, fun hr => reach_closed h.1.me (fun a ha b hb => ?_) hr⟩
  obtain ⟨i, hi, rfl⟩ := List.getElem_of_mem ha
  exact h.2.2 i hi (by omega) b hb
theorem FT.sort {m : Mp} {k t : Nat} {L : List Nat} (hk : k < m.cost.length) (h : FT m k L t) (ht : L.length ≤ t) : ((natL L).mergeSort fun x y => decide (x ≤ y)) = natL (partL m k) := by
  have e : ((natL L).mergeSort fun x y => decide (x ≤ y)) = natL (L.mergeSort fun x y => decide (x ≤ y)) := by
    unfold natL
    rw [List.map_mergeSort]
    intro a _ b _
    simp
  rw [e]
  congr 1
  have hp := List.pairwise_mergeSort (le := fun x y : Nat => decide (x ≤ y)) (fun a b c h1 h2 => by simp only [decide_eq_true_eq] at *; omega) (fun a b => by simp only [Bool.or_eq_true, decide_eq_true_eq]; omega) L
  have hn : (L.mergeSort fun x y => decide (x ≤ y)).Nodup := (List.mergeSort_perm L _).nodup_iff.2 h.1.nd
  refine part_eq hk ?_ (fun x => by rw [(List.mergeSort_perm L _).mem_iff]; exact h.mem ht x)
  refine (List.pairwise_and_iff.2 ⟨hp, hn⟩).imp ?_
  rintro a b ⟨h1, h2⟩
  simp only [decide_eq_true_eq] at h1
  omega
open Classical in
/-- The marks: which cells have been seen. -/
noncomputable def seenL (m : Mp) (k : Nat) (L : List Nat) : List Bool := (List.range m.cost.length).map fun x => decide (Seen m k x ∨ x ∈ L)
theorem seenL_len (m : Mp) (k : Nat) (L : List Nat) : (seenL m k L).length = m.cost.length := by simp [seenL]
open Classical in
theorem seenL_iff {m : Mp} {k x : Nat} {L : List Nat} (hx : x < (seenL m k L).length) : (seenL m k L)[x] = true ↔ (Seen m k x ∨ x ∈ L) := by
  simp only [seenL, List.getElem_map, List.getElem_range, decide_eq_true_eq]
theorem bool_ext {a b : Bool} (h : a = true ↔ b = true) : a = b := by cases a <;> cases b <;> simp_all
theorem seenL_zero (m : Mp) : seenL m 0 [] = List.replicate m.cost.length false := by
  apply List.ext_getElem
  · simp [seenL]
  · intro i h1 h2
    apply bool_ext
    rw [seenL_iff]
    constructor
    · rintro (⟨h, hh, _⟩ | h)
      · omega
      · simp at h
    · intro h; simp at h
theorem seenL_put {m : Mp} {k b : Nat} {L : List Nat} : (seenL m k L).set b true = seenL m k (L ++ [b]) := by
  apply List.ext_getElem
  · simp [seenL]
  · intro i h1 h2
    apply bool_ext
    rw [seenL_iff, List.getElem_set]
    by_cases e : b = i
    · subst e
      simp
    · rw [if_neg e, seenL_iff]
      simp [Ne.symm e]
theorem seenL_skip {m : Mp} {k : Nat} (h : ¬ IsHead m k) : seenL m (k + 1) [] = seenL m k [] := by
  apply List.ext_getElem
  · simp [seenL]
  · intro i h1 h2
    apply bool_ext
    rw [seenL_iff, seenL_iff, seen_no h]
theorem seenL_done {m : Mp} {k t : Nat} {L : List Nat} (hk : k < m.cost.length) (h : IsHead m k) (hf : FT m k L t) (ht : L.length ≤ t) : seenL m (k + 1) [] = seenL m k L := by
  apply List.ext_getElem
  · simp [seenL]
  · intro i h1 h2
    apply bool_ext
    rw [seenL_iff, seenL_iff, seen_yes hk h, hf.mem ht]
    simp
theorem seenL_first {m : Mp} {k : Nat} (hk : k < (seenL m k []).length) (h0 : 0 < costAt m k) : (seenL m k [])[k] = true ↔ ¬ IsHead m k := by
  have hk2 : k < m.cost.length := by rw [seenL_len] at hk; exact hk
  rw [seenL_iff, ← seen_head hk2 h0]
  simp
theorem seenL_next {m : Mp} {k t c q : Nat} {L : List Nat} (hk : k < m.cost.length) (h : IsHead m k) (hf : FQ m k L t c q) (hq : q < (nextL m c).length) (hb : (nextL m c)[q] < (seenL m k L).length) : (seenL m k L)[(nextL m c)[q]] = true ↔ (nextL m c)[q] ∈ L := by
  rw [seenL_iff]
  obtain ⟨ht, hc⟩ := List.getElem?_eq_some_iff.1 hf.2.1
  have hr : Reach m k (nextL m c)[q] := (hf.1.1.re c (by rw [← hc]; exact List.getElem_mem ht)).on (List.getElem_mem hq)
  have := seen_apart hk h hr
  constructor
  · rintro (h | h)
    · exact absurd h this
    · exact h
  · exact .inr
theorem next_at_lt {m : Mp} {c q : Nat} (hq : q < (nextL m c).length) : (nextL m c)[q] < m.cost.length := (next_mem.1 (List.getElem_mem hq)).1
theorem natL_snoc (L : List Nat) (b : Nat) : natL (L ++ [b]) = natL L ++ [(b : Int)] := by simp [natL]
def boolC (b : Bool) : List Value := [.bool b]
theorem boolC_length (b : Bool) : (boolC b).length = 1 := rfl
end Go.Ori
