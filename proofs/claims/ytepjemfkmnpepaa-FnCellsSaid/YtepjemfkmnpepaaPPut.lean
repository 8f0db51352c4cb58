/- An element that is put to its place; class sizes: plain functions. No condition. -/
import Derived.Test.YtepjemfkmnpepaaP11
namespace Go.Ori
def putG {α : Type} (p : α → Bool) (x : α) : List α → List α
  | [] => [x]
  | a :: t => if p a then a :: putG p x t else x :: a :: t
theorem putG_at {α : Type} {p : α → Bool} {x : α} : ∀ {l : List α} {k : Nat}, k ≤ l.length → (∀ (j : Nat) (hj : j < l.length), j < k → p l[j] = true) → (∀ h : k < l.length, p l[k] = false) → putG p x l = l.take k ++ x :: l.drop k
  | [], k, hk, _, _ => by
    obtain rfl : k = 0 := by simpa using hk
    rfl
  | a :: t, 0, _, _, h2 => by
    have := h2 (by simp)
    simp only [List.getElem_cons_zero] at this
    simp [putG, this]
  | a :: t, k + 1, hk, h1, h2 => by
    have h0 := h1 0 (by simp) (by omega)
    simp only [List.getElem_cons_zero] at h0
    rw [putG, if_pos h0, putG_at (l := t) (k := k) (by simpa using hk) (fun j hj hjk => by have := h1 (j + 1) (by simpa using hj) (by omega); rwa [List.getElem_cons_succ] at this) (fun h => by have := h2 (by simpa using h); rwa [List.getElem_cons_succ] at this)]
    simp
theorem putG_mem {α : Type} {p : α → Bool} {x y : α} : ∀ {l : List α}, y ∈ putG p x l ↔ y = x ∨ y ∈ l
  | [] => by simp [putG]
  | a :: t => by
    unfold putG
    split
    · rw [List.mem_cons, putG_mem (l := t), List.mem_cons]
      constructor
      · rintro (h | h | h) <;> simp [h]
      · rintro (h | h | h) <;> simp [h]
    · simp
theorem putG_length {α : Type} {p : α → Bool} {x : α} : ∀ {l : List α}, (putG p x l).length = l.length + 1
  | [] => rfl
  | a :: t => by
    unfold putG
    split
    · simp [putG_length (l := t)]
    · simp
def putL (l : List Int) (n : Int) : List Int := putG (fun a => decide (a < n)) n l
theorem putL_sorted {n : Int} : ∀ {l : List Int}, l.Pairwise (· < ·) → n ∉ l → (putL l n).Pairwise (· < ·)
  | [], _, _ => by simp [putL, putG]
  | a :: t, h, hn => by
    rw [List.pairwise_cons] at h
    simp only [List.mem_cons, not_or] at hn
    unfold putL putG
    split
    · rename_i ha
      rw [decide_eq_true_eq] at ha
      rw [List.pairwise_cons]
      refine ⟨fun y hy => ?_, putL_sorted h.2 hn.2⟩
      rcases putG_mem.1 hy with rfl | hy
      · exact ha
      · exact h.1 y hy
    · rename_i ha
      rw [decide_eq_true_eq] at ha
      have hlt : n < a := by omega
      rw [List.pairwise_cons, List.pairwise_cons]
      refine ⟨fun y hy => ?_, h⟩
      rcases List.mem_cons.1 hy with rfl | hy
      · exact hlt
      · exact Int.lt_trans hlt (h.1 y hy)
theorem sorted_ext : ∀ {l m : List Int}, l.Pairwise (· < ·) → m.Pairwise (· < ·) → (∀ x, x ∈ l ↔ x ∈ m) → l = m
  | [], [], _, _, _ => rfl
  | [], b :: m, _, _, h => absurd ((h b).2 (by simp)) (by simp)
  | a :: l, [], _, _, h => absurd ((h a).1 (by simp)) (by simp)
  | a :: l, b :: m, h1, h2, h => by
    rw [List.pairwise_cons] at h1 h2
    have hab : a = b := by
      rcases List.mem_cons.1 ((h a).1 (by simp)) with e | e
      · exact e
      · rcases List.mem_cons.1 ((h b).2 (by simp)) with e' | e'
        · exact e'.symm
        · have q1 := h2.1 a e
          have q2 := h1.1 b e'
          omega
    subst hab
    congr 1
    refine sorted_ext h1.2 h2.2 fun x => ⟨fun hx => ?_, fun hx => ?_⟩
    · rcases List.mem_cons.1 ((h x).1 (List.mem_cons_of_mem _ hx)) with e | e
      · subst e; have := h1.1 x hx; omega
      · exact e
    · rcases List.mem_cons.1 ((h x).2 (List.mem_cons_of_mem _ hx)) with e | e
      · subst e; have := h2.1 x hx; omega
      · exact e
/-- How many of the first k entries are in a class. -/
def cntK (l : List Ent) (c : Int) (k : Nat) : Nat := (l.take k).countP fun e => e.cls == c
theorem cntK_zero (l : List Ent) (c : Int) : cntK l c 0 = 0 := by simp [cntK]
theorem cntK_succ (l : List Ent) (c : Int) {k : Nat} (h : k < l.length) : cntK l c (k + 1) = cntK l c k + if l[k].cls == c then 1 else 0 := by
  unfold cntK
  rw [List.take_succ_eq_append_getElem h, List.countP_append, List.countP_singleton]
theorem cntK_le (l : List Ent) (c : Int) (k : Nat) : cntK l c k ≤ k := by
  unfold cntK
  have := List.countP_le_length (p := fun e : Ent => e.cls == c) (l := l.take k)
  simp only [List.length_take] at this
  omega
def cntC (l : List Ent) (c : Int) : Nat := cntK l c l.length
theorem cntC_pos {l : List Ent} {c : Int} : 0 < cntC l c ↔ ∃ e ∈ l, e.cls = c := by
  unfold cntC cntK
  rw [List.take_length, List.countP_pos_iff]
  simp
/-- The classes of the first k numbers that have entries; their sizes. -/
def szC (l : List Ent) (k : Nat) : List Int := ((List.range k).map fun i : Nat => (i : Int) + 1).filter fun c => decide (0 < cntC l c)
def szN (l : List Ent) (k : Nat) : List Int := (szC l k).map fun c => (cntC l c : Int)
theorem szC_yes {l : List Ent} {k : Nat} (h : 0 < cntC l ((k : Int) + 1)) : szC l (k + 1) = szC l k ++ [(k : Int) + 1] := by
  simp [szC, List.range_succ, List.map_append, List.filter_append, h]
theorem szC_no {l : List Ent} {k : Nat} (h : ¬ 0 < cntC l ((k : Int) + 1)) : szC l (k + 1) = szC l k := by
  simp [szC, List.range_succ, List.map_append, List.filter_append, h]
theorem szC_length (l : List Ent) (k : Nat) : (szC l k).length ≤ k := by
  unfold szC
  exact Nat.le_trans (List.length_filter_le _ _) (by simp)
theorem szC_sorted (l : List Ent) (k : Nat) : (szC l k).Pairwise (· < ·) := by
  unfold szC
  refine List.Pairwise.filter _ ?_
  rw [List.pairwise_map]
  exact List.pairwise_lt_range.imp (fun h => by omega)
/-- The classes of the first k entries, each put to its place once. -/
def putK (l : List Ent) : Nat → List Int
  | 0 => []
  | k + 1 => if hasB (putK l k) (l.getD k ⟨0, 0, 0, false, 0⟩).cls then putK l k else putL (putK l k) (l.getD k ⟨0, 0, 0, false, 0⟩).cls
theorem putK_spec (l : List Ent) : ∀ k, k ≤ l.length → (putK l k).Pairwise (· < ·) ∧ (putK l k).length ≤ k ∧ ∀ x, x ∈ putK l k ↔ ∃ e ∈ l.take k, e.cls = x
  | 0, _ => by simp [putK]
  | k + 1, h => by
    obtain ⟨h1, h2, h3⟩ := putK_spec l k (by omega)
    have hk : k < l.length := by omega
    have hd : l.getD k ⟨0, 0, 0, false, 0⟩ = l[k] := by rw [List.getD_eq_getElem?_getD, List.getElem?_eq_getElem hk]; rfl
    rw [putK, hd, List.take_succ_eq_append_getElem hk]
    split
    · rename_i hb
      rw [hasB_iff] at hb
      refine ⟨h1, by omega, fun x => ?_⟩
      rw [h3 x]
      simp only [List.mem_append, List.mem_singleton]
      constructor
      · rintro ⟨e, he, rfl⟩; exact ⟨e, .inl he, rfl⟩
      · rintro ⟨e, he | he, rfl⟩
        · exact ⟨e, he, rfl⟩
        · subst he; exact (h3 _).1 hb
    · rename_i hb
      rw [Bool.not_eq_true] at hb
      have hb' : l[k].cls ∉ putK l k := fun q => by rw [hasB_iff.2 q] at hb; cases hb
      refine ⟨putL_sorted h1 hb', by rw [putL, putG_length]; omega, fun x => ?_⟩
      rw [putL, putG_mem, h3 x]
      simp only [List.mem_append, List.mem_singleton]
      constructor
      · rintro (rfl | ⟨e, he, rfl⟩)
        · exact ⟨_, .inr rfl, rfl⟩
        · exact ⟨e, .inl he, rfl⟩
      · rintro ⟨e, he | he, rfl⟩
        · exact .inr ⟨e, he, rfl⟩
        · subst he; exact .inl rfl
theorem putK_all {l : List Ent} (h : ∀ e ∈ l, 1 ≤ e.cls ∧ e.cls ≤ 99) : putK l l.length = szC l 99 := by
  obtain ⟨h1, _, h3⟩ := putK_spec l l.length (Nat.le_refl _)
  refine sorted_ext h1 (szC_sorted l 99) fun x => ?_
  rw [h3 x, List.take_length]
  unfold szC
  rw [List.mem_filter]
  simp only [List.mem_map, List.mem_range, decide_eq_true_eq, cntC_pos]
  constructor
  · rintro ⟨e, he, rfl⟩
    have := h e he
    exact ⟨⟨(e.cls - 1).toNat, by omega, by omega⟩, e, he, rfl⟩
  · rintro ⟨_, h⟩
    exact h
end Go.Ori
namespace Go.Ori
theorem entsB_cls {l : List Ent} (h : entsB l = true) : ∀ e ∈ l, 1 ≤ e.cls ∧ e.cls ≤ 99 := by
  intro e he
  obtain ⟨j, hj, rfl⟩ := List.getElem_of_mem he
  have := entsB_at h hj
  simp only [entB, Bool.and_eq_true, insB_true] at this
  exact this.1.1.2
def szCL (l : List Ent) : List Int := if entsB l then szC l 99 else []
def szNL (l : List Ent) : List Int := if entsB l then szN l 99 else []
theorem szCL_length (l : List Ent) : (szCL l).length ≤ 1048576 := by
  unfold szCL
  split
  · have := szC_length l 99; omega
  · simp
theorem szNL_length (l : List Ent) : (szNL l).length ≤ 1048576 := by
  unfold szNL
  split
  · have := szC_length l 99; simp [szN]; omega
  · simp
/-- The sizes of the first k classes. -/
def szT (l : List Ent) (k : Nat) : List Int := ((szC l 99).take k).map fun c => (cntC l c : Int)
theorem szT_succ (l : List Ent) {k : Nat} (h : k < (szC l 99).length) : szT l (k + 1) = szT l k ++ [(cntC l (szC l 99)[k] : Int)] := by
  unfold szT
  rw [List.take_succ_eq_append_getElem h, List.map_append]
  rfl
theorem szT_full (l : List Ent) : szT l (szC l 99).length = szN l 99 := by simp [szT, szN]
theorem szT_length (l : List Ent) (k : Nat) : (szT l k).length ≤ 99 := by
  have := szC_length l 99
  simp only [szT, List.length_map, List.length_take]
  omega
theorem szN_yes {l : List Ent} {k : Nat} (h : 0 < cntC l ((k : Int) + 1)) : szN l (k + 1) = szN l k ++ [(cntC l ((k : Int) + 1) : Int)] := by
  simp [szN, szC_yes h]
theorem szN_no {l : List Ent} {k : Nat} (h : ¬ 0 < cntC l ((k : Int) + 1)) : szN l (k + 1) = szN l k := by
  simp [szN, szC_no h]
theorem szN_length (l : List Ent) (k : Nat) : (szN l k).length ≤ k := by
  rw [szN, List.length_map]; exact szC_length l k
end Go.Ori
