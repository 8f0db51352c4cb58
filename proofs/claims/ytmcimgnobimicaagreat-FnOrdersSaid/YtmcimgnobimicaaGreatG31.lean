/- Texts laid together: An element that is put to its place; class sizes: plain functions. No condition.; The best order of a valid course: plain facts. No condition.; slices.Index and slices.Contains over ints. Condition: at most 1048576 elements.; impl.copyInts: a copy in new memory. Condition: at most 1048576 elements. -/
import Derived.Test.YtmcimgnobimicaaGreatG30
import Derived.Test.YtmcimgnobimicaaGreatRows
import Derived.Test.YtmcimgnobimicaaGreatG3
import Derived.Test.YtmcimgnobimicaaGreatG1
/- An element that is put to its place; class sizes: plain functions. No condition. -/
namespace Go.Ori
def putG {α : Type} (p : α → Bool) (x : α) : List α → List α
  | [] => [x]
  | a :: t => if p a then a :: putG p x t else x :: a :: t
theorem putG_at {α : Type} {p : α → Bool} {x : α} : ∀ {l : List α} {k : Nat}, k ≤ l.length → (∀ (j : Nat) (hj : j < l.length), j < k → p l[j] = true) → (∀ h : k < l.length, p l[k] = false) → putG p x l = l.take k ++ x :: l.drop k
  | [], k, hk, _, _ => by
    obtain rfl : k = 0 := by simpa using hk
    rfl
  | a :: t, 0, _, _, h2 => by
    have := h2 (by simp)
    simp only [List.getElem_cons_zero] at this
    simp [putG, this]
  | a :: t, k + 1, hk, h1, h2 => by
    have h0 := h1 0 (by simp) (by omega)
    simp only [List.getElem_cons_zero] at h0
    rw [putG, if_pos h0, putG_at (l := t) (k := k) (by simpa using hk) (fun j hj hjk => by have := h1 (j + 1) (by simpa using hj) (by omega); rwa [List.getElem_cons_succ] at this) (fun h => by have := h2 (by simpa using h); rwa [List.getElem_cons_succ] at this)]
    simp
theorem putG_mem {α : Type} {p : α → Bool} {x y : α} : ∀ {l : List α}, y ∈ putG p x l ↔ y = x ∨ y ∈ l
  | [] => by simp [putG]
  | a :: t => by
    unfold putG
    split
    · rw [List.mem_cons, putG_mem (l := t), List.mem_cons]
      constructor
      · rintro (h | h | h) <;> simp [h]
      · rintro (h | h | h) <;> simp [h]
    · simp
theorem putG_length {α : Type} {p : α → Bool} {x : α} : ∀ {l : List α}, (putG p x l).length = l.length + 1
  | [] => rfl
  | a :: t => by
    unfold putG
    split
    · simp [putG_length (l := t)]
    · simp
def putL (l : List Int) (n : Int) : List Int := putG (fun a => decide (a < n)) n l
theorem putL_sorted {n : Int} : ∀ {l : List Int}, l.Pairwise (· < ·) → n ∉ l → (putL l n).Pairwise (· < ·)
  | [], _, _ => by simp [putL, putG]
  | a :: t, h, hn => by
    rw [List.pairwise_cons] at h
    simp only [List.mem_cons, not_or] at hn
    unfold putL putG
    split
    · rename_i ha
      rw [decide_eq_true_eq] at ha
      rw [List.pairwise_cons]
      refine ⟨fun y hy => ?_, putL_sorted h.2 hn.2⟩
      rcases putG_mem.1 hy with rfl | hy
      · exact ha
      · exact h.1 y hy
    · rename_i ha
      rw [decide_eq_true_eq] at ha
      have hlt : n < a := by omega
      rw [List.pairwise_cons, List.pairwise_cons]
      refine ⟨fun y hy => ?_, h⟩
      rcases List.mem_cons.1 hy with rfl | hy
      · exact hlt
      · exact Int.lt_trans hlt (h.1 y hy)
theorem sorted_ext : ∀ {l m : List Int}, l.Pairwise (· < ·) → m.Pairwise (· < ·) → (∀ x, x ∈ l ↔ x ∈ m) → l = m
  | [], [], _, _, _ => rfl
  | [], b :: m, _, _, h => absurd ((h b).2 (by simp)) (by simp)
  | a :: l, [], _, _, h => absurd ((h a).1 (by simp)) (by simp)
  | a :: l, b :: m, h1, h2, h => by
    rw [List.pairwise_cons] at h1 h2
    have hab : a = b := by
      rcases List.mem_cons.1 ((h a).1 (by simp)) with e | e
      · exact e
      · rcases List.mem_cons.1 ((h b).2 (by simp)) with e' | e'
        · exact e'.symm
        · have q1 := h2.1 a e
          have q2 := h1.1 b e'
          omega
    subst hab
    congr 1
    refine sorted_ext h1.2 h2.2 fun x => ⟨fun hx => ?_, fun hx => ?_⟩
    · rcases List.mem_cons.1 ((h x).1 (List.mem_cons_of_mem _ hx)) with e | e
      · subst e; have := h1.1 x hx; omega
      · exact e
    · rcases List.mem_cons.1 ((h x).2 (List.mem_cons_of_mem _ hx)) with e | e
      · subst e; have := h2.1 x hx; omega
      · exact e
/-- How many of the first k entries are in a class. -/
def cntK (l : List Ent) (c : Int) (k : Nat) : Nat := (l.take k).countP fun e => e.cls == c
theorem cntK_zero (l : List Ent) (c : Int) : cntK l c 0 = 0 := by simp [cntK]
theorem cntK_succ (l : List Ent) (c : Int) {k : Nat} (h : k < l.length) : cntK l c (k + 1) = cntK l c k + if l[k].cls == c then 1 else 0 := by
  unfold cntK
  rw [List.take_succ_eq_append_getElem h, List.countP_append, List.countP_singleton]
theorem cntK_le (l : List Ent) (c : Int) (k : Nat) : cntK l c k ≤ k := by
  unfold cntK
  have := List.countP_le_length (p := fun e : Ent => e.cls == c) (l := l.take k)
  simp only [List.length_take] at this
  omega
def cntC (l : List Ent) (c : Int) : Nat := cntK l c l.length
theorem cntC_pos {l : List Ent} {c : Int} : 0 < cntC l c ↔ ∃ e ∈ l, e.cls = c := by
  unfold cntC cntK
  rw [List.take_length, List.countP_pos_iff]
  simp
/-- The classes of the first k numbers that have entries; their sizes. -/
def szC (l : List Ent) (k : Nat) : List Int := ((List.range k).map fun i : Nat => (i : Int) + 1).filter fun c => decide (0 < cntC l c)
def szN (l : List Ent) (k : Nat) : List Int := (szC l k).map fun c => (cntC l c : Int)
theorem szC_yes {l : List Ent} {k : Nat} (h : 0 < cntC l ((k : Int) + 1)) : szC l (k + 1) = szC l k ++ [(k : Int) + 1] := by
  simp [szC, List.range_succ, List.map_append, List.filter_append, h]
theorem szC_no {l : List Ent} {k : Nat} (h : ¬ 0 < cntC l ((k : Int) + 1)) : szC l (k + 1) = szC l k := by
  simp [szC, List.range_succ, List.map_append, List.filter_append, h]
theorem szC_length (l : List Ent) (k : Nat) : (szC l k).length ≤ k := by
  unfold szC
  exact Nat.le_trans (List.length_filter_le _ _) (by simp)
theorem szC_sorted (l : List Ent) (k : Nat) : (szC l k).Pairwise (· < ·) := by
  unfold szC
  refine List.Pairwise.filter _ ?_
  rw [List.pairwise_map]
  exact List.pairwise_lt_range.imp (fun h => by omega)
/-- The classes of the first k entries, each put to its place once. -/
def putK (l : List Ent) : Nat → List Int
  | 0 => []
  | k + 1 => if hasB (putK l k) (l.getD k ⟨0, 0, 0, false, 0⟩).cls then putK l k else putL (putK l k) (l.getD k ⟨0, 0, 0, false, 0⟩).cls
theorem putK_spec (l : List Ent) : ∀ k, k ≤ l.length → (putK l k).Pairwise (· < ·) ∧ (putK l k).length ≤ k ∧ ∀ x, x ∈ putK l k ↔ ∃ e ∈ l.take k, e.cls = x
  | 0, _ => by simp [putK]
  | k + 1, h => by
    obtain ⟨h1, h2, h3⟩ := putK_spec l k (by omega)
    have hk : k < l.length := by omega
    have hd : l.getD k ⟨0, 0, 0, false, 0⟩ = l[k] := by rw [List.getD_eq_getElem?_getD, List.getElem?_eq_getElem hk]; rfl
    rw [putK, hd, List.take_succ_eq_append_getElem hk]
    split
    · rename_i hb
      rw [hasB_iff] at hb
      refine ⟨h1, by omega, fun x => ?_⟩
      rw [h3 x]
      simp only [List.mem_append, List.mem_singleton]
      constructor
      · rintro ⟨e, he, rfl⟩; exact ⟨e, .inl he, rfl⟩
      · rintro ⟨e, he | he, rfl⟩
        · exact ⟨e, he, rfl⟩
        · subst he; exact (h3 _).1 hb
    · rename_i hb
      rw [Bool.not_eq_true] at hb
      have hb' : l[k].cls ∉ putK l k := fun q => by rw [hasB_iff.2 q] at hb; cases hb
      refine ⟨putL_sorted h1 hb', by rw [putL, putG_length]; omega, fun x => ?_⟩
      rw [putL, putG_mem, h3 x]
      simp only [List.mem_append, List.mem_singleton]
      constructor
      · rintro (rfl | ⟨e, he, rfl⟩)
        · exact ⟨_, .inr rfl, rfl⟩
        · exact ⟨e, .inl he, rfl⟩
      · rintro ⟨e, he | he, rfl⟩
        · exact .inr ⟨e, he, rfl⟩
        · subst he; exact .inl rfl
theorem putK_all {l : List Ent} (h : ∀ e ∈ l, 1 ≤ e.cls ∧ e.cls ≤ 99) : putK l l.length = szC l 99 := by
  obtain ⟨h1, _, h3⟩ := putK_spec l l.length (Nat.le_refl _)
  refine sorted_ext h1 (szC_sorted l 99) fun x => ?_
  rw [h3 x, List.take_length]
  unfold szC
  rw [List.mem_filter]
  simp only [List.mem_map, List.mem_range, decide_eq_true_eq, cntC_pos]
  constructor
  · rintro ⟨e, he, rfl⟩
    have := h e he
    exact ⟨⟨(e.cls - 1).toNat, by omega, by omega⟩, e, he, rfl⟩
  · rintro ⟨_, h⟩
    exact h
end Go.Ori
namespace Go.Ori
theorem entsB_cls {l : List Ent} (h : entsB l = true) : ∀ e ∈ l, 1 ≤ e.cls ∧ e.cls ≤ 99 := by
  intro e he
  obtain ⟨j, hj, rfl⟩ := List.getElem_of_mem he
  have := entsB_at h hj
  simp only [entB, Bool.and_eq_true, insB_true] at this
  exact this.1.1.2
def szCL (l : List Ent) : List Int := if entsB l then szC l 99 else []
def szNL (l : List Ent) : List Int := if entsB l then szN l 99 else []
theorem szCL_length (l : List Ent) : (szCL l).length ≤ 1048576 := by
  unfold szCL
  split
  · have := szC_length l 99; omega
  · simp
theorem szNL_length (l : List Ent) : (szNL l).length ≤ 1048576 := by
  unfold szNL
  split
  · have := szC_length l 99; simp [szN]; omega
  · simp
/-- The sizes of the first k classes. -/
def szT (l : List Ent) (k : Nat) : List Int := ((szC l 99).take k).map fun c => (cntC l c : Int)
theorem szT_succ (l : List Ent) {k : Nat} (h : k < (szC l 99).length) : szT l (k + 1) = szT l k ++ [(cntC l (szC l 99)[k] : Int)] := by
  unfold szT
  rw [List.take_succ_eq_append_getElem h, List.map_append]
  rfl
theorem szT_full (l : List Ent) : szT l (szC l 99).length = szN l 99 := by simp [szT, szN]
theorem szT_length (l : List Ent) (k : Nat) : (szT l k).length ≤ 99 := by
  have := szC_length l 99
  simp only [szT, List.length_map, List.length_take]
  omega
theorem szN_yes {l : List Ent} {k : Nat} (h : 0 < cntC l ((k : Int) + 1)) : szN l (k + 1) = szN l k ++ [(cntC l ((k : Int) + 1) : Int)] := by
  simp [szN, szC_yes h]
theorem szN_no {l : List Ent} {k : Nat} (h : ¬ 0 < cntC l ((k : Int) + 1)) : szN l (k + 1) = szN l k := by
  simp [szN, szC_no h]
theorem szN_length (l : List Ent) (k : Nat) : (szN l k).length ≤ k := by
  rw [szN, List.length_map]; exact szC_length l k
end Go.Ori
/- The best order of a valid course: plain facts. No condition. -/
namespace Go.Ori
def midT (t : List Int) : List Int := (t.drop 1).take (t.length - 2)
def midL (t : List Int) : List Int := sortI (midT t)
def boB (m : Mp) (l : List Ctl) (t : List Int) : Bool := crsB m l t && decide (t.length ≤ 7) && !twiceB t
def boR (m : Mp) (l : List Ctl) (t : List Int) : List Int × Int := ordS (tmT m l) (lastI t) (t.length - 2) (t.take 1) (midL t)
def boL (m : Mp) (l : List Ctl) (t : List Int) : List Int := if boB m l t then (boR m l t).1 else []
def boI (m : Mp) (l : List Ctl) (t : List Int) : Int := if boB m l t then (boR m l t).2 else 0
theorem bo_no {m : Mp} {l : List Ctl} {t : List Int} (h : boB m l t = false) : boL m l t = [] ∧ boI m l t = 0 := by simp [boL, boI, h]
theorem bo_yes {m : Mp} {l : List Ctl} {t : List Int} (h : boB m l t = true) : boL m l t = (boR m l t).1 ∧ boI m l t = (boR m l t).2 := by simp [boL, boI, h]
theorem bo_true {m : Mp} {l : List Ctl} {t : List Int} (h : boB m l t = true) : crsB m l t = true ∧ t.length ≤ 7 ∧ t.Nodup := by
  simp only [boB, Bool.and_eq_true, decide_eq_true_eq, Bool.not_eq_true'] at h
  exact ⟨h.1.1, h.1.2, twiceB_nodup.1 h.2⟩
theorem midT_len (t : List Int) : (midT t).length = t.length - 2 := by
  unfold midT
  rw [List.length_take, List.length_drop]
  omega
theorem midL_len (t : List Int) : (midL t).length = t.length - 2 := by
  unfold midL
  rw [List.length_mergeSort, midT_len]
theorem mid_parts {t : List Int} (h : 2 ≤ t.length) : t.take 1 ++ midT t ++ [lastI t] = t := by
  apply List.ext_getElem
  · simp only [List.length_append, List.length_take, midT_len, List.length_cons, List.length_nil]
    omega
  · intro i h1 h2
    by_cases e : i < t.length - 1
    · rw [List.getElem_append_left (by simp only [List.length_append, List.length_take, midT_len]; omega)]
      by_cases e0 : i = 0
      · subst e0
        rw [List.getElem_append_left (by simp only [List.length_take]; omega)]
        simp
      · rw [List.getElem_append_right (by simp only [List.length_take]; omega)]
        simp only [midT, List.length_take, List.getElem_take, List.getElem_drop]
        congr 1
        omega
    · obtain rfl : i = t.length - 1 := by omega
      rw [List.getElem_append_right (by simp only [List.length_append, List.length_take, midT_len]; omega)]
      simp [lastI, List.getD_eq_getElem?_getD, h2]
theorem mid_perm {t : List Int} (h : 2 ≤ t.length) : (t.take 1 ++ midL t ++ [lastI t]).Perm t := by
  conv => rhs; rw [← mid_parts h]
  exact List.Perm.append_right _ (List.Perm.append_left _ (List.mergeSort_perm _ _))
theorem mid_asc {t : List Int} (hn : t.Nodup) : (midL t).Pairwise (· < ·) := by
  have h1 : (midT t).Nodup := by
    unfold midT
    exact (hn.sublist (List.drop_sublist _ _)).sublist (List.take_sublist _ _)
  have h2 : (midL t).Nodup := (List.mergeSort_perm (midT t) _).nodup_iff.2 h1
  refine (List.pairwise_and_iff.2 ⟨sortI_asc (midT t), h2⟩).imp ?_
  rintro a b ⟨h3, h4⟩
  omega
/-- All controls of a course can be reached from one another. -/
theorem crs_way {m : Mp} {l : List Ctl} {t : List Int} (h : Crs m l t) : ∀ x ∈ t, ∀ y ∈ t, timeB m (cellN l x) (cellN l y) < 1073741824 := by
  obtain ⟨W, H, hm⟩ := mapB_ok (ctlsB_map h.good)
  have hc := fun (i : Nat) (hi : i < t.length) => (cellK_open h.good (h.has i hi)).2
  have fwd : ∀ (d i : Nat) (hi : i + d < t.length), timeB m (cellN l (t[i]'(by omega))) (cellN l t[i + d]) < 1073741824 := by
    intro d
    induction d with
    | zero =>
      intro i hi
      have := time_self hm (hc i (by omega)).1
      simp only [Nat.add_zero]
      omega
    | succ d ih =>
      intro i hi
      have h1 := ih i (by omega)
      have h2 := h.way (i + d) (by omega)
      exact (time_tri hm (hc i (by omega)).1 (hc (i + d) (by omega)).1 (hc (i + d + 1) (by omega)).1 h1 h2).2
  intro x hx y hy
  obtain ⟨i, hi, rfl⟩ := List.getElem_of_mem hx
  obtain ⟨j, hj, rfl⟩ := List.getElem_of_mem hy
  rcases Nat.le_total i j with e | e
  · have := fwd (j - i) i (by omega)
    simpa [Nat.add_sub_cancel' e] using this
  · have h1 := fwd (i - j) j (by omega)
    have h2 : timeB m (cellN l t[j]) (cellN l t[i]) < 1073741824 := by simpa [Nat.add_sub_cancel' e] using h1
    exact time_back hm (hc j hj).1 (hc i hi).1 (hc i hi).2 h2
theorem GoodO.of {m : Mp} {l : List Ctl} {t : List Int} (h : Crs m l t) (h7 : t.length ≤ 7) (hn : t.Nodup) : GoodO m l (lastI t) (t.take 1) (midL t) := by
  have hp := mid_perm h.lo
  refine ⟨h.good, fun x hx => ?_, fun x hx y hy => crs_way h x (hp.mem_iff.1 hx) y (hp.mem_iff.1 hy), hp.nodup_iff.2 hn, ?_, ?_⟩
  · obtain ⟨i, hi, rfl⟩ := List.getElem_of_mem (hp.mem_iff.1 hx)
    exact h.has i hi
  · have := h.lo
    rw [List.length_take, midL_len]
    omega
  · intro e
    have := congrArg List.length e
    rw [List.length_take, List.length_nil] at this
    have := h.lo
    omega
theorem rest_start {t : List Int} (h : 2 ≤ t.length) (hn : t.Nodup) : restO (midL t) (t.take 1) = midL t := by
  unfold restO
  refine List.filter_eq_self.2 fun x hx => ?_
  have hd := ((mid_perm h).nodup_iff.2 hn)
  rw [List.append_assoc, List.nodup_append] at hd
  have : x ∉ t.take 1 := fun hx2 => hd.2.2 x hx2 x (List.mem_append_left _ hx) rfl
  simp [this]
end Go.Ori
/- slices.Index and slices.Contains over ints. Condition: at most 1048576 elements. -/
namespace Go.Proofs.YtmcimgnobimicaaGreat
open Go.RowKit Go.Ori
theorem index_ints (v : Value) (l : List Int) (n : Int) (w : World) (h : w.sl intC 1 v l) (hl : l.length ≤ 1048576) :
    Calls Tryz.prog 47 #[v, .int .i64 n] w fun x w' => x = .returned (.int .i64 (idxB l fun x => n == x)) ∧ ∃ d, w' = w.ext d := by
  obtain ⟨p, c, rfl, hp, hcap⟩ := h
  go_enter Tryz.func47, Tryz.ntmps47
  go_wp2
  go_loopw [8] (fun i wr => ∃ k : Nat, k ≤ l.length ∧ i = .int .i64 k ∧ (∀ (j : Nat) (hj : j < l.length), j < k → (n == l[j]) = false) ∧ ∃ d, wr = w.ext d) (fun i _ => l.length - (intOf i).toNat)
  case atStart => exact ⟨0, by omega, rfl, by simp, w.gained_refl⟩
  case round =>
    obtain ⟨k, hk, rfl, hno, d, rfl⟩ := hrel
    have HN := Lib.hid hno
    clear hno
    by_cases hlt : k < l.length
    · obtain ⟨b, o, rfl, hc⟩ := hp (by omega)
      have c0 := hc k hlt 0 (by omega)
      have H1 := Lib.hid (fun (h : (n == l[k]) = true) => idxB_some (l := l) (p := fun x => n == x) hlt (fun j hj hjk => HN.out j hj hjk) h)
      have H2 := Lib.hid (fun (h : (n == l[k]) = false) => (show ∀ (j : Nat) (hj : j < l.length), j < k + 1 → (n == l[j]) = false from fun j hj hjk => by
        by_cases e : j = k
        · subst e; exact h
        · exact HN.out j hj (by omega)))
      generalize l[k] = y at c0 H1 H2
      clear hc hp
      simp only [intC, List.getElem?_cons_zero, Nat.add_zero, Nat.mul_one] at c0
      have ob := World.oldB_of_cell c0
      cases hf : (n == y) with
      | true =>
        have H1' := Lib.hid (H1.out hf)
        go_wp2
        go_ret
        exact ⟨ret_int H1'.out.symm, _, rfl⟩
      | false =>
        have H2' := Lib.hid (H2.out hf)
        go_wp2
        go_roundw
        case rel => exact ⟨k + 1, by omega, by go_num, H2'.out, _, rfl⟩
        case measure => simp [intOf]; omega
    · have HE := Lib.hid (idxB_none (l := l) (p := fun x => n == x) (fun j hj => HN.out j hj (by omega)))
      go_wp2
      go_ret
      exact ⟨ret_int HE.out.symm, _, rfl⟩
theorem contains_ints (v : Value) (l : List Int) (n : Int) (w : World) (h : w.sl intC 1 v l) (hl : l.length ≤ 1048576) :
    Calls Tryz.prog 27 #[v, .int .i64 n] w fun x w' => x = .returned (.bool (hasB l n)) ∧ ∃ d, w' = w.ext d := by
  have HI := Lib.hid (index_ints v l n w h hl)
  go_enter Tryz.func27, Tryz.ntmps27
  go_wp2_with fail
  refine HI.out.mono ?_
  rintro e w1 ⟨rfl, d1, rfl⟩
  have HA := Lib.hid (idxB_any l (fun x => n == x))
  go_wp2
  go_ret
  exact ⟨ret_bool HA.out, _, rfl⟩
end Go.Proofs.YtmcimgnobimicaaGreat
/- impl.copyInts: a copy in new memory. Condition: at most 1048576 elements. -/
namespace Go.Proofs.YtmcimgnobimicaaGreat
open Go.RowKit Go.Ori
theorem copyInts_any (v : Value) (l : List Int) (w : World) (h : w.sl intC 1 v l) (hl : l.length ≤ 1048576) :
    Calls Tryz.prog 22 #[v] w fun x w' => ∃ v', x = .returned v' ∧ (∃ d, w' = w.ext d) ∧ w'.own w.heap.size 3 intC 1 v' l := by
  go_enter Tryz.func22, Tryz.ntmps22
  go_wp2_with (at_builtin; refine wpList_append_gain rfl (.tmp 3) (.tmp 4) rfl Tryz.underlying24 info_int (by rfl) (by omega) intC_length intC_one (by omega) (gain_alloc w.gained_refl _) (Nat.le_refl _) (by simp) rfl rfl (own_lit (l := ([] : List Int)) intC_length rfl (by simp)) (sl_alloc intC_length h _) (by simpa using (by omega : l.length ≤ 2097152)) ?_; intro v' d ho hg)
  go_ret
  exact ⟨_, rfl, ⟨_, rfl⟩, ho⟩
end Go.Proofs.YtmcimgnobimicaaGreat
