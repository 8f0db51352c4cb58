/- Texts laid together: Courses that several classes share: plain law. No condition.; Tables of numbers in memory, for the least times. No condition. -/
import Derived.Test.YtmcimgnobimicaaGreatG3
import Derived.Lib.SlicesCompact
import Derived.Test.YtmcimgnobimicaaGreatG15
import Derived.Test.YtmcimgnobimicaaGreatG4
/- Courses that several classes share: plain law. No condition. -/
namespace Go.Ori
theorem asc_ext : ∀ {l r : List Int}, l.Pairwise (· < ·) → r.Pairwise (· < ·) → (∀ x, x ∈ l ↔ x ∈ r) → l = r
  | [], [], _, _, _ => rfl
  | [], b :: r, _, _, h => absurd ((h b).2 List.mem_cons_self) (by simp)
  | a :: l, [], _, _, h => absurd ((h a).1 List.mem_cons_self) (by simp)
  | a :: l, b :: r, h1, h2, h => by
    rw [List.pairwise_cons] at h1 h2
    have hab : a = b := by
      have ha := (h a).1 List.mem_cons_self
      have hb := (h b).2 List.mem_cons_self
      rw [List.mem_cons] at ha hb
      rcases ha with e | ha
      · exact e
      · rcases hb with e | hb
        · exact e.symm
        · have := h1.1 b hb; have := h2.1 a ha; omega
    subst hab
    rw [asc_ext h1.2 h2.2 (fun x => by
      constructor
      · intro hx
        have := (h x).1 (List.mem_cons_of_mem _ hx)
        rw [List.mem_cons] at this
        rcases this with rfl | this
        · have := h1.1 x hx; omega
        · exact this
      · intro hx
        have := (h x).2 (List.mem_cons_of_mem _ hx)
        rw [List.mem_cons] at this
        rcases this with rfl | this
        · have := h2.1 x hx; omega
        · exact this)]
abbrev sortI (l : List Int) : List Int := l.mergeSort fun x y => decide (x ≤ y)
theorem sortI_asc (l : List Int) : (sortI l).Pairwise (· ≤ ·) := by
  have h := List.pairwise_mergeSort (le := fun x y : Int => decide (x ≤ y)) (fun a b c h1 h2 => by simp only [decide_eq_true_eq] at *; omega) (fun a b => by simp only [Bool.or_eq_true, decide_eq_true_eq]; omega) l
  exact h.imp fun h => by simpa using h
theorem sortI_mem (l : List Int) (x : Int) : x ∈ sortI l ↔ x ∈ l := (List.mergeSort_perm l _).mem_iff
theorem compact_asc {l : List Int} (h : l.Pairwise (· ≤ ·)) : (Lib.compact l).Pairwise (· < ·) := by
  have hh := List.pairwise_iff_getElem.1 h
  have hm : ∀ i j (hi : i < l.length) (hj : j < l.length), i ≤ j → l[i] ≤ l[j] := fun i j hi hj hij => by
    by_cases e : i = j
    · subst e; exact Int.le_refl _
    · exact hh i j hi hj (by omega)
  unfold Lib.compact Lib.compactUpTo
  rw [List.pairwise_map]
  refine List.Pairwise.imp_of_mem (R := (· < ·)) ?_ (List.Pairwise.filter _ List.pairwise_lt_range)
  intro i j hi hj hij
  rw [List.mem_filter, List.mem_range] at hi hj
  have hk := hj.2
  simp only [Lib.keeps, decide_eq_true_eq] at hk
  have e1 : l.toArray[i]! = l[i]'hi.1 := by simp [hi.1]
  have e2 : l.toArray[j]! = l[j]'hj.1 := by simp [hj.1]
  have e3 : l.toArray[j - 1]! = l[j - 1]'(by omega) := by simp [show j - 1 < l.length by omega]
  rw [e2, e3] at hk
  show l.toArray[i]! < l.toArray[j]!
  rw [e1, e2]
  have a1 := hm i (j - 1) hi.1 (by omega) (by omega)
  have a2 := hm (j - 1) j (by omega) hj.1 (by omega)
  rcases hk with h0 | h0
  · omega
  · omega
theorem compact_mem (l : List Int) (x : Int) : x ∈ Lib.compact l ↔ x ∈ l := by
  unfold Lib.compact Lib.compactUpTo
  rw [List.mem_map]
  constructor
  · rintro ⟨j, hj, rfl⟩
    rw [List.mem_filter, List.mem_range] at hj
    simp [hj.1]
  · intro hx
    obtain ⟨j, hj, he⟩ := List.getElem_of_mem hx
    have key : ∀ n, ∀ j (hj : j < l.length), j < n → l[j] = x → ∃ i, i ∈ (List.range l.length).filter (Lib.keeps l.toArray) ∧ l.toArray[i]! = x := by
      intro n
      induction n with
      | zero => intro j _ h; omega
      | succ n ih =>
        intro j hj hn he
        by_cases hk : Lib.keeps l.toArray j = true
        · exact ⟨j, by rw [List.mem_filter, List.mem_range]; exact ⟨hj, hk⟩, by simp [hj, he]⟩
        · simp only [Lib.keeps, decide_eq_true_eq] at hk
          have hj0 : j ≠ 0 := fun h => hk (Or.inl h)
          have hp : l.toArray[j]! = l.toArray[j - 1]! := Decidable.byContradiction fun h => hk (Or.inr h)
          refine ih (j - 1) (by omega) (by omega) ?_
          have e2 : l.toArray[j]! = l[j]'hj := by simp [hj]
          have e3 : l.toArray[j - 1]! = l[j - 1]'(by omega) := by simp [show j - 1 < l.length by omega]
          rw [← e3, ← hp, e2, he]
    exact key (j + 1) j hj (by omega) he
/-- The courses, up to the k-th class, that a class ahead has, too. -/
def shO (cs : List Int) : Nat → List Int
  | 0 => []
  | k + 1 => shO cs k ++ if (cs.take k).any (fun x => x == cs.getD k 0) then [cs.getD k 0] else []
theorem shO_len (cs : List Int) : ∀ k, (shO cs k).length ≤ k
  | 0 => by simp [shO]
  | k + 1 => by
    have := shO_len cs k
    rw [shO, List.length_append]
    split <;> simp <;> omega
theorem shO_mem (cs : List Int) (x : Int) : ∀ k, k ≤ cs.length → (x ∈ shO cs k ↔ 2 ≤ (cs.take k).count x)
  | 0, _ => by simp [shO]
  | k + 1, hk => by
    have ih := shO_mem cs x k (by omega)
    have ht : cs.take (k + 1) = cs.take k ++ [cs[k]'(by omega)] := by rw [List.take_succ_eq_append_getElem (by omega)]
    have hg : cs.getD k 0 = cs[k]'(by omega) := by simp [List.getD_eq_getElem?_getD, List.getElem?_eq_getElem (show k < cs.length by omega)]
    rw [shO, List.mem_append, ih, ht, List.count_append, hg]
    generalize cs[k]'(by omega) = a
    by_cases hax : a = x
    · subst hax
      have hc : [a].count a = 1 := by simp
      rw [hc]
      have hany : (cs.take k).any (fun x => x == a) = true ↔ 0 < (cs.take k).count a := by
        rw [List.count_pos_iff, List.any_eq_true]
        exact ⟨fun ⟨y, hy, e⟩ => by rw [← eq_of_beq e]; exact hy, fun h => ⟨a, h, by simp⟩⟩
      constructor
      · rintro (h | h)
        · omega
        · split at h
          · rename_i ha
            have := hany.1 ha
            omega
          · simp at h
      · intro h
        by_cases h2 : 2 ≤ (cs.take k).count a
        · exact .inl h2
        · refine .inr ?_
          rw [if_pos (hany.2 (by omega))]
          simp
    · have hc : [a].count x = 0 := by rw [List.count_eq_zero]; simp; exact fun e => hax e.symm
      rw [hc]
      constructor
      · rintro (h | h)
        · omega
        · split at h
          · rw [List.mem_singleton] at h; exact absurd h.symm hax
          · simp at h
      · intro h; exact .inl (by omega)
def upTo20 : List Int := (List.range 20).map fun i : Nat => (i : Int) + 1
/-- The courses from 1 up to the k-th that two classes have. -/
def shK (cs : List Int) : Nat → List Int
  | 0 => []
  | k + 1 => shK cs k ++ if 2 ≤ cs.count ((k : Int) + 1) then [(k : Int) + 1] else []
def shL (cs : List Int) : List Int := shK cs 20
theorem shK_len (cs : List Int) : ∀ k, (shK cs k).length ≤ k
  | 0 => by simp [shK]
  | k + 1 => by
    have := shK_len cs k
    rw [shK, List.length_append]
    split <;> simp <;> omega
theorem shK_mem (cs : List Int) (x : Int) : ∀ k : Nat, x ∈ shK cs k ↔ 1 ≤ x ∧ x ≤ k ∧ 2 ≤ cs.count x
  | 0 => by simp [shK]; omega
  | k + 1 => by
    rw [shK, List.mem_append, shK_mem cs x k]
    by_cases hx : x = (k : Int) + 1
    · subst hx
      split
      · rename_i h; simp; omega
      · rename_i h; simp; omega
    · have : ¬ x ∈ (if 2 ≤ cs.count ((k : Int) + 1) then [(k : Int) + 1] else []) := by split <;> simp [hx]
      constructor
      · rintro (h | h)
        · exact ⟨h.1, by omega, h.2.2⟩
        · exact absurd h this
      · rintro ⟨h1, h2, h3⟩
        exact .inl ⟨h1, by omega, h3⟩
theorem shK_asc (cs : List Int) : ∀ k : Nat, (shK cs k).Pairwise (· < ·)
  | 0 => List.Pairwise.nil
  | k + 1 => by
    rw [shK, List.pairwise_append]
    refine ⟨shK_asc cs k, by split <;> simp, fun a ha b hb => ?_⟩
    have h := (shK_mem cs a k).1 ha
    split at hb
    · rw [List.mem_singleton] at hb; omega
    · simp at hb
/-- What is gathered, put in order, without what stands twice, is what is looked up course by course. -/
theorem share_eq {cs : List Int} (h : ∀ x ∈ cs, 1 ≤ x ∧ x ≤ 20) : Lib.compact (sortI (shO cs cs.length)) = shL cs := by
  refine asc_ext (compact_asc (sortI_asc _)) (shK_asc cs 20) fun x => ?_
  rw [compact_mem, sortI_mem, shO_mem cs x _ (Nat.le_refl _), List.take_length, shL, shK_mem]
  constructor
  · intro h2
    have hm : x ∈ cs := List.count_pos_iff.1 (by omega)
    have := h x hm
    exact ⟨this.1, by omega, h2⟩
  · exact fun h => h.2.2
end Go.Ori
/- Tables of numbers in memory, for the least times. No condition. -/
namespace Go.Ori
open Go.RowKit
def initK (n k : Nat) : List Int := List.replicate k 1073741824 ++ List.replicate (n - k) 0
theorem initK_length {n k : Nat} (h : k ≤ n) : (initK n k).length = n := by simp [initK]; omega
theorem initK_set {n k : Nat} (h : k < n) : (initK n k).set k 1073741824 = initK n (k + 1) := by
  obtain ⟨r, hr⟩ : ∃ r, n - k = r + 1 := ⟨n - k - 1, by omega⟩
  have hr' : n - (k + 1) = r := by omega
  rw [initK, hr, List.replicate_succ, List.set_append, if_neg (by simp), List.length_replicate, Nat.sub_self, List.set_cons_zero, initK, hr', List.replicate_succ', List.append_assoc]
  rfl
theorem initK_zero (n : Nat) : initK n 0 = List.replicate n 0 := by simp [initK]
theorem initK_full (n b : Nat) : (initK n n).set b 0 = initT n b := by simp [initK, initT]
theorem sE_init {n b : Nat} : (List.replicate n (-1 : Int)).set b 0 = sE (initT n b) := by
  rw [initT, sE_set _ _ _ (by omega)]
  congr 1
  simp [sE]
def decT (v : Value) : Nat := if intOf v = -1 then 1073741824 else (intOf v).toNat
def sumE (n : Nat) : Option Obj → Nat
  | some (.cells C _ _) => ((C.toList.take n).map decT).sum
  | _ => 0
theorem decT_sum {n : Nat} {L : List Int} (h : TInv n L) : (((sE L).map (Value.int .i64)).map decT).sum = lsum L := by
  rw [lsum, List.map_map, sE, List.map_map]
  congr 1
  apply List.map_congr_left
  intro x hx
  obtain ⟨k, hk, rfl⟩ := List.getElem_of_mem hx
  have h0 := h.lo k
  rw [List.getD_eq_getElem?_getD, List.getElem?_eq_getElem hk] at h0
  simp only [Option.getD_some] at h0
  generalize L[k] = x at h0
  show decT (Value.int .i64 (if x = 1073741824 then -1 else x)) = x.toNat
  by_cases e : x = 1073741824
  · rw [if_pos e, e]; rfl
  · rw [if_neg e]
    show (if x = -1 then 1073741824 else x.toNat) = x.toNat
    rw [if_neg (by omega)]
def cellsSum : Option Obj → Nat
  | some (.cells C _ _) => (C.toList.map fun v => (intOf v).toNat).sum
  | _ => 0
theorem cellsSum_ints (L : List Int) (e : TypeId) (f : Nat × Nat) : cellsSum (some (.cells (L.map (Value.int .i64)).toArray e f)) = lsum L := by
  simp only [cellsSum, lsum, List.map_map]
  congr 1
theorem foldl_take {α β : Type} (f : β → α → β) (s : β) (ks : List α) {j : Nat} (h : j < ks.length) : (ks.take (j + 1)).foldl f s = f ((ks.take j).foldl f s) ks[j] := by
  rw [List.take_succ_eq_append_getElem h, List.foldl_append]
  rfl
end Go.Ori
namespace Go
open RowKit Go.Ori
theorem ints_cell {w : World} {g : Nat} {L : List Int} {e : TypeId} {f : Nat × Nat} (h : w.heap[g]? = some (.cells (L.map (Value.int .i64)).toArray e f)) {k : Nat} (hk : k < L.length) : w.cell? ⟨g, k, none⟩ = some (.int .i64 (L.getD k 0)) := by
  rw [World.cell_of_heap h]
  simp [List.getD_eq_getElem?_getD, List.getElem?_eq_getElem hk]
theorem own_sum {w : World} {base g n cap : Nat} {e : TypeId} {L : List Int} (h : w.own base e intC 1 (.slice (some ⟨g, 0, none⟩) n cap) (sE L)) (hT : TInv n L) : sumE n w.heap[g]? = lsum L := by
  obtain ⟨_, ⟨hv, _⟩ | ⟨g', cap', cur, hv, hb, hh, hle, hcap, hs, ht⟩⟩ := h
  · cases hv
  · simp only [Value.slice.injEq, Option.some.injEq, Addr.mk.injEq, and_true] at hv
    obtain ⟨rfl, rfl, rfl⟩ := hv
    rw [hh, ← decT_sum hT, ← flat_int, ← ht]
    simp only [sumE, Nat.mul_one]
theorem sE_getD {n : Nat} {L : List Int} (h : TInv n L) {k : Nat} (hk : k < n) : (sE L).getD k 0 = if L.getD k 0 = 1073741824 then -1 else L.getD k 0 := by
  have hl : k < L.length := by rw [h.len]; exact hk
  rw [List.getD_eq_getElem?_getD, List.getElem?_eq_getElem (by rw [sE_length]; exact hl), Option.getD_some, sE_get L hl]
theorem own_table {w : World} {base g : Nat} {e : TypeId} {L : List Int} {n : Nat} (hg : w.heap[g]? = some (.cells (L.map (Value.int .i64)).toArray e (0, 0))) (hb : base ≤ g) (hn : L.length = n) (h : n ≤ 1048576) :
    w.own base e intC 1 (.slice (some ⟨g, 0, none⟩) n n) L := by
  subst hn
  exact own_ints hg hb h
end Go
