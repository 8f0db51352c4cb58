/- Texts laid together: Courses that several classes share: plain law. No condition.; DERIVED: THE SHELF's CONTRACTS AT THIS DUMP, IN PLAIN WORDS (tools/lay-plain.mjs out of 'YtfenempljjenpaaShelf.lean', which tools/lay-shelf.mjs wrote): THE SAME DECLARATIONS UNDER THE SAME NAMES: 'import', 'namespace', 'open', 'def', 'theorem' AND NOTHING ELSE: no command of the shelf's: FOR A HAND-IN. Each laying: the table of numbers ('.._ren') and one theorem, a field a fact of the dump's own or the kernel's comparison; each contract: ONE APPLICATION. -/
import Derived.Test.YtfenempljjenpaaG3
import Derived.Lib.SlicesCompact
import Derived.Shelf.Small.Bits
import Derived.Shelf.Small.Wraps
import Derived.Shelf.Strconv.Itoa0
import Derived.Shelf.Sort.Plain
import Derived.Ground.Names2Prog
import Derived.Shelf.Slices.CompactI
import Derived.Shelf.Slices.SearchI
import Derived.Shelf.Slices.Cells
import Derived.Shelf.Slices.In.SortNone
import Derived.Test.YtfenempljjenpaaChecked
/- Courses that several classes share: plain law. No condition. -/
namespace Go.Ori
theorem asc_ext : ∀ {l r : List Int}, l.Pairwise (· < ·) → r.Pairwise (· < ·) → (∀ x, x ∈ l ↔ x ∈ r) → l = r
  | [], [], _, _, _ => rfl
  | [], b :: r, _, _, h => absurd ((h b).2 List.mem_cons_self) (by simp)
  | a :: l, [], _, _, h => absurd ((h a).1 List.mem_cons_self) (by simp)
  | a :: l, b :: r, h1, h2, h => by
    rw [List.pairwise_cons] at h1 h2
    have hab : a = b := by
      have ha := (h a).1 List.mem_cons_self
      have hb := (h b).2 List.mem_cons_self
      rw [List.mem_cons] at ha hb
      rcases ha with e | ha
      · exact e
      · rcases hb with e | hb
        · exact e.symm
        · have := h1.1 b hb; have := h2.1 a ha; omega
    subst hab
    rw [asc_ext h1.2 h2.2 (fun x => by
      constructor
      · intro hx
        have := (h x).1 (List.mem_cons_of_mem _ hx)
        rw [List.mem_cons] at this
        rcases this with rfl | this
        · have := h1.1 x hx; omega
        · exact this
      · intro hx
        have := (h x).2 (List.mem_cons_of_mem _ hx)
        rw [List.mem_cons] at this
        rcases this with rfl | this
        · have := h2.1 x hx; omega
        · exact this)]
abbrev sortI (l : List Int) : List Int := l.mergeSort fun x y => decide (x ≤ y)
theorem sortI_asc (l : List Int) : (sortI l).Pairwise (· ≤ ·) := by
  have h := List.pairwise_mergeSort (le := fun x y : Int => decide (x ≤ y)) (fun a b c h1 h2 => by simp only [decide_eq_true_eq] at *; omega) (fun a b => by simp only [Bool.or_eq_true, decide_eq_true_eq]; omega) l
  exact h.imp fun h => by simpa using h
theorem sortI_mem (l : List Int) (x : Int) : x ∈ sortI l ↔ x ∈ l := (List.mergeSort_perm l _).mem_iff
theorem compact_asc {l : List Int} (h : l.Pairwise (· ≤ ·)) : (Lib.compact l).Pairwise (· < ·) := by
  have hh := List.pairwise_iff_getElem.1 h
  have hm : ∀ i j (hi : i < l.length) (hj : j < l.length), i ≤ j → l[i] ≤ l[j] := fun i j hi hj hij => by
    by_cases e : i = j
    · subst e; exact Int.le_refl _
    · exact hh i j hi hj (by omega)
  unfold Lib.compact Lib.compactUpTo
  rw [List.pairwise_map]
  refine List.Pairwise.imp_of_mem (R := (· < ·)) ?_ (List.Pairwise.filter _ List.pairwise_lt_range)
  intro i j hi hj hij
  rw [List.mem_filter, List.mem_range] at hi hj
  have hk := hj.2
  simp only [Lib.keeps, decide_eq_true_eq] at hk
  have e1 : l.toArray[i]! = l[i]'hi.1 := by simp [hi.1]
  have e2 : l.toArray[j]! = l[j]'hj.1 := by simp [hj.1]
  have e3 : l.toArray[j - 1]! = l[j - 1]'(by omega) := by simp [show j - 1 < l.length by omega]
  rw [e2, e3] at hk
  show l.toArray[i]! < l.toArray[j]!
  rw [e1, e2]
  have a1 := hm i (j - 1) hi.1 (by omega) (by omega)
  have a2 := hm (j - 1) j (by omega) hj.1 (by omega)
  rcases hk with h0 | h0
  · omega
  · omega
theorem compact_mem (l : List Int) (x : Int) : x ∈ Lib.compact l ↔ x ∈ l := by
  unfold Lib.compact Lib.compactUpTo
  rw [List.mem_map]
  constructor
  · rintro ⟨j, hj, rfl⟩
    rw [List.mem_filter, List.mem_range] at hj
    simp [hj.1]
  · intro hx
    obtain ⟨j, hj, he⟩ := List.getElem_of_mem hx
    have key : ∀ n, ∀ j (hj : j < l.length), j < n → l[j] = x → ∃ i, i ∈ (List.range l.length).filter (Lib.keeps l.toArray) ∧ l.toArray[i]! = x := by
      intro n
      induction n with
      | zero => intro j _ h; omega
      | succ n ih =>
        intro j hj hn he
        by_cases hk : Lib.keeps l.toArray j = true
        · exact ⟨j, by rw [List.mem_filter, List.mem_range]; exact ⟨hj, hk⟩, by simp [hj, he]⟩
        · simp only [Lib.keeps, decide_eq_true_eq] at hk
          have hj0 : j ≠ 0 := fun h => hk (Or.inl h)
          have hp : l.toArray[j]! = l.toArray[j - 1]! := Decidable.byContradiction fun h => hk (Or.inr h)
          refine ih (j - 1) (by omega) (by omega) ?_
          have e2 : l.toArray[j]! = l[j]'hj := by simp [hj]
          have e3 : l.toArray[j - 1]! = l[j - 1]'(by omega) := by simp [show j - 1 < l.length by omega]
          rw [← e3, ← hp, e2, he]
    exact key (j + 1) j hj (by omega) he
/-- The courses, up to the k-th class, that a class ahead has, too. -/
def shO (cs : List Int) : Nat → List Int
  | 0 => []
  | k + 1 => shO cs k ++ if (cs.take k).any (fun x => x == cs.getD k 0) then [cs.getD k 0] else []
theorem shO_len (cs : List Int) : ∀ k, (shO cs k).length ≤ k
  | 0 => by simp [shO]
  | k + 1 => by
    have := shO_len cs k
    rw [shO, List.length_append]
    split <;> simp <;> omega
theorem shO_mem (cs : List Int) (x : Int) : ∀ k, k ≤ cs.length → (x ∈ shO cs k ↔ 2 ≤ (cs.take k).count x)
  | 0, _ => by simp [shO]
  | k + 1, hk => by
    have ih := shO_mem cs x k (by omega)
    have ht : cs.take (k + 1) = cs.take k ++ [cs[k]'(by omega)] := by rw [List.take_succ_eq_append_getElem (by omega)]
    have hg : cs.getD k 0 = cs[k]'(by omega) := by simp [List.getD_eq_getElem?_getD, List.getElem?_eq_getElem (show k < cs.length by omega)]
    rw [shO, List.mem_append, ih, ht, List.count_append, hg]
    generalize cs[k]'(by omega) = a
    by_cases hax : a = x
    · subst hax
      have hc : [a].count a = 1 := by simp
      rw [hc]
      have hany : (cs.take k).any (fun x => x == a) = true ↔ 0 < (cs.take k).count a := by
        rw [List.count_pos_iff, List.any_eq_true]
        exact ⟨fun ⟨y, hy, e⟩ => by rw [← eq_of_beq e]; exact hy, fun h => ⟨a, h, by simp⟩⟩
      constructor
      · rintro (h | h)
        · omega
        · split at h
          · rename_i ha
            have := hany.1 ha
            omega
          · simp at h
      · intro h
        by_cases h2 : 2 ≤ (cs.take k).count a
        · exact .inl h2
        · refine .inr ?_
          rw [if_pos (hany.2 (by omega))]
          simp
    · have hc : [a].count x = 0 := by rw [List.count_eq_zero]; simp; exact fun e => hax e.symm
      rw [hc]
      constructor
      · rintro (h | h)
        · omega
        · split at h
          · rw [List.mem_singleton] at h; exact absurd h.symm hax
          · simp at h
      · intro h; exact .inl (by omega)
def upTo20 : List Int := (List.range 20).map fun i : Nat => (i : Int) + 1
/-- The courses from 1 up to the k-th that two classes have. -/
def shK (cs : List Int) : Nat → List Int
  | 0 => []
  | k + 1 => shK cs k ++ if 2 ≤ cs.count ((k : Int) + 1) then [(k : Int) + 1] else []
def shL (cs : List Int) : List Int := shK cs 20
theorem shK_len (cs : List Int) : ∀ k, (shK cs k).length ≤ k
  | 0 => by simp [shK]
  | k + 1 => by
    have := shK_len cs k
    rw [shK, List.length_append]
    split <;> simp <;> omega
theorem shK_mem (cs : List Int) (x : Int) : ∀ k : Nat, x ∈ shK cs k ↔ 1 ≤ x ∧ x ≤ k ∧ 2 ≤ cs.count x
  | 0 => by simp [shK]; omega
  | k + 1 => by
    rw [shK, List.mem_append, shK_mem cs x k]
    by_cases hx : x = (k : Int) + 1
    · subst hx
      split
      · rename_i h; simp; omega
      · rename_i h; simp; omega
    · have : ¬ x ∈ (if 2 ≤ cs.count ((k : Int) + 1) then [(k : Int) + 1] else []) := by split <;> simp [hx]
      constructor
      · rintro (h | h)
        · exact ⟨h.1, by omega, h.2.2⟩
        · exact absurd h this
      · rintro ⟨h1, h2, h3⟩
        exact .inl ⟨h1, by omega, h3⟩
theorem shK_asc (cs : List Int) : ∀ k : Nat, (shK cs k).Pairwise (· < ·)
  | 0 => List.Pairwise.nil
  | k + 1 => by
    rw [shK, List.pairwise_append]
    refine ⟨shK_asc cs k, by split <;> simp, fun a ha b hb => ?_⟩
    have h := (shK_mem cs a k).1 ha
    split at hb
    · rw [List.mem_singleton] at hb; omega
    · simp at hb
/-- What is gathered, put in order, without what stands twice, is what is looked up course by course. -/
theorem share_eq {cs : List Int} (h : ∀ x ∈ cs, 1 ≤ x ∧ x ≤ 20) : Lib.compact (sortI (shO cs cs.length)) = shL cs := by
  refine asc_ext (compact_asc (sortI_asc _)) (shK_asc cs 20) fun x => ?_
  rw [compact_mem, sortI_mem, shO_mem cs x _ (Nat.le_refl _), List.take_length, shL, shK_mem]
  constructor
  · intro h2
    have hm : x ∈ cs := List.count_pos_iff.1 (by omega)
    have := h x hm
    exact ⟨this.1, by omega, h2⟩
  · exact fun h => h.2.2
end Go.Ori
/-
  DERIVED: THE SHELF's CONTRACTS AT THIS DUMP, IN PLAIN WORDS (tools/lay-plain.mjs out of 'YtfenempljjenpaaShelf.lean', which tools/lay-shelf.mjs wrote): THE SAME DECLARATIONS UNDER THE SAME NAMES: 'import', 'namespace', 'open', 'def', 'theorem' AND NOTHING ELSE: no command of the shelf's: FOR A HAND-IN. Each laying: the table of numbers ('.._ren') and one theorem, a field a fact of the dump's own or the kernel's comparison; each contract: ONE APPLICATION.
-/
namespace Go.Proofs
open Go.Shelf
def Try.lays189_ren : Go.Shelf.Ren := ⟨fun | 189 => 37 | 125 => 55 | 257 => 54 | 128 => 71 | 129 => 72 | 294 => 62 | 295 => 63 | 296 => 64 | 297 => 65 | 298 => 66 | 299 => 67 | 216 => 68 | 300 => 69 | 301 => 70 | 328 => 73 | 329 => 74 | 330 => 75 | 331 => 76 | 332 => 77 | 215 => 78 | 343 => 79 | n => n, fun | 28 => 28 | 3 => 3 | 46 => 81 | 0 => 0 | 51 => 95 | 53 => 52 | 4 => 4 | 183 => 89 | 182 => 88 | 131 => 49 | 5 => 5 | 9 => 9 | 218 => 97 | 222 => 101 | 228 => 103 | 229 => 104 | n => n, fun | n => n⟩
theorem Try.lays189 : Go.Proofs.Lays.n189 Try.prog Try.lays189_ren := {
  mixed := by kernel_rfl
  f125 := Try.func55.trans (congrArg some (by kernel_rfl))
  f128 := Try.func71.trans (congrArg some (by kernel_rfl))
  f129 := Try.func72.trans (congrArg some (by kernel_rfl))
  f189 := Try.func37.trans (congrArg some (by kernel_rfl))
  f215 := Try.func78.trans (congrArg some (by kernel_rfl))
  f216 := Try.func68.trans (congrArg some (by kernel_rfl))
  f257 := Try.func54.trans (congrArg some (by kernel_rfl))
  f294 := Try.func62.trans (congrArg some (by kernel_rfl))
  f295 := Try.func63.trans (congrArg some (by kernel_rfl))
  f296 := Try.func64.trans (congrArg some (by kernel_rfl))
  f297 := Try.func65.trans (congrArg some (by kernel_rfl))
  f298 := Try.func66.trans (congrArg some (by kernel_rfl))
  f299 := Try.func67.trans (congrArg some (by kernel_rfl))
  f300 := Try.func69.trans (congrArg some (by kernel_rfl))
  f301 := Try.func70.trans (congrArg some (by kernel_rfl))
  f328 := Try.func73.trans (congrArg some (by kernel_rfl))
  f329 := Try.func74.trans (congrArg some (by kernel_rfl))
  f330 := Try.func75.trans (congrArg some (by kernel_rfl))
  f331 := Try.func76.trans (congrArg some (by kernel_rfl))
  f332 := Try.func77.trans (congrArg some (by kernel_rfl))
  f343 := Try.func79.trans (congrArg some (by kernel_rfl))
  t0 := Try.underlying0
  a0 := Try.isAgg0
  z0 := Try.sizeOf0
  v0 := Try.zeroValue0
  t3 := Try.underlying3
  a3 := Try.isAgg3
  z3 := Try.sizeOf3
  v3 := Try.zeroValue3
  t4 := Try.underlying4
  a4 := Try.isAgg4
  z4 := Try.sizeOf4
  v4 := Try.zeroValue4
  t5 := Try.underlying5
  a5 := Try.isAgg5
  z5 := Try.sizeOf5
  v5 := Try.zeroValue5
  t9 := Try.underlying9
  a9 := Try.isAgg9
  z9 := Try.sizeOf9
  v9 := Try.zeroValue9
  t28 := Try.underlying28
  a28 := Try.isAgg28
  z28 := Try.sizeOf28
  v28 := Try.zeroValue28
  t46 := Try.underlying81
  a46 := Try.isAgg81
  z46 := Try.sizeOf81
  v46 := Try.zeroValue81
  t51 := Try.underlying95
  a51 := Try.isAgg95
  z51 := Try.sizeOf95
  v51 := Try.zeroValue95
  t53 := Try.underlying52
  a53 := Try.isAgg52
  z53 := Try.sizeOf52
  v53 := Try.zeroValue52
  t131 := Try.underlying49
  a131 := Try.isAgg49
  z131 := Try.sizeOf49
  v131 := Try.zeroValue49
  t182 := Try.underlying88
  a182 := Try.isAgg88
  z182 := Try.sizeOf88
  v182 := Try.zeroValue88
  t183 := Try.underlying89
  a183 := Try.isAgg89
  z183 := Try.sizeOf89
  v183 := Try.zeroValue89
  t218 := Try.underlying97
  a218 := Try.isAgg97
  z218 := Try.sizeOf97
  v218 := Try.zeroValue97
  t222 := Try.underlying101
  a222 := Try.isAgg101
  z222 := Try.sizeOf101
  v222 := Try.zeroValue101
  t228 := Try.underlying103
  a228 := Try.isAgg103
  z228 := Try.sizeOf103
  v228 := Try.zeroValue103
  t229 := Try.underlying104
  a229 := Try.isAgg104
  z229 := Try.sizeOf104
  v229 := Try.zeroValue104 }
open Go.Sort Go.RowKit in
theorem Try.slices_Sort_int (blk off cap : Nat) (zs : List Int) (w : World) (hH : Holds (Value.int .i64) w blk off zs.toArray) (hblk : blk < w.heap.size) (hsz : zs.length < 4611686018427387904) :
    Calls Try.prog 37 #[.slice (some ⟨blk, off, none⟩) zs.length cap] w fun e w' =>
      e = .returned (.tuple #[]) ∧ ∃ n os, w' = grow (putRow (Value.int .i64) (Sort.ahead w n) blk off (zs.mergeSort fun x y => decide (x ≤ y)).toArray) os := Any.slices_Sort_int Try.lays189 blk off cap zs w hH hblk hsz
def Try.laysNm220_ren : Go.Shelf.Ren := ⟨fun | 20 => 38 | n => n, fun | 22 => 28 | 3 => 3 | 4 => 4 | 0 => 0 | n => n, fun | n => n⟩
theorem Try.laysNm220 : Go.Proofs.Lays2.n20 Try.prog Try.laysNm220_ren := {
  mixed := by kernel_rfl
  f20 := Try.func38.trans (congrArg some (by kernel_rfl))
  t0 := Try.underlying0
  a0 := Try.isAgg0
  z0 := Try.sizeOf0
  v0 := Try.zeroValue0
  t3 := Try.underlying3
  a3 := Try.isAgg3
  z3 := Try.sizeOf3
  v3 := Try.zeroValue3
  t4 := Try.underlying4
  a4 := Try.isAgg4
  z4 := Try.sizeOf4
  v4 := Try.zeroValue4
  t22 := Try.underlying28
  a22 := Try.isAgg28
  z22 := Try.sizeOf28
  v22 := Try.zeroValue28
  i3 := by kernel_rfl }
open Go.RowKit Go.Lib Go.Sort in
/-- slices.Compact at []int: "Compact replaces consecutive runs of equal elements with a single copy. This is like the uniq command found on Unix. Compact modifies the contents of the slice s and returns the modified slice, which may have a smaller length. Compact zeroes the elements between the new length and the original length. The result preserves the nilness of s.": IT RETURNS THE SLICE CUT TO 'Lib.compact zs'; ITS CELLS HOLD 'Lib.compact zs', THEN ZERO VALUES up to the old length; all else is as it was, but for the count of draws. IN THE WORDS OF slices.Sort's CONTRACT ('Holds', 'putRow'): so the everyday 'slices.Sort(xs); xs = slices.Compact(xs)' goes from the one contract to the other. It asks 'zs.length ≤ cap' (every slice's: the reslicing 's[:k]' looks at it). Length 0, nil: '.._empty'. (LAID: no walk: one application.) -/
theorem Try.slices_Compact_int (blk off cap : Nat) (zs : List Int) (w : World) (hH : Holds (Value.int .i64) w blk off zs.toArray) (hsz : zs.length ≤ 9223372036854775807) (hcap : zs.length ≤ cap) :
    Calls Try.prog 38 #[.slice (some ⟨blk, off, none⟩) zs.length cap] w fun e w' => e = .returned (.slice (some ⟨blk, off, none⟩) (Lib.compact zs).length cap) ∧ ∃ q, w' = putRow (Value.int .i64) (Sort.ahead w q) blk off (Lib.compact zs ++ List.replicate (zs.length - (Lib.compact zs).length) 0).toArray := Any.slices_Compact_int Try.laysNm220 blk off cap zs w hH hsz hcap
end Go.Proofs
