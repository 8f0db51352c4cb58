/- Texts laid together: Courses that several classes share: plain law. No condition.; slices.IndexFunc and slices.ContainsFunc over ints, at a function of which a contract is known. Condition: at most 1048576 elements.; impl.inside: whether a number lies between two. No condition.; spec.l1In: whether a number lies between two. No condition. -/
import Derived.Test.YtmcimgnobimicaaG2
import Derived.Lib.SlicesCompact
import Derived.Test.YtmcimgnobimicaaRows
import Derived.Test.YtmcimgnobimicaaG1
/- Courses that several classes share: plain law. No condition. -/
namespace Go.Ori
theorem asc_ext : ∀ {l r : List Int}, l.Pairwise (· < ·) → r.Pairwise (· < ·) → (∀ x, x ∈ l ↔ x ∈ r) → l = r
  | [], [], _, _, _ => rfl
  | [], b :: r, _, _, h => absurd ((h b).2 List.mem_cons_self) (by simp)
  | a :: l, [], _, _, h => absurd ((h a).1 List.mem_cons_self) (by simp)
  | a :: l, b :: r, h1, h2, h => by
    rw [List.pairwise_cons] at h1 h2
    have hab : a = b := by
      have ha := (h a).1 List.mem_cons_self
      have hb := (h b).2 List.mem_cons_self
      rw [List.mem_cons] at ha hb
      rcases ha with e | ha
      · exact e
      · rcases hb with e | hb
        · exact e.symm
        · have := h1.1 b hb; have := h2.1 a ha; omega
    subst hab
    rw [asc_ext h1.2 h2.2 (fun x => by
      constructor
      · intro hx
        have := (h x).1 (List.mem_cons_of_mem _ hx)
        rw [List.mem_cons] at this
        rcases this with rfl | this
        · have := h1.1 x hx; omega
        · exact this
      · intro hx
        have := (h x).2 (List.mem_cons_of_mem _ hx)
        rw [List.mem_cons] at this
        rcases this with rfl | this
        · have := h2.1 x hx; omega
        · exact this)]
abbrev sortI (l : List Int) : List Int := l.mergeSort fun x y => decide (x ≤ y)
theorem sortI_asc (l : List Int) : (sortI l).Pairwise (· ≤ ·) := by
  have h := List.pairwise_mergeSort (le := fun x y : Int => decide (x ≤ y)) (fun a b c h1 h2 => by simp only [decide_eq_true_eq] at *; omega) (fun a b => by simp only [Bool.or_eq_true, decide_eq_true_eq]; omega) l
  exact h.imp fun h => by simpa using h
theorem sortI_mem (l : List Int) (x : Int) : x ∈ sortI l ↔ x ∈ l := (List.mergeSort_perm l _).mem_iff
theorem compact_asc {l : List Int} (h : l.Pairwise (· ≤ ·)) : (Lib.compact l).Pairwise (· < ·) := by
  have hh := List.pairwise_iff_getElem.1 h
  have hm : ∀ i j (hi : i < l.length) (hj : j < l.length), i ≤ j → l[i] ≤ l[j] := fun i j hi hj hij => by
    by_cases e : i = j
    · subst e; exact Int.le_refl _
    · exact hh i j hi hj (by omega)
  unfold Lib.compact Lib.compactUpTo
  rw [List.pairwise_map]
  refine List.Pairwise.imp_of_mem (R := (· < ·)) ?_ (List.Pairwise.filter _ List.pairwise_lt_range)
  intro i j hi hj hij
  rw [List.mem_filter, List.mem_range] at hi hj
  have hk := hj.2
  simp only [Lib.keeps, decide_eq_true_eq] at hk
  have e1 : l.toArray[i]! = l[i]'hi.1 := by simp [hi.1]
  have e2 : l.toArray[j]! = l[j]'hj.1 := by simp [hj.1]
  have e3 : l.toArray[j - 1]! = l[j - 1]'(by omega) := by simp [show j - 1 < l.length by omega]
  rw [e2, e3] at hk
  show l.toArray[i]! < l.toArray[j]!
  rw [e1, e2]
  have a1 := hm i (j - 1) hi.1 (by omega) (by omega)
  have a2 := hm (j - 1) j (by omega) hj.1 (by omega)
  rcases hk with h0 | h0
  · omega
  · omega
theorem compact_mem (l : List Int) (x : Int) : x ∈ Lib.compact l ↔ x ∈ l := by
  unfold Lib.compact Lib.compactUpTo
  rw [List.mem_map]
  constructor
  · rintro ⟨j, hj, rfl⟩
    rw [List.mem_filter, List.mem_range] at hj
    simp [hj.1]
  · intro hx
    obtain ⟨j, hj, he⟩ := List.getElem_of_mem hx
    have key : ∀ n, ∀ j (hj : j < l.length), j < n → l[j] = x → ∃ i, i ∈ (List.range l.length).filter (Lib.keeps l.toArray) ∧ l.toArray[i]! = x := by
      intro n
      induction n with
      | zero => intro j _ h; omega
      | succ n ih =>
        intro j hj hn he
        by_cases hk : Lib.keeps l.toArray j = true
        · exact ⟨j, by rw [List.mem_filter, List.mem_range]; exact ⟨hj, hk⟩, by simp [hj, he]⟩
        · simp only [Lib.keeps, decide_eq_true_eq] at hk
          have hj0 : j ≠ 0 := fun h => hk (Or.inl h)
          have hp : l.toArray[j]! = l.toArray[j - 1]! := Decidable.byContradiction fun h => hk (Or.inr h)
          refine ih (j - 1) (by omega) (by omega) ?_
          have e2 : l.toArray[j]! = l[j]'hj := by simp [hj]
          have e3 : l.toArray[j - 1]! = l[j - 1]'(by omega) := by simp [show j - 1 < l.length by omega]
          rw [← e3, ← hp, e2, he]
    exact key (j + 1) j hj (by omega) he
/-- The courses, up to the k-th class, that a class ahead has, too. -/
def shO (cs : List Int) : Nat → List Int
  | 0 => []
  | k + 1 => shO cs k ++ if (cs.take k).any (fun x => x == cs.getD k 0) then [cs.getD k 0] else []
theorem shO_len (cs : List Int) : ∀ k, (shO cs k).length ≤ k
  | 0 => by simp [shO]
  | k + 1 => by
    have := shO_len cs k
    rw [shO, List.length_append]
    split <;> simp <;> omega
theorem shO_mem (cs : List Int) (x : Int) : ∀ k, k ≤ cs.length → (x ∈ shO cs k ↔ 2 ≤ (cs.take k).count x)
  | 0, _ => by simp [shO]
  | k + 1, hk => by
    have ih := shO_mem cs x k (by omega)
    have ht : cs.take (k + 1) = cs.take k ++ [cs[k]'(by omega)] := by rw [List.take_succ_eq_append_getElem (by omega)]
    have hg : cs.getD k 0 = cs[k]'(by omega) := by simp [List.getD_eq_getElem?_getD, List.getElem?_eq_getElem (show k < cs.length by omega)]
    rw [shO, List.mem_append, ih, ht, List.count_append, hg]
    generalize cs[k]'(by omega) = a
    by_cases hax : a = x
    · subst hax
      have hc : [a].count a = 1 := by simp
      rw [hc]
      have hany : (cs.take k).any (fun x => x == a) = true ↔ 0 < (cs.take k).count a := by
        rw [List.count_pos_iff, List.any_eq_true]
        exact ⟨fun ⟨y, hy, e⟩ => by rw [← eq_of_beq e]; exact hy, fun h => ⟨a, h, by simp⟩⟩
      constructor
      · rintro (h | h)
        · omega
        · split at h
          · rename_i ha
            have := hany.1 ha
            omega
          · simp at h
      · intro h
        by_cases h2 : 2 ≤ (cs.take k).count a
        · exact .inl h2
        · refine .inr ?_
          rw [if_pos (hany.2 (by omega))]
          simp
    · have hc : [a].count x = 0 := by rw [List.count_eq_zero]; simp; exact fun e => hax e.symm
      rw [hc]
      constructor
      · rintro (h | h)
        · omega
        · split at h
          · rw [List.mem_singleton] at h; exact absurd h.symm hax
          · simp at h
      · intro h; exact .inl (by omega)
def upTo20 : List Int := (List.range 20).map fun i : Nat => (i : Int) + 1
/-- The courses from 1 up to the k-th that two classes have. -/
def shK (cs : List Int) : Nat → List Int
  | 0 => []
  | k + 1 => shK cs k ++ if 2 ≤ cs.count ((k : Int) + 1) then [(k : Int) + 1] else []
def shL (cs : List Int) : List Int := shK cs 20
theorem shK_len (cs : List Int) : ∀ k, (shK cs k).length ≤ k
  | 0 => by simp [shK]
  | k + 1 => by
    have := shK_len cs k
    rw [shK, List.length_append]
    split <;> simp <;> omega
theorem shK_mem (cs : List Int) (x : Int) : ∀ k : Nat, x ∈ shK cs k ↔ 1 ≤ x ∧ x ≤ k ∧ 2 ≤ cs.count x
  | 0 => by simp [shK]; omega
  | k + 1 => by
    rw [shK, List.mem_append, shK_mem cs x k]
    by_cases hx : x = (k : Int) + 1
    · subst hx
      split
      · rename_i h; simp; omega
      · rename_i h; simp; omega
    · have : ¬ x ∈ (if 2 ≤ cs.count ((k : Int) + 1) then [(k : Int) + 1] else []) := by split <;> simp [hx]
      constructor
      · rintro (h | h)
        · exact ⟨h.1, by omega, h.2.2⟩
        · exact absurd h this
      · rintro ⟨h1, h2, h3⟩
        exact .inl ⟨h1, by omega, h3⟩
theorem shK_asc (cs : List Int) : ∀ k : Nat, (shK cs k).Pairwise (· < ·)
  | 0 => List.Pairwise.nil
  | k + 1 => by
    rw [shK, List.pairwise_append]
    refine ⟨shK_asc cs k, by split <;> simp, fun a ha b hb => ?_⟩
    have h := (shK_mem cs a k).1 ha
    split at hb
    · rw [List.mem_singleton] at hb; omega
    · simp at hb
/-- What is gathered, put in order, without what stands twice, is what is looked up course by course. -/
theorem share_eq {cs : List Int} (h : ∀ x ∈ cs, 1 ≤ x ∧ x ≤ 20) : Lib.compact (sortI (shO cs cs.length)) = shL cs := by
  refine asc_ext (compact_asc (sortI_asc _)) (shK_asc cs 20) fun x => ?_
  rw [compact_mem, sortI_mem, shO_mem cs x _ (Nat.le_refl _), List.take_length, shL, shK_mem]
  constructor
  · intro h2
    have hm : x ∈ cs := List.count_pos_iff.1 (by omega)
    have := h x hm
    exact ⟨this.1, by omega, h2⟩
  · exact fun h => h.2.2
end Go.Ori
/- slices.IndexFunc and slices.ContainsFunc over ints, at a function of which a contract is known. Condition: at most 1048576 elements. -/
namespace Go.Proofs.Ytmcimgnobimicaa
open Go.RowKit Go.Ori
set_option maxHeartbeats 400000 in
theorem indexFunc_ints (K : FuncId) (caps : Array Value) (f : Int → Bool) (v : Value) (l : List Int) (w : World) (h : w.sl intC 1 v l) (hl : l.length ≤ 1048576)
    (hcf : ∀ args W, (callFunc K args).run Try.prog W = .ok (.enter K args) W)
    (hcl : ∀ n d, Calls Try.prog K (#[.int .i64 n] ++ caps) (w.ext d) fun x w' => x = .returned (.bool (f n)) ∧ ∃ d', w' = (w.ext d).ext d') :
    Calls Try.prog 87 #[v, .func (.func K) #[] caps] w fun x w' => x = .returned (.int .i64 (idxB l f)) ∧ ∃ d, w' = w.ext d := by
  obtain ⟨p, c, rfl, hp, hcap⟩ := h
  have HCL := Lib.hid hcl
  clear hcl
  go_enter Try.func87, Try.ntmps87
  go_wp2
  go_loopw [8] (fun i wr => ∃ k : Nat, k ≤ l.length ∧ i = .int .i64 k ∧ (∀ (j : Nat) (hj : j < l.length), j < k → f l[j] = false) ∧ ∃ d, wr = w.ext d) (fun i _ => l.length - (intOf i).toNat)
  case atStart => exact ⟨0, by omega, rfl, by simp, w.gained_refl⟩
  case round =>
    obtain ⟨k, hk, rfl, hno, d, rfl⟩ := hrel
    have HN := Lib.hid hno
    clear hno
    by_cases hlt : k < l.length
    · obtain ⟨b, o, rfl, hc⟩ := hp (by omega)
      have c0 := hc k hlt 0 (by omega)
      have he : l[k]? = some l[k] := by simp
      have hnk : ∀ x, l[k] = x → f x = true → idxB l f = k := fun x hx hf => idxB_some hlt (HN.out) (by rw [hx]; exact hf)
      have hnk2 : ∀ x, l[k] = x → f x = false → ∀ (j : Nat) (hj : j < l.length), j < k + 1 → f l[j] = false := fun x hx hf j hj hjk => by
        by_cases e : j = k
        · subst e; rw [hx]; exact hf
        · exact HN.out j hj (by omega)
      generalize l[k] = y at c0 hnk hnk2
      have H1 := Lib.hid (hnk y rfl)
      have H2 := Lib.hid (hnk2 y rfl)
      clear hc hp hnk hnk2 he
      simp only [intC, List.getElem?_cons_zero, Nat.add_zero, Nat.mul_one] at c0
      have ob := World.oldB_of_cell c0
      go_wp2_with fail
      refine (HCL.out y d).mono ?_
      rintro e w1 ⟨rfl, d1, rfl⟩
      cases hf : f y
      · have H2' := Lib.hid (H2.out hf)
        clear hf
        go_wp2
        go_roundw
        case rel => exact ⟨k + 1, by omega, by go_num, H2'.out, gain_ext ⟨_, rfl⟩ _⟩
        case measure => simp [intOf]; omega
      · have H1' := Lib.hid (H1.out hf)
        clear hf
        go_wp2
        go_ret
        exact ⟨ret_int H1'.out.symm, gain_ext ⟨_, rfl⟩ _⟩
    · go_wp2
      go_ret
      exact ⟨ret_int (by rw [idxB_none (fun j hj => HN.out j hj (by omega))]), _, rfl⟩
theorem containsFunc_ints (K : FuncId) (caps : Array Value) (f : Int → Bool) (v : Value) (l : List Int) (w : World) (h : w.sl intC 1 v l) (hl : l.length ≤ 1048576)
    (hcf : ∀ args W, (callFunc K args).run Try.prog W = .ok (.enter K args) W)
    (hcl : ∀ n d, Calls Try.prog K (#[.int .i64 n] ++ caps) (w.ext d) fun x w' => x = .returned (.bool (f n)) ∧ ∃ d', w' = (w.ext d).ext d') :
    Calls Try.prog 75 #[v, .func (.func K) #[] caps] w fun x w' => x = .returned (.bool (l.any f)) ∧ ∃ d, w' = w.ext d := by
  have HI := Lib.hid (indexFunc_ints K caps f v l w h hl hcf hcl)
  clear hcl hcf
  go_enter Try.func75, Try.ntmps75
  go_wp2_with fail
  refine HI.out.mono ?_
  rintro e w1 ⟨rfl, d1, rfl⟩
  have HA := Lib.hid (idxB_any l f)
  go_wp2
  go_ret
  exact ⟨ret_bool HA.out, _, rfl⟩
end Go.Proofs.Ytmcimgnobimicaa
/- impl.inside: whether a number lies between two. No condition. -/
namespace Go.Proofs.Ytmcimgnobimicaa
open Go.RowKit Go.Ori
theorem inside_any (n lo hi : Int) (w : World) :
    Calls Try.prog 43 #[.int .i64 n, .int .i64 lo, .int .i64 hi] w fun e w' => e = .returned (.bool (insB n lo hi)) ∧ w = w' := by
  by_cases h1 : lo ≤ n
  · rw [insB_lo h1]
    go_enter Try.func43, Try.ntmps43
    go_wp2
    go_ret
    exact ⟨rfl, rfl⟩
  · rw [insB_no h1]
    go_enter Try.func43, Try.ntmps43
    go_wp2
    go_ret
    exact ⟨rfl, rfl⟩
end Go.Proofs.Ytmcimgnobimicaa
/- spec.l1In: whether a number lies between two. No condition. -/
namespace Go.Proofs.Ytmcimgnobimicaa
open Go.RowKit Go.Ori
theorem l1In_any (n lo hi : Int) (w : World) :
    Calls Try.prog 34 #[.int .i64 n, .int .i64 lo, .int .i64 hi] w fun e w' => e = .returned (.bool (insB n lo hi)) ∧ w = w' := by
  by_cases h1 : lo ≤ n
  · rw [insB_lo h1]
    go_enter Try.func34, Try.ntmps34
    go_wp2
    go_ret
    exact ⟨rfl, rfl⟩
  · rw [insB_no h1]
    go_enter Try.func34, Try.ntmps34
    go_wp2
    go_ret
    exact ⟨rfl, rfl⟩
end Go.Proofs.Ytmcimgnobimicaa
