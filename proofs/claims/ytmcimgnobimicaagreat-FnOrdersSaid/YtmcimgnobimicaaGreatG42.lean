/- Texts laid together: The best order of a course is an order of it, the best of all, and its own best: plain law. No condition.; The legs that two courses share: plain. No condition.; Pairs of numbers: cells, the type in the program's table; laws.vPairs. Condition: at most 1048576 pairs. -/
import Derived.Test.YtmcimgnobimicaaGreatG31
import Derived.Test.YtmcimgnobimicaaGreatG3
import Derived.Test.YtmcimgnobimicaaGreatRows
/- The best order of a course is an order of it, the best of all, and its own best: plain law. No condition. -/
namespace Go.Ori
theorem fold_better : ∀ (xs : List (List Int × Int)) (s : List Int × Int), (∀ y ∈ xs, 0 ≤ y.2) → xs ≠ [] → (s.2 < 0 ∨ s ∈ xs) → xs.foldl better s ∈ xs ∧ ∀ y ∈ xs, (xs.foldl better s).2 ≤ y.2
  | [], _, _, h, _ => absurd rfl h
  | x :: xs, s, hp, _, hs => by
    have hx := hp x List.mem_cons_self
    have key : ∀ (ys : List (List Int × Int)) (s : List Int × Int), 0 ≤ s.2 → (∀ y ∈ ys, 0 ≤ y.2) → (ys.foldl better s = s ∨ ys.foldl better s ∈ ys) ∧ (ys.foldl better s).2 ≤ s.2 ∧ ∀ y ∈ ys, (ys.foldl better s).2 ≤ y.2 := by
      intro ys
      induction ys with
      | nil => exact fun s _ _ => ⟨.inl rfl, Int.le_refl _, by simp⟩
      | cons y ys ih =>
        intro s hs hy
        rw [List.foldl_cons]
        have hy0 := hy y List.mem_cons_self
        have hyy := fun z hz => hy z (List.mem_cons_of_mem _ hz)
        by_cases h : s.2 < 0 ∨ y.2 < s.2
        · have e : better s y = y := by unfold better; rw [if_pos h]
          rw [e]
          obtain ⟨h1, h2, h3⟩ := ih y hy0 hyy
          refine ⟨.inr ?_, by omega, fun z hz => ?_⟩
          · rcases h1 with h1 | h1
            · rw [h1]; exact List.mem_cons_self
            · exact List.mem_cons_of_mem _ h1
          · rcases List.mem_cons.1 hz with rfl | hz
            · exact h2
            · exact h3 z hz
        · have e : better s y = s := by unfold better; rw [if_neg h]
          rw [e]
          obtain ⟨h1, h2, h3⟩ := ih s hs hyy
          refine ⟨?_, h2, fun z hz => ?_⟩
          · rcases h1 with h1 | h1
            · exact .inl h1
            · exact .inr (List.mem_cons_of_mem _ h1)
          · rcases List.mem_cons.1 hz with rfl | hz
            · omega
            · exact h3 z hz
    have hpp := fun z hz => hp z (List.mem_cons_of_mem _ hz)
    rw [List.foldl_cons]
    by_cases h : s.2 < 0 ∨ x.2 < s.2
    · have e : better s x = x := by unfold better; rw [if_pos h]
      rw [e]
      obtain ⟨h1, h2, h3⟩ := key xs x hx hpp
      refine ⟨?_, fun z hz => ?_⟩
      · rcases h1 with h1 | h1
        · rw [h1]; exact List.mem_cons_self
        · exact List.mem_cons_of_mem _ h1
      · rcases List.mem_cons.1 hz with rfl | hz
        · exact h2
        · exact h3 z hz
    · have e : better s x = s := by unfold better; rw [if_neg h]
      have hs0 : 0 ≤ s.2 := by omega
      have hsm : s ∈ x :: xs := by
        rcases hs with hs | hs
        · omega
        · exact hs
      rw [e]
      obtain ⟨h1, h2, h3⟩ := key xs s hs0 hpp
      refine ⟨?_, fun z hz => ?_⟩
      · rcases h1 with h1 | h1
        · rw [h1]; exact hsm
        · exact List.mem_cons_of_mem _ h1
      · rcases List.mem_cons.1 hz with rfl | hz
        · omega
        · exact h3 z hz
section
variable (T : Int → Int → Int) (fin : Int)
theorem erase_perm {l : List Int} {k : Nat} (hk : k < l.length) : (l[k] :: l.eraseIdx k).Perm l := by
  rw [List.eraseIdx_eq_take_drop_succ]
  have hl : l = l.take k ++ l[k] :: l.drop (k + 1) := by rw [← List.drop_eq_getElem_cons hk, List.take_append_drop]
  conv => rhs; rw [hl]
  exact List.perm_middle.symm
/-- The best course is one of those that may be, and none takes less time. -/
theorem ord_best (h : ∀ a b, 0 ≤ T a b) : ∀ (n : Nat) (begun left : List Int), left.length = n →
    (∃ p : List Int, p.Perm left ∧ (ordS T fin n begun left).1 = begun ++ p ++ [fin] ∧ (ordS T fin n begun left).2 = sumT T (begun ++ p ++ [fin])) ∧ ∀ p : List Int, p.Perm left → (ordS T fin n begun left).2 ≤ sumT T (begun ++ p ++ [fin])
  | 0, begun, left, hl => by
    obtain rfl := List.length_eq_zero_iff.1 hl
    refine ⟨⟨[], List.Perm.refl _, by simp [ordS], by simp [ordS]⟩, fun p hp => ?_⟩
    obtain rfl := List.Perm.eq_nil hp
    simp [ordS]
  | n + 1, begun, left, hl => by
    have hx := fun (k : Nat) (hk : k < left.length) => ord_best h n (begun ++ [left[k]]) (left.eraseIdx k) (by rw [List.length_eraseIdx, if_pos hk]; omega)
    have hne : ((List.range left.length).map fun k => ordS T fin n (begun ++ [left.getD k 0]) (left.eraseIdx k)) ≠ [] := by
      intro e
      have h2 := congrArg List.length e
      rw [List.length_map, List.length_range, List.length_nil] at h2
      omega
    have hp : ∀ y ∈ (List.range left.length).map fun k => ordS T fin n (begun ++ [left.getD k 0]) (left.eraseIdx k), 0 ≤ y.2 := fun y hy => by
      rw [List.mem_map] at hy
      obtain ⟨k, hk, rfl⟩ := hy
      rw [List.mem_range] at hk
      exact ordS_pos T fin h n _ _ (by rw [List.length_eraseIdx, if_pos hk]; omega)
    obtain ⟨h1, h2⟩ := fold_better _ noO hp hne (.inl (by decide))
    have e0 : ordS T fin (n + 1) begun left = ((List.range left.length).map fun k => ordS T fin n (begun ++ [left.getD k 0]) (left.eraseIdx k)).foldl better noO := rfl
    rw [← e0] at h1 h2
    constructor
    · rw [List.mem_map] at h1
      obtain ⟨k, hk, e⟩ := h1
      rw [List.mem_range] at hk
      have ek : left.getD k 0 = left[k] := by simp [List.getD_eq_getElem?_getD, hk]
      rw [ek] at e
      obtain ⟨⟨p, q1, q2, q3⟩, _⟩ := hx k hk
      rw [← e]
      refine ⟨left[k] :: p, (List.Perm.cons _ q1).trans (erase_perm hk), ?_, ?_⟩
      · rw [q2]; simp
      · rw [q3]; simp
    · intro p hpp
      cases p with
      | nil => have := hpp.length_eq; simp at this; omega
      | cons x q =>
        obtain ⟨k, hk, rfl⟩ := List.getElem_of_mem (hpp.mem_iff.1 List.mem_cons_self)
        have hq : q.Perm (left.eraseIdx k) := List.Perm.cons_inv (hpp.trans (erase_perm hk).symm)
        have := h2 (ordS T fin n (begun ++ [left.getD k 0]) (left.eraseIdx k)) (by rw [List.mem_map]; exact ⟨k, List.mem_range.2 hk, rfl⟩)
        have ek : left.getD k 0 = left[k] := by simp [List.getD_eq_getElem?_getD, hk]
        rw [ek] at this
        have h3 := (hx k hk).2 q hq
        have e : begun ++ [left[k]] ++ q ++ [fin] = begun ++ left[k] :: q ++ [fin] := by simp
        rw [e] at h3
        omega
end
theorem Crs.b {m : Mp} {l : List Ctl} {t : List Int} (h : Crs m l t) : crsB m l t = true := by
  unfold crsB
  have h1 := h.lo
  have h2 := h.hi
  rw [h.good, insB_true.2 ⟨by omega, by omega⟩, Bool.true_and, Bool.true_and, allB_iff]
  intro i hi
  have hx := h.has i hi
  rcases Nat.eq_zero_or_pos i with h0 | h0
  · subst h0
    simp [crsAt, List.getElem?_eq_getElem hi, hx]
  · obtain ⟨j, rfl⟩ : ∃ j, i = j + 1 := ⟨i - 1, by omega⟩
    rw [crsAt_eq (List.getElem?_eq_getElem hi) (p := t[j]) (by simp [List.getElem?_eq_getElem (by omega : j < t.length)])]
    simp [hx, h.ne j hi, h.way j hi]
/-- What the law asks of the best order. -/
theorem bo_facts {m : Mp} {l : List Ctl} {t : List Int} (h : boB m l t = true) :
    boB m l (boL m l t) = true ∧ boI m l (boL m l t) = boI m l t ∧ boL m l (boL m l t) = boL m l t ∧ crsB m l (boL m l t) = true ∧ crsB m l t = true ∧
    sumT (tmT m l) (boL m l t) = boI m l t ∧ boI m l t ≤ sumT (tmT m l) t ∧ (boL m l t).Perm t ∧ 2 ≤ t.length ∧ (boL m l t).take 1 = t.take 1 ∧ lastI (boL m l t) = lastI t := by
  obtain ⟨hc, h7, hn⟩ := bo_true h
  have hC := crsB_true hc
  have h2 := hC.lo
  obtain ⟨⟨p, hp, e1, e2⟩, hmin⟩ := ord_best (tmT m l) (lastI t) (tmT_pos m l) (t.length - 2) (t.take 1) (midL t) (midL_len t)
  have eL : boL m l t = t.take 1 ++ p ++ [lastI t] := by rw [(bo_yes h).1]; exact e1
  have eI : boI m l t = sumT (tmT m l) (t.take 1 ++ p ++ [lastI t]) := by rw [(bo_yes h).2]; exact e2
  have hpm : p.Perm (midT t) := hp.trans (List.mergeSort_perm _ _)
  have hperm : (t.take 1 ++ p ++ [lastI t]).Perm t := by
    conv => rhs; rw [← mid_parts h2]
    exact List.Perm.append_right _ (List.Perm.append_left _ hpm)
  have hle : boI m l t ≤ sumT (tmT m l) t := by
    rw [(bo_yes h).2]
    have := hmin (midT t) (List.mergeSort_perm _ _).symm
    rw [mid_parts h2] at this
    exact this
  have hlen : (t.take 1 ++ p ++ [lastI t]).length = t.length := hperm.length_eq
  have hpl : p.length = t.length - 2 := by rw [hp.length_eq, midL_len]
  obtain ⟨x, hx⟩ : ∃ x, t.take 1 = [x] := by
    cases t with
    | nil => simp at h2
    | cons a b => exact ⟨a, by simp⟩
  have b1 : (t.take 1 ++ p ++ [lastI t]).take 1 = t.take 1 := by rw [hx]; simp
  have b2 : lastI (t.take 1 ++ p ++ [lastI t]) = lastI t := lastI_snoc _ _
  have b3 : midT (t.take 1 ++ p ++ [lastI t]) = p := by
    unfold midT
    rw [hlen, hx]
    simp [← hpl]
  have hnd : (t.take 1 ++ p ++ [lastI t]).Nodup := hperm.nodup_iff.2 hn
  have b4 : midL (t.take 1 ++ p ++ [lastI t]) = midL t := by
    refine sorted_ext (mid_asc hnd) (mid_asc hn) fun y => ?_
    have q1 := (List.mergeSort_perm (midT (t.take 1 ++ p ++ [lastI t])) (fun x y : Int => decide (x ≤ y))).mem_iff (a := y)
    have q2 := hp.mem_iff (a := y)
    rw [b3] at q1
    unfold midL sortI
    rw [b3]
    exact q1.trans q2
  have hG := GoodO.of hC h7 hn
  have hG2 : GoodO m l (lastI t) (t.take 1 ++ p) [] := by
    have e : (t.take 1 ++ p ++ [] ++ [lastI t]) = t.take 1 ++ p ++ [lastI t] := by simp
    refine ⟨hG.good, fun y hy => ?_, fun y hy z hz => ?_, by rw [e]; exact hnd, ?_, by rw [hx]; simp⟩
    · rw [e] at hy
      obtain ⟨i, hi, rfl⟩ := List.getElem_of_mem (hperm.mem_iff.1 hy)
      exact hC.has i hi
    · rw [e] at hy hz
      exact crs_way hC y (hperm.mem_iff.1 hy) z (hperm.mem_iff.1 hz)
    · rw [hx]; simp; omega
  have hC2 := hG2.leaf
  have hB2 : boB m l (t.take 1 ++ p ++ [lastI t]) = true := by
    unfold boB
    rw [hC2.b, twiceB_nodup.2 hnd, hlen]
    simp [h7]
  have hR : boR m l (t.take 1 ++ p ++ [lastI t]) = boR m l t := by
    unfold boR
    rw [b1, b2, b4, hlen]
  rw [eL]
  refine ⟨hB2, ?_, ?_, hC2.b, hc, eI.symm, hle, hperm, h2, b1, b2⟩
  · rw [(bo_yes hB2).2, hR, (bo_yes h).2]
  · rw [(bo_yes hB2).1, hR]; exact e1
theorem boL_length (m : Mp) (l : List Ctl) (t : List Int) : (boL m l t).length ≤ 1048576 := by
  cases h : boB m l t with
  | false => rw [(bo_no h).1]; simp
  | true =>
    have h1 := (bo_facts h).2.2.2.2.2.2.2.1.length_eq
    have h2 := (bo_true h).2.1
    omega
/-- The time of a course is the sum of its legs. -/
theorem ctime_sum {m : Mp} {l : List Ctl} {t : List Int} (h : crsB m l t = true) : sumZ (legTimesL m l t) = sumT (tmT m l) t := by
  have hC := crsB_true h
  obtain ⟨W, H, hm⟩ := mapB_ok (ctlsB_map hC.good)
  unfold legTimesL
  rw [if_pos h]
  refine sumT_crs t fun i hi => ?_
  exact (timeB_bd hm (cellK_open hC.good (hC.has i (by omega))).2.1 (cellK_open hC.good (hC.has (i + 1) hi)).2.1 (hC.way i hi)).1
end Go.Ori
/- The legs that two courses share: plain. No condition. -/
namespace Go.Ori
/-- The pairs (i, k) with a[i] = b[k] and a[i + 1] = b[k + 1]: row by row. -/
def legEq (a b : List Int) (i k : Nat) : Bool := (a.getD i 0 == b.getD k 0) && (a.getD (i + 1) 0 == b.getD (k + 1) 0)
def legRow (a b : List Int) (i : Nat) : Nat → List (Int × Int)
  | 0 => []
  | k + 1 => legRow a b i k ++ if legEq a b i k then [((i : Int), (k : Int))] else []
def legAll (a b : List Int) : Nat → List (Int × Int)
  | 0 => []
  | i + 1 => legAll a b i ++ legRow a b i (b.length - 1)
theorem legRow_len (a b : List Int) (i : Nat) : ∀ k, (legRow a b i k).length ≤ k
  | 0 => by simp [legRow]
  | k + 1 => by
    have := legRow_len a b i k
    rw [legRow, List.length_append]
    split <;> simp <;> omega
theorem legAll_len (a b : List Int) : ∀ k, (legAll a b k).length ≤ k * (b.length - 1)
  | 0 => by simp [legAll]
  | k + 1 => by
    have h1 := legAll_len a b k
    have h2 := legRow_len a b k (b.length - 1)
    rw [legAll, List.length_append, Nat.add_mul]
    omega
theorem legEq_at {a b : List Int} {i k : Nat} (hi : i + 1 < a.length) (hk : k + 1 < b.length) : legEq a b i k = ((a[i] == b[k]) && (a[i + 1] == b[k + 1])) := by
  simp [legEq, List.getD_eq_getElem?_getD, List.getElem?_eq_getElem hi, List.getElem?_eq_getElem hk, List.getElem?_eq_getElem (show i < a.length by omega), List.getElem?_eq_getElem (show k < b.length by omega)]
end Go.Ori
/- Pairs of numbers: cells, the type in the program's table; laws.vPairs. Condition: at most 1048576 pairs. -/
namespace Go.Ori
def prC (p : Int × Int) : List Value := [.int .i64 p.1, .int .i64 p.2]
theorem prC_length (p : Int × Int) : (prC p).length = 2 := rfl
theorem prC_one (p : Int × Int) : ∀ c ∈ prC p, c.oneCell' = true := by simp [prC, Value.oneCell']
end Go.Ori
namespace Go.Proofs.YtmcimgnobimicaaGreat
open Go.RowKit Go.Ori
theorem info_Pr : (Tryz.prog.info? 43).map (fun i => (i.zero, i.size, i.bytes)) = some (some (.agg #[.int .i64 0, .int .i64 0]), 2, 16) := by kernel_rfl
theorem buildPr (a b : Int) (w : World) : (Instr.build 43 #[(0, .int .i64 a), (1, .int .i64 b)]).run Tryz.prog w = .ok (.agg #[.int .i64 a, .int .i64 b]) w := run_build w 43 _ _ (by kernel_rfl)
theorem eqPr (a b c d : Int) (w : World) : (Op.equalIn 10000 43 (.agg #[.int .i64 a, .int .i64 b]) (.agg #[.int .i64 c, .int .i64 d])).run Tryz.prog w = .ok (a == c && b == d) w := by
  have u3 := Tryz.underlying3
  have a3 := Tryz.isAgg3
  have z3 := Tryz.sizeOf3
  rw [show (10000 : Nat) = 9999 + 1 from rfl, Op.equalIn]
  simp only [Sem.run_bind, run_underlying Tryz.underlying43, Result.andThen_ok]
  simp only [Std.Legacy.Range.forIn_eq_forIn_range', Std.Legacy.Range.size, Nat.sub_zero, Nat.add_sub_cancel, Nat.div_one, List.range'_succ, List.range'_zero, List.forIn_cons, List.forIn_nil]
  go_simp
  by_cases h1 : a = c <;> by_cases h2 : b = d <;> simp [h1, h2]
set_option maxHeartbeats 1000000 in
theorem vPairs_same (v v2 : Value) (l : List (Int × Int)) (w : World) (h : w.sl prC 2 v l) (h2 : w.sl prC 2 v2 l) (hl : l.length ≤ 1048576) :
    Calls Tryz.prog 14 #[v, v2] w fun x w' => x = .returned (.bool true) ∧ ∃ d, w' = w.ext d := by
  have hs := Lib.hid h
  have hs2 := Lib.hid h2
  obtain ⟨p, c, rfl, _⟩ := h
  obtain ⟨p2, c2, rfl, _⟩ := h2
  go_enter Tryz.func14, Tryz.ntmps14
  go_wp2
  go_loopw [5] (fun i wr => ∃ k : Nat, k ≤ l.length ∧ i = .int .i64 k ∧ ∃ d, wr = w.ext d) (fun i _ => l.length - (intOf i).toNat)
  case atStart => exact ⟨0, by omega, rfl, w.gained_refl⟩
  case round =>
    obtain ⟨k, hk, rfl, d, rfl⟩ := hrel
    by_cases hlt : k < l.length
    · obtain ⟨b, o, rfl⟩ := sl_some hs.out (by omega)
      obtain ⟨b2, o2, rfl⟩ := sl_some hs2.out (by omega)
      have c0 := sl_cells hs.out hlt (j := 0) (by omega)
      have c1 := sl_cells hs.out hlt (j := 1) (by omega)
      have e0 := sl_cells hs2.out hlt (j := 0) (by omega)
      have e1 := sl_cells hs2.out hlt (j := 1) (by omega)
      generalize l[k] = x at c0 c1 e0 e1
      obtain ⟨x, y⟩ := x
      simp only [prC, List.getElem?_cons_zero, List.getElem?_cons_succ, Nat.add_zero] at c0 c1 e0 e1
      have ob := World.oldB_of_cell c0
      have ob2 := World.oldB_of_cell e0
      have hxy := fun w => eqPr x y x y w
      go_wp2
      refine wp_region_gain (by kernel_rfl) (by kernel_rfl) ?_
      repeat (first | go_big_quiet_skip | (go_big_quiet_want; go_big_quiet_op; first | go_big_quiet_on))
      refine wpQuiet_nil ?_
      rintro _ ⟨d', rfl⟩
      go_wp2
      go_roundw
      case rel => exact ⟨k + 1, by omega, by go_num, (by repeat (first | with_reducible (first | exact World.gained_refl _ | exact ⟨_, rfl⟩ | apply gain_ext | apply gain_alloc | apply gain_drewN | apply gain_drew) | (refine gain_setCell ?_ (by first | exact Nat.le_refl _ | exact World.size_ext _ _ | (simp; done) | (simp; omega)) _)))⟩
      case measure => simp [intOf]; omega
    · go_wp2
      go_ret
      exact ⟨rfl, _, rfl⟩
end Go.Proofs.YtmcimgnobimicaaGreat
