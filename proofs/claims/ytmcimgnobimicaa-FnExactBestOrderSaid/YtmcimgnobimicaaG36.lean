/- Texts laid together: The best order of a course is an order of it, the best of all, and its own best: plain law. No condition.; laws.toIntS: a copy in new memory. Condition: at most 1048576 elements.; laws.eqIntS: of two slices that read alike it says true. Condition: at most 1048576 elements.; laws.szIntS: what is left of a size. No condition. -/
import Derived.Test.YtmcimgnobimicaaG25
import Derived.Test.YtmcimgnobimicaaRows
import Derived.Test.YtmcimgnobimicaaG2
import Derived.Test.YtmcimgnobimicaaG1
import Derived.Test.YtmcimgnobimicaaG12
/- The best order of a course is an order of it, the best of all, and its own best: plain law. No condition. -/
namespace Go.Ori
theorem fold_better : ∀ (xs : List (List Int × Int)) (s : List Int × Int), (∀ y ∈ xs, 0 ≤ y.2) → xs ≠ [] → (s.2 < 0 ∨ s ∈ xs) → xs.foldl better s ∈ xs ∧ ∀ y ∈ xs, (xs.foldl better s).2 ≤ y.2
  | [], _, _, h, _ => absurd rfl h
  | x :: xs, s, hp, _, hs => by
    have hx := hp x List.mem_cons_self
    have key : ∀ (ys : List (List Int × Int)) (s : List Int × Int), 0 ≤ s.2 → (∀ y ∈ ys, 0 ≤ y.2) → (ys.foldl better s = s ∨ ys.foldl better s ∈ ys) ∧ (ys.foldl better s).2 ≤ s.2 ∧ ∀ y ∈ ys, (ys.foldl better s).2 ≤ y.2 := by
      intro ys
      induction ys with
      | nil => exact fun s _ _ => ⟨.inl rfl, Int.le_refl _, by simp⟩
      | cons y ys ih =>
        intro s hs hy
        rw [List.foldl_cons]
        have hy0 := hy y List.mem_cons_self
        have hyy := fun z hz => hy z (List.mem_cons_of_mem _ hz)
        by_cases h : s.2 < 0 ∨ y.2 < s.2
        · have e : better s y = y := by unfold better; rw [if_pos h]
          rw [e]
          obtain ⟨h1, h2, h3⟩ := ih y hy0 hyy
          refine ⟨.inr ?_, by omega, fun z hz => ?_⟩
          · rcases h1 with h1 | h1
            · rw [h1]; exact List.mem_cons_self
            · exact List.mem_cons_of_mem _ h1
          · rcases List.mem_cons.1 hz with rfl | hz
            · exact h2
            · exact h3 z hz
        · have e : better s y = s := by unfold better; rw [if_neg h]
          rw [e]
          obtain ⟨h1, h2, h3⟩ := ih s hs hyy
          refine ⟨?_, h2, fun z hz => ?_⟩
          · rcases h1 with h1 | h1
            · exact .inl h1
            · exact .inr (List.mem_cons_of_mem _ h1)
          · rcases List.mem_cons.1 hz with rfl | hz
            · omega
            · exact h3 z hz
    have hpp := fun z hz => hp z (List.mem_cons_of_mem _ hz)
    rw [List.foldl_cons]
    by_cases h : s.2 < 0 ∨ x.2 < s.2
    · have e : better s x = x := by unfold better; rw [if_pos h]
      rw [e]
      obtain ⟨h1, h2, h3⟩ := key xs x hx hpp
      refine ⟨?_, fun z hz => ?_⟩
      · rcases h1 with h1 | h1
        · rw [h1]; exact List.mem_cons_self
        · exact List.mem_cons_of_mem _ h1
      · rcases List.mem_cons.1 hz with rfl | hz
        · exact h2
        · exact h3 z hz
    · have e : better s x = s := by unfold better; rw [if_neg h]
      have hs0 : 0 ≤ s.2 := by omega
      have hsm : s ∈ x :: xs := by
        rcases hs with hs | hs
        · omega
        · exact hs
      rw [e]
      obtain ⟨h1, h2, h3⟩ := key xs s hs0 hpp
      refine ⟨?_, fun z hz => ?_⟩
      · rcases h1 with h1 | h1
        · rw [h1]; exact hsm
        · exact List.mem_cons_of_mem _ h1
      · rcases List.mem_cons.1 hz with rfl | hz
        · omega
        · exact h3 z hz
section
variable (T : Int → Int → Int) (fin : Int)
theorem erase_perm {l : List Int} {k : Nat} (hk : k < l.length) : (l[k] :: l.eraseIdx k).Perm l := by
  rw [List.eraseIdx_eq_take_drop_succ]
  have hl : l = l.take k ++ l[k] :: l.drop (k + 1) := by rw [← List.drop_eq_getElem_cons hk, List.take_append_drop]
  conv => rhs; rw [hl]
  exact List.perm_middle.symm
/-- The best course is one of those that may be, and none takes less time. -/
theorem ord_best (h : ∀ a b, 0 ≤ T a b) : ∀ (n : Nat) (begun left : List Int), left.length = n →
    (∃ p : List Int, p.Perm left ∧ (ordS T fin n begun left).1 = begun ++ p ++ [fin] ∧ (ordS T fin n begun left).2 = sumT T (begun ++ p ++ [fin])) ∧ ∀ p : List Int, p.Perm left → (ordS T fin n begun left).2 ≤ sumT T (begun ++ p ++ [fin])
  | 0, begun, left, hl => by
    obtain rfl := List.length_eq_zero_iff.1 hl
    refine ⟨⟨[], List.Perm.refl _, by simp [ordS], by simp [ordS]⟩, fun p hp => ?_⟩
    obtain rfl := List.Perm.eq_nil hp
    simp [ordS]
  | n + 1, begun, left, hl => by
    have hx := fun (k : Nat) (hk : k < left.length) => ord_best h n (begun ++ [left[k]]) (left.eraseIdx k) (by rw [List.length_eraseIdx, if_pos hk]; omega)
    have hne : ((List.range left.length).map fun k => ordS T fin n (begun ++ [left.getD k 0]) (left.eraseIdx k)) ≠ [] := by
      intro e
      have h2 := congrArg List.length e
      rw [List.length_map, List.length_range, List.length_nil] at h2
      omega
    have hp : ∀ y ∈ (List.range left.length).map fun k => ordS T fin n (begun ++ [left.getD k 0]) (left.eraseIdx k), 0 ≤ y.2 := fun y hy => by
      rw [List.mem_map] at hy
      obtain ⟨k, hk, rfl⟩ := hy
      rw [List.mem_range] at hk
      exact ordS_pos T fin h n _ _ (by rw [List.length_eraseIdx, if_pos hk]; omega)
    obtain ⟨h1, h2⟩ := fold_better _ noO hp hne (.inl (by decide))
    have e0 : ordS T fin (n + 1) begun left = ((List.range left.length).map fun k => ordS T fin n (begun ++ [left.getD k 0]) (left.eraseIdx k)).foldl better noO := rfl
    rw [← e0] at h1 h2
    constructor
    · rw [List.mem_map] at h1
      obtain ⟨k, hk, e⟩ := h1
      rw [List.mem_range] at hk
      have ek : left.getD k 0 = left[k] := by simp [List.getD_eq_getElem?_getD, hk]
      rw [ek] at e
      obtain ⟨⟨p, q1, q2, q3⟩, _⟩ := hx k hk
      rw [← e]
      refine ⟨left[k] :: p, (List.Perm.cons _ q1).trans (erase_perm hk), ?_, ?_⟩
      · rw [q2]; simp
      · rw [q3]; simp
    · intro p hpp
      cases p with
      | nil => have := hpp.length_eq; simp at this; omega
      | cons x q =>
        obtain ⟨k, hk, rfl⟩ := List.getElem_of_mem (hpp.mem_iff.1 List.mem_cons_self)
        have hq : q.Perm (left.eraseIdx k) := List.Perm.cons_inv (hpp.trans (erase_perm hk).symm)
        have := h2 (ordS T fin n (begun ++ [left.getD k 0]) (left.eraseIdx k)) (by rw [List.mem_map]; exact ⟨k, List.mem_range.2 hk, rfl⟩)
        have ek : left.getD k 0 = left[k] := by simp [List.getD_eq_getElem?_getD, hk]
        rw [ek] at this
        have h3 := (hx k hk).2 q hq
        have e : begun ++ [left[k]] ++ q ++ [fin] = begun ++ left[k] :: q ++ [fin] := by simp
        rw [e] at h3
        omega
end
theorem Crs.b {m : Mp} {l : List Ctl} {t : List Int} (h : Crs m l t) : crsB m l t = true := by
  unfold crsB
  have h1 := h.lo
  have h2 := h.hi
  rw [h.good, insB_true.2 ⟨by omega, by omega⟩, Bool.true_and, Bool.true_and, allB_iff]
  intro i hi
  have hx := h.has i hi
  rcases Nat.eq_zero_or_pos i with h0 | h0
  · subst h0
    simp [crsAt, List.getElem?_eq_getElem hi, hx]
  · obtain ⟨j, rfl⟩ : ∃ j, i = j + 1 := ⟨i - 1, by omega⟩
    rw [crsAt_eq (List.getElem?_eq_getElem hi) (p := t[j]) (by simp [List.getElem?_eq_getElem (by omega : j < t.length)])]
    simp [hx, h.ne j hi, h.way j hi]
/-- What the law asks of the best order. -/
theorem bo_facts {m : Mp} {l : List Ctl} {t : List Int} (h : boB m l t = true) :
    boB m l (boL m l t) = true ∧ boI m l (boL m l t) = boI m l t ∧ boL m l (boL m l t) = boL m l t ∧ crsB m l (boL m l t) = true ∧ crsB m l t = true ∧
    sumT (tmT m l) (boL m l t) = boI m l t ∧ boI m l t ≤ sumT (tmT m l) t ∧ (boL m l t).Perm t ∧ 2 ≤ t.length ∧ (boL m l t).take 1 = t.take 1 ∧ lastI (boL m l t) = lastI t := by
  obtain ⟨hc, h7, hn⟩ := bo_true h
  have hC := crsB_true hc
  have h2 := hC.lo
  obtain ⟨⟨p, hp, e1, e2⟩, hmin⟩ := ord_best (tmT m l) (lastI t) (tmT_pos m l) (t.length - 2) (t.take 1) (midL t) (midL_len t)
  have eL : boL m l t = t.take 1 ++ p ++ [lastI t] := by rw [(bo_yes h).1]; exact e1
  have eI : boI m l t = sumT (tmT m l) (t.take 1 ++ p ++ [lastI t]) := by rw [(bo_yes h).2]; exact e2
  have hpm : p.Perm (midT t) := hp.trans (List.mergeSort_perm _ _)
  have hperm : (t.take 1 ++ p ++ [lastI t]).Perm t := by
    conv => rhs; rw [← mid_parts h2]
    exact List.Perm.append_right _ (List.Perm.append_left _ hpm)
  have hle : boI m l t ≤ sumT (tmT m l) t := by
    rw [(bo_yes h).2]
    have := hmin (midT t) (List.mergeSort_perm _ _).symm
    rw [mid_parts h2] at this
    exact this
  have hlen : (t.take 1 ++ p ++ [lastI t]).length = t.length := hperm.length_eq
  have hpl : p.length = t.length - 2 := by rw [hp.length_eq, midL_len]
  obtain ⟨x, hx⟩ : ∃ x, t.take 1 = [x] := by
    cases t with
    | nil => simp at h2
    | cons a b => exact ⟨a, by simp⟩
  have b1 : (t.take 1 ++ p ++ [lastI t]).take 1 = t.take 1 := by rw [hx]; simp
  have b2 : lastI (t.take 1 ++ p ++ [lastI t]) = lastI t := lastI_snoc _ _
  have b3 : midT (t.take 1 ++ p ++ [lastI t]) = p := by
    unfold midT
    rw [hlen, hx]
    simp [← hpl]
  have hnd : (t.take 1 ++ p ++ [lastI t]).Nodup := hperm.nodup_iff.2 hn
  have b4 : midL (t.take 1 ++ p ++ [lastI t]) = midL t := by
    refine sorted_ext (mid_asc hnd) (mid_asc hn) fun y => ?_
    have q1 := (List.mergeSort_perm (midT (t.take 1 ++ p ++ [lastI t])) (fun x y : Int => decide (x ≤ y))).mem_iff (a := y)
    have q2 := hp.mem_iff (a := y)
    rw [b3] at q1
    unfold midL sortI
    rw [b3]
    exact q1.trans q2
  have hG := GoodO.of hC h7 hn
  have hG2 : GoodO m l (lastI t) (t.take 1 ++ p) [] := by
    have e : (t.take 1 ++ p ++ [] ++ [lastI t]) = t.take 1 ++ p ++ [lastI t] := by simp
    refine ⟨hG.good, fun y hy => ?_, fun y hy z hz => ?_, by rw [e]; exact hnd, ?_, by rw [hx]; simp⟩
    · rw [e] at hy
      obtain ⟨i, hi, rfl⟩ := List.getElem_of_mem (hperm.mem_iff.1 hy)
      exact hC.has i hi
    · rw [e] at hy hz
      exact crs_way hC y (hperm.mem_iff.1 hy) z (hperm.mem_iff.1 hz)
    · rw [hx]; simp; omega
  have hC2 := hG2.leaf
  have hB2 : boB m l (t.take 1 ++ p ++ [lastI t]) = true := by
    unfold boB
    rw [hC2.b, twiceB_nodup.2 hnd, hlen]
    simp [h7]
  have hR : boR m l (t.take 1 ++ p ++ [lastI t]) = boR m l t := by
    unfold boR
    rw [b1, b2, b4, hlen]
  rw [eL]
  refine ⟨hB2, ?_, ?_, hC2.b, hc, eI.symm, hle, hperm, h2, b1, b2⟩
  · rw [(bo_yes hB2).2, hR, (bo_yes h).2]
  · rw [(bo_yes hB2).1, hR]; exact e1
theorem boL_length (m : Mp) (l : List Ctl) (t : List Int) : (boL m l t).length ≤ 1048576 := by
  cases h : boB m l t with
  | false => rw [(bo_no h).1]; simp
  | true =>
    have h1 := (bo_facts h).2.2.2.2.2.2.2.1.length_eq
    have h2 := (bo_true h).2.1
    omega
/-- The time of a course is the sum of its legs. -/
theorem ctime_sum {m : Mp} {l : List Ctl} {t : List Int} (h : crsB m l t = true) : sumZ (legTimesL m l t) = sumT (tmT m l) t := by
  have hC := crsB_true h
  obtain ⟨W, H, hm⟩ := mapB_ok (ctlsB_map hC.good)
  unfold legTimesL
  rw [if_pos h]
  refine sumT_crs t fun i hi => ?_
  exact (timeB_bd hm (cellK_open hC.good (hC.has i (by omega))).2.1 (cellK_open hC.good (hC.has (i + 1) hi)).2.1 (hC.way i hi)).1
end Go.Ori
/- laws.toIntS: a copy in new memory. Condition: at most 1048576 elements. -/
namespace Go.Proofs.Ytmcimgnobimicaa
open Go.RowKit Go.Ori
set_option maxHeartbeats 400000 in
theorem toIntS_any (v : Value) (l : List Int) (w : World) (h : w.sl intC 1 v l) (hl : l.length ≤ 1048576) :
    Calls Try.prog 9 #[v] w fun x w' => ∃ v', x = .returned v' ∧ (∃ d, w' = w.ext d) ∧ w'.own w.heap.size 3 intC 1 v' l := by
  obtain ⟨p, c, rfl, hp, hcap⟩ := h
  have hmk := fun w => run_make_rows (P := Try.prog) Try.underlying22 info_int l.length hl (by omega) w
  go_enter Try.func9, Try.ntmps9
  go_wp2
  clear hmk
  go_loopw [4] (fun i wr => ∃ k : Nat, k ≤ l.length ∧ i = .int .i64 k ∧ (∃ d, wr = w.ext d) ∧ ∃ C, wr.heap[w.heap.size]? = some (.cells C 3 (0, 0)) ∧ C.size = l.length * 1 ∧ ∀ j, j < k * 1 → C[j]? = (l.flatMap intC)[j]?) (fun i _ => l.length - (intOf i).toNat)
  case atStart => exact ⟨0, by omega, rfl, gain_alloc w.gained_refl _, _, heap_alloc_new w _, (size_madeCells _ _).trans (by omega), by simp⟩
  case round =>
    obtain ⟨k, hk, rfl, ⟨d, rfl⟩, C, hC, hCs, hCk⟩ := hrel
    have hn := World.newB_of_heap hC
    by_cases hlt : k < l.length
    · obtain ⟨b, o, rfl, hc⟩ := hp (by omega)
      have c0 := hc k hlt 0 (by omega)
      simp only [intC, List.getElem?_cons_zero, Nat.add_zero, Nat.mul_one] at c0
      have ob := World.oldB_of_cell c0
      obtain ⟨x0, hx0⟩ : ∃ x, C[k]? = some x := ⟨C[k]'(by omega), by simp [hCs, hlt]⟩
      have t0 : (w.ext d).cell? ⟨w.heap.size, k, none⟩ = some x0 := by rw [World.cell_of_heap hC]; exact hx0
      clear hx0
      have z0 : (w.ext d).frozen? ⟨w.heap.size, k, none⟩ = false := World.free_of_heap hC k
      have HC := Lib.hid hC
      have HK := Lib.hid hCk
      have HCS := Lib.hid hCs
      have HX := Lib.hid hc
      clear hC hCk hCs hp hc
      go_wp2
      go_roundw
      case rel =>
        refine ⟨k + 1, by omega, by go_num, gain_setCell ⟨_, rfl⟩ (Nat.le_refl _) _, _, World.heap_setCell_row HC.out _ _, by simp [HCS.out], fun j hj => ?_⟩
        rw [Array.getElem?_setIfInBounds]
        split
        · rename_i hjk
          subst hjk
          have := flat_get intC_length l k hlt 0 (by omega)
          simp only [Nat.mul_one, Nat.add_zero] at this
          rw [this, if_pos (by rw [HCS.out]; omega)]
          simp [intC]
        · exact HK.out j (by omega)
      case measure => simp [intOf]; omega
    · go_wp2
      go_ret
      obtain rfl : k = l.length := by omega
      exact ⟨_, rfl, ⟨_, rfl⟩, owns_of_row intC_length hC (Nat.le_refl _) hCs (Nat.le_refl _) (le_maxLen hl) hCk⟩
end Go.Proofs.Ytmcimgnobimicaa
/- laws.eqIntS: of two slices that read alike it says true. Condition: at most 1048576 elements. -/
namespace Go.Proofs.Ytmcimgnobimicaa
open Go.RowKit Go.Ori
set_option maxHeartbeats 1000000 in
theorem eqIntS_same (v v2 : Value) (l : List Int) (w : World) (h : w.sl intC 1 v l) (h2 : w.sl intC 1 v2 l) (hl : l.length ≤ 1048576) :
    Calls Try.prog 11 #[v, v2] w fun x w' => x = .returned (.bool true) ∧ ∃ d, w' = w.ext d := by
  obtain ⟨p, c, rfl, hp, hcap⟩ := h
  obtain ⟨p2, c2, rfl, hp2, _⟩ := h2
  go_enter Try.func11, Try.ntmps11
  go_wp2
  go_loopw [5] (fun i wr => ∃ k : Nat, k ≤ l.length ∧ i = .int .i64 k ∧ ∃ d, wr = w.ext d) (fun i _ => l.length - (intOf i).toNat)
  case atStart => exact ⟨0, by omega, rfl, w.gained_refl⟩
  case round =>
    obtain ⟨k, hk, rfl, d, rfl⟩ := hrel
    by_cases hlt : k < l.length
    · obtain ⟨b, o, rfl, hc⟩ := hp (by omega)
      obtain ⟨b2, o2, rfl, hc2⟩ := hp2 (by omega)
      have hck := hc k hlt
      have hck2 := hc2 k hlt
      clear hc hc2 hp hp2
      have c0 := hck 0 (by omega)
      have e0 := hck2 0 (by omega)
      generalize l[k] = e at c0 e0 hck hck2
      clear hck hck2
      simp only [intC, List.getElem?_cons_zero, List.getElem?_cons_succ, Nat.add_zero, Nat.mul_one] at c0 e0
      have ob := World.oldB_of_cell c0
      have ob2 := World.oldB_of_cell e0
      go_wp2
      refine wp_region_gain (by kernel_rfl) (by kernel_rfl) ?_
      repeat (first | go_big_quiet_skip | (go_big_quiet_want; go_big_quiet_op; first | go_big_quiet_on))
      refine wpQuiet_nil ?_
      rintro _ ⟨d', rfl⟩
      go_wp2
      go_roundw
      case rel => exact ⟨k + 1, by omega, by go_num, gain_ext ⟨_, rfl⟩ _⟩
      case measure => simp [intOf]; omega
    · go_wp2
      go_ret
      exact ⟨rfl, _, rfl⟩
end Go.Proofs.Ytmcimgnobimicaa
/- laws.szIntS: what is left of a size. No condition. -/
namespace Go.Proofs.Ytmcimgnobimicaa
open Go.RowKit Go.Ori
theorem szIntS_yes (p : Option Addr) (n c : Nat) (left : Int) (w : World) (hn : n ≤ 9223372036854775807) (h0 : 0 ≤ left) (h1 : left ≤ 1048576) (h : (n : Int) ≤ left) :
    Calls Try.prog 18 #[.slice p n c, .int .i64 left] w fun x w' => x = .returned (.int .i64 (left - n)) ∧ w = w' := by
  go_enter Try.func18, Try.ntmps18
  go_wp2
  go_ret
  exact ⟨rfl, rfl⟩
theorem szIntS_no (p : Option Addr) (n c : Nat) (left : Int) (w : World) (hn : n ≤ 9223372036854775807) (h0 : 0 ≤ left) (h1 : left ≤ 1048576) (h : ¬ (n : Int) ≤ left) :
    Calls Try.prog 18 #[.slice p n c, .int .i64 left] w fun x w' => x = .returned (.int .i64 (-1)) ∧ w = w' := by
  go_enter Try.func18, Try.ntmps18
  go_wp2
  go_ret
  exact ⟨rfl, rfl⟩
theorem szIntS_any (p : Option Addr) (n c : Nat) (left : Int) (w : World) (hn : n ≤ 9223372036854775807) (h0 : 0 ≤ left) (h1 : left ≤ 1048576) :
    Calls Try.prog 18 #[.slice p n c, .int .i64 left] w fun x w' => ∃ r, x = .returned (.int .i64 r) ∧ w = w' ∧ r ≤ left ∧ (0 ≤ r → (n : Int) ≤ left) := by
  by_cases h : (n : Int) ≤ left
  · exact (szIntS_yes p n c left w hn h0 h1 h).mono fun _ _ ⟨e1, e2⟩ => ⟨_, e1, e2, by omega, fun _ => h⟩
  · exact (szIntS_no p n c left w hn h0 h1 h).mono fun _ _ ⟨e1, e2⟩ => ⟨_, e1, e2, by omega, fun h3 => by omega⟩
end Go.Proofs.Ytmcimgnobimicaa
