/- Maps, cells, step times, least times: plain functions. No condition. -/
import Derived.Test.YtmcimgnobimicaaGreatG3
namespace Go.Ori
structure Mp where
  wd : Int
  ht : Int
  rise : List Int
  cost : List Int
def mapB (m : Mp) : Bool :=
  insB m.wd 1 6 && insB m.ht 1 6 && decide ((m.rise.length : Int) = m.wd * m.ht) && decide (m.cost.length = m.rise.length) && m.rise.all (fun n => insB n 0 9) && m.cost.all (fun n => insB n 0 9)
def costAt (m : Mp) (k : Nat) : Int := m.cost.getD k 0
def riseAt (m : Mp) (k : Nat) : Int := m.rise.getD k 0
structure MapOk (m : Mp) (W H : Nat) : Prop where
  wd : m.wd = W
  ht : m.ht = H
  w1 : 1 ≤ W
  w6 : W ≤ 6
  h1 : 1 ≤ H
  h6 : H ≤ 6
  rl : m.rise.length = W * H
  cl : m.cost.length = W * H
  rr : ∀ k, 0 ≤ riseAt m k ∧ riseAt m k ≤ 9
  cr : ∀ k, 0 ≤ costAt m k ∧ costAt m k ≤ 9
theorem getD_all {l : List Int} {P : Int → Prop} (h : ∀ x ∈ l, P x) (h0 : P 0) (k : Nat) : P (l.getD k 0) := by
  rw [List.getD_eq_getElem?_getD]
  rcases Nat.lt_or_ge k l.length with hk | hk
  · rw [List.getElem?_eq_getElem hk]; exact h _ (List.getElem_mem hk)
  · rw [List.getElem?_eq_none hk]; exact h0
theorem mapB_ok {m : Mp} (h : mapB m = true) : ∃ W H : Nat, MapOk m W H := by
  simp only [mapB, Bool.and_eq_true, decide_eq_true_eq, List.all_eq_true, insB_true] at h
  obtain ⟨⟨⟨⟨⟨hw, hh⟩, hr⟩, hc⟩, hra⟩, hca⟩ := h
  obtain ⟨W, hW⟩ : ∃ W : Nat, m.wd = W := ⟨m.wd.toNat, by omega⟩
  obtain ⟨H, hH⟩ : ∃ H : Nat, m.ht = H := ⟨m.ht.toNat, by omega⟩
  rw [hW, hH] at hr
  have hr' : m.rise.length = W * H := by rw [← Int.natCast_mul] at hr; exact Int.ofNat.inj hr
  exact ⟨W, H, hW, hH, by omega, by omega, by omega, by omega, hr', by omega, getD_all hra (by omega), getD_all hca (by omega)⟩
theorem mul_le36 {W H : Nat} (h : W ≤ 6) (h' : H ≤ 6) : W * H ≤ 36 := Nat.mul_le_mul h h'
theorem MapOk.n36 {m : Mp} {W H : Nat} (h : MapOk m W H) : m.cost.length ≤ 36 := by rw [h.cl]; exact mul_le36 h.w6 h.h6
/-- The distance of two cells. -/
def gapN (W a b : Nat) : Int := (((a % W : Nat) : Int) - ((b % W : Nat) : Int)).natAbs + (((a / W : Nat) : Int) - ((b / W : Nat) : Int)).natAbs
def cellB (m : Mp) (c : Int) : Bool := mapB m && insB c 0 ((m.cost.length : Int) - 1)
def openB (m : Mp) (c : Int) : Bool := cellB m c && decide (0 < costAt m c.toNat)
def isNext (m : Mp) (c k : Nat) : Bool := decide (0 < costAt m k) && decide (gapN m.wd.toNat c k = 1)
/-- The cells next to a cell that are not forbidden. -/
def nextL (m : Mp) (c : Nat) : List Nat := (List.range m.cost.length).filter (isNext m c)
/-- .. as the reference makes them. -/
def candN (W H c : Nat) : List Nat :=
  (if 0 < c / W then [c - W] else []) ++ (if 0 < c % W then [c - 1] else []) ++ (if c % W + 1 < W then [c + 1] else []) ++ (if c / W + 1 < H then [c + W] else [])
theorem cand_all : ∀ W : Fin 7, ∀ H : Fin 7, 1 ≤ W.val → ∀ c : Fin (W.val * H.val), (List.range (W.val * H.val)).filter (fun k => decide (gapN W.val c.val k = 1)) = candN W.val H.val c.val := by decide +kernel
theorem cand_eq {W H c : Nat} (h1 : 1 ≤ W) (hw : W ≤ 6) (hh : H ≤ 6) (hc : c < W * H) : (List.range (W * H)).filter (fun k => decide (gapN W c k = 1)) = candN W H c :=
  cand_all ⟨W, by omega⟩ ⟨H, by omega⟩ h1 ⟨c, hc⟩
theorem next_cand {m : Mp} {W H c : Nat} (h : MapOk m W H) (hc : c < m.cost.length) : nextL m c = (candN W H c).filter (fun k => decide (0 < costAt m k)) := by
  have e : m.wd.toNat = W := by rw [h.wd]; rfl
  rw [← cand_eq h.w1 h.w6 h.h6 (by rw [← h.cl]; exact hc), List.filter_filter, nextL, h.cl]
  congr 1
  funext k
  rw [isNext, e]
theorem cand_len (W H c : Nat) : (candN W H c).length ≤ 4 := by
  unfold candN
  simp only [List.length_append]
  have q : ∀ (p : Prop) [Decidable p] (x : Nat), (if p then [x] else []).length ≤ 1 := fun p _ x => by split <;> simp
  have := q (0 < c / W) (c - W)
  have := q (0 < c % W) (c - 1)
  have := q (c % W + 1 < W) (c + 1)
  have := q (c / W + 1 < H) (c + W)
  omega
theorem next_mem {m : Mp} {c k : Nat} : k ∈ nextL m c ↔ k < m.cost.length ∧ 0 < costAt m k ∧ gapN m.wd.toNat c k = 1 := by
  simp [nextL, isNext]
/-- The step time. -/
def stepZ (m : Mp) (a b : Nat) : Int := costAt m b + 2 * max (riseAt m b - riseAt m a) 0 + max (-(riseAt m b - riseAt m a) - 2) 0
theorem stepZ_le {m : Mp} {W H : Nat} (h : MapOk m W H) (a b : Nat) : costAt m b ≤ stepZ m a b ∧ 0 ≤ stepZ m a b ∧ stepZ m a b ≤ 27 := by
  have h1 := h.rr a
  have h2 := h.rr b
  have h3 := h.cr b
  unfold stepZ
  omega
/-- The least times: one step, one cell, one pass. 2^30 says that there is no route. -/
def rlx (m : Mp) (c : Nat) (s : List Int × Bool) (k : Nat) : List Int × Bool :=
  if s.1.getD k 0 < 1073741824 ∧ s.1.getD k 0 + stepZ m c k < s.1.getD c 0 then (s.1.set c (s.1.getD k 0 + stepZ m c k), true) else s
def cellP (m : Mp) (s : List Int × Bool) (c : Nat) : List Int × Bool := if costAt m c = 0 then s else (nextL m c).foldl (rlx m c) s
def passTo (m : Mp) (L : List Int) (c : Nat) : List Int × Bool := (List.range c).foldl (cellP m) (L, false)
def passP (m : Mp) (L : List Int) : List Int × Bool := passTo m L m.cost.length
theorem passTo_succ (m : Mp) (L : List Int) (c : Nat) : passTo m L (c + 1) = cellP m (passTo m L c) c := by
  simp [passTo, List.range_succ, List.foldl_append]
def lsum (L : List Int) : Nat := (L.map Int.toNat).sum
def finN (L : List Int) : Nat := L.countP (fun x => decide (x < 1073741824))
/-- What stays true of the times. -/
structure TInv (n : Nat) (L : List Int) : Prop where
  len : L.length = n
  lo : ∀ k, 0 ≤ L.getD k 0
  hi : ∀ k, L.getD k 0 ≤ 1073741824
  fin : ∀ k, k < n → L.getD k 0 < 1073741824 → L.getD k 0 + 27 ≤ 27 * (finN L : Int)
theorem getD_set (L : List Int) (i : Nat) (x : Int) (k : Nat) (hi : i < L.length) : (L.set i x).getD k 0 = if i = k then x else L.getD k 0 := by
  simp only [List.getD_eq_getElem?_getD, List.getElem?_set]
  split
  · first | rfl | (rw [if_pos hi]; rfl)
  · rfl
theorem lsum_set : ∀ (L : List Int) (i : Nat) (x : Int), i < L.length → 0 ≤ x → x < L.getD i 0 → lsum (L.set i x) < lsum L
  | [], _, _, h, _, _ => absurd h (by simp)
  | a :: L, 0, x, _, h0, h => by
    simp only [List.getD_cons_zero] at h
    simp only [lsum, List.set_cons_zero, List.map_cons, List.sum_cons]
    omega
  | a :: L, i + 1, x, hi, h0, h => by
    simp only [List.getD_cons_succ] at h
    have := lsum_set L i x (by simpa using hi) h0 h
    simp only [lsum, List.set_cons_succ, List.map_cons, List.sum_cons] at this ⊢
    omega
theorem finN_set (L : List Int) (i : Nat) (x : Int) (hi : i < L.length) (hx : x < 1073741824) : finN (L.set i x) = if L.getD i 0 < 1073741824 then finN L else finN L + 1 := by
  have hp : L.getD i 0 = L[i] := by rw [List.getD_eq_getElem?_getD, List.getElem?_eq_getElem hi]; rfl
  unfold finN
  rw [List.countP_set hi, hp]
  by_cases e : L[i] < 1073741824
  · have : 0 < L.countP (fun x => decide (x < 1073741824)) := List.countP_pos_iff.2 ⟨L[i], List.getElem_mem hi, by simpa using e⟩
    simp [e, hx]; omega
  · simp [e, hx]
theorem finN_le (L : List Int) : finN L ≤ L.length := List.countP_le_length
theorem rlx_inv {m : Mp} {W H : Nat} (hm : MapOk m W H) {n c k : Nat} {s : List Int × Bool} (h : TInv n s.1) (hc : c < n) (hk : k < n) : TInv n (rlx m c s k).1 := by
  unfold rlx
  split
  · rename_i q
    obtain ⟨q1, q2⟩ := q
    have hs := stepZ_le hm c k
    have h1 := h.lo k
    have h2 := h.hi c
    have h3 := h.fin k hk q1
    have hcl : c < s.1.length := by rw [h.len]; exact hc
    have hf := finN_set s.1 c (s.1.getD k 0 + stepZ m c k) hcl (by omega)
    refine ⟨by rw [List.length_set]; exact h.len, fun j => ?_, fun j => ?_, fun j hj hlt => ?_⟩
    · rw [getD_set _ _ _ _ hcl]; split; omega; exact h.lo j
    · rw [getD_set _ _ _ _ hcl]; split; omega; exact h.hi j
    · simp only at hlt ⊢
      rw [getD_set _ _ _ _ hcl] at hlt ⊢
      rw [hf]
      by_cases e : c = j
      · subst e
        rw [if_pos rfl] at hlt ⊢
        split
        · rename_i e2
          have := h.fin c hc e2
          omega
        · omega
      · rw [if_neg e] at hlt ⊢
        have := h.fin j hj hlt
        split <;> omega
  · exact h
theorem rlx_len (m : Mp) (c : Nat) (s : List Int × Bool) (k : Nat) : (rlx m c s k).1.length = s.1.length := by
  unfold rlx; split <;> simp
/-- The sum does not grow; it falls where something turned. -/
def Less (s t : List Int × Bool) : Prop := lsum t.1 ≤ lsum s.1 ∧ (s.2 = true → t.2 = true) ∧ (s.2 = false → t.2 = true → lsum t.1 < lsum s.1) ∧ (t.2 = false → t.1 = s.1)
theorem Less.refl (s : List Int × Bool) : Less s s := ⟨Nat.le_refl _, fun h => h, fun h h' => absurd (h.symm.trans h') (by decide), fun _ => rfl⟩
theorem Less.trans {s t u : List Int × Bool} (h : Less s t) (h' : Less t u) : Less s u := by
  obtain ⟨a1, a2, a3, a4⟩ := h
  obtain ⟨b1, b2, b3, b4⟩ := h'
  refine ⟨Nat.le_trans b1 a1, fun q => b2 (a2 q), fun q r => ?_, fun q => ?_⟩
  · cases ht : t.2 with
    | true => have := a3 q ht; omega
    | false => have := b3 ht r; omega
  · have ht : t.2 = false := by
      cases ht : t.2 with
      | false => rfl
      | true => rw [b2 ht] at q; cases q
    rw [b4 q, a4 ht]
theorem rlx_less {m : Mp} {W H : Nat} (hm : MapOk m W H) {n c k : Nat} {s : List Int × Bool} (h : TInv n s.1) (hc : c < n) : Less s (rlx m c s k) := by
  unfold rlx
  split
  · rename_i q
    have hs := stepZ_le hm c k
    have h1 := h.lo k
    have := lsum_set s.1 c (s.1.getD k 0 + stepZ m c k) (by rw [h.len]; exact hc) (by omega) q.2
    exact ⟨Nat.le_of_lt this, fun _ => rfl, fun _ _ => this, fun e => by cases e⟩
  · exact Less.refl s
theorem foldl_rlx {m : Mp} {W H : Nat} (hm : MapOk m W H) {n c : Nat} (hc : c < n) : ∀ (ks : List Nat) (s : List Int × Bool), (∀ k ∈ ks, k < n) → TInv n s.1 → TInv n (ks.foldl (rlx m c) s).1 ∧ Less s (ks.foldl (rlx m c) s)
  | [], s, _, h => ⟨h, Less.refl s⟩
  | k :: ks, s, hk, h => by
    have h1 := rlx_inv hm (k := k) h hc (hk k (by simp))
    have h2 := rlx_less hm (k := k) h hc
    obtain ⟨h3, h4⟩ := foldl_rlx hm hc ks (rlx m c s k) (fun x hx => hk x (by simp [hx])) h1
    exact ⟨h3, h2.trans h4⟩
theorem next_lt {m : Mp} {c : Nat} : ∀ k ∈ nextL m c, k < m.cost.length := fun _ h => (next_mem.1 h).1
theorem cellP_inv {m : Mp} {W H : Nat} (hm : MapOk m W H) {c : Nat} {s : List Int × Bool} (hc : c < m.cost.length) (h : TInv m.cost.length s.1) : TInv m.cost.length (cellP m s c).1 ∧ Less s (cellP m s c) := by
  unfold cellP
  split
  · exact ⟨h, Less.refl s⟩
  · exact foldl_rlx hm hc _ s next_lt h
theorem passTo_inv {m : Mp} {W H : Nat} (hm : MapOk m W H) {L : List Int} (h : TInv m.cost.length L) : ∀ c, c ≤ m.cost.length → TInv m.cost.length (passTo m L c).1 ∧ Less (L, false) (passTo m L c)
  | 0, _ => ⟨h, Less.refl _⟩
  | c + 1, hc => by
    obtain ⟨h1, h2⟩ := passTo_inv hm h c (by omega)
    rw [passTo_succ]
    obtain ⟨h3, h4⟩ := cellP_inv hm (c := c) (by omega) h1
    exact ⟨h3, h2.trans h4⟩
def iterP (m : Mp) : Nat → List Int → List Int
  | 0, L => L
  | f + 1, L => if (passP m L).2 = true then iterP m f (passP m L).1 else (passP m L).1
theorem iter_fuel {m : Mp} {W H : Nat} (hm : MapOk m W H) : ∀ (f g : Nat) (L : List Int), TInv m.cost.length L → lsum L < f → lsum L < g → iterP m f L = iterP m g L
  | 0, _, _, _, h, _ => absurd h (Nat.not_lt_zero _)
  | _, 0, _, _, _, h => absurd h (Nat.not_lt_zero _)
  | f + 1, g + 1, L, h, hf, hg => by
    obtain ⟨h1, h2, h3, h4, h5⟩ := passTo_inv hm h m.cost.length (Nat.le_refl _)
    rw [iterP, iterP]
    by_cases e : (passP m L).2 = true
    · rw [if_pos e, if_pos e]
      have : lsum (passTo m L m.cost.length).1 < lsum L := h4 rfl e
      exact iter_fuel hm f g _ h1 (by unfold passP; omega) (by unfold passP; omega)
    · rw [if_neg e, if_neg e]
/-- What the passes come to. -/
def fixL (m : Mp) (L : List Int) : List Int := iterP m (lsum L + 1) L
theorem fix_step {m : Mp} {W H : Nat} (hm : MapOk m W H) {L : List Int} (h : TInv m.cost.length L) (e : (passP m L).2 = true) : fixL m (passP m L).1 = fixL m L ∧ lsum (passP m L).1 < lsum L := by
  obtain ⟨h1, h2, h3, h4, h5⟩ := passTo_inv hm h m.cost.length (Nat.le_refl _)
  have hl : lsum (passP m L).1 < lsum L := h4 rfl e
  refine ⟨?_, hl⟩
  have : fixL m L = iterP m (lsum L) (passP m L).1 := by rw [fixL, iterP, if_pos e]
  rw [this]
  exact iter_fuel hm _ _ _ h1 (by omega) hl
theorem fix_stop {m : Mp} {L : List Int} (e : (passP m L).2 = false) : fixL m L = (passP m L).1 := by
  rw [fixL, iterP, if_neg (by rw [e]; decide)]
theorem fix_inv {m : Mp} {W H : Nat} (hm : MapOk m W H) : ∀ (N : Nat) (L : List Int), lsum L ≤ N → TInv m.cost.length L → TInv m.cost.length (fixL m L) ∧ (passP m (fixL m L)).2 = false := by
  intro N
  induction N with
  | zero =>
    intro L hN h
    obtain ⟨h1, h2, h3, h4, h5⟩ := passTo_inv hm h m.cost.length (Nat.le_refl _)
    cases e : (passP m L).2 with
    | true => have : lsum (passTo m L m.cost.length).1 < lsum L := h4 rfl e; omega
    | false => rw [fix_stop e]; exact ⟨h1, by rw [show (passP m L).1 = L from h5 e]; exact e⟩
  | succ N ih =>
    intro L hN h
    obtain ⟨h1, h2, h3, h4, h5⟩ := passTo_inv hm h m.cost.length (Nat.le_refl _)
    cases e : (passP m L).2 with
    | true =>
      obtain ⟨q1, q2⟩ := fix_step hm h e
      rw [← q1]
      exact ih _ (by omega) h1
    | false => rw [fix_stop e]; exact ⟨h1, by rw [show (passP m L).1 = L from h5 e]; exact e⟩
def initT (n b : Nat) : List Int := (List.replicate n 1073741824).set b 0
theorem init_inv {n b : Nat} (hb : b < n) : TInv n (initT n b) := by
  have hl : b < (List.replicate n (1073741824 : Int)).length := by simpa using hb
  have hr : ∀ k, (List.replicate n (1073741824 : Int)).getD k 0 = if k < n then 1073741824 else 0 := fun k => by
    rw [List.getD_eq_getElem?_getD, List.getElem?_replicate]; split <;> rfl
  refine ⟨by simp [initT], fun k => ?_, fun k => ?_, fun k hk h => ?_⟩
  · rw [initT, getD_set _ _ _ _ hl, hr]; split; omega; split <;> omega
  · rw [initT, getD_set _ _ _ _ hl, hr]; split; omega; split <;> omega
  · unfold initT at h ⊢
    rw [getD_set _ _ _ _ hl, hr, if_pos hk] at h ⊢
    by_cases e : b = k
    · have hf : finN ((List.replicate n 1073741824).set b 0) = finN (List.replicate n 1073741824) + 1 := by rw [finN_set _ _ _ hl (by omega), hr, if_pos hb]; rfl
      rw [if_pos e, hf]
      omega
    · rw [if_neg e] at h; omega
/-- The least times to a cell. -/
def timesL (m : Mp) (b : Nat) : List Int := fixL m (initT m.cost.length b)
theorem times_inv {m : Mp} {W H b : Nat} (hm : MapOk m W H) (hb : b < m.cost.length) : TInv m.cost.length (timesL m b) := (fix_inv hm _ _ (Nat.le_refl _) (init_inv hb)).1
def timeB (m : Mp) (a b : Nat) : Int := (timesL m b).getD a 0
/-- The reference's times: -1 says that there is no route. -/
def sE (L : List Int) : List Int := L.map fun x => if x = 1073741824 then -1 else x
theorem sE_length (L : List Int) : (sE L).length = L.length := by simp [sE]
theorem sE_get (L : List Int) {k : Nat} (hk : k < L.length) : (sE L)[k]'(by rw [sE_length]; exact hk) = if L.getD k 0 = 1073741824 then -1 else L.getD k 0 := by
  simp [sE, List.getD_eq_getElem?_getD, List.getElem?_eq_getElem hk]
theorem sE_set (L : List Int) (i : Nat) (x : Int) (hx : x ≠ 1073741824) : sE (L.set i x) = (sE L).set i x := by
  simp [sE, List.map_set, hx]
theorem rlx_spec {m : Mp} {W H : Nat} (hm : MapOk m W H) {n c k : Nat} {s : List Int × Bool} (h : TInv n s.1) (hn : n ≤ 36) (hc : c < n) (hk : k < n) :
    (s.1.getD k 0 = 1073741824 → rlx m c s k = s) ∧
    (s.1.getD k 0 ≠ 1073741824 → 0 ≤ s.1.getD k 0 ∧ s.1.getD k 0 ≤ 1000 ∧
      (s.1.getD c 0 = 1073741824 ∨ s.1.getD k 0 + stepZ m c k < s.1.getD c 0 → sE (rlx m c s k).1 = (sE s.1).set c (s.1.getD k 0 + stepZ m c k) ∧ (rlx m c s k).2 = true) ∧
      (¬ (s.1.getD c 0 = 1073741824 ∨ s.1.getD k 0 + stepZ m c k < s.1.getD c 0) → rlx m c s k = s)) := by
  have hs := stepZ_le hm c k
  have h1 := h.lo k
  have h2 := h.hi k
  have h3 := h.hi c
  refine ⟨fun e => ?_, fun e => ?_⟩
  · rw [rlx, if_neg (by omega)]
  · have h4 := h.fin k hk (by omega)
    have h5 := finN_le s.1
    rw [h.len] at h5
    refine ⟨h1, by omega, fun q => ?_, fun q => ?_⟩
    · rw [rlx, if_pos (by omega)]
      exact ⟨sE_set _ _ _ (by omega), rfl⟩
    · rw [rlx, if_neg (by omega)]
end Go.Ori
