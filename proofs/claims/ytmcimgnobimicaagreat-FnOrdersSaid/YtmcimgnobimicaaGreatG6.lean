/- Texts laid together: Best routes: plain functions. No condition.; Controls and courses: plain functions. No condition.; A map in memory: a struct of two numbers and two slices. No condition. -/
import Derived.Test.YtmcimgnobimicaaGreatG5
import Derived.Test.YtmcimgnobimicaaGreatG2
/- Best routes: plain functions. No condition. -/
namespace Go.Ori
/-- Nothing turns in a pass: no step makes a time less. -/
theorem foldl_still {m : Mp} {W H : Nat} (hm : MapOk m W H) {n c : Nat} (hc : c < n) {L : List Int} (h : TInv n L) : ∀ (ks : List Nat), (∀ k ∈ ks, k < n) → (ks.foldl (rlx m c) (L, false)).2 = false → ∀ k ∈ ks, rlx m c (L, false) k = (L, false)
  | [], _, _, _, hk => by simp at hk
  | k :: ks, hk, hf, j, hj => by
    have h1 := rlx_inv hm (s := (L, false)) (k := k) h hc (hk k (by simp))
    obtain ⟨h3, h4⟩ := foldl_rlx hm hc ks (rlx m c (L, false) k) (fun x hx => hk x (by simp [hx])) h1
    have e1 : (rlx m c (L, false) k).2 = false := by
      cases e : (rlx m c (L, false) k).2 with
      | false => rfl
      | true =>
        have q := h4.2.1 e
        rw [List.foldl_cons] at hf
        rw [q] at hf
        cases hf
    have e2 := (rlx_less hm (s := (L, false)) (k := k) h hc).2.2.2 e1
    have e3 : rlx m c (L, false) k = (L, false) := by
      cases hr : rlx m c (L, false) k with
      | mk x y => rw [hr] at e1 e2; simp only at e1 e2; rw [e1, e2]
    rcases List.mem_cons.1 hj with rfl | hj
    · exact e3
    · rw [List.foldl_cons, e3] at hf
      exact foldl_still hm hc h ks (fun x hx => hk x (by simp [hx])) hf j hj
theorem pass_still {m : Mp} {W H : Nat} (hm : MapOk m W H) {L : List Int} (h : TInv m.cost.length L) : ∀ c, c ≤ m.cost.length → (passTo m L c).2 = false → ∀ j, j < c → cellP m (L, false) j = (L, false)
  | 0, _, _, j, hj => absurd hj (Nat.not_lt_zero _)
  | c + 1, hc, hf, j, hj => by
    obtain ⟨h1, h2⟩ := passTo_inv hm h c (by omega)
    rw [passTo_succ] at hf
    obtain ⟨h3, h4⟩ := cellP_inv hm (c := c) (by omega) h1
    have e0 : (passTo m L c).2 = false := by
      cases e : (passTo m L c).2 with
      | false => rfl
      | true => rw [h4.2.1 e] at hf; cases hf
    have e1 := h2.2.2.2 e0
    have e2 : passTo m L c = (L, false) := by
      cases hr : passTo m L c with
      | mk x y => rw [hr] at e0 e1; simp only at e0 e1; rw [e0, e1]
    by_cases e : j = c
    · subst e
      rw [e2] at hf h4
      have e3 := h4.2.2.2 hf
      cases hr : cellP m (L, false) j with
      | mk x y => rw [hr] at hf e3; simp only at hf e3; rw [hf, e3]
    · exact pass_still hm h c (by omega) e0 j (by omega)
/-- The least times: one step more takes no less. -/
theorem fix_le {m : Mp} {W H : Nat} (hm : MapOk m W H) {L : List Int} (h : TInv m.cost.length L) (hf : (passP m L).2 = false) {c k : Nat} (hc : c < m.cost.length) (h0 : costAt m c ≠ 0) (hk : k ∈ nextL m c) (hi : L.getD k 0 < 1073741824) :
    L.getD c 0 ≤ L.getD k 0 + stepZ m c k := by
  have h1 := pass_still hm h m.cost.length (Nat.le_refl _) hf c hc
  have h2 := h1
  rw [cellP, if_neg h0] at h2
  have h3 := foldl_still hm hc h (nextL m c) next_lt (by rw [h2]) k hk
  rw [rlx] at h3
  by_cases e : L.getD k 0 < 1073741824 ∧ L.getD k 0 + stepZ m c k < L.getD c 0
  · rw [if_pos e] at h3
    simp at h3
  · have := h.hi c
    omega
/-- Each time is that of a step and a time. -/
structure Tight (m : Mp) (b : Nat) (L : List Int) : Prop where
  at0 : L.getD b 0 = 0
  via : ∀ c, c < m.cost.length → c ≠ b → L.getD c 0 < 1073741824 → 0 < costAt m c ∧ ∃ k, k ∈ nextL m c ∧ L.getD k 0 < 1073741824 ∧ L.getD k 0 + stepZ m c k ≤ L.getD c 0
theorem gapN_self (W a : Nat) : gapN W a a = 0 := by simp [gapN]
theorem next_ne {m : Mp} {c k : Nat} (h : k ∈ nextL m c) : k ≠ c := by
  rintro rfl
  have := (next_mem.1 h).2.2
  rw [gapN_self] at this
  omega
theorem rlx_tight {m : Mp} {W H : Nat} (hm : MapOk m W H) {c k b : Nat} {s : List Int × Bool} (h : TInv m.cost.length s.1) (ht : Tight m b s.1) (hc : c < m.cost.length) (h0 : 0 < costAt m c) (hk : k ∈ nextL m c) : Tight m b (rlx m c s k).1 := by
  unfold rlx
  split
  · rename_i q
    obtain ⟨q1, q2⟩ := q
    have hs := stepZ_le hm c k
    have h1 := h.lo k
    have h2 := h.hi c
    have hcl : c < s.1.length := by rw [h.len]; exact hc
    have hkc := next_ne hk
    have hcb : c ≠ b := by rintro rfl; rw [ht.at0] at q2; omega
    refine ⟨?_, fun j hj hjb hlt => ?_⟩
    · rw [getD_set _ _ _ _ hcl, if_neg hcb]; exact ht.at0
    · simp only at hlt ⊢
      rw [getD_set _ _ _ _ hcl] at hlt
      by_cases e : c = j
      · subst e
        refine ⟨h0, k, hk, ?_, ?_⟩
        · rw [getD_set _ _ _ _ hcl, if_neg hkc.symm]; exact q1
        · rw [getD_set _ _ _ _ hcl, if_neg hkc.symm, getD_set _ _ _ _ hcl, if_pos rfl]; omega
      · rw [if_neg e] at hlt
        obtain ⟨a1, x, a2, a3, a4⟩ := ht.via j hj hjb hlt
        refine ⟨a1, x, a2, ?_, ?_⟩
        · rw [getD_set _ _ _ _ hcl]; split <;> omega
        · rw [getD_set _ _ _ _ hcl, getD_set _ _ _ _ hcl, if_neg e]
          split
          · rename_i e2; subst e2; omega
          · exact a4
  · exact ht
theorem foldl_tight {m : Mp} {W H : Nat} (hm : MapOk m W H) {c b : Nat} (hc : c < m.cost.length) (h0 : 0 < costAt m c) : ∀ (ks : List Nat) (s : List Int × Bool), (∀ k ∈ ks, k ∈ nextL m c) → TInv m.cost.length s.1 → Tight m b s.1 → Tight m b (ks.foldl (rlx m c) s).1
  | [], _, _, _, h => h
  | k :: ks, s, hk, h, ht => by
    rw [List.foldl_cons]
    exact foldl_tight hm hc h0 ks _ (fun x hx => hk x (by simp [hx])) (rlx_inv hm h hc (next_lt k (hk k (by simp)))) (rlx_tight hm h ht hc h0 (hk k (by simp)))
theorem cellP_tight {m : Mp} {W H : Nat} (hm : MapOk m W H) {c b : Nat} {s : List Int × Bool} (hc : c < m.cost.length) (h : TInv m.cost.length s.1) (ht : Tight m b s.1) : Tight m b (cellP m s c).1 := by
  unfold cellP
  split
  · exact ht
  · rename_i q
    exact foldl_tight hm hc (by have := hm.cr c; omega) _ s (fun _ h => h) h ht
theorem passTo_tight {m : Mp} {W H : Nat} (hm : MapOk m W H) {L : List Int} {b : Nat} (h : TInv m.cost.length L) (ht : Tight m b L) : ∀ c, c ≤ m.cost.length → Tight m b (passTo m L c).1
  | 0, _ => ht
  | c + 1, hc => by
    rw [passTo_succ]
    exact cellP_tight hm (by omega) (passTo_inv hm h c (by omega)).1 (passTo_tight hm h ht c (by omega))
theorem fix_tight {m : Mp} {W H b : Nat} (hm : MapOk m W H) : ∀ (N : Nat) (L : List Int), lsum L ≤ N → TInv m.cost.length L → Tight m b L → Tight m b (fixL m L) := by
  intro N
  induction N with
  | zero =>
    intro L hN h ht
    obtain ⟨h1, h2, h3, h4, h5⟩ := passTo_inv hm h m.cost.length (Nat.le_refl _)
    cases e : (passP m L).2 with
    | true => have : lsum (passTo m L m.cost.length).1 < lsum L := h4 rfl e; omega
    | false => rw [fix_stop e]; exact passTo_tight hm h ht _ (Nat.le_refl _)
  | succ N ih =>
    intro L hN h ht
    obtain ⟨h1, h2, h3, h4, h5⟩ := passTo_inv hm h m.cost.length (Nat.le_refl _)
    cases e : (passP m L).2 with
    | true =>
      obtain ⟨q1, q2⟩ := fix_step hm h e
      rw [← q1]
      exact ih _ (by omega) h1 (passTo_tight hm h ht _ (Nat.le_refl _))
    | false => rw [fix_stop e]; exact passTo_tight hm h ht _ (Nat.le_refl _)
theorem init_tight {m : Mp} {b : Nat} (hb : b < m.cost.length) : Tight m b (initT m.cost.length b) := by
  have hl : b < (List.replicate m.cost.length (1073741824 : Int)).length := by simpa using hb
  refine ⟨by rw [initT, getD_set _ _ _ _ hl, if_pos rfl], fun c hc hcb hlt => ?_⟩
  rw [initT, getD_set _ _ _ _ hl, if_neg (fun e => hcb e.symm), List.getD_eq_getElem?_getD, List.getElem?_replicate, if_pos hc] at hlt
  simp at hlt
theorem times_tight {m : Mp} {W H b : Nat} (hm : MapOk m W H) (hb : b < m.cost.length) : Tight m b (timesL m b) := fix_tight hm _ _ (Nat.le_refl _) (init_inv hb) (init_tight hb)
theorem times_le {m : Mp} {W H b : Nat} (hm : MapOk m W H) (hb : b < m.cost.length) {c k : Nat} (hc : c < m.cost.length) (h0 : costAt m c ≠ 0) (hk : k ∈ nextL m c) (hi : (timesL m b).getD k 0 < 1073741824) :
    (timesL m b).getD c 0 ≤ (timesL m b).getD k 0 + stepZ m c k := by
  obtain ⟨h1, h2⟩ := fix_inv hm _ _ (Nat.le_refl _) (init_inv hb)
  exact fix_le hm h1 h2 hc h0 hk hi
/-- The next cell of the best route. -/
def onB (m : Mp) (b a k : Nat) : Bool := decide ((timesL m b).getD k 0 + stepZ m a k = (timesL m b).getD a 0)
def hopN (m : Mp) (b a : Nat) : Nat := ((nextL m a).find? (onB m b a)).getD a
theorem hop_ok {m : Mp} {W H a b : Nat} (hm : MapOk m W H) (hb : b < m.cost.length) (ha : a < m.cost.length) (hne : a ≠ b) (hi : (timesL m b).getD a 0 < 1073741824) :
    (nextL m a).find? (onB m b a) = some (hopN m b a) ∧ hopN m b a ∈ nextL m a ∧ (timesL m b).getD (hopN m b a) 0 + stepZ m a (hopN m b a) = (timesL m b).getD a 0 ∧ (timesL m b).getD (hopN m b a) 0 < (timesL m b).getD a 0 := by
  obtain ⟨h1, k, h2, h3, h4⟩ := (times_tight hm hb).via a ha hne hi
  have h5 := times_le hm hb ha (by omega) h2 h3
  have hs : ((nextL m a).find? (onB m b a)).isSome = true := by
    rw [List.find?_isSome]
    exact ⟨k, h2, by simp only [onB, decide_eq_true_eq]; omega⟩
  obtain ⟨x, hx⟩ := Option.isSome_iff_exists.1 hs
  have hh : hopN m b a = x := by rw [hopN, hx]; rfl
  rw [hh]
  have hxm := List.mem_of_find?_eq_some hx
  have hxp := List.find?_some hx
  simp only [onB, decide_eq_true_eq] at hxp
  have hst := stepZ_le hm a x
  have hcx := (next_mem.1 hxm).2.1
  exact ⟨hx, hxm, hxp, by omega⟩
def goR (m : Mp) (b : Nat) : Nat → Nat → List Nat
  | 0, _ => []
  | f + 1, a => if a = b then [] else hopN m b a :: goR m b f (hopN m b a)
/-- The best route. -/
def routeL (m : Mp) (a b : Nat) : List Nat := a :: goR m b ((timesL m b).getD a 0).toNat a
theorem goR_fuel {m : Mp} {W H b : Nat} (hm : MapOk m W H) (hb : b < m.cost.length) : ∀ (f g a : Nat), a < m.cost.length → (timesL m b).getD a 0 < 1073741824 → ((timesL m b).getD a 0).toNat ≤ f → ((timesL m b).getD a 0).toNat ≤ g → goR m b f a = goR m b g a
  | 0, 0, _, _, _, _, _ => rfl
  | 0, g + 1, a, ha, hi, hf, _ => by
    rw [goR, goR]
    by_cases e : a = b
    · rw [if_pos e]
    · have := hop_ok hm hb ha e hi
      have h0 := (times_inv hm hb).lo (hopN m b a)
      omega
  | f + 1, 0, a, ha, hi, _, hg => by
    rw [goR, goR]
    by_cases e : a = b
    · rw [if_pos e]
    · have := hop_ok hm hb ha e hi
      have h0 := (times_inv hm hb).lo (hopN m b a)
      omega
  | f + 1, g + 1, a, ha, hi, hf, hg => by
    rw [goR, goR]
    by_cases e : a = b
    · rw [if_pos e, if_pos e]
    · rw [if_neg e, if_neg e]
      obtain ⟨h1, h2, h3, h4⟩ := hop_ok hm hb ha e hi
      have h0 := (times_inv hm hb).lo (hopN m b a)
      rw [goR_fuel hm hb f g (hopN m b a) (next_lt _ h2) (by omega) (by omega) (by omega)]
def restR (m : Mp) (a b : Nat) : List Nat := goR m b ((timesL m b).getD a 0).toNat a
theorem rest_end (m : Mp) (b : Nat) : restR m b b = [] := by
  unfold restR
  cases ((timesL m b).getD b 0).toNat with
  | zero => rfl
  | succ n => rw [goR, if_pos rfl]
theorem rest_step {m : Mp} {W H a b : Nat} (hm : MapOk m W H) (hb : b < m.cost.length) (ha : a < m.cost.length) (hne : a ≠ b) (hi : (timesL m b).getD a 0 < 1073741824) : restR m a b = hopN m b a :: restR m (hopN m b a) b := by
  obtain ⟨h1, h2, h3, h4⟩ := hop_ok hm hb ha hne hi
  have h0 := (times_inv hm hb).lo (hopN m b a)
  unfold restR
  obtain ⟨n, hn⟩ : ∃ n, ((timesL m b).getD a 0).toNat = n + 1 := ⟨((timesL m b).getD a 0).toNat - 1, by omega⟩
  rw [hn, goR, if_neg hne, goR_fuel hm hb n _ _ (next_lt _ h2) (by omega) (by omega) (Nat.le_refl _)]
theorem route_eq (m : Mp) (a b : Nat) : routeL m a b = a :: restR m a b := rfl
/-- Each next to the one before. -/
def chainN (m : Mp) : List Nat → Prop
  | x :: y :: l => y ∈ nextL m x ∧ chainN m (y :: l)
  | _ => True
theorem chain_get {m : Mp} : ∀ {l : List Nat}, chainN m l → ∀ i (h : i + 1 < l.length), l[i + 1] ∈ nextL m (l[i]'(by omega))
  | [], _, _, h => by simp at h
  | [_], _, _, h => by simp at h
  | _ :: _ :: _, hc, 0, _ => hc.1
  | _ :: _ :: _, hc, i + 1, h => by
    simp only [List.getElem_cons_succ]
    exact chain_get hc.2 i (by simpa using h)
/-- A chain of cells, each next to the one before, with times that fall. -/
theorem rest_chain {m : Mp} {W H b : Nat} (hm : MapOk m W H) (hb : b < m.cost.length) : ∀ (N a : Nat), ((timesL m b).getD a 0).toNat ≤ N → a < m.cost.length → (timesL m b).getD a 0 < 1073741824 →
    (restR m a b).length ≤ N ∧ (∀ x ∈ restR m a b, x < m.cost.length ∧ 0 < costAt m x ∧ (timesL m b).getD x 0 < (timesL m b).getD a 0) ∧
    (a :: restR m a b).Pairwise (fun x y => (timesL m b).getD y 0 < (timesL m b).getD x 0) ∧ chainN m (a :: restR m a b) := by
  intro N
  induction N with
  | zero =>
    intro a hN ha hi
    by_cases e : a = b
    · subst e
      rw [rest_end]
      exact ⟨by simp, by simp, by simp, trivial⟩
    · have := hop_ok hm hb ha e hi
      have h0 := (times_inv hm hb).lo (hopN m b a)
      omega
  | succ N ih =>
    intro a hN ha hi
    by_cases e : a = b
    · subst e
      rw [rest_end]
      exact ⟨by simp, by simp, by simp, trivial⟩
    · obtain ⟨h1, h2, h3, h4⟩ := hop_ok hm hb ha e hi
      have h0 := (times_inv hm hb).lo (hopN m b a)
      obtain ⟨i1, i2, i3, i4⟩ := ih (hopN m b a) (by omega) (next_lt _ h2) (by omega)
      rw [rest_step hm hb ha e hi]
      refine ⟨by simp; omega, fun x hx => ?_, ?_, h2, i4⟩
      · rcases List.mem_cons.1 hx with rfl | hx
        · exact ⟨next_lt _ h2, (next_mem.1 h2).2.1, h4⟩
        · have := i2 x hx
          exact ⟨this.1, this.2.1, by omega⟩
      · rw [List.pairwise_cons]
        refine ⟨fun x hx => ?_, i3⟩
        rcases List.mem_cons.1 hx with rfl | hx
        · exact h4
        · have := i2 x hx; omega
end Go.Ori
/- Controls and courses: plain functions. No condition. -/
namespace Go.Ori
theorem at0_le {α : Type} {l : List α} {f : α → Bool} {k : Nat} {x : α} (h : (l.take k).any f = false) (hk : k < l.length) (hx : l[k] = x) (hf : f x = true) : idxB l f = k :=
  idxB_some hk (fun j hj hjk => by
    rw [List.any_eq_false] at h
    have := h l[j] (List.mem_take_iff_getElem.2 ⟨j, by omega, rfl⟩)
    simpa using this) (by rw [hx]; exact hf)
/-- Are the controls up to the i-th valid? -/
def ctlAt (m : Mp) (l : List Ctl) (i : Nat) : Bool := match l[i]? with
  | some c => insB c.code 31 99 && openB m c.cell && (decide (i = 0) || match l[i - 1]? with | some p => decide (p.code < c.code) | none => true) && !((l.take i).any fun x => x.cell == c.cell)
  | none => true
theorem ctlAt_eq {m : Mp} {l : List Ctl} {i : Nat} {c p : Ctl} (h : l[i]? = some c) (hp : l[i - 1]? = some p) : ctlAt m l i = (insB c.code 31 99 && openB m c.cell && (decide (i = 0) || decide (p.code < c.code)) && !((l.take i).any fun x => x.cell == c.cell)) := by
  simp [ctlAt, h, hp]
def ctlsB (m : Mp) (l : List Ctl) : Bool := mapB m && decide (l.length ≤ 10) && allB l.length (ctlAt m l)
theorem ctlsB_map {m : Mp} {l : List Ctl} (h : ctlsB m l = true) : mapB m = true := by
  simp only [ctlsB, Bool.and_eq_true] at h; exact h.1.1
theorem ctlsB_len {m : Mp} {l : List Ctl} (h : ctlsB m l = true) : l.length ≤ 10 := by
  simp only [ctlsB, Bool.and_eq_true, decide_eq_true_eq] at h; exact h.1.2
theorem openB_true {m : Mp} {c : Int} (h : openB m c = true) : ∃ k : Nat, c = k ∧ k < m.cost.length ∧ 0 < costAt m k := by
  simp only [openB, cellB, Bool.and_eq_true, decide_eq_true_eq, insB_true] at h
  exact ⟨c.toNat, by omega, by omega, h.2⟩
theorem ctlsB_open {m : Mp} {l : List Ctl} (h : ctlsB m l = true) {i : Nat} (hi : i < l.length) : openB m l[i].cell = true := by
  simp only [ctlsB, Bool.and_eq_true] at h
  have := allB_iff.1 h.2 i hi
  rw [ctlAt, List.getElem?_eq_getElem hi] at this
  simp only [Bool.and_eq_true] at this
  exact this.1.1.2
/-- Where the control with a code stands. -/
def hasK (l : List Ctl) (c : Int) : Bool := l.any fun x => x.code == c
def atK (l : List Ctl) (c : Int) : Nat := l.findIdx fun x => x.code == c
def cellK (l : List Ctl) (c : Int) : Int := (l[atK l c]?.map Ctl.cell).getD 0
def cellN (l : List Ctl) (c : Int) : Nat := (cellK l c).toNat
theorem idxK_no {l : List Ctl} {c : Int} (h : hasK l c = false) : (idxB l fun e => e.code == c) = -1 := by
  unfold idxB; rw [show (l.any fun e => e.code == c) = false from h]; rfl
theorem idxK_yes {l : List Ctl} {c : Int} (h : hasK l c = true) : (idxB l fun e => e.code == c) = (atK l c : Int) := by
  unfold idxB; rw [show (l.any fun e => e.code == c) = true from h]; rfl
theorem atK_lt {l : List Ctl} {c : Int} (h : hasK l c = true) : atK l c < l.length := by
  unfold atK
  rw [List.findIdx_lt_length]
  exact List.any_eq_true.1 h
theorem cellK_eq {l : List Ctl} {c : Int} (h : hasK l c = true) : cellK l c = (l[atK l c]'(atK_lt h)).cell := by
  simp [cellK, List.getElem?_eq_getElem (atK_lt h)]
theorem cellK_open {m : Mp} {l : List Ctl} {c : Int} (hg : ctlsB m l = true) (h : hasK l c = true) : cellK l c = (cellN l c : Int) ∧ cellN l c < m.cost.length ∧ 0 < costAt m (cellN l c) := by
  obtain ⟨k, h1, h2, h3⟩ := openB_true (ctlsB_open hg (atK_lt h))
  have e : cellK l c = k := by rw [cellK_eq h]; exact h1
  have e2 : cellN l c = k := by rw [cellN, e]; rfl
  rw [e2]
  exact ⟨e, h2, h3⟩
/-- Is the course up to the i-th code valid? -/
def crsAt (m : Mp) (l : List Ctl) (c : List Int) (i : Nat) : Bool := match c[i]? with
  | some x => hasK l x && (decide (i = 0) || match c[i - 1]? with | some p => decide (p ≠ x) && decide (timeB m (cellN l p) (cellN l x) < 1073741824) | none => true)
  | none => true
theorem crsAt_eq {m : Mp} {l : List Ctl} {c : List Int} {i : Nat} {x p : Int} (h : c[i]? = some x) (hp : c[i - 1]? = some p) : crsAt m l c i = (hasK l x && (decide (i = 0) || decide (p ≠ x) && decide (timeB m (cellN l p) (cellN l x) < 1073741824))) := by
  simp [crsAt, h, hp]
def crsB (m : Mp) (l : List Ctl) (c : List Int) : Bool := ctlsB m l && insB c.length 2 8 && allB c.length (crsAt m l c)
structure Crs (m : Mp) (l : List Ctl) (c : List Int) : Prop where
  good : ctlsB m l = true
  lo : 2 ≤ c.length
  hi : c.length ≤ 8
  has : ∀ i (h : i < c.length), hasK l c[i] = true
  ne : ∀ i (h : i + 1 < c.length), c[i] ≠ c[i + 1]
  way : ∀ i (h : i + 1 < c.length), timeB m (cellN l c[i]) (cellN l c[i + 1]) < 1073741824
theorem crsB_true {m : Mp} {l : List Ctl} {c : List Int} (h : crsB m l c = true) : Crs m l c := by
  simp only [crsB, Bool.and_eq_true, insB_true] at h
  obtain ⟨⟨h1, h2⟩, h3⟩ := h
  rw [allB_iff] at h3
  have hw : ∀ i (h : i + 1 < c.length), c[i] ≠ c[i + 1] ∧ timeB m (cellN l c[i]) (cellN l c[i + 1]) < 1073741824 := fun i hi => by
    have := h3 (i + 1) hi
    rw [crsAt_eq (List.getElem?_eq_getElem hi) (p := c[i]) (by simp [List.getElem?_eq_getElem (by omega : i < c.length)])] at this
    simp only [Bool.and_eq_true, Bool.or_eq_true, decide_eq_true_eq] at this
    obtain ⟨_, h | h⟩ := this
    · omega
    · exact h
  refine ⟨h1, by omega, by omega, fun i hi => ?_, fun i hi => (hw i hi).1, fun i hi => (hw i hi).2⟩
  have := h3 i hi
  rw [crsAt, List.getElem?_eq_getElem hi] at this
  simp only [Bool.and_eq_true] at this
  exact this.1
/-- The time of the i-th leg; the times of all. -/
def legT (m : Mp) (l : List Ctl) (c : List Int) (i : Nat) : Int := timeB m (cellN l (c.getD i 0)) (cellN l (c.getD (i + 1) 0))
def legsT (m : Mp) (l : List Ctl) (c : List Int) (k : Nat) : List Int := (List.range k).map (legT m l c)
theorem legsT_succ (m : Mp) (l : List Ctl) (c : List Int) (k : Nat) : legsT m l c (k + 1) = legsT m l c k ++ [legT m l c k] := by simp [legsT, List.range_succ]
theorem legsT_length (m : Mp) (l : List Ctl) (c : List Int) (k : Nat) : (legsT m l c k).length = k := by simp [legsT]
def legTimesL (m : Mp) (l : List Ctl) (c : List Int) : List Int := if crsB m l c then legsT m l c (c.length - 1) else []
theorem timeB_bd {m : Mp} {W H a b : Nat} (hm : MapOk m W H) (ha : a < m.cost.length) (hb : b < m.cost.length) (hi : timeB m a b < 1073741824) : 0 ≤ timeB m a b ∧ timeB m a b ≤ 1000 := by
  have h := times_inv hm hb
  have h1 := h.lo a
  have h2 := h.fin a ha hi
  have h3 := finN_le (timesL m b)
  rw [h.len] at h3
  have := hm.n36
  unfold timeB at hi ⊢
  omega
end Go.Ori
/- A map in memory: a struct of two numbers and two slices. No condition. -/
namespace Go
open RowKit Go.Ori
structure World.mp (w : World) (rv cv : Value) (m : Mp) : Prop where
  r : w.sl intC 1 rv m.rise
  c : w.sl intC 1 cv m.cost
  rl : m.rise.length ≤ 1048576
  cl : m.cost.length ≤ 1048576
theorem mp_up {w w' : World} {rv cv : Value} {m : Mp} (h : w.mp rv cv m) (hg : ∃ d, w' = w.ext d) : w'.mp rv cv m := ⟨sl_up intC_length h.r hg, sl_up intC_length h.c hg, h.rl, h.cl⟩
theorem mp_form {w : World} {rv cv : Value} {m : Mp} (h : w.mp rv cv m) : ∃ p c p' c', rv = .slice p m.rise.length c ∧ cv = .slice p' m.cost.length c' := by
  obtain ⟨p, c, h1, _⟩ := h.r
  obtain ⟨p', c', h2, _⟩ := h.c
  exact ⟨p, c, p', c', h1, h2⟩
structure MpIn (w : World) (m : Mp) (rv cv : Value) (b1 o1 c1 b2 o2 c2 : Nat) : Prop where
  rv : rv = .slice (some ⟨b1, o1, none⟩) m.cost.length c1
  cv : cv = .slice (some ⟨b2, o2, none⟩) m.cost.length c2
  ro : ∀ k, k < m.cost.length → w.cell? ⟨b1, o1 + k, none⟩ = some (.int .i64 (riseAt m k))
  co : ∀ k, k < m.cost.length → w.cell? ⟨b2, o2 + k, none⟩ = some (.int .i64 (costAt m k))
  ob1 : w.oldB b1
  ob2 : w.oldB b2
theorem mp_in {w : World} {rv cv : Value} {m : Mp} {W H : Nat} (h : w.mp rv cv m) (hm : MapOk m W H) : ∃ b1 o1 c1 b2 o2 c2, MpIn w m rv cv b1 o1 c1 b2 o2 c2 := by
  have hn : 0 < W * H := Nat.mul_pos hm.w1 hm.h1
  obtain ⟨p, c1, h1, h3⟩ := h.r
  obtain ⟨p', c2, h2, h4⟩ := h.c
  have hrl := hm.rl
  have hcl := hm.cl
  obtain ⟨b1, o1, rfl, e1⟩ := h3.1 (by omega)
  obtain ⟨b2, o2, rfl, e2⟩ := h4.1 (by omega)
  have q1 : ∀ k, k < m.cost.length → w.cell? ⟨b1, o1 + k, none⟩ = some (.int .i64 (riseAt m k)) := fun k hk => by
    have := e1 k (by omega) 0 (by omega)
    simpa [intC, riseAt, List.getD_eq_getElem?_getD, List.getElem?_eq_getElem (by omega : k < m.rise.length)] using this
  have q2 : ∀ k, k < m.cost.length → w.cell? ⟨b2, o2 + k, none⟩ = some (.int .i64 (costAt m k)) := fun k hk => by
    have := e2 k (by omega) 0 (by omega)
    simpa [intC, costAt, List.getD_eq_getElem?_getD, List.getElem?_eq_getElem hk] using this
  exact ⟨b1, o1, c1, b2, o2, c2, by rw [h1, hrl, hcl], h2, q1, q2, World.oldB_of_cell (q1 0 (by omega)), World.oldB_of_cell (q2 0 (by omega))⟩
end Go
