/- Texts laid together: The best order of a course's controls: courses. No condition.; Entries: when a list of them is valid. No condition. -/
import Derived.Test.YtmcimgnobimicaaG4
import Derived.Test.YtmcimgnobimicaaG8
import Derived.Test.YtmcimgnobimicaaG9
import Derived.Test.YtmcimgnobimicaaG23
import Derived.Test.YtmcimgnobimicaaG2
/- The best order of a course's controls: courses. No condition. -/
namespace Go.Ori
/-- The time from a control to another one. -/
def tmT (m : Mp) (l : List Ctl) (a b : Int) : Int := max (timeB m (cellN l a) (cellN l b)) 0
theorem tmT_pos (m : Mp) (l : List Ctl) (a b : Int) : 0 ≤ tmT m l a b := by unfold tmT; omega
/-- Codes that stand for controls which can all be reached from one another. -/
structure GoodO (m : Mp) (l : List Ctl) (fin : Int) (begun left : List Int) : Prop where
  good : ctlsB m l = true
  has : ∀ x ∈ begun ++ left ++ [fin], hasK l x = true
  way : ∀ x ∈ begun ++ left ++ [fin], ∀ y ∈ begun ++ left ++ [fin], timeB m (cellN l x) (cellN l y) < 1073741824
  nd : (begun ++ left ++ [fin]).Nodup
  len : begun.length + left.length ≤ 6
  ne : begun ≠ []
theorem GoodO.leaf {m : Mp} {l : List Ctl} {fin : Int} {begun : List Int} (h : GoodO m l fin begun []) : Crs m l (begun ++ [fin]) := by
  have e : begun ++ [] ++ [fin] = begun ++ [fin] := by simp
  have h1 := h.has
  have h2 := h.way
  have h3 := h.nd
  have h4 := h.len
  have h5 := List.length_pos_iff.2 h.ne
  rw [e] at h1 h2 h3
  simp only [List.length_nil, Nat.add_zero] at h4
  have hl : (begun ++ [fin]).length = begun.length + 1 := by simp
  refine ⟨h.good, by omega, by omega, fun i hi => h1 _ (List.getElem_mem hi), fun i hi => ?_, fun i hi => h2 _ (List.getElem_mem _) _ (List.getElem_mem _)⟩
  have hp := List.pairwise_iff_getElem.1 (List.nodup_iff_pairwise_ne.1 h3)
  exact hp i (i + 1) (by omega) hi (by omega)
theorem perm_step {begun left : List Int} {fin : Int} {k : Nat} (hk : k < left.length) : ((begun ++ [left[k]]) ++ left.eraseIdx k ++ [fin]).Perm (begun ++ left ++ [fin]) := by
  have hp : (left[k] :: left.eraseIdx k).Perm left := by
    rw [List.eraseIdx_eq_take_drop_succ]
    have hl : left = left.take k ++ left[k] :: left.drop (k + 1) := by rw [← List.drop_eq_getElem_cons hk, List.take_append_drop]
    conv => rhs; rw [hl]
    exact List.perm_middle.symm
  refine List.Perm.append_right _ ?_
  rw [List.append_assoc]
  exact List.Perm.append_left _ (by simpa using hp)
theorem GoodO.step {m : Mp} {l : List Ctl} {fin : Int} {begun left : List Int} (h : GoodO m l fin begun left) {k : Nat} (hk : k < left.length) : GoodO m l fin (begun ++ [left[k]]) (left.eraseIdx k) := by
  have hp := perm_step (begun := begun) (fin := fin) hk
  exact ⟨h.good, fun x hx => h.has x (hp.mem_iff.1 hx), fun x hx y hy => h.way x (hp.mem_iff.1 hx) y (hp.mem_iff.1 hy), hp.nodup_iff.2 h.nd, by
    have := h.len
    rw [List.length_append, List.length_eraseIdx, if_pos hk]
    simp only [List.length_cons, List.length_nil]
    omega, by simp⟩
theorem sumZ_cons (x : Int) (l : List Int) : sumZ (x :: l) = x + sumZ l := by simp [sumZ, sumK]
/-- The legs of a course, added up. -/
theorem sumT_crs {m : Mp} {l : List Ctl} : ∀ (t : List Int), (∀ i (h : i + 1 < t.length), 0 ≤ timeB m (cellN l t[i]) (cellN l t[i + 1])) → sumZ (legsT m l t (t.length - 1)) = sumT (tmT m l) t
  | [], _ => rfl
  | [a], _ => rfl
  | a :: b :: t, h => by
    have ih := sumT_crs (m := m) (l := l) (b :: t) (fun i hi => by
      have := h (i + 1) (by simp only [List.length_cons] at hi ⊢; omega)
      simpa using this)
    have h0 := h 0 (by simp)
    simp only [List.getElem_cons_zero, List.getElem_cons_succ] at h0
    have e : legsT m l (a :: b :: t) ((a :: b :: t).length - 1) = timeB m (cellN l a) (cellN l b) :: legsT m l (b :: t) ((b :: t).length - 1) := by
      unfold legsT
      simp only [List.length_cons, Nat.add_sub_cancel]
      rw [List.range_succ_eq_map, List.map_cons, List.map_map]
      exact List.cons_eq_cons.2 ⟨by simp [legT], List.map_congr_left fun i _ => by simp [legT]⟩
    rw [e, sumZ_cons, ih]
    simp only [sumT, tmT]
    omega
end Go.Ori
/- Entries: when a list of them is valid. No condition. -/
namespace Go.Ori
def entB (e : Ent) : Bool := insB e.runner 1 999 && insB e.cls 1 99 && insB e.day 0 365 && insB e.paid 0 100000
def entOk (l : List Ent) (k : Nat) : Bool := match l[k]?, l[k - 1]? with
  | some e, some e' => entB e && (decide (k = 0) || decide (e'.runner < e.runner))
  | _, _ => true
theorem entOk_eq {l : List Ent} {k : Nat} {e e' : Ent} (h : l[k]? = some e) (h' : l[k - 1]? = some e') : entOk l k = (entB e && (decide (k = 0) || decide (e'.runner < e.runner))) := by
  simp [entOk, h, h']
def entsB (l : List Ent) : Bool := allB l.length (entOk l) && decide (l.length ≤ 12)
/-- The late runners among the first k entries. -/
def lateN (l : List Ent) (k : Nat) : List Int := ((l.take k).filter fun e => decide (300 ≤ e.day)).map Ent.runner
theorem lateN_zero (l : List Ent) : lateN l 0 = [] := by simp [lateN]
theorem lateN_succ {l : List Ent} {k : Nat} (h : k < l.length) : lateN l (k + 1) = lateN l k ++ if 300 ≤ l[k].day then [l[k].runner] else [] := by
  unfold lateN
  rw [List.take_succ_eq_append_getElem h, List.filter_append, List.map_append]
  congr 1
  by_cases h1 : 300 ≤ l[k].day <;> simp [h1]
theorem lateN_length (l : List Ent) (k : Nat) : (lateN l k).length ≤ k := by
  unfold lateN
  rw [List.length_map]
  exact Nat.le_trans (List.length_filter_le _ _) (by rw [List.length_take]; omega)
def lateL (l : List Ent) : List Int := if entsB l then lateN l l.length else []
theorem entsB_len {l : List Ent} (h : entsB l = true) : l.length ≤ 12 := by
  simp only [entsB, Bool.and_eq_true, decide_eq_true_eq] at h
  exact h.2
theorem lateL_length (l : List Ent) : (lateL l).length ≤ 1048576 := by
  unfold lateL
  split
  · rename_i h
    have := entsB_len h
    have := lateN_length l l.length
    omega
  · simp
/-- The list in which an entry is replaced, if it is valid. -/
def withB (l : List Ent) (i : Nat) (e : Ent) : Bool := entsB (l.set i e)
def withL (l : List Ent) (i : Nat) (e : Ent) : List Ent := if withB l i e then l.set i e else []
theorem withL_length (l : List Ent) (i : Nat) (e : Ent) : (withL l i e).length ≤ l.length := by
  unfold withL
  split <;> simp
/-- The index of a runner's entry. -/
def atR (l : List Ent) (r : Int) : Nat := l.findIdx fun e => e.runner == r
def hasR (l : List Ent) (r : Int) : Bool := l.any fun e => e.runner == r
theorem idx_no {l : List Ent} {r : Int} (h : hasR l r = false) : (idxB l fun e => e.runner == r) = -1 := by
  unfold idxB; rw [show (l.any fun e => e.runner == r) = false from h]; rfl
theorem idx_yes {l : List Ent} {r : Int} (h : hasR l r = true) : (idxB l fun e => e.runner == r) = (atR l r : Int) := by
  unfold idxB; rw [show (l.any fun e => e.runner == r) = true from h]; rfl
theorem atR_lt {l : List Ent} {r : Int} (h : hasR l r = true) : atR l r < l.length := by
  unfold atR
  rw [List.findIdx_lt_length]
  exact List.any_eq_true.1 h
theorem entsB_at {l : List Ent} (h : entsB l = true) {k : Nat} (hk : k < l.length) : entB l[k] = true := by
  simp only [entsB, Bool.and_eq_true, allB_iff] at h
  have := h.1 k hk
  rw [entOk_eq (List.getElem?_eq_getElem hk) (List.getElem?_eq_getElem (by omega)), Bool.and_eq_true] at this
  exact this.1
theorem entB_paid {e : Ent} (h : entB e = true) : 0 ≤ e.paid ∧ e.paid ≤ 100000 := by
  simp only [entB, Bool.and_eq_true, insB_true] at h
  exact h.2
def payE (e : Ent) (c : Int) : Ent := ⟨e.runner, e.cls, e.day, e.rent, e.paid + c⟩
def payB (l : List Ent) (r c : Int) : Bool := entsB l && hasR l r && insB c 1 100000 && (match l[atR l r]? with | some e => withB l (atR l r) (payE e c) | none => false)
def payL (l : List Ent) (r c : Int) : List Ent := match l[atR l r]? with | some e => if payB l r c then l.set (atR l r) (payE e c) else [] | none => []
theorem pay_no {l : List Ent} {r c : Int} (h : (entsB l && hasR l r && insB c 1 100000) = false) : payB l r c = false ∧ payL l r c = [] := by
  have h1 : payB l r c = false := by simp [payB, h]
  refine ⟨h1, ?_⟩
  unfold payL
  rw [h1]
  split <;> simp
theorem pay_yes {l : List Ent} {r c : Int} (h1 : entsB l = true) (h2 : hasR l r = true) (h3 : insB c 1 100000 = true) :
    payB l r c = withB l (atR l r) (payE (l[atR l r]'(atR_lt h2)) c) ∧ payL l r c = withL l (atR l r) (payE (l[atR l r]'(atR_lt h2)) c) := by
  have e1 : payB l r c = withB l (atR l r) (payE (l[atR l r]'(atR_lt h2)) c) := by
    simp [payB, h1, h2, h3, List.getElem?_eq_getElem (atR_lt h2)]
  refine ⟨e1, ?_⟩
  unfold payL withL
  rw [List.getElem?_eq_getElem (atR_lt h2), e1]
theorem payL_length (l : List Ent) (r c : Int) (hl : l.length ≤ 1048576) : (payL l r c).length ≤ 1048576 := by
  unfold payL
  split
  · split <;> simp [hl]
  · simp
def chE (e : Ent) (c d : Int) : Ent := ⟨e.runner, c, d, e.rent, e.paid⟩
def chOk (l : List Ent) (r d : Int) : Bool := entsB l && hasR l r && (match l[atR l r]? with | some e => decide (e.day ≤ d) | none => false)
def chB (l : List Ent) (r c d : Int) : Bool := chOk l r d && (match l[atR l r]? with | some e => withB l (atR l r) (chE e c d) | none => false)
def chL (l : List Ent) (r c d : Int) : List Ent := match l[atR l r]? with | some e => if chB l r c d then l.set (atR l r) (chE e c d) else [] | none => []
theorem chOk_at {l : List Ent} {r d : Int} (h1 : entsB l = true) (h2 : hasR l r = true) : chOk l r d = decide ((l[atR l r]'(atR_lt h2)).day ≤ d) := by
  simp [chOk, h1, h2, List.getElem?_eq_getElem (atR_lt h2)]
theorem ch_no {l : List Ent} {r d : Int} (c : Int) (h : chOk l r d = false) : chB l r c d = false ∧ chL l r c d = [] := by
  have h1 : chB l r c d = false := by simp [chB, h]
  refine ⟨h1, ?_⟩
  unfold chL
  rw [h1]
  split <;> simp
theorem ch_yes {l : List Ent} {r d : Int} (c : Int) (h2 : hasR l r = true) (h3 : chOk l r d = true) :
    chB l r c d = withB l (atR l r) (chE (l[atR l r]'(atR_lt h2)) c d) ∧ chL l r c d = withL l (atR l r) (chE (l[atR l r]'(atR_lt h2)) c d) := by
  have e1 : chB l r c d = withB l (atR l r) (chE (l[atR l r]'(atR_lt h2)) c d) := by
    simp [chB, h3, List.getElem?_eq_getElem (atR_lt h2)]
  refine ⟨e1, ?_⟩
  unfold chL withL
  rw [List.getElem?_eq_getElem (atR_lt h2), e1]
theorem chL_length (l : List Ent) (r c d : Int) (hl : l.length ≤ 1048576) : (chL l r c d).length ≤ 1048576 := by
  unfold chL
  split
  · split <;> simp [hl]
  · simp
/-- The list without the entry of a runner, and what is paid back. -/
def refOk (l : List Ent) (r d : Int) : Bool := insB d 0 365 && chOk l r d
def refL (l : List Ent) (r d : Int) : List Ent := if refOk l r d then l.take (atR l r) ++ l.drop (atR l r + 1) else []
def refI (l : List Ent) (r d : Int) : Int := if refOk l r d then (match l[atR l r]? with | some e => if 300 ≤ d then e.paid / 2 else e.paid | none => 0) else 0
theorem ref_no {l : List Ent} {r d : Int} (h : refOk l r d = false) : refI l r d = 0 ∧ refL l r d = [] := by simp [refI, refL, h]
theorem ref_yes {l : List Ent} {r d : Int} (h2 : hasR l r = true) (h3 : refOk l r d = true) :
    refI l r d = (if 300 ≤ d then (l[atR l r]'(atR_lt h2)).paid / 2 else (l[atR l r]'(atR_lt h2)).paid) ∧ refL l r d = l.take (atR l r) ++ l.drop (atR l r + 1) := by
  simp [refI, refL, h3, List.getElem?_eq_getElem (atR_lt h2)]
theorem refL_length (l : List Ent) (r d : Int) (hl : l.length ≤ 1048576) : (refL l r d).length ≤ 1048576 := by
  unfold refL
  split
  · simp; omega
  · simp
end Go.Ori
