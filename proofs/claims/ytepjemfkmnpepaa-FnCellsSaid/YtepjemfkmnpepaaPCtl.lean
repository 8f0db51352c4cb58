/- Controls and courses: plain functions. No condition. -/
import Derived.Test.YtepjemfkmnpepaaPRoute
namespace Go.Ori
theorem at0_le {α : Type} {l : List α} {f : α → Bool} {k : Nat} {x : α} (h : (l.take k).any f = false) (hk : k < l.length) (hx : l[k] = x) (hf : f x = true) : idxB l f = k :=
  idxB_some hk (fun j hj hjk => by
    rw [List.any_eq_false] at h
    have := h l[j] (List.mem_take_iff_getElem.2 ⟨j, by omega, rfl⟩)
    simpa using this) (by rw [hx]; exact hf)
/-- Are the controls up to the i-th valid? -/
def ctlAt (m : Mp) (l : List Ctl) (i : Nat) : Bool := match l[i]? with
  | some c => insB c.code 31 99 && openB m c.cell && (decide (i = 0) || match l[i - 1]? with | some p => decide (p.code < c.code) | none => true) && !((l.take i).any fun x => x.cell == c.cell)
  | none => true
theorem ctlAt_eq {m : Mp} {l : List Ctl} {i : Nat} {c p : Ctl} (h : l[i]? = some c) (hp : l[i - 1]? = some p) : ctlAt m l i = (insB c.code 31 99 && openB m c.cell && (decide (i = 0) || decide (p.code < c.code)) && !((l.take i).any fun x => x.cell == c.cell)) := by
  simp [ctlAt, h, hp]
def ctlsB (m : Mp) (l : List Ctl) : Bool := mapB m && decide (l.length ≤ 10) && allB l.length (ctlAt m l)
theorem ctlsB_map {m : Mp} {l : List Ctl} (h : ctlsB m l = true) : mapB m = true := by
  simp only [ctlsB, Bool.and_eq_true] at h; exact h.1.1
theorem ctlsB_len {m : Mp} {l : List Ctl} (h : ctlsB m l = true) : l.length ≤ 10 := by
  simp only [ctlsB, Bool.and_eq_true, decide_eq_true_eq] at h; exact h.1.2
theorem openB_true {m : Mp} {c : Int} (h : openB m c = true) : ∃ k : Nat, c = k ∧ k < m.cost.length ∧ 0 < costAt m k := by
  simp only [openB, cellB, Bool.and_eq_true, decide_eq_true_eq, insB_true] at h
  exact ⟨c.toNat, by omega, by omega, h.2⟩
theorem ctlsB_open {m : Mp} {l : List Ctl} (h : ctlsB m l = true) {i : Nat} (hi : i < l.length) : openB m l[i].cell = true := by
  simp only [ctlsB, Bool.and_eq_true] at h
  have := allB_iff.1 h.2 i hi
  rw [ctlAt, List.getElem?_eq_getElem hi] at this
  simp only [Bool.and_eq_true] at this
  exact this.1.1.2
/-- Where the control with a code stands. -/
def hasK (l : List Ctl) (c : Int) : Bool := l.any fun x => x.code == c
def atK (l : List Ctl) (c : Int) : Nat := l.findIdx fun x => x.code == c
def cellK (l : List Ctl) (c : Int) : Int := (l[atK l c]?.map Ctl.cell).getD 0
def cellN (l : List Ctl) (c : Int) : Nat := (cellK l c).toNat
theorem idxK_no {l : List Ctl} {c : Int} (h : hasK l c = false) : (idxB l fun e => e.code == c) = -1 := by
  unfold idxB; rw [show (l.any fun e => e.code == c) = false from h]; rfl
theorem idxK_yes {l : List Ctl} {c : Int} (h : hasK l c = true) : (idxB l fun e => e.code == c) = (atK l c : Int) := by
  unfold idxB; rw [show (l.any fun e => e.code == c) = true from h]; rfl
theorem atK_lt {l : List Ctl} {c : Int} (h : hasK l c = true) : atK l c < l.length := by
  unfold atK
  rw [List.findIdx_lt_length]
  exact List.any_eq_true.1 h
theorem cellK_eq {l : List Ctl} {c : Int} (h : hasK l c = true) : cellK l c = (l[atK l c]'(atK_lt h)).cell := by
  simp [cellK, List.getElem?_eq_getElem (atK_lt h)]
theorem cellK_open {m : Mp} {l : List Ctl} {c : Int} (hg : ctlsB m l = true) (h : hasK l c = true) : cellK l c = (cellN l c : Int) ∧ cellN l c < m.cost.length ∧ 0 < costAt m (cellN l c) := by
  obtain ⟨k, h1, h2, h3⟩ := openB_true (ctlsB_open hg (atK_lt h))
  have e : cellK l c = k := by rw [cellK_eq h]; exact h1
  have e2 : cellN l c = k := by rw [cellN, e]; rfl
  rw [e2]
  exact ⟨e, h2, h3⟩
/-- Is the course up to the i-th code valid? -/
def crsAt (m : Mp) (l : List Ctl) (c : List Int) (i : Nat) : Bool := match c[i]? with
  | some x => hasK l x && (decide (i = 0) || match c[i - 1]? with | some p => decide (p ≠ x) && decide (timeB m (cellN l p) (cellN l x) < 1073741824) | none => true)
  | none => true
theorem crsAt_eq {m : Mp} {l : List Ctl} {c : List Int} {i : Nat} {x p : Int} (h : c[i]? = some x) (hp : c[i - 1]? = some p) : crsAt m l c i = (hasK l x && (decide (i = 0) || decide (p ≠ x) && decide (timeB m (cellN l p) (cellN l x) < 1073741824))) := by
  simp [crsAt, h, hp]
def crsB (m : Mp) (l : List Ctl) (c : List Int) : Bool := ctlsB m l && insB c.length 2 8 && allB c.length (crsAt m l c)
structure Crs (m : Mp) (l : List Ctl) (c : List Int) : Prop where
  good : ctlsB m l = true
  lo : 2 ≤ c.length
  hi : c.length ≤ 8
  has : ∀ i (h : i < c.length), hasK l c[i] = true
  ne : ∀ i (h : i + 1 < c.length), c[i] ≠ c[i + 1]
  way : ∀ i (h : i + 1 < c.length), timeB m (cellN l c[i]) (cellN l c[i + 1]) < 1073741824
theorem crsB_true {m : Mp} {l : List Ctl} {c : List Int} (h : crsB m l c = true) : Crs m l c := by
  simp only [crsB, Bool.and_eq_true, insB_true] at h
  obtain ⟨⟨h1, h2⟩, h3⟩ := h
  rw [allB_iff] at h3
  have hw : ∀ i (h : i + 1 < c.length), c[i] ≠ c[i + 1] ∧ timeB m (cellN l c[i]) (cellN l c[i + 1]) < 1073741824 := fun i hi => by
    have := h3 (i + 1) hi
    rw [crsAt_eq (List.getElem?_eq_getElem hi) (p := c[i]) (by simp [List.getElem?_eq_getElem (by omega : i < c.length)])] at this
    simp only [Bool.and_eq_true, Bool.or_eq_true, decide_eq_true_eq] at this
    obtain ⟨_, h | h⟩ := this
    · omega
    · exact h
  refine ⟨h1, by omega, by omega, fun i hi => ?_, fun i hi => (hw i hi).1, fun i hi => (hw i hi).2⟩
  have := h3 i hi
  rw [crsAt, List.getElem?_eq_getElem hi] at this
  simp only [Bool.and_eq_true] at this
  exact this.1
/-- The time of the i-th leg; the times of all. -/
def legT (m : Mp) (l : List Ctl) (c : List Int) (i : Nat) : Int := timeB m (cellN l (c.getD i 0)) (cellN l (c.getD (i + 1) 0))
def legsT (m : Mp) (l : List Ctl) (c : List Int) (k : Nat) : List Int := (List.range k).map (legT m l c)
theorem legsT_succ (m : Mp) (l : List Ctl) (c : List Int) (k : Nat) : legsT m l c (k + 1) = legsT m l c k ++ [legT m l c k] := by simp [legsT, List.range_succ]
theorem legsT_length (m : Mp) (l : List Ctl) (c : List Int) (k : Nat) : (legsT m l c k).length = k := by simp [legsT]
def legTimesL (m : Mp) (l : List Ctl) (c : List Int) : List Int := if crsB m l c then legsT m l c (c.length - 1) else []
theorem timeB_bd {m : Mp} {W H a b : Nat} (hm : MapOk m W H) (ha : a < m.cost.length) (hb : b < m.cost.length) (hi : timeB m a b < 1073741824) : 0 ≤ timeB m a b ∧ timeB m a b ≤ 1000 := by
  have h := times_inv hm hb
  have h1 := h.lo a
  have h2 := h.fin a ha hi
  have h3 := finN_le (timesL m b)
  rw [h.len] at h3
  have := hm.n36
  unfold timeB at hi ⊢
  omega
end Go.Ori
