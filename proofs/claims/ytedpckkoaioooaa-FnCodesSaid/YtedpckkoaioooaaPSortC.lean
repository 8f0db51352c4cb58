/- Controls in the order of their codes: plain functions. No condition. -/
import Derived.Test.YtedpckkoaioooaaPCtl
namespace Go.Ori
abbrev ctlLe (a b : Ctl) : Bool := decide (a.code ≤ b.code)
def sortC (l : List Ctl) : List Ctl := l.mergeSort ctlLe
def AscC (l : List Ctl) : Prop := l.Pairwise fun a b => a.code ≤ b.code
theorem sortC_asc (l : List Ctl) : AscC (sortC l) := by
  have h := List.pairwise_mergeSort (le := ctlLe) (fun a b c h1 h2 => by simp only [ctlLe, decide_eq_true_eq] at *; omega) (fun a b => by simp only [ctlLe, Bool.or_eq_true, decide_eq_true_eq]; omega) l
  exact h.imp fun h => by simpa [ctlLe] using h
theorem sortC_perm (l : List Ctl) : (sortC l).Perm l := List.mergeSort_perm l ctlLe
/-- The codes of valid controls rise. -/
theorem ctlsB_rise {m : Mp} {l : List Ctl} (h : ctlsB m l = true) {i : Nat} (hi : i + 1 < l.length) : l[i].code < l[i + 1].code := by
  simp only [ctlsB, Bool.and_eq_true] at h
  have := allB_iff.1 h.2 (i + 1) hi
  rw [ctlAt_eq (List.getElem?_eq_getElem hi) (p := l[i]) (by simp [List.getElem?_eq_getElem (by omega : i < l.length)])] at this
  simp only [Bool.and_eq_true, Bool.or_eq_true, decide_eq_true_eq] at this
  rcases this.1.2 with e | e
  · omega
  · exact e
theorem ctlsB_lt {m : Mp} {l : List Ctl} (h : ctlsB m l = true) : ∀ {i j : Nat} (hj : j < l.length) (hij : i < j), l[i].code < l[j].code := by
  intro i j
  induction j with
  | zero => intro _ hij; omega
  | succ j ih =>
    intro hj hij
    have h1 := ctlsB_rise h hj
    rcases (by omega : i < j ∨ i = j) with e | rfl
    · have := ih (by omega) e; omega
    · exact h1
theorem ctlsB_pair {m : Mp} {l : List Ctl} (h : ctlsB m l = true) : l.Pairwise fun a b => a.code < b.code :=
  List.pairwise_iff_getElem.2 fun _ _ _ hj hij => ctlsB_lt h hj hij
theorem ctlsB_cell {m : Mp} {l : List Ctl} (h : ctlsB m l = true) {i j : Nat} (hj : j < l.length) (hij : i < j) : l[i].cell ≠ l[j].cell := by
  simp only [ctlsB, Bool.and_eq_true] at h
  have := allB_iff.1 h.2 j hj
  rw [ctlAt, List.getElem?_eq_getElem hj] at this
  simp only [Bool.and_eq_true, Bool.not_eq_true'] at this
  have h2 := this.2
  rw [List.any_eq_false] at h2
  have := h2 l[i] (List.mem_take_iff_getElem.2 ⟨i, by omega, rfl⟩)
  simpa using this
theorem same_code {l : List Ctl} (h : l.Pairwise fun a b => a.code < b.code) {a b : Ctl} (ha : a ∈ l) (hb : b ∈ l) (he : a.code = b.code) : a = b := by
  obtain ⟨i, hi, rfl⟩ := List.getElem_of_mem ha
  obtain ⟨j, hj, rfl⟩ := List.getElem_of_mem hb
  rw [List.pairwise_iff_getElem] at h
  rcases Nat.lt_trichotomy i j with e | rfl | e
  · have := h i j hi hj e; omega
  · rfl
  · have := h j i hj hi e; omega
/-- Two lists of the same controls in the order of their codes are the same, if one of them is valid. -/
theorem asc_eq {m : Mp} {r s : List Ctl} (hp : r.Perm s) (h1 : AscC r) (h2 : AscC s) (hr : ctlsB m r = true) : r = s := by
  refine List.Perm.eq_of_pairwise (le := fun a b : Ctl => a.code ≤ b.code) (fun a b ha hb hab hba => ?_) h1 h2 hp
  exact same_code (ctlsB_pair hr) ha (hp.mem_iff.2 hb) (by omega)
theorem asc_sort {m : Mp} {r l : List Ctl} (hp : r.Perm l) (h1 : AscC r) : ctlsB m r = ctlsB m (sortC l) ∧ (ctlsB m r = true → r = sortC l) := by
  have hq : r.Perm (sortC l) := hp.trans (sortC_perm l).symm
  have h2 := sortC_asc l
  refine ⟨?_, fun h => asc_eq hq h1 h2 h⟩
  cases h : ctlsB m r with
  | true => rw [← asc_eq hq h1 h2 h, h]
  | false =>
    cases h' : ctlsB m (sortC l) with
    | false => rfl
    | true => rw [← asc_eq hq.symm h2 h1 h', h'] at h; cases h
theorem ctlsB_asc {m : Mp} {l : List Ctl} (h : ctlsB m l = true) : AscC l := (ctlsB_pair h).imp fun h => Int.le_of_lt h
theorem sortC_self {m : Mp} {l : List Ctl} (h : ctlsB m l = true) : sortC l = l := ((asc_sort (List.Perm.refl l) (ctlsB_asc h)).2 h).symm
/-- One of the controls is another one; in the order of their codes; if that is valid. -/
def wCB (m : Mp) (l : List Ctl) (i : Nat) (c : Ctl) : Bool := ctlsB m (sortC (l.set i c))
def wCL (m : Mp) (l : List Ctl) (i : Nat) (c : Ctl) : List Ctl := if wCB m l i c then sortC (l.set i c) else []
theorem wC_of {m : Mp} {l r : List Ctl} {i : Nat} {c : Ctl} (hp : r.Perm (l.set i c)) (h1 : AscC r) : ctlsB m r = wCB m l i c ∧ (wCB m l i c = true → r = wCL m l i c) := by
  obtain ⟨h2, h3⟩ := asc_sort (m := m) hp h1
  refine ⟨h2, fun h => ?_⟩
  rw [wCL, if_pos h]
  exact h3 (h2.trans h)
theorem wCL_no {m : Mp} {l : List Ctl} {i : Nat} {c : Ctl} (h : wCB m l i c = false) : wCL m l i c = [] := by simp [wCL, h]
def movB (m : Mp) (l : List Ctl) (code cell : Int) : Bool := ctlsB m l && hasK l code && wCB m l (atK l code) ⟨code, cell⟩
def movL (m : Mp) (l : List Ctl) (code cell : Int) : List Ctl := if movB m l code cell then wCL m l (atK l code) ⟨code, cell⟩ else []
def recB (m : Mp) (l : List Ctl) (code to : Int) : Bool := ctlsB m l && hasK l code && wCB m l (atK l code) ⟨to, cellK l code⟩
def recL (m : Mp) (l : List Ctl) (code to : Int) : List Ctl := if recB m l code to then wCL m l (atK l code) ⟨to, cellK l code⟩ else []
theorem movL_no {m : Mp} {l : List Ctl} {code cell : Int} (h : movB m l code cell = false) : movL m l code cell = [] := by simp [movL, h]
theorem recL_no {m : Mp} {l : List Ctl} {code cell : Int} (h : recB m l code cell = false) : recL m l code cell = [] := by simp [recL, h]
theorem atK_code {l : List Ctl} {c : Int} (h : hasK l c = true) : (l[atK l c]'(atK_lt h)).code = c := by
  have := List.findIdx_getElem (p := fun x : Ctl => x.code == c) (xs := l) (w := atK_lt h)
  exact eq_of_beq this
/-- The controls of which one has the same code as before are in their order. -/
theorem set_asc {m : Mp} {l : List Ctl} (h : ctlsB m l = true) {i : Nat} (hi : i < l.length) {c : Ctl} (hc : c.code = l[i].code) : AscC (l.set i c) := by
  refine List.pairwise_iff_getElem.2 fun a b ha hb hab => ?_
  rw [List.length_set] at ha hb
  have e : ∀ k (hk : k < l.length), ((l.set i c)[k]'(by rw [List.length_set]; exact hk)).code = l[k].code := fun k hk => by
    rw [List.getElem_set]
    split
    · rename_i e; subst e; exact hc
    · rfl
  rw [e a ha, e b hb]
  exact Int.le_of_lt (ctlsB_lt h hb hab)
theorem mov_set {m : Mp} {l : List Ctl} {code cell : Int} (h : ctlsB m l = true) (hk : hasK l code = true) : ctlsB m (l.set (atK l code) ⟨code, cell⟩) = wCB m l (atK l code) ⟨code, cell⟩ ∧ (wCB m l (atK l code) ⟨code, cell⟩ = true → l.set (atK l code) ⟨code, cell⟩ = wCL m l (atK l code) ⟨code, cell⟩) :=
  wC_of (List.Perm.refl _) (set_asc h (atK_lt hk) (atK_code hk).symm)
theorem set_perm {l : List Ctl} {i : Nat} (hi : i < l.length) (c : Ctl) : (l.set i c).Perm (c :: (l.take i ++ l.drop (i + 1))) := by
  rw [List.set_eq_take_append_cons_drop, if_pos hi]
  exact List.perm_middle
/-- Where a control with a code is laid among others in their order. -/
theorem ins_asc {rest : List Ctl} (h : AscC rest) {k : Nat} (hk : k ≤ rest.length) {c : Ctl} (h1 : ∀ j (hj : j < rest.length), j < k → rest[j].code < c.code) (h2 : ∀ (hk : k < rest.length), ¬ rest[k].code < c.code) : AscC (rest.take k ++ [c] ++ rest.drop k) := by
  have hh := List.pairwise_iff_getElem.1 h
  unfold AscC
  rw [List.append_assoc, List.pairwise_append]
  refine ⟨List.Pairwise.sublist (List.take_sublist _ _) h, ?_, ?_⟩
  · rw [List.singleton_append, List.pairwise_cons]
    refine ⟨fun a ha => ?_, List.Pairwise.sublist (List.drop_sublist _ _) h⟩
    obtain ⟨j, hj, rfl⟩ := List.getElem_of_mem ha
    rw [List.length_drop] at hj
    rw [List.getElem_drop]
    have h3 := h2 (by omega)
    by_cases e : j = 0
    · subst e; simp only [Nat.add_zero]; omega
    · have := hh k (k + j) (by omega) (by omega) (by omega); omega
  · intro a ha b hb
    obtain ⟨j, hj, rfl⟩ := List.mem_take_iff_getElem.1 ha
    rw [List.singleton_append, List.mem_cons] at hb
    rcases hb with rfl | hb
    · exact Int.le_of_lt (h1 j (by omega) (by omega))
    · obtain ⟨t, ht, rfl⟩ := List.getElem_of_mem hb
      rw [List.length_drop] at ht
      rw [List.getElem_drop]
      exact hh j (k + t) (by omega) (by omega) (by omega)
theorem ins_perm {rest : List Ctl} (k : Nat) (c : Ctl) : (rest.take k ++ [c] ++ rest.drop k).Perm (c :: rest) := by
  rw [List.append_assoc, List.singleton_append]
  refine List.perm_middle.trans ?_
  rw [List.take_append_drop]
theorem rec_ins {m : Mp} {l : List Ctl} (h : ctlsB m l = true) {i : Nat} (hi : i < l.length) {c : Ctl} {k : Nat} (hk : k ≤ (l.take i ++ l.drop (i + 1)).length) (h1 : ∀ j (hj : j < (l.take i ++ l.drop (i + 1)).length), j < k → (l.take i ++ l.drop (i + 1))[j].code < c.code) (h2 : ∀ (hk : k < (l.take i ++ l.drop (i + 1)).length), ¬ (l.take i ++ l.drop (i + 1))[k].code < c.code) :
    ctlsB m ((l.take i ++ l.drop (i + 1)).take k ++ [c] ++ (l.take i ++ l.drop (i + 1)).drop k) = wCB m l i c ∧ (wCB m l i c = true → (l.take i ++ l.drop (i + 1)).take k ++ [c] ++ (l.take i ++ l.drop (i + 1)).drop k = wCL m l i c) := by
  refine wC_of ((ins_perm _ _).trans (set_perm hi c).symm) (ins_asc ?_ hk h1 h2)
  have : (l.take i ++ l.drop (i + 1)).Sublist l := by
    have := List.Sublist.append (List.Sublist.refl (l.take i)) (List.drop_sublist 1 (l.drop i))
    rwa [List.drop_drop, List.take_append_drop] at this
  exact List.Pairwise.sublist this (ctlsB_asc h)
end Go.Ori
