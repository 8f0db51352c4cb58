/- Texts laid together: Controls in the order of their codes: plain functions. No condition.; Moved controls, recoded controls: plain functions, plain law. No condition. -/
import Derived.Test.YtedpckkoaioooaaG7
/- Controls in the order of their codes: plain functions. No condition. -/
namespace Go.Ori
abbrev ctlLe (a b : Ctl) : Bool := decide (a.code ≤ b.code)
def sortC (l : List Ctl) : List Ctl := l.mergeSort ctlLe
def AscC (l : List Ctl) : Prop := l.Pairwise fun a b => a.code ≤ b.code
theorem sortC_asc (l : List Ctl) : AscC (sortC l) := by
  have h := List.pairwise_mergeSort (le := ctlLe) (fun a b c h1 h2 => by simp only [ctlLe, decide_eq_true_eq] at *; omega) (fun a b => by simp only [ctlLe, Bool.or_eq_true, decide_eq_true_eq]; omega) l
  exact h.imp fun h => by simpa [ctlLe] using h
theorem sortC_perm (l : List Ctl) : (sortC l).Perm l := List.mergeSort_perm l ctlLe
/-- The codes of valid controls rise. -/
theorem ctlsB_rise {m : Mp} {l : List Ctl} (h : ctlsB m l = true) {i : Nat} (hi : i + 1 < l.length) : l[i].code < l[i + 1].code := by
  simp only [ctlsB, Bool.and_eq_true] at h
  have := allB_iff.1 h.2 (i + 1) hi
  rw [ctlAt_eq (List.getElem?_eq_getElem hi) (p := l[i]) (by simp [List.getElem?_eq_getElem (by omega : i < l.length)])] at this
  simp only [Bool.and_eq_true, Bool.or_eq_true, decide_eq_true_eq] at this
  rcases this.1.2 with e | e
  · omega
  · exact e
theorem ctlsB_lt {m : Mp} {l : List Ctl} (h : ctlsB m l = true) : ∀ {i j : Nat} (hj : j < l.length) (hij : i < j), l[i].code < l[j].code := by
  intro i j
  induction j with
  | zero => intro _ hij; omega
  | succ j ih =>
    intro hj hij
    have h1 := ctlsB_rise h hj
    rcases (by omega : i < j ∨ i = j) with e | rfl
    · have := ih (by omega) e; omega
    · exact h1
theorem ctlsB_pair {m : Mp} {l : List Ctl} (h : ctlsB m l = true) : l.Pairwise fun a b => a.code < b.code :=
  List.pairwise_iff_getElem.2 fun _ _ _ hj hij => ctlsB_lt h hj hij
theorem ctlsB_cell {m : Mp} {l : List Ctl} (h : ctlsB m l = true) {i j : Nat} (hj : j < l.length) (hij : i < j) : l[i].cell ≠ l[j].cell := by
  simp only [ctlsB, Bool.and_eq_true] at h
  have := allB_iff.1 h.2 j hj
  rw [ctlAt, List.getElem?_eq_getElem hj] at this
  simp only [Bool.and_eq_true, Bool.not_eq_true'] at this
  have h2 := this.2
  rw [List.any_eq_false] at h2
  have := h2 l[i] (List.mem_take_iff_getElem.2 ⟨i, by omega, rfl⟩)
  simpa using this
theorem same_code {l : List Ctl} (h : l.Pairwise fun a b => a.code < b.code) {a b : Ctl} (ha : a ∈ l) (hb : b ∈ l) (he : a.code = b.code) : a = b := by
  obtain ⟨i, hi, rfl⟩ := List.getElem_of_mem ha
  obtain ⟨j, hj, rfl⟩ := List.getElem_of_mem hb
  rw [List.pairwise_iff_getElem] at h
  rcases Nat.lt_trichotomy i j with e | rfl | e
  · have := h i j hi hj e; omega
  · rfl
  · have := h j i hj hi e; omega
/-- Two lists of the same controls in the order of their codes are the same, if one of them is valid. -/
theorem asc_eq {m : Mp} {r s : List Ctl} (hp : r.Perm s) (h1 : AscC r) (h2 : AscC s) (hr : ctlsB m r = true) : r = s := by
  refine List.Perm.eq_of_pairwise (le := fun a b : Ctl => a.code ≤ b.code) (fun a b ha hb hab hba => ?_) h1 h2 hp
  exact same_code (ctlsB_pair hr) ha (hp.mem_iff.2 hb) (by omega)
theorem asc_sort {m : Mp} {r l : List Ctl} (hp : r.Perm l) (h1 : AscC r) : ctlsB m r = ctlsB m (sortC l) ∧ (ctlsB m r = true → r = sortC l) := by
  have hq : r.Perm (sortC l) := hp.trans (sortC_perm l).symm
  have h2 := sortC_asc l
  refine ⟨?_, fun h => asc_eq hq h1 h2 h⟩
  cases h : ctlsB m r with
  | true => rw [← asc_eq hq h1 h2 h, h]
  | false =>
    cases h' : ctlsB m (sortC l) with
    | false => rfl
    | true => rw [← asc_eq hq.symm h2 h1 h', h'] at h; cases h
theorem ctlsB_asc {m : Mp} {l : List Ctl} (h : ctlsB m l = true) : AscC l := (ctlsB_pair h).imp fun h => Int.le_of_lt h
theorem sortC_self {m : Mp} {l : List Ctl} (h : ctlsB m l = true) : sortC l = l := ((asc_sort (List.Perm.refl l) (ctlsB_asc h)).2 h).symm
/-- One of the controls is another one; in the order of their codes; if that is valid. -/
def wCB (m : Mp) (l : List Ctl) (i : Nat) (c : Ctl) : Bool := ctlsB m (sortC (l.set i c))
def wCL (m : Mp) (l : List Ctl) (i : Nat) (c : Ctl) : List Ctl := if wCB m l i c then sortC (l.set i c) else []
theorem wC_of {m : Mp} {l r : List Ctl} {i : Nat} {c : Ctl} (hp : r.Perm (l.set i c)) (h1 : AscC r) : ctlsB m r = wCB m l i c ∧ (wCB m l i c = true → r = wCL m l i c) := by
  obtain ⟨h2, h3⟩ := asc_sort (m := m) hp h1
  refine ⟨h2, fun h => ?_⟩
  rw [wCL, if_pos h]
  exact h3 (h2.trans h)
theorem wCL_no {m : Mp} {l : List Ctl} {i : Nat} {c : Ctl} (h : wCB m l i c = false) : wCL m l i c = [] := by simp [wCL, h]
def movB (m : Mp) (l : List Ctl) (code cell : Int) : Bool := ctlsB m l && hasK l code && wCB m l (atK l code) ⟨code, cell⟩
def movL (m : Mp) (l : List Ctl) (code cell : Int) : List Ctl := if movB m l code cell then wCL m l (atK l code) ⟨code, cell⟩ else []
def recB (m : Mp) (l : List Ctl) (code to : Int) : Bool := ctlsB m l && hasK l code && wCB m l (atK l code) ⟨to, cellK l code⟩
def recL (m : Mp) (l : List Ctl) (code to : Int) : List Ctl := if recB m l code to then wCL m l (atK l code) ⟨to, cellK l code⟩ else []
theorem movL_no {m : Mp} {l : List Ctl} {code cell : Int} (h : movB m l code cell = false) : movL m l code cell = [] := by simp [movL, h]
theorem recL_no {m : Mp} {l : List Ctl} {code cell : Int} (h : recB m l code cell = false) : recL m l code cell = [] := by simp [recL, h]
theorem atK_code {l : List Ctl} {c : Int} (h : hasK l c = true) : (l[atK l c]'(atK_lt h)).code = c := by
  have := List.findIdx_getElem (p := fun x : Ctl => x.code == c) (xs := l) (w := atK_lt h)
  exact eq_of_beq this
/-- The controls of which one has the same code as before are in their order. -/
theorem set_asc {m : Mp} {l : List Ctl} (h : ctlsB m l = true) {i : Nat} (hi : i < l.length) {c : Ctl} (hc : c.code = l[i].code) : AscC (l.set i c) := by
  refine List.pairwise_iff_getElem.2 fun a b ha hb hab => ?_
  rw [List.length_set] at ha hb
  have e : ∀ k (hk : k < l.length), ((l.set i c)[k]'(by rw [List.length_set]; exact hk)).code = l[k].code := fun k hk => by
    rw [List.getElem_set]
    split
    · rename_i e; subst e; exact hc
    · rfl
  rw [e a ha, e b hb]
  exact Int.le_of_lt (ctlsB_lt h hb hab)
theorem mov_set {m : Mp} {l : List Ctl} {code cell : Int} (h : ctlsB m l = true) (hk : hasK l code = true) : ctlsB m (l.set (atK l code) ⟨code, cell⟩) = wCB m l (atK l code) ⟨code, cell⟩ ∧ (wCB m l (atK l code) ⟨code, cell⟩ = true → l.set (atK l code) ⟨code, cell⟩ = wCL m l (atK l code) ⟨code, cell⟩) :=
  wC_of (List.Perm.refl _) (set_asc h (atK_lt hk) (atK_code hk).symm)
theorem set_perm {l : List Ctl} {i : Nat} (hi : i < l.length) (c : Ctl) : (l.set i c).Perm (c :: (l.take i ++ l.drop (i + 1))) := by
  rw [List.set_eq_take_append_cons_drop, if_pos hi]
  exact List.perm_middle
/-- Where a control with a code is laid among others in their order. -/
theorem ins_asc {rest : List Ctl} (h : AscC rest) {k : Nat} (hk : k ≤ rest.length) {c : Ctl} (h1 : ∀ j (hj : j < rest.length), j < k → rest[j].code < c.code) (h2 : ∀ (hk : k < rest.length), ¬ rest[k].code < c.code) : AscC (rest.take k ++ [c] ++ rest.drop k) := by
  have hh := List.pairwise_iff_getElem.1 h
  unfold AscC
  rw [List.append_assoc, List.pairwise_append]
  refine ⟨List.Pairwise.sublist (List.take_sublist _ _) h, ?_, ?_⟩
  · rw [List.singleton_append, List.pairwise_cons]
    refine ⟨fun a ha => ?_, List.Pairwise.sublist (List.drop_sublist _ _) h⟩
    obtain ⟨j, hj, rfl⟩ := List.getElem_of_mem ha
    rw [List.length_drop] at hj
    rw [List.getElem_drop]
    have h3 := h2 (by omega)
    by_cases e : j = 0
    · subst e; simp only [Nat.add_zero]; omega
    · have := hh k (k + j) (by omega) (by omega) (by omega); omega
  · intro a ha b hb
    obtain ⟨j, hj, rfl⟩ := List.mem_take_iff_getElem.1 ha
    rw [List.singleton_append, List.mem_cons] at hb
    rcases hb with rfl | hb
    · exact Int.le_of_lt (h1 j (by omega) (by omega))
    · obtain ⟨t, ht, rfl⟩ := List.getElem_of_mem hb
      rw [List.length_drop] at ht
      rw [List.getElem_drop]
      exact hh j (k + t) (by omega) (by omega) (by omega)
theorem ins_perm {rest : List Ctl} (k : Nat) (c : Ctl) : (rest.take k ++ [c] ++ rest.drop k).Perm (c :: rest) := by
  rw [List.append_assoc, List.singleton_append]
  refine List.perm_middle.trans ?_
  rw [List.take_append_drop]
theorem rec_ins {m : Mp} {l : List Ctl} (h : ctlsB m l = true) {i : Nat} (hi : i < l.length) {c : Ctl} {k : Nat} (hk : k ≤ (l.take i ++ l.drop (i + 1)).length) (h1 : ∀ j (hj : j < (l.take i ++ l.drop (i + 1)).length), j < k → (l.take i ++ l.drop (i + 1))[j].code < c.code) (h2 : ∀ (hk : k < (l.take i ++ l.drop (i + 1)).length), ¬ (l.take i ++ l.drop (i + 1))[k].code < c.code) :
    ctlsB m ((l.take i ++ l.drop (i + 1)).take k ++ [c] ++ (l.take i ++ l.drop (i + 1)).drop k) = wCB m l i c ∧ (wCB m l i c = true → (l.take i ++ l.drop (i + 1)).take k ++ [c] ++ (l.take i ++ l.drop (i + 1)).drop k = wCL m l i c) := by
  refine wC_of ((ins_perm _ _).trans (set_perm hi c).symm) (ins_asc ?_ hk h1 h2)
  have : (l.take i ++ l.drop (i + 1)).Sublist l := by
    have := List.Sublist.append (List.Sublist.refl (l.take i)) (List.drop_sublist 1 (l.drop i))
    rwa [List.drop_drop, List.take_append_drop] at this
  exact List.Pairwise.sublist this (ctlsB_asc h)
end Go.Ori
/- Moved controls, recoded controls: plain functions, plain law. No condition. -/
namespace Go.Ori
def cocB (m : Mp) (l : List Ctl) (c : Int) : Bool := ctlsB m l && hasK l c
def cocI (m : Mp) (l : List Ctl) (c : Int) : Int := if cocB m l c then cellK l c else 0
theorem cocI_yes {m : Mp} {l : List Ctl} {c : Int} (h : cocB m l c = true) : cocI m l c = cellK l c := by simp [cocI, h]
theorem cocI_no {m : Mp} {l : List Ctl} {c : Int} (h : cocB m l c = false) : cocI m l c = 0 := by simp [cocI, h]
def hasC (l : List Ctl) (c : Int) : Bool := l.any fun x => x.cell == c
def atC (l : List Ctl) (c : Int) : Nat := l.findIdx fun x => x.cell == c
def codB (m : Mp) (l : List Ctl) (c : Int) : Bool := ctlsB m l && hasC l c
def codI (m : Mp) (l : List Ctl) (c : Int) : Int := if codB m l c then (l[atC l c]?.map Ctl.code).getD 0 else 0
theorem codI_no {m : Mp} {l : List Ctl} {c : Int} (h : codB m l c = false) : codI m l c = 0 := by simp [codI, h]
theorem idxC_no {l : List Ctl} {c : Int} (h : hasC l c = false) : (idxB l fun e => e.cell == c) = -1 := by
  unfold idxB; rw [show (l.any fun e => e.cell == c) = false from h]; rfl
theorem idxC_yes {l : List Ctl} {c : Int} (h : hasC l c = true) : (idxB l fun e => e.cell == c) = (atC l c : Int) := by
  unfold idxB; rw [show (l.any fun e => e.cell == c) = true from h]; rfl
theorem atC_lt {l : List Ctl} {c : Int} (h : hasC l c = true) : atC l c < l.length := by
  unfold atC
  rw [List.findIdx_lt_length]
  exact List.any_eq_true.1 h
theorem codI_yes {m : Mp} {l : List Ctl} {c : Int} (h : codB m l c = true) (hl : atC l c < l.length) : codI m l c = l[atC l c].code := by
  simp [codI, h, List.getElem?_eq_getElem hl]
theorem hasC_cell {m : Mp} {l : List Ctl} {c : Int} (hg : ctlsB m l = true) (h : hasC l c = true) : cellB m c = true := by
  obtain ⟨x, hx, he⟩ := List.any_eq_true.1 h
  obtain ⟨i, hi, rfl⟩ := List.getElem_of_mem hx
  have := ctlsB_open hg hi
  rw [eq_of_beq he] at this
  simp only [openB, Bool.and_eq_true] at this
  exact this.1
theorem atK_self {l : List Ctl} (h : l.Pairwise fun a b => a.code < b.code) {i : Nat} (hi : i < l.length) : hasK l l[i].code = true ∧ atK l l[i].code = i := by
  have hk : hasK l l[i].code = true := List.any_eq_true.2 ⟨l[i], List.getElem_mem hi, by simp⟩
  refine ⟨hk, ?_⟩
  have hc := atK_code hk
  have hlt := atK_lt hk
  obtain ⟨j, hj⟩ : ∃ j, atK l l[i].code = j := ⟨_, rfl⟩
  simp only [hj] at hc hlt ⊢
  rw [List.pairwise_iff_getElem] at h
  rcases Nat.lt_trichotomy i j with e | e | e
  · have := h i j hi hlt e; omega
  · exact e.symm
  · have := h j i hlt hi e; omega
theorem ctl_ext {c : Ctl} {a b : Int} (h1 : c.code = a) (h2 : c.cell = b) : c = ⟨a, b⟩ := by cases c; simp_all
theorem set_same {l : List Ctl} {i : Nat} (hi : i < l.length) {c : Ctl} (h : l[i] = c) : l.set i c = l := by rw [← h, List.set_getElem_self]
/-- What a moved control is like. -/
theorem mov_facts {m : Mp} {l : List Ctl} {code cell : Int} (h : movB m l code cell = true) :
    cocB m l code = true ∧ movB m (movL m l code cell) code (cellK l code) = true ∧ movL m (movL m l code cell) code (cellK l code) = l ∧ codB m (movL m l code cell) cell = true ∧ codI m (movL m l code cell) cell = code := by
  have h0 := h
  simp only [movB, Bool.and_eq_true] at h
  obtain ⟨⟨hg, hk⟩, hw⟩ := h
  have hi := atK_lt hk
  have hc := atK_code hk
  have hce := cellK_eq hk
  obtain ⟨m1, m2⟩ := mov_set (cell := cell) hg hk
  have ho : movL m l code cell = l.set (atK l code) ⟨code, cell⟩ := by rw [movL, if_pos h0, m2 hw]
  have hog : ctlsB m (l.set (atK l code) ⟨code, cell⟩) = true := m1.trans hw
  rw [ho]
  obtain ⟨i, hie⟩ : ∃ i, atK l code = i := ⟨_, rfl⟩
  simp only [hie] at hi hc hce hog ho ⊢
  have hio : i < (l.set i ⟨code, cell⟩).length := by rw [List.length_set]; exact hi
  have hoi : (l.set i ⟨code, cell⟩)[i] = ⟨code, cell⟩ := List.getElem_set_self hio
  obtain ⟨k1, k2⟩ := atK_self (ctlsB_pair hog) hio
  rw [hoi] at k1 k2
  have hback : (l.set i ⟨code, cell⟩).set i ⟨code, cellK l code⟩ = l := by
    rw [List.set_set]
    exact set_same hi (ctl_ext hc hce.symm)
  obtain ⟨n1, n2⟩ := mov_set (cell := cellK l code) hog k1
  simp only [k2] at n1 n2
  rw [hback, hg] at n1
  rw [hback] at n2
  have hB : movB m (l.set i ⟨code, cell⟩) code (cellK l code) = true := by
    simp only [movB, Bool.and_eq_true]
    exact ⟨⟨hog, k1⟩, by simp only [k2]; exact n1.symm⟩
  have hC : hasC (l.set i ⟨code, cell⟩) cell = true := List.any_eq_true.2 ⟨_, List.getElem_mem hio, by rw [hoi]; simp⟩
  have hCB : codB m (l.set i ⟨code, cell⟩) cell = true := by simp [codB, hog, hC]
  refine ⟨by simp [cocB, hg, hk], hB, ?_, hCB, ?_⟩
  · rw [movL, if_pos hB]; simp only [k2]; exact (n2 n1.symm).symm
  · have hlt := atC_lt hC
    rw [codI_yes hCB hlt]
    have hcc : ((l.set i ⟨code, cell⟩)[atC (l.set i ⟨code, cell⟩) cell]).cell = cell := by
      have := List.findIdx_getElem (p := fun x : Ctl => x.cell == cell) (xs := l.set i ⟨code, cell⟩) (w := hlt)
      exact eq_of_beq this
    obtain ⟨j, hje⟩ : ∃ j, atC (l.set i ⟨code, cell⟩) cell = j := ⟨_, rfl⟩
    simp only [hje] at hlt hcc ⊢
    have hoc : ((l.set i ⟨code, cell⟩)[i]).cell = cell := by rw [hoi]
    rcases Nat.lt_trichotomy i j with e | rfl | e
    · have := ctlsB_cell hog hlt e; exact absurd (hoc.trans hcc.symm) this
    · rw [hoi]
    · have := ctlsB_cell hog hio e; exact absurd (hcc.trans hoc.symm) this
theorem set_swap {z z0 : List Ctl} {i j : Nat} (hp : z.Perm z0) (hj : j < z.length) (hi : i < z0.length) (he : z[j] = z0[i]) (c : Ctl) : (z.set j c).Perm (z0.set i c) := by
  have h1 : z.Perm (z[j] :: (z.take j ++ z.drop (j + 1))) := by
    have := set_perm hj z[j]
    rwa [List.set_getElem_self] at this
  have h2 : z0.Perm (z0[i] :: (z0.take i ++ z0.drop (i + 1))) := by
    have := set_perm hi z0[i]
    rwa [List.set_getElem_self] at this
  have h3 : (z.take j ++ z.drop (j + 1)).Perm (z0.take i ++ z0.drop (i + 1)) := by
    have := h1.symm.trans (hp.trans h2)
    rw [he] at this
    exact this.cons_inv
  exact (set_perm hj c).trans ((h3.cons c).trans (set_perm hi c).symm)
/-- What a recoded control is like. -/
theorem rec_facts {m : Mp} {l : List Ctl} {old to : Int} (h : recB m l old to = true) :
    cocB m l old = true ∧ cocB m (recL m l old to) to = true ∧ cellK (recL m l old to) to = cellK l old ∧ recB m (recL m l old to) to old = true ∧ recL m (recL m l old to) to old = l := by
  have h0 := h
  simp only [recB, Bool.and_eq_true] at h
  obtain ⟨⟨hg, hk⟩, hw⟩ := h
  have hi := atK_lt hk
  have hc := atK_code hk
  have hce := cellK_eq hk
  have hz : recL m l old to = sortC (l.set (atK l old) ⟨to, cellK l old⟩) := by rw [recL, if_pos h0, wCL, if_pos hw]
  have hzg : ctlsB m (recL m l old to) = true := by rw [hz]; exact hw
  have hzp : (recL m l old to).Perm (l.set (atK l old) ⟨to, cellK l old⟩) := by rw [hz]; exact sortC_perm _
  generalize recL m l old to = z at hzg hzp
  obtain ⟨i, hie⟩ : ∃ i, atK l old = i := ⟨_, rfl⟩
  simp only [hie] at hi hc hce hzp
  have hio : i < (l.set i ⟨to, cellK l old⟩).length := by rw [List.length_set]; exact hi
  have hoi : (l.set i ⟨to, cellK l old⟩)[i] = ⟨to, cellK l old⟩ := List.getElem_set_self hio
  have hmem : (⟨to, cellK l old⟩ : Ctl) ∈ z := hzp.mem_iff.2 (List.mem_iff_getElem.2 ⟨i, hio, hoi⟩)
  obtain ⟨j, hj, hje⟩ := List.getElem_of_mem hmem
  obtain ⟨k1, k2⟩ := atK_self (ctlsB_pair hzg) hj
  rw [hje] at k1 k2
  simp only at k1 k2
  have hcz : cellK z to = cellK l old := by
    rw [cellK_eq k1]
    simp only [k2, hje]
  have hcB : cocB m z to = true := by simp [cocB, hzg, k1]
  have hsp : (z.set j ⟨old, cellK l old⟩).Perm l := by
    have := set_swap hzp hj hio (hje.trans hoi.symm) ⟨old, cellK l old⟩
    rw [List.set_set] at this
    rwa [set_same hi (ctl_ext hc hce.symm)] at this
  have hs : sortC (z.set j ⟨old, cellK l old⟩) = l := by
    exact (asc_eq (m := m) (hsp.symm.trans (sortC_perm _).symm) (ctlsB_asc hg) (sortC_asc _) hg).symm
  have hB : recB m z to old = true := by
    simp only [recB, Bool.and_eq_true, wCB]
    exact ⟨⟨hzg, k1⟩, by simp only [k2, hcz, hs]; exact hg⟩
  refine ⟨by simp [cocB, hg, hk], hcB, hcz, hB, ?_⟩
  rw [recL, if_pos hB, wCL, if_pos (by simp only [wCB, k2, hcz, hs]; exact hg)]
  simp only [k2, hcz, hs]
end Go.Ori
