/- Moved controls, recoded controls: plain functions, plain law. No condition. -/
import Derived.Test.YtedpckkoaioooaaPSortC
namespace Go.Ori
def cocB (m : Mp) (l : List Ctl) (c : Int) : Bool := ctlsB m l && hasK l c
def cocI (m : Mp) (l : List Ctl) (c : Int) : Int := if cocB m l c then cellK l c else 0
theorem cocI_yes {m : Mp} {l : List Ctl} {c : Int} (h : cocB m l c = true) : cocI m l c = cellK l c := by simp [cocI, h]
theorem cocI_no {m : Mp} {l : List Ctl} {c : Int} (h : cocB m l c = false) : cocI m l c = 0 := by simp [cocI, h]
def hasC (l : List Ctl) (c : Int) : Bool := l.any fun x => x.cell == c
def atC (l : List Ctl) (c : Int) : Nat := l.findIdx fun x => x.cell == c
def codB (m : Mp) (l : List Ctl) (c : Int) : Bool := ctlsB m l && hasC l c
def codI (m : Mp) (l : List Ctl) (c : Int) : Int := if codB m l c then (l[atC l c]?.map Ctl.code).getD 0 else 0
theorem codI_no {m : Mp} {l : List Ctl} {c : Int} (h : codB m l c = false) : codI m l c = 0 := by simp [codI, h]
theorem idxC_no {l : List Ctl} {c : Int} (h : hasC l c = false) : (idxB l fun e => e.cell == c) = -1 := by
  unfold idxB; rw [show (l.any fun e => e.cell == c) = false from h]; rfl
theorem idxC_yes {l : List Ctl} {c : Int} (h : hasC l c = true) : (idxB l fun e => e.cell == c) = (atC l c : Int) := by
  unfold idxB; rw [show (l.any fun e => e.cell == c) = true from h]; rfl
theorem atC_lt {l : List Ctl} {c : Int} (h : hasC l c = true) : atC l c < l.length := by
  unfold atC
  rw [List.findIdx_lt_length]
  exact List.any_eq_true.1 h
theorem codI_yes {m : Mp} {l : List Ctl} {c : Int} (h : codB m l c = true) (hl : atC l c < l.length) : codI m l c = l[atC l c].code := by
  simp [codI, h, List.getElem?_eq_getElem hl]
theorem hasC_cell {m : Mp} {l : List Ctl} {c : Int} (hg : ctlsB m l = true) (h : hasC l c = true) : cellB m c = true := by
  obtain ⟨x, hx, he⟩ := List.any_eq_true.1 h
  obtain ⟨i, hi, rfl⟩ := List.getElem_of_mem hx
  have := ctlsB_open hg hi
  rw [eq_of_beq he] at this
  simp only [openB, Bool.and_eq_true] at this
  exact this.1
theorem atK_self {l : List Ctl} (h : l.Pairwise fun a b => a.code < b.code) {i : Nat} (hi : i < l.length) : hasK l l[i].code = true ∧ atK l l[i].code = i := by
  have hk : hasK l l[i].code = true := List.any_eq_true.2 ⟨l[i], List.getElem_mem hi, by simp⟩
  refine ⟨hk, ?_⟩
  have hc := atK_code hk
  have hlt := atK_lt hk
  obtain ⟨j, hj⟩ : ∃ j, atK l l[i].code = j := ⟨_, rfl⟩
  simp only [hj] at hc hlt ⊢
  rw [List.pairwise_iff_getElem] at h
  rcases Nat.lt_trichotomy i j with e | e | e
  · have := h i j hi hlt e; omega
  · exact e.symm
  · have := h j i hlt hi e; omega
theorem ctl_ext {c : Ctl} {a b : Int} (h1 : c.code = a) (h2 : c.cell = b) : c = ⟨a, b⟩ := by cases c; simp_all
theorem set_same {l : List Ctl} {i : Nat} (hi : i < l.length) {c : Ctl} (h : l[i] = c) : l.set i c = l := by rw [← h, List.set_getElem_self]
/-- What a moved control is like. -/
theorem mov_facts {m : Mp} {l : List Ctl} {code cell : Int} (h : movB m l code cell = true) :
    cocB m l code = true ∧ movB m (movL m l code cell) code (cellK l code) = true ∧ movL m (movL m l code cell) code (cellK l code) = l ∧ codB m (movL m l code cell) cell = true ∧ codI m (movL m l code cell) cell = code := by
  have h0 := h
  simp only [movB, Bool.and_eq_true] at h
  obtain ⟨⟨hg, hk⟩, hw⟩ := h
  have hi := atK_lt hk
  have hc := atK_code hk
  have hce := cellK_eq hk
  obtain ⟨m1, m2⟩ := mov_set (cell := cell) hg hk
  have ho : movL m l code cell = l.set (atK l code) ⟨code, cell⟩ := by rw [movL, if_pos h0, m2 hw]
  have hog : ctlsB m (l.set (atK l code) ⟨code, cell⟩) = true := m1.trans hw
  rw [ho]
  obtain ⟨i, hie⟩ : ∃ i, atK l code = i := ⟨_, rfl⟩
  simp only [hie] at hi hc hce hog ho ⊢
  have hio : i < (l.set i ⟨code, cell⟩).length := by rw [List.length_set]; exact hi
  have hoi : (l.set i ⟨code, cell⟩)[i] = ⟨code, cell⟩ := List.getElem_set_self hio
  obtain ⟨k1, k2⟩ := atK_self (ctlsB_pair hog) hio
  rw [hoi] at k1 k2
  have hback : (l.set i ⟨code, cell⟩).set i ⟨code, cellK l code⟩ = l := by
    rw [List.set_set]
    exact set_same hi (ctl_ext hc hce.symm)
  obtain ⟨n1, n2⟩ := mov_set (cell := cellK l code) hog k1
  simp only [k2] at n1 n2
  rw [hback, hg] at n1
  rw [hback] at n2
  have hB : movB m (l.set i ⟨code, cell⟩) code (cellK l code) = true := by
    simp only [movB, Bool.and_eq_true]
    exact ⟨⟨hog, k1⟩, by simp only [k2]; exact n1.symm⟩
  have hC : hasC (l.set i ⟨code, cell⟩) cell = true := List.any_eq_true.2 ⟨_, List.getElem_mem hio, by rw [hoi]; simp⟩
  have hCB : codB m (l.set i ⟨code, cell⟩) cell = true := by simp [codB, hog, hC]
  refine ⟨by simp [cocB, hg, hk], hB, ?_, hCB, ?_⟩
  · rw [movL, if_pos hB]; simp only [k2]; exact (n2 n1.symm).symm
  · have hlt := atC_lt hC
    rw [codI_yes hCB hlt]
    have hcc : ((l.set i ⟨code, cell⟩)[atC (l.set i ⟨code, cell⟩) cell]).cell = cell := by
      have := List.findIdx_getElem (p := fun x : Ctl => x.cell == cell) (xs := l.set i ⟨code, cell⟩) (w := hlt)
      exact eq_of_beq this
    obtain ⟨j, hje⟩ : ∃ j, atC (l.set i ⟨code, cell⟩) cell = j := ⟨_, rfl⟩
    simp only [hje] at hlt hcc ⊢
    have hoc : ((l.set i ⟨code, cell⟩)[i]).cell = cell := by rw [hoi]
    rcases Nat.lt_trichotomy i j with e | rfl | e
    · have := ctlsB_cell hog hlt e; exact absurd (hoc.trans hcc.symm) this
    · rw [hoi]
    · have := ctlsB_cell hog hio e; exact absurd (hcc.trans hoc.symm) this
theorem set_swap {z z0 : List Ctl} {i j : Nat} (hp : z.Perm z0) (hj : j < z.length) (hi : i < z0.length) (he : z[j] = z0[i]) (c : Ctl) : (z.set j c).Perm (z0.set i c) := by
  have h1 : z.Perm (z[j] :: (z.take j ++ z.drop (j + 1))) := by
    have := set_perm hj z[j]
    rwa [List.set_getElem_self] at this
  have h2 : z0.Perm (z0[i] :: (z0.take i ++ z0.drop (i + 1))) := by
    have := set_perm hi z0[i]
    rwa [List.set_getElem_self] at this
  have h3 : (z.take j ++ z.drop (j + 1)).Perm (z0.take i ++ z0.drop (i + 1)) := by
    have := h1.symm.trans (hp.trans h2)
    rw [he] at this
    exact this.cons_inv
  exact (set_perm hj c).trans ((h3.cons c).trans (set_perm hi c).symm)
/-- What a recoded control is like. -/
theorem rec_facts {m : Mp} {l : List Ctl} {old to : Int} (h : recB m l old to = true) :
    cocB m l old = true ∧ cocB m (recL m l old to) to = true ∧ cellK (recL m l old to) to = cellK l old ∧ recB m (recL m l old to) to old = true ∧ recL m (recL m l old to) to old = l := by
  have h0 := h
  simp only [recB, Bool.and_eq_true] at h
  obtain ⟨⟨hg, hk⟩, hw⟩ := h
  have hi := atK_lt hk
  have hc := atK_code hk
  have hce := cellK_eq hk
  have hz : recL m l old to = sortC (l.set (atK l old) ⟨to, cellK l old⟩) := by rw [recL, if_pos h0, wCL, if_pos hw]
  have hzg : ctlsB m (recL m l old to) = true := by rw [hz]; exact hw
  have hzp : (recL m l old to).Perm (l.set (atK l old) ⟨to, cellK l old⟩) := by rw [hz]; exact sortC_perm _
  generalize recL m l old to = z at hzg hzp
  obtain ⟨i, hie⟩ : ∃ i, atK l old = i := ⟨_, rfl⟩
  simp only [hie] at hi hc hce hzp
  have hio : i < (l.set i ⟨to, cellK l old⟩).length := by rw [List.length_set]; exact hi
  have hoi : (l.set i ⟨to, cellK l old⟩)[i] = ⟨to, cellK l old⟩ := List.getElem_set_self hio
  have hmem : (⟨to, cellK l old⟩ : Ctl) ∈ z := hzp.mem_iff.2 (List.mem_iff_getElem.2 ⟨i, hio, hoi⟩)
  obtain ⟨j, hj, hje⟩ := List.getElem_of_mem hmem
  obtain ⟨k1, k2⟩ := atK_self (ctlsB_pair hzg) hj
  rw [hje] at k1 k2
  simp only at k1 k2
  have hcz : cellK z to = cellK l old := by
    rw [cellK_eq k1]
    simp only [k2, hje]
  have hcB : cocB m z to = true := by simp [cocB, hzg, k1]
  have hsp : (z.set j ⟨old, cellK l old⟩).Perm l := by
    have := set_swap hzp hj hio (hje.trans hoi.symm) ⟨old, cellK l old⟩
    rw [List.set_set] at this
    rwa [set_same hi (ctl_ext hc hce.symm)] at this
  have hs : sortC (z.set j ⟨old, cellK l old⟩) = l := by
    exact (asc_eq (m := m) (hsp.symm.trans (sortC_perm _).symm) (ctlsB_asc hg) (sortC_asc _) hg).symm
  have hB : recB m z to old = true := by
    simp only [recB, Bool.and_eq_true, wCB]
    exact ⟨⟨hzg, k1⟩, by simp only [k2, hcz, hs]; exact hg⟩
  refine ⟨by simp [cocB, hg, hk], hcB, hcz, hB, ?_⟩
  rw [recL, if_pos hB, wCL, if_pos (by simp only [wCB, k2, hcz, hs]; exact hg)]
  simp only [k2, hcz, hs]
end Go.Ori
