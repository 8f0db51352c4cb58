/- Free codes and pairs of controls: plain law. No condition. -/
import Derived.Test.YtedpckkoaioooaaPPairs
namespace Go.Ori
theorem ctlsB_mk {m : Mp} {l : List Ctl} (h1 : mapB m = true) (h2 : l.length ≤ 10) (h3 : l.Pairwise fun a b => a.code < b.code) (h4 : l.Pairwise fun a b => a.cell ≠ b.cell) (h5 : ∀ x ∈ l, insB x.code 31 99 = true ∧ openB m x.cell = true) : ctlsB m l = true := by
  simp only [ctlsB, Bool.and_eq_true, decide_eq_true_eq]
  refine ⟨⟨h1, h2⟩, allB_iff.2 fun i hi => ?_⟩
  have hp : i - 1 < l.length := by omega
  rw [ctlAt_eq (List.getElem?_eq_getElem hi) (List.getElem?_eq_getElem hp)]
  have h6 := h5 _ (List.getElem_mem hi)
  rw [h6.1, h6.2]
  simp only [Bool.true_and, Bool.and_eq_true, Bool.or_eq_true, decide_eq_true_eq, Bool.not_eq_true', List.any_eq_false]
  refine ⟨?_, ?_⟩
  · by_cases e : i = 0
    · exact .inl e
    · exact .inr (List.pairwise_iff_getElem.1 h3 (i - 1) i hp hi (by omega))
  · intro x hx
    obtain ⟨j, hj, rfl⟩ := List.mem_take_iff_getElem.1 hx
    have := List.pairwise_iff_getElem.1 h4 j i (by omega) hi (by omega)
    simpa using this
theorem ctls_mem {m : Mp} {l : List Ctl} (h : ctlsB m l = true) : ∀ x ∈ l, insB x.code 31 99 = true ∧ openB m x.cell = true := by
  intro a ha
  obtain ⟨i, hi, rfl⟩ := List.getElem_of_mem ha
  simp only [ctlsB, Bool.and_eq_true] at h
  have := allB_iff.1 h.2 i hi
  rw [ctlAt, List.getElem?_eq_getElem hi] at this
  simp only [Bool.and_eq_true] at this
  exact this.1.1
theorem ctls_cells {m : Mp} {l : List Ctl} (h : ctlsB m l = true) : l.Pairwise fun a b => a.cell ≠ b.cell :=
  List.pairwise_iff_getElem.2 fun _ _ _ hj hij => ctlsB_cell h hj hij
theorem freeAt_out {l : List Ctl} {c : Int} (h : freeAt l c = true) : ∀ y ∈ l, y.code ≠ c ∧ likeB c y.code = false := by
  intro y hy
  simp only [freeAt, hasK, Bool.and_eq_true, Bool.not_eq_true', List.any_eq_false] at h
  exact ⟨by simpa using h.1 y hy, by simpa using h.2 y hy⟩
theorem fre_true {m : Mp} {l : List Ctl} (h : freB m l = true) : ctlsB m l = true ∧ freeAt l (freI m l) = true ∧ 31 ≤ freI m l ∧ freI m l ≤ 99 := by
  simp only [freB, Bool.and_eq_true, Option.isSome_iff_exists] at h
  obtain ⟨hg, x, hx⟩ := h
  have h1 : freI m l = x := by simp [freI, hg, hx]
  have h2 := freeF_some hx
  rw [h1]
  exact ⟨hg, h2.1, h2.2.1, by omega⟩
/-- A free code is given to the first control. -/
theorem free_facts {m : Mp} {l : List Ctl} (h : freB m l = true) (h0 : 0 < l.length) :
    recB m l l[0].code (freI m l) = true ∧ ctlsB m (recL m l l[0].code (freI m l)) = true ∧ (pairsL likeF (recL m l l[0].code (freI m l))).length ≤ (pairsL likeF l).length ∧ ∀ p ∈ pairsL likeF (recL m l l[0].code (freI m l)), p.1 ≠ freI m l ∧ p.2 ≠ freI m l := by
  obtain ⟨hg, hf, hx1, hx2⟩ := fre_true h
  generalize freI m l = x at hf hx1 hx2
  clear h
  cases l with
  | nil => simp at h0
  | cons a t =>
    simp only [List.getElem_cons_zero]
    obtain ⟨k1, k2⟩ := atK_self (ctlsB_pair hg) h0
    simp only [List.getElem_cons_zero] at k1 k2
    have hce : cellK (a :: t) a.code = a.cell := by
      rw [cellK_eq k1]
      simp only [k2, List.getElem_cons_zero]
    have hout := freeAt_out hf
    have hmem := ctls_mem hg
    have hset : (a :: t).set 0 ⟨x, a.cell⟩ = (⟨x, a.cell⟩ : Ctl) :: t := rfl
    have hzp := sortC_perm ((⟨x, a.cell⟩ : Ctl) :: t)
    have hza := sortC_asc ((⟨x, a.cell⟩ : Ctl) :: t)
    have hpc := List.pairwise_cons.1 (ctlsB_pair hg)
    have hcc := List.pairwise_cons.1 (ctls_cells hg)
    have hne : ((⟨x, a.cell⟩ : Ctl) :: t).Pairwise fun a b => a.code ≠ b.code := by
      rw [List.pairwise_cons]
      exact ⟨fun y hy e => (hout y (List.mem_cons_of_mem _ hy)).1 e.symm, hpc.2.imp fun h => by omega⟩
    have hcn : ((⟨x, a.cell⟩ : Ctl) :: t).Pairwise fun a b => a.cell ≠ b.cell := by
      rw [List.pairwise_cons]
      exact ⟨fun y hy => hcc.1 y hy, hcc.2⟩
    have hlen := ctlsB_len hg
    generalize hZ : sortC ((⟨x, a.cell⟩ : Ctl) :: t) = z at hzp hza
    have hgz : ctlsB m z = true := by
      refine ctlsB_mk (ctlsB_map hg) (by rw [hzp.length_eq]; simpa using hlen) ?_ ((hzp.pairwise_iff (fun h => Ne.symm h)).2 hcn) (fun y hy => ?_)
      · have h1 := (hzp.pairwise_iff (R := fun a b : Ctl => a.code ≠ b.code) (fun h => Ne.symm h)).2 hne
        exact (List.Pairwise.and hza h1).imp fun h => by omega
      · rcases List.mem_cons.1 (hzp.mem_iff.1 hy) with rfl | h
        · exact ⟨insB_true.2 ⟨hx1, hx2⟩, (hmem a List.mem_cons_self).2⟩
        · exact hmem y (List.mem_cons_of_mem _ h)
    have hwB : wCB m (a :: t) 0 ⟨x, a.cell⟩ = true := by rw [wCB, hset, hZ]; exact hgz
    have hrB : recB m (a :: t) a.code x = true := by
      simp only [recB, Bool.and_eq_true]
      exact ⟨⟨hg, k1⟩, by simp only [k2, hce]; exact hwB⟩
    have hrL : recL m (a :: t) a.code x = z := by
      rw [recL, if_pos hrB]
      simp only [k2, hce]
      rw [wCL, if_pos hwB, hset, hZ]
    rw [hrL]
    obtain ⟨A, B, hAB⟩ := List.append_of_mem (hzp.mem_iff.2 List.mem_cons_self)
    have hp2 : (A ++ B).Perm t := (List.perm_middle.symm.trans (hAB ▸ hzp)).cons_inv
    have hasc : AscC (A ++ B) := by
      refine List.Pairwise.sublist ?_ (hAB ▸ hza)
      exact List.Sublist.append (List.Sublist.refl A) (List.sublist_cons_self _ B)
    have hAt : A ++ B = t := by
      refine List.Perm.eq_of_pairwise (le := fun a b : Ctl => a.code ≤ b.code) (fun a b ha hb hab hba => ?_) hasc (hpc.2.imp fun h => by omega) hp2
      exact same_code hpc.2 (hp2.mem_iff.1 ha) hb (by omega)
    have hpz : pairsL likeF z = pairsL likeF t := by
      rw [hAB, pairsL_out (fun y hy => ?_) (fun y hy => ?_), hAt]
      · unfold likeF
        rw [likeB_symm]
        exact (hout y (List.mem_cons_of_mem _ (hAt ▸ List.mem_append_left _ hy))).2
      · exact (hout y (List.mem_cons_of_mem _ (hAt ▸ List.mem_append_right _ hy))).2
    rw [hpz]
    refine ⟨hrB, hgz, by simp [pairsL], fun p hp => ?_⟩
    obtain ⟨y, hy, v, hv, _, rfl⟩ := pairsL_mem hp
    exact ⟨(hout y (List.mem_cons_of_mem _ hy)).1, (hout v (List.mem_cons_of_mem _ hv)).1⟩
end Go.Ori
