/- impl.FreeCode, spec.FreeCode. Condition: at most 1048576 numbers, controls. -/
import Derived.Test.YtedpckkoaioooaaPairsS
namespace Go.Ori
theorem free_any (l : List Ctl) (c : Int) : (l.any fun x => x.code == c || confB x.code c) = !freeAt l c := by
  unfold freeAt hasK
  rw [← Bool.not_or, Bool.not_not]
  induction l with
  | nil => rfl
  | cons a l ih =>
    simp only [List.any_cons, ih]
    have : (a.code == c || confB a.code c) = (a.code == c || likeB c a.code) := by
      by_cases h : a.code = c
      · simp [h]
      · rw [confB_like h, likeB_symm]
    rw [this]
    generalize (l.any fun x => x.code == c) = p
    generalize (l.any fun x => likeB c x.code) = q
    cases (a.code == c) <;> cases likeB c a.code <;> cases p <;> cases q <;> rfl
def freeN (l : List Ctl) (c : Int) (k : Nat) : Bool := !(hasK l c) && !((l.take k).any fun x => likeB c x.code)
theorem freeN_zero (l : List Ctl) (c : Int) : freeN l c 0 = !(hasK l c) := by simp [freeN]
theorem freeN_succ {l : List Ctl} {c : Int} {k : Nat} (hk : k < l.length) : freeN l c (k + 1) = (freeN l c k && !(likeB c l[k].code)) := by
  unfold freeN
  rw [List.take_succ_eq_append_getElem hk, List.any_append]
  simp [Bool.and_assoc]
theorem freeN_end (l : List Ctl) (c : Int) : freeN l c l.length = freeAt l c := by
  unfold freeN freeAt
  rw [List.take_length]
theorem freeC_step {l : List Ctl} {c : Int} {R : Option Int} (h : freeF l (100 - c).toNat c = R) (hc : c ≤ 99) (hf : freeAt l c = false) : freeF l (100 - (c + 1)).toNat (c + 1) = R := by
  rw [show (100 - c).toNat = (100 - (c + 1)).toNat + 1 by omega, freeF_step hf] at h
  exact h
theorem freeC_here {l : List Ctl} {c : Int} {R : Option Int} (h : freeF l (100 - c).toNat c = R) (hc : c ≤ 99) (hf : freeAt l c = true) : R = some c := by
  rw [show (100 - c).toNat = (100 - (c + 1)).toNat + 1 by omega, freeF_here hf] at h
  exact h.symm
theorem freeC_end {l : List Ctl} {c : Int} {R : Option Int} (h : freeF l (100 - c).toNat c = R) (hc : ¬ c ≤ 99) : R = none := by
  rw [show (100 - c).toNat = 0 by omega] at h
  exact h.symm
end Go.Ori
namespace Go.Proofs.Ytedpckkoaioooaa
open Go.RowKit Go.Ori
set_option maxHeartbeats 1000000 in
theorem indexFunc_ctlm (K : FuncId) (caps : Array Value) (f : Ctl → Bool) (v : Value) (l : List Ctl) (w : World) (h : w.sl Ctl.cells 2 v l) (hl : l.length ≤ 1048576)
    (hcf : ∀ args W, (callFunc K args).run Try.prog W = .ok (.enter K args) W)
    (hcl : ∀ (n : Ctl), n ∈ l → ∀ d, Calls Try.prog K (#[.agg #[.int .i64 n.code, .int .i64 n.cell]] ++ caps) (w.ext d) fun x w1 => x = .returned (.bool (f n)) ∧ ∃ d1, w1 = (w.ext d).ext d1) :
    Calls Try.prog 118 #[v, .func (.func K) #[] caps] w fun x w' => x = .returned (.int .i64 (idxB l f)) ∧ ∃ d, w' = w.ext d := by
  have hs := Lib.hid h
  obtain ⟨p, c, rfl, _⟩ := h
  have HCL := Lib.hid hcl
  clear hcl
  go_enter Try.func118, Try.ntmps118
  go_wp2
  go_loopw [8] (fun i wr => ∃ k : Nat, k ≤ l.length ∧ i = .int .i64 k ∧ (∀ (j : Nat) (hj : j < l.length), j < k → f l[j] = false) ∧ ∃ d, wr = w.ext d) (fun i _ => l.length - (intOf i).toNat)
  case atStart => exact ⟨0, by omega, rfl, by simp, w.gained_refl⟩
  case round =>
    obtain ⟨k, hk, rfl, hno, d, rfl⟩ := hrel
    have HN := Lib.hid hno
    clear hno
    by_cases hlt : k < l.length
    · obtain ⟨b, o, rfl⟩ := sl_some hs.out (by omega)
      have hck := fun j (hj : j < 2) => sl_cells hs.out hlt hj
      have c0 := hck 0 (by omega)
      have c1 := hck 1 (by omega)
      have H1 := Lib.hid (fun (hf : f l[k] = true) => idxB_some hlt (HN.out) hf)
      have H2 := Lib.hid (fun (hf : f l[k] = false) => (show ∀ (j : Nat) (hj : j < l.length), j < k + 1 → f l[j] = false from fun j hj hjk => by
        by_cases e : j = k
        · subst e; exact hf
        · exact HN.out j hj (by omega)))
      have HMY := Lib.hid (List.getElem_mem hlt)
      generalize l[k] = y at c0 c1 hck H1 H2 HMY
      clear hck
      simp only [Ctl.cells, List.getElem?_cons_zero, List.getElem?_cons_succ, Nat.add_zero] at c0 c1
      have ob := World.oldB_of_cell c0
      go_wp2_with fail
      refine (HCL.out y HMY.out d).mono ?_
      rintro e w1 ⟨rfl, d1, rfl⟩
      cases hf : f y
      · have H2' := Lib.hid (H2.out hf)
        clear hf
        go_wp2
        go_roundw
        case rel => exact ⟨k + 1, by omega, by go_num, H2'.out, gain_ext ⟨_, rfl⟩ _⟩
        case measure => simp [intOf]; omega
      · have H1' := Lib.hid (H1.out hf)
        clear hf
        go_wp2
        go_ret
        exact ⟨ret_int H1'.out.symm, gain_ext ⟨_, rfl⟩ _⟩
    · go_wp2
      go_ret
      exact ⟨ret_int (by rw [idxB_none (fun j hj => HN.out j hj (by omega))]), _, rfl⟩
theorem containsFunc_ctls (K : FuncId) (caps : Array Value) (f : Ctl → Bool) (v : Value) (l : List Ctl) (w : World) (h : w.sl Ctl.cells 2 v l) (hl : l.length ≤ 1048576)
    (hcf : ∀ args W, (callFunc K args).run Try.prog W = .ok (.enter K args) W)
    (hcl : ∀ (n : Ctl), n ∈ l → ∀ d, Calls Try.prog K (#[.agg #[.int .i64 n.code, .int .i64 n.cell]] ++ caps) (w.ext d) fun x w1 => x = .returned (.bool (f n)) ∧ ∃ d1, w1 = (w.ext d).ext d1) :
    Calls Try.prog 85 #[v, .func (.func K) #[] caps] w fun x w' => x = .returned (.bool (l.any f)) ∧ ∃ d, w' = w.ext d := by
  have HI := Lib.hid (indexFunc_ctlm K caps f v l w h hl hcf hcl)
  clear hcl hcf
  go_enter Try.func85, Try.ntmps85
  go_wp2_with fail
  refine HI.out.mono ?_
  rintro e w1 ⟨rfl, d1, rfl⟩
  have HA := Lib.hid (idxB_any l f)
  go_wp2
  go_ret
  exact ⟨ret_bool HA.out, _, rfl⟩
set_option maxHeartbeats 1000000 in
theorem freeC1_any (n : Ctl) (c : Int) (g : Nat) (w : World) (hn : 31 ≤ n.code ∧ n.code ≤ 99) (hc : 31 ≤ c ∧ c ≤ 99) (ob : w.oldB g) (ck : w.cell? ⟨g, 0, none⟩ = some (.int .i64 c)) :
    Calls Try.prog 86 #[.agg #[.int .i64 n.code, .int .i64 n.cell], .pointer (some ⟨g, 0, none⟩)] w fun x w' => x = .returned (.bool (n.code == c || confB n.code c)) ∧ ∃ d, w' = w.ext d := by
  have HCF := Lib.hid (fun W' => confusable_any n.code c W' hn hc)
  generalize confB n.code c = q at HCF ⊢
  cases hf : (n.code == c)
  all_goals (
    go_enter Try.func86, Try.ntmps86
    go_wp2_with (go_at_call 87; refine (HCF.out _).mono ?_; rintro e w1 ⟨rfl, rfl⟩)
    go_ret
    exact ⟨rfl, (by repeat (first | with_reducible (first | exact World.gained_refl _ | exact ⟨_, rfl⟩ | apply gain_ext | apply gain_alloc | apply gain_drewN | apply gain_drew) | (refine gain_setCell ?_ (by first | exact Nat.le_refl _ | exact World.size_ext _ _ | (simp; done) | (simp; omega)) _)))⟩)
set_option maxHeartbeats 2000000 in
theorem freeCode_any (m : Mp) (rv cv v : Value) (l : List Ctl) (w : World) (hmp : w.mp rv cv m) (h : w.sl Ctl.cells 2 v l) (hl : l.length ≤ 1048576) :
    Calls Try.prog 25 #[.agg #[.int .i64 m.wd, .int .i64 m.ht, rv, cv], v] w fun x w' => x = .returned (.tuple #[.int .i64 (freI m l), .bool (freB m l)]) ∧ ∃ d, w' = w.ext d := by
  have hm := Lib.hid hmp
  have hs := Lib.hid h
  obtain ⟨p1, c1, p2, c2, rfl, rfl⟩ := mp_form hmp
  obtain ⟨p, c, rfl, _⟩ := id h
  have HG := Lib.hid (fun W hM hL => areControls_any m (.slice p1 m.rise.length c1) (.slice p2 m.cost.length c2) (.slice p l.length c) l W hM hL hl)
  clear hmp h
  cases hB : ctlsB m l with
  | false =>
    have h0 : freB m l = false := by simp [freB, hB]
    have h1 : freI m l = 0 := by simp [freI, hB]
    rw [h0, h1]
    rw [hB] at HG
    clear h0 h1 hB
    go_enter Try.func25, Try.ntmps25
    go_wp2_with (go_at_call 13; refine (HG.out _ (mp_up (hm.out) (by repeat (first | with_reducible (first | exact World.gained_refl _ | exact ⟨_, rfl⟩ | apply gain_ext | apply gain_alloc | apply gain_drewN | apply gain_drew) | (refine gain_setCell ?_ (by first | exact Nat.le_refl _ | exact World.size_ext _ _ | (simp; done) | (simp; omega)) _)))) (by with_reducible (repeat (first | exact hs.out | refine World.sl_ext Ctl.cells_length ?_ _ | refine sl_alloc Ctl.cells_length ?_ _ | refine sl_drew ?_)))).mono ?_; rintro e w1 ⟨rfl, d1, rfl⟩)
    go_ret2
    exact ⟨rfl, (by repeat (first | with_reducible (first | exact World.gained_refl _ | exact ⟨_, rfl⟩ | apply gain_ext | apply gain_alloc | apply gain_drewN | apply gain_drew) | (refine gain_setCell ?_ (by first | exact Nat.le_refl _ | exact World.size_ext _ _ | (simp; done) | (simp; omega)) _)))⟩
  | true =>
    have HCD := Lib.hid (ctls_code hB)
    have h0 : freB m l = (freeF l 69 31).isSome := by simp [freB, hB]
    have h1 : freI m l = (freeF l 69 31).getD 0 := by simp [freI, hB]
    have hR : freeF l (100 - 31 : Int).toNat 31 = freeF l 69 31 := rfl
    rw [h0, h1]
    rw [hB] at HG
    generalize freeF l 69 31 = R at hR ⊢
    have HR := Lib.hid hR
    clear h0 h1 hB hR
    go_enter Try.func25, Try.ntmps25
    go_wp2_with (go_at_call 13; refine (HG.out _ (mp_up (hm.out) (by repeat (first | with_reducible (first | exact World.gained_refl _ | exact ⟨_, rfl⟩ | apply gain_ext | apply gain_alloc | apply gain_drewN | apply gain_drew) | (refine gain_setCell ?_ (by first | exact Nat.le_refl _ | exact World.size_ext _ _ | (simp; done) | (simp; omega)) _)))) (by with_reducible (repeat (first | exact hs.out | refine World.sl_ext Ctl.cells_length ?_ _ | refine sl_alloc Ctl.cells_length ?_ _ | refine sl_drew ?_)))).mono ?_; rintro e w1 ⟨rfl, d1, rfl⟩)
    generalize hW : (w.alloc (.cells #[.int .i64 m.wd, .int .i64 m.ht, .slice p1 m.rise.length c1, .slice p2 m.cost.length c2] 26)).ext d1 = W0
    have hgW : ∃ d, W0 = w.ext d := by rw [← hW]; exact (by repeat (first | with_reducible (first | exact World.gained_refl _ | exact ⟨_, rfl⟩ | apply gain_ext | apply gain_alloc | apply gain_drewN | apply gain_drew) | (refine gain_setCell ?_ (by first | exact Nat.le_refl _ | exact World.size_ext _ _ | (simp; done) | (simp; omega)) _)))
    have hsW := Lib.hid (sl_up Ctl.cells_length hs.out hgW)
    have HGW := Lib.hid hgW
    clear hW hgW hs HG hm
    go_loopw [6] (fun pv wr => ∃ (x : Int) (g : Nat), 31 ≤ x ∧ x ≤ 100 ∧ pv = .pointer (some ⟨g, 0, none⟩) ∧ wr.heap[g]? = some (.cells #[.int .i64 x] 3 (0, 0)) ∧ freeF l (100 - x).toNat x = R ∧ ∃ d, wr = W0.ext d)
      (fun pv wr => match pv with | .pointer (some a) => (match wr.cell? a with | some x => (100 - intOf x).toNat | none => 0) | _ => 0)
    case atStart => exact ⟨31, _, by omega, by omega, rfl, heap_alloc_new _ _, HR.out, (by repeat (first | with_reducible (first | exact World.gained_refl _ | exact ⟨_, rfl⟩ | apply gain_ext | apply gain_alloc | apply gain_drewN | apply gain_drew) | (refine gain_setCell ?_ (by first | exact Nat.le_refl _ | exact World.size_ext _ _ | (simp; done) | (simp; omega)) _)))⟩
    case round =>
      obtain ⟨x, g, hx1, hx2, rfl, hC, hF, d, rfl⟩ := hrel
      have ck : (W0.ext d).cell? ⟨g, 0, none⟩ = some (.int .i64 x) := by rw [World.cell_of_heap hC]; rfl
      have obk := World.oldB_of_cell ck
      have HF := Lib.hid hF
      have HX := Lib.hid (show 31 ≤ x from hx1)
      clear hC hF
      by_cases hlt : x ≤ 99
      · have hltd : decide (x ≤ 99) = true := decide_eq_true hlt
        have hA' := free_any l x
        cases hA : freeAt l x with
        | true =>
          rw [hA] at hA'
          have HN := Lib.hid (freeC_here HF.out hlt hA)
          go_wp2_with fail
          refine (containsFunc_ctls 86 _ (fun y => y.code == x || confB y.code x) _ l _ (by with_reducible (repeat (first | exact hsW.out | refine World.sl_ext Ctl.cells_length ?_ _ | refine sl_alloc Ctl.cells_length ?_ _ | refine sl_drew ?_))) hl (fun _ _ => by kernel_rfl) (fun n hn d => ?hcl)).mono ?_
          case hcl => exact freeC1_any n x g _ (HCD.out n hn) ⟨hx1, hlt⟩ (by simp [go_sem, *]) (by simp [go_sem, *])
          rintro e w1 ⟨he, d2, rfl⟩
          rw [hA'] at he
          subst he
          clear hA hA'
          go_wp2
          go_ret2
          rw [HN.out]
          exact ⟨rfl, gain_trans HGW.out (by repeat (first | with_reducible (first | exact World.gained_refl _ | exact ⟨_, rfl⟩ | apply gain_ext | apply gain_alloc | apply gain_drewN | apply gain_drew) | (refine gain_setCell ?_ (by first | exact Nat.le_refl _ | exact World.size_ext _ _ | (simp; done) | (simp; omega)) _)))⟩
        | false =>
          rw [hA] at hA'
          have HN := Lib.hid (freeC_step HF.out hlt hA)
          go_wp2_with fail
          refine (containsFunc_ctls 86 _ (fun y => y.code == x || confB y.code x) _ l _ (by with_reducible (repeat (first | exact hsW.out | refine World.sl_ext Ctl.cells_length ?_ _ | refine sl_alloc Ctl.cells_length ?_ _ | refine sl_drew ?_))) hl (fun _ _ => by kernel_rfl) (fun n hn d => ?hcl)).mono ?_
          case hcl => exact freeC1_any n x g _ (HCD.out n hn) ⟨hx1, hlt⟩ (by simp [go_sem, *]) (by simp [go_sem, *])
          rintro e w1 ⟨he, d2, rfl⟩
          rw [hA'] at he
          subst he
          clear hA hA'
          go_wp2
          go_roundw
          case rel => exact ⟨x + 1, _, by omega, by omega, rfl, heap_alloc_new _ _, HN.out, (by repeat (first | with_reducible (first | exact World.gained_refl _ | exact ⟨_, rfl⟩ | apply gain_ext | apply gain_alloc | apply gain_drewN | apply gain_drew) | (refine gain_setCell ?_ (by first | exact Nat.le_refl _ | exact World.size_ext _ _ | (simp; done) | (simp; omega)) _)))⟩
          case measure => simp [ck, intOf, World.cell?_alloc_new]; omega
      · have hltd : decide (x ≤ 99) = false := decide_eq_false hlt
        have HN := Lib.hid (freeC_end HF.out hlt)
        go_wp2
        go_ret2
        rw [HN.out]
        exact ⟨rfl, gain_trans HGW.out (by repeat (first | with_reducible (first | exact World.gained_refl _ | exact ⟨_, rfl⟩ | apply gain_ext | apply gain_alloc | apply gain_drewN | apply gain_drew) | (refine gain_setCell ?_ (by first | exact Nat.le_refl _ | exact World.size_ext _ _ | (simp; done) | (simp; omega)) _)))⟩
set_option maxHeartbeats 2000000 in
theorem specFreeCode_any (m : Mp) (rv cv v : Value) (l : List Ctl) (w : World) (hmp : w.mp rv cv m) (h : w.sl Ctl.cells 2 v l) (hl : l.length ≤ 1048576) :
    Calls Try.prog 26 #[.agg #[.int .i64 m.wd, .int .i64 m.ht, rv, cv], v] w fun x w' => x = .returned (.tuple #[.int .i64 (freI m l), .bool (freB m l)]) ∧ ∃ d, w' = w.ext d := by
  have hm := Lib.hid hmp
  have hs := Lib.hid h
  obtain ⟨p1, c1, p2, c2, rfl, rfl⟩ := mp_form hmp
  obtain ⟨p, c, rfl, _⟩ := id h
  have HG := Lib.hid (fun W hM hL => l6Good_any m (.slice p1 m.rise.length c1) (.slice p2 m.cost.length c2) (.slice p l.length c) l W hM hL hl)
  clear hmp h
  cases hB : ctlsB m l with
  | false =>
    have h0 : freB m l = false := by simp [freB, hB]
    have h1 : freI m l = 0 := by simp [freI, hB]
    rw [h0, h1]
    rw [hB] at HG
    clear h0 h1 hB
    go_enter Try.func26, Try.ntmps26
    go_wp2_with (go_at_call 74; refine (HG.out _ (mp_up (hm.out) (by repeat (first | with_reducible (first | exact World.gained_refl _ | exact ⟨_, rfl⟩ | apply gain_ext | apply gain_alloc | apply gain_drewN | apply gain_drew) | (refine gain_setCell ?_ (by first | exact Nat.le_refl _ | exact World.size_ext _ _ | (simp; done) | (simp; omega)) _)))) (by with_reducible (repeat (first | exact hs.out | refine World.sl_ext Ctl.cells_length ?_ _ | refine sl_alloc Ctl.cells_length ?_ _ | refine sl_drew ?_)))).mono ?_; rintro e w1 ⟨rfl, d1, rfl⟩)
    go_ret2
    exact ⟨rfl, (by repeat (first | with_reducible (first | exact World.gained_refl _ | exact ⟨_, rfl⟩ | apply gain_ext | apply gain_alloc | apply gain_drewN | apply gain_drew) | (refine gain_setCell ?_ (by first | exact Nat.le_refl _ | exact World.size_ext _ _ | (simp; done) | (simp; omega)) _)))⟩
  | true =>
    have HCD := Lib.hid (ctls_code hB)
    have h0 : freB m l = (freeF l 69 31).isSome := by simp [freB, hB]
    have h1 : freI m l = (freeF l 69 31).getD 0 := by simp [freI, hB]
    have hR : freeF l (100 - 31 : Int).toNat 31 = freeF l 69 31 := rfl
    rw [h0, h1]
    rw [hB] at HG
    generalize freeF l 69 31 = R at hR ⊢
    have HR := Lib.hid hR
    clear h0 h1 hB hR
    go_enter Try.func26, Try.ntmps26
    go_wp2_with (go_at_call 74; refine (HG.out _ (mp_up (hm.out) (by repeat (first | with_reducible (first | exact World.gained_refl _ | exact ⟨_, rfl⟩ | apply gain_ext | apply gain_alloc | apply gain_drewN | apply gain_drew) | (refine gain_setCell ?_ (by first | exact Nat.le_refl _ | exact World.size_ext _ _ | (simp; done) | (simp; omega)) _)))) (by with_reducible (repeat (first | exact hs.out | refine World.sl_ext Ctl.cells_length ?_ _ | refine sl_alloc Ctl.cells_length ?_ _ | refine sl_drew ?_)))).mono ?_; rintro e w1 ⟨rfl, d1, rfl⟩)
    generalize hW : (w.alloc (.cells #[.int .i64 m.wd, .int .i64 m.ht, .slice p1 m.rise.length c1, .slice p2 m.cost.length c2] 26)).ext d1 = W0
    have hgW : ∃ d, W0 = w.ext d := by rw [← hW]; exact (by repeat (first | with_reducible (first | exact World.gained_refl _ | exact ⟨_, rfl⟩ | apply gain_ext | apply gain_alloc | apply gain_drewN | apply gain_drew) | (refine gain_setCell ?_ (by first | exact Nat.le_refl _ | exact World.size_ext _ _ | (simp; done) | (simp; omega)) _)))
    have hsW := Lib.hid (sl_up Ctl.cells_length hs.out hgW)
    have HGW := Lib.hid hgW
    clear hW hgW hs HG hm
    go_loopw [6] (fun pv wr => ∃ (x : Int), 31 ≤ x ∧ x ≤ 100 ∧ pv = .int .i64 x ∧ freeF l (100 - x).toNat x = R ∧ ∃ d, wr = W0.ext d) (fun pv _ => (100 - intOf pv).toNat)
    case atStart => exact ⟨31, by omega, by omega, rfl, HR.out, (by repeat (first | with_reducible (first | exact World.gained_refl _ | exact ⟨_, rfl⟩ | apply gain_ext | apply gain_alloc | apply gain_drewN | apply gain_drew) | (refine gain_setCell ?_ (by first | exact Nat.le_refl _ | exact World.size_ext _ _ | (simp; done) | (simp; omega)) _)))⟩
    case round =>
      obtain ⟨x, hx1, hx2, rfl, hF, d, rfl⟩ := hrel
      have HF := Lib.hid hF
      clear hF
      by_cases hlt : x ≤ 99
      · have hltd : decide (x ≤ 99) = true := decide_eq_true hlt
        have HX := Lib.hid (fun W' hL => l6Find_any (.slice p l.length c) l x W' hL hl)
        have hneg : decide ((idxB l fun e => e.code == x) < 0) = !(hasK l x) := by
          cases hK : hasK l x with
          | true => rw [idxK_yes hK]; simp
          | false => rw [idxK_no hK]; rfl
        generalize (idxB l fun e => e.code == x) = ix at HX hneg
        go_wp2_with (go_at_call 73; refine (HX.out _ (by with_reducible (repeat (first | exact hsW.out | refine World.sl_ext Ctl.cells_length ?_ _ | refine sl_alloc Ctl.cells_length ?_ _ | refine sl_drew ?_)))).mono ?_; rintro e w1 ⟨rfl, d2, rfl⟩)
        clear hneg HX
        go_loopw [7, 8] (fun f_ i_ wr => ∃ (k : Nat), k ≤ l.length ∧ i_ = .int .i64 k ∧ f_ = .bool (freeN l x k) ∧ ∃ d, wr = W0.ext d) (fun _ i_ _ => l.length - (intOf i_).toNat)
        case atStart => exact ⟨0, by omega, rfl, by rw [freeN_zero], (by repeat (first | with_reducible (first | exact World.gained_refl _ | exact ⟨_, rfl⟩ | apply gain_ext | apply gain_alloc | apply gain_drewN | apply gain_drew) | (refine gain_setCell ?_ (by first | exact Nat.le_refl _ | exact World.size_ext _ _ | (simp; done) | (simp; omega)) _)))⟩
        case round =>
          obtain ⟨k, hk, rfl, rfl, d3, rfl⟩ := hrel
          by_cases hk2 : k < l.length
          · obtain ⟨b, o, rfl⟩ := sl_some hsW.out (by omega)
            have c0 := sl_cells hsW.out hk2 (j := 0) (by omega)
            have HS := Lib.hid (freeN_succ (c := x) hk2)
            have hmy := HCD.out _ (List.getElem_mem hk2)
            generalize l[k] = y at c0 HS hmy
            simp only [Ctl.cells, List.getElem?_cons_zero, List.getElem?_cons_succ, Nat.add_zero] at c0
            have ob := World.oldB_of_cell c0
            have HLK := Lib.hid (fun W' => l6Like_any x y.code W' ⟨hx1, hlt⟩ hmy)
            generalize likeB x y.code = q at HS HLK
            clear hmy
            generalize freeN l x k = fn at HS ⊢
            cases fn
            all_goals (
              go_wp2_with (go_at_call 88; refine (HLK.out _).mono ?_; rintro e w1 ⟨rfl, rfl⟩)
              go_roundw
              case rel => exact ⟨k + 1, by omega, by go_num, by rw [HS.out]; simp, (by repeat (first | with_reducible (first | exact World.gained_refl _ | exact ⟨_, rfl⟩ | apply gain_ext | apply gain_alloc | apply gain_drewN | apply gain_drew) | (refine gain_setCell ?_ (by first | exact Nat.le_refl _ | exact World.size_ext _ _ | (simp; done) | (simp; omega)) _)))⟩
              case measure => simp [intOf]; omega)
          · obtain rfl : k = l.length := by omega
            rw [freeN_end]
            cases hA : freeAt l x with
            | true =>
              have HN := Lib.hid (freeC_here HF.out hlt hA)
              clear hA
              go_wp2
              go_ret2
              rw [HN.out]
              exact ⟨rfl, gain_trans HGW.out (by repeat (first | with_reducible (first | exact World.gained_refl _ | exact ⟨_, rfl⟩ | apply gain_ext | apply gain_alloc | apply gain_drewN | apply gain_drew) | (refine gain_setCell ?_ (by first | exact Nat.le_refl _ | exact World.size_ext _ _ | (simp; done) | (simp; omega)) _)))⟩
            | false =>
              have HN := Lib.hid (freeC_step HF.out hlt hA)
              clear hA
              go_wp2
              go_roundw
              case rel => exact ⟨x + 1, by omega, by omega, by go_num, HN.out, (by repeat (first | with_reducible (first | exact World.gained_refl _ | exact ⟨_, rfl⟩ | apply gain_ext | apply gain_alloc | apply gain_drewN | apply gain_drew) | (refine gain_setCell ?_ (by first | exact Nat.le_refl _ | exact World.size_ext _ _ | (simp; done) | (simp; omega)) _)))⟩
              case measure => simp [intOf]; omega
      · have hltd : decide (x ≤ 99) = false := decide_eq_false hlt
        have HN := Lib.hid (freeC_end HF.out hlt)
        go_wp2
        go_ret2
        rw [HN.out]
        exact ⟨rfl, gain_trans HGW.out (by repeat (first | with_reducible (first | exact World.gained_refl _ | exact ⟨_, rfl⟩ | apply gain_ext | apply gain_alloc | apply gain_drewN | apply gain_drew) | (refine gain_setCell ?_ (by first | exact Nat.le_refl _ | exact World.size_ext _ _ | (simp; done) | (simp; omega)) _)))⟩
end Go.Proofs.Ytedpckkoaioooaa
