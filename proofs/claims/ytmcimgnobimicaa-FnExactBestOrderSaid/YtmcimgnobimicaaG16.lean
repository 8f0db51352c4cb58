/- Texts laid together: impl.leastTime. Conditions: a valid map; cells of it.; Where a control with a code, in a cell, stands: impl.controlOf, controlIn, isCode, spec.l6Find, l6Code. Condition: at most 1048576 controls. -/
import Derived.Test.YtmcimgnobimicaaG15
import Derived.Test.YtmcimgnobimicaaG10
/- impl.leastTime. Conditions: a valid map; cells of it. -/
namespace Go.Proofs.Ytmcimgnobimicaa
open Go.RowKit Go.Ori
set_option maxHeartbeats 1000000 in
theorem leastTime_any (m : Mp) (rv cv : Value) (W H a b : Nat) (w : World) (hok : MapOk m W H) (h : w.mp rv cv m) (ha : a < m.cost.length) (hb : b < m.cost.length) :
    Calls Try.prog 28 #[.agg #[.int .i64 m.wd, .int .i64 m.ht, rv, cv], .int .i64 a, .int .i64 b] w fun x w' => x = .returned (.int .i64 (timeB m a b)) ∧ ∃ d, w' = w.ext d := by
  have hm := Lib.hid h
  have HK := Lib.hid hok
  have hn := hok.n36
  obtain ⟨p, c, p', c', rfl, rfl⟩ := mp_form h
  have HT : Hid (timeB m a b = (timesL m b).getD a 0) := Lib.hid rfl
  have HL := Lib.hid (times_inv hok hb).len
  generalize timeB m a b = z at HT ⊢
  clear h hok
  go_enter Try.func28, Try.ntmps28
  go_wp2_with fail
  refine (timesTo_any m _ _ W H b _ HK.out (mp_up (hm.out) (by repeat (first | with_reducible (first | exact World.gained_refl _ | exact ⟨_, rfl⟩ | apply gain_ext | apply gain_alloc | apply gain_drewN | apply gain_drew) | (refine gain_setCell ?_ (by first | exact Nat.le_refl _ | exact World.size_ext _ _ | (simp; done) | (simp; omega)) _)))) hb).mono ?_
  rintro e w1 ⟨v, rfl, ⟨d1, rfl⟩, hv⟩
  obtain ⟨g, cap, rfl, _, hgl⟩ := own_addr hv (by rw [HL.out]; omega)
  rw [HL.out] at hv ⊢
  obtain ⟨t0, _⟩ := own_at hv (k := a) (by rw [HL.out]; exact ha)
  rw [← HT.out] at t0
  have obg := World.oldB_of_cell t0
  clear hv hgl
  go_wp2
  go_ret
  exact ⟨rfl, (by repeat (first | with_reducible (first | exact World.gained_refl _ | exact ⟨_, rfl⟩ | apply gain_ext | apply gain_alloc | apply gain_drewN | apply gain_drew) | (refine gain_setCell ?_ (by first | exact Nat.le_refl _ | exact World.size_ext _ _ | (simp; done) | (simp; omega)) _)))⟩
end Go.Proofs.Ytmcimgnobimicaa
/- Where a control with a code, in a cell, stands: impl.controlOf, controlIn, isCode, spec.l6Find, l6Code. Condition: at most 1048576 controls. -/
namespace Go.Proofs.Ytmcimgnobimicaa
open Go.RowKit Go.Ori
set_option maxHeartbeats 1000000 in
theorem indexFunc_ctls (K : FuncId) (caps : Array Value) (f : Ctl → Bool) (v : Value) (l : List Ctl) (w : World) (h : w.sl Ctl.cells 2 v l) (hl : l.length ≤ 1048576)
    (hcf : ∀ args W, (callFunc K args).run Try.prog W = .ok (.enter K args) W)
    (hcl : ∀ (n : Ctl) d, Calls Try.prog K (#[.agg #[.int .i64 n.code, .int .i64 n.cell]] ++ caps) (w.ext d) fun x w1 => x = .returned (.bool (f n)) ∧ ∃ d1, w1 = (w.ext d).ext d1) :
    Calls Try.prog 58 #[v, .func (.func K) #[] caps] w fun x w' => x = .returned (.int .i64 (idxB l f)) ∧ ∃ d, w' = w.ext d := by
  have hs := Lib.hid h
  obtain ⟨p, c, rfl, _⟩ := h
  have HCL := Lib.hid hcl
  clear hcl
  go_enter Try.func58, Try.ntmps58
  go_wp2
  go_loopw [8] (fun i wr => ∃ k : Nat, k ≤ l.length ∧ i = .int .i64 k ∧ (∀ (j : Nat) (hj : j < l.length), j < k → f l[j] = false) ∧ ∃ d, wr = w.ext d) (fun i _ => l.length - (intOf i).toNat)
  case atStart => exact ⟨0, by omega, rfl, by simp, w.gained_refl⟩
  case round =>
    obtain ⟨k, hk, rfl, hno, d, rfl⟩ := hrel
    have HN := Lib.hid hno
    clear hno
    by_cases hlt : k < l.length
    · obtain ⟨b, o, rfl⟩ := sl_some hs.out (by omega)
      have hck := fun j (hj : j < 2) => sl_cells hs.out hlt hj
      have c0 := hck 0 (by omega)
      have c1 := hck 1 (by omega)
      have H1 := Lib.hid (fun (hf : f l[k] = true) => idxB_some hlt (HN.out) hf)
      have H2 := Lib.hid (fun (hf : f l[k] = false) => (show ∀ (j : Nat) (hj : j < l.length), j < k + 1 → f l[j] = false from fun j hj hjk => by
        by_cases e : j = k
        · subst e; exact hf
        · exact HN.out j hj (by omega)))
      have HMY := Lib.hid (List.getElem_mem hlt)
      generalize l[k] = y at c0 c1 hck H1 H2 HMY
      clear hck
      simp only [Ctl.cells, List.getElem?_cons_zero, List.getElem?_cons_succ, Nat.add_zero] at c0 c1
      have ob := World.oldB_of_cell c0
      go_wp2_with fail
      refine (HCL.out y d).mono ?_
      rintro e w1 ⟨rfl, d1, rfl⟩
      cases hf : f y
      · have H2' := Lib.hid (H2.out hf)
        clear hf
        go_wp2
        go_roundw
        case rel => exact ⟨k + 1, by omega, by go_num, H2'.out, gain_ext ⟨_, rfl⟩ _⟩
        case measure => simp [intOf]; omega
      · have H1' := Lib.hid (H1.out hf)
        clear hf
        go_wp2
        go_ret
        exact ⟨ret_int H1'.out.symm, gain_ext ⟨_, rfl⟩ _⟩
    · go_wp2
      go_ret
      exact ⟨ret_int (by rw [idxB_none (fun j hj => HN.out j hj (by omega))]), _, rfl⟩
theorem isCode_any (n : Int) (w : World) : Calls Try.prog 55 #[.int .i64 n] w fun x w' => x = .returned (.bool (insB n 31 99)) ∧ w = w' := by
  go_enter Try.func55, Try.ntmps55
  go_wp2_with (go_at_call 43; refine (inside_any _ _ _ _).mono ?_; rintro e w1 ⟨rfl, rfl⟩)
  go_ret
  exact ⟨rfl, rfl⟩
theorem l6Code_any (n : Int) (w : World) : Calls Try.prog 50 #[.int .i64 n] w fun x w' => x = .returned (.bool (insB n 31 99)) ∧ w = w' := by
  go_enter Try.func50, Try.ntmps50
  go_wp2_with (go_at_call 34; refine (l1In_any _ _ _ _).mono ?_; rintro e w1 ⟨rfl, rfl⟩)
  go_ret
  exact ⟨rfl, rfl⟩
theorem controlOf1_any (n : Ctl) (r : Int) (a : Addr) (w : World) (ob : w.oldB a.block) (hc : w.cell? a = some (.int .i64 r)) :
    Calls Try.prog 59 #[.agg #[.int .i64 n.code, .int .i64 n.cell], .pointer (some a)] w fun x w' => x = .returned (.bool (n.code == r)) ∧ ∃ d, w' = w.ext d := by
  go_enter Try.func59, Try.ntmps59
  go_wp2
  go_ret
  exact ⟨rfl, gain_alloc w.gained_refl _⟩
theorem controlOf_any (v : Value) (l : List Ctl) (r : Int) (w : World) (h : w.sl Ctl.cells 2 v l) (hl : l.length ≤ 1048576) :
    Calls Try.prog 44 #[v, .int .i64 r] w fun x w' => x = .returned (.int .i64 (idxB l fun e => e.code == r)) ∧ ∃ d, w' = w.ext d := by
  go_enter Try.func44, Try.ntmps44
  go_wp2_with fail
  refine (indexFunc_ctls 59 _ (fun e => e.code == r) _ l _ (sl_alloc Ctl.cells_length h _) hl (fun _ _ => by kernel_rfl) (fun n d => ?hcl)).mono ?_
  case hcl =>
    refine controlOf1_any n r _ _ ?_ ?_
    · simp [go_sem]
    · simp [go_sem]
  rintro e w1 ⟨rfl, d1, rfl⟩
  go_wp2
  go_ret
  exact ⟨rfl, gain_ext (gain_alloc w.gained_refl _) _⟩
theorem controlIn1_any (n : Ctl) (r : Int) (a : Addr) (w : World) (ob : w.oldB a.block) (hc : w.cell? a = some (.int .i64 r)) :
    Calls Try.prog 79 #[.agg #[.int .i64 n.code, .int .i64 n.cell], .pointer (some a)] w fun x w' => x = .returned (.bool (n.cell == r)) ∧ ∃ d, w' = w.ext d := by
  go_enter Try.func79, Try.ntmps79
  go_wp2
  go_ret
  exact ⟨rfl, gain_alloc w.gained_refl _⟩
theorem controlIn_any (v : Value) (l : List Ctl) (r : Int) (w : World) (h : w.sl Ctl.cells 2 v l) (hl : l.length ≤ 1048576) :
    Calls Try.prog 57 #[v, .int .i64 r] w fun x w' => x = .returned (.int .i64 (idxB l fun e => e.cell == r)) ∧ ∃ d, w' = w.ext d := by
  go_enter Try.func57, Try.ntmps57
  go_wp2_with fail
  refine (indexFunc_ctls 79 _ (fun e => e.cell == r) _ l _ (sl_alloc Ctl.cells_length h _) hl (fun _ _ => by kernel_rfl) (fun n d => ?hcl)).mono ?_
  case hcl =>
    refine controlIn1_any n r _ _ ?_ ?_
    · simp [go_sem]
    · simp [go_sem]
  rintro e w1 ⟨rfl, d1, rfl⟩
  go_wp2
  go_ret
  exact ⟨rfl, gain_ext (gain_alloc w.gained_refl _) _⟩
theorem l6Find_any (v : Value) (l : List Ctl) (r : Int) (w : World) (h : w.sl Ctl.cells 2 v l) (hl : l.length ≤ 1048576) :
    Calls Try.prog 35 #[v, .int .i64 r] w fun x w' => x = .returned (.int .i64 (idxB l fun e => e.code == r)) ∧ ∃ d, w' = w.ext d := by
  have hs := Lib.hid h
  obtain ⟨p, c, rfl, _⟩ := h
  go_enter Try.func35, Try.ntmps35
  go_wp2
  go_loopw [5] (fun i_ wr => ∃ k : Nat, k ≤ l.length ∧ i_ = .int .i64 k ∧ (∀ (j : Nat) (hj : j < l.length), j < k → (l[j].code == r) = false) ∧ ∃ d, wr = w.ext d) (fun i_ _ => l.length - (intOf i_).toNat)
  case atStart => exact ⟨0, by omega, rfl, by simp, w.gained_refl⟩
  case round =>
    obtain ⟨k, hk, rfl, hno, d, rfl⟩ := hrel
    have HN := Lib.hid hno
    clear hno
    by_cases hlt : k < l.length
    · obtain ⟨b, o, rfl⟩ := sl_some hs.out (by omega)
      have c0 := sl_cells hs.out hlt (j := 0) (by omega)
      have H1 := Lib.hid (fun hf => idxB_some (p := fun e : Ctl => e.code == r) hlt HN.out hf)
      have H2 := Lib.hid (fun (hf : (l[k].code == r) = false) => (show ∀ (j : Nat) (hj : j < l.length), j < k + 1 → (l[j].code == r) = false from fun j hj hjk => by
        by_cases e : j = k
        · subst e; exact hf
        · exact HN.out j hj (by omega)))
      generalize l[k] = y at c0 H1 H2
      simp only [Ctl.cells, List.getElem?_cons_zero, Nat.add_zero] at c0
      have ob := World.oldB_of_cell c0
      cases hf : (y.code == r) with
      | true =>
        have H1' := Lib.hid (H1.out hf)
        go_wp2
        go_ret
        exact ⟨ret_int H1'.out.symm, _, rfl⟩
      | false =>
        have H2' := Lib.hid (H2.out hf)
        go_wp2
        go_roundw
        case rel => exact ⟨k + 1, by omega, by go_num, H2'.out, _, rfl⟩
        case measure => simp [intOf]; omega
    · go_wp2
      go_ret
      exact ⟨ret_int (by rw [idxB_none (fun j hj => HN.out j hj (by omega))]), _, rfl⟩
end Go.Proofs.Ytmcimgnobimicaa
