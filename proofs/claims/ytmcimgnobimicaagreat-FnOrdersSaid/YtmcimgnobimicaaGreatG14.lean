/- Texts laid together: Where a control with a code, in a cell, stands: impl.controlOf, controlIn, isCode, spec.l6Find, l6Code. Condition: at most 1048576 controls.; impl.stepTime, spec.l2Step. Conditions: a valid map; cells of it.; impl.cellsNextTo, spec.l2Next. Conditions: a valid map; a cell of it. -/
import Derived.Test.YtmcimgnobimicaaGreatG8
import Derived.Test.YtmcimgnobimicaaGreatG9
import Derived.Test.YtmcimgnobimicaaGreatG3
import Derived.Deep.DeepCutAuto
/- Where a control with a code, in a cell, stands: impl.controlOf, controlIn, isCode, spec.l6Find, l6Code. Condition: at most 1048576 controls. -/
namespace Go.Proofs.YtmcimgnobimicaaGreat
open Go.RowKit Go.Ori
set_option maxHeartbeats 1000000 in
theorem indexFunc_ctls (K : FuncId) (caps : Array Value) (f : Ctl → Bool) (v : Value) (l : List Ctl) (w : World) (h : w.sl Ctl.cells 2 v l) (hl : l.length ≤ 1048576)
    (hcf : ∀ args W, (callFunc K args).run Tryz.prog W = .ok (.enter K args) W)
    (hcl : ∀ (n : Ctl) d, Calls Tryz.prog K (#[.agg #[.int .i64 n.code, .int .i64 n.cell]] ++ caps) (w.ext d) fun x w1 => x = .returned (.bool (f n)) ∧ ∃ d1, w1 = (w.ext d).ext d1) :
    Calls Tryz.prog 68 #[v, .func (.func K) #[] caps] w fun x w' => x = .returned (.int .i64 (idxB l f)) ∧ ∃ d, w' = w.ext d := by
  have hs := Lib.hid h
  obtain ⟨p, c, rfl, _⟩ := h
  have HCL := Lib.hid hcl
  clear hcl
  go_enter Tryz.func68, Tryz.ntmps68
  go_wp2
  go_loopw [8] (fun i wr => ∃ k : Nat, k ≤ l.length ∧ i = .int .i64 k ∧ (∀ (j : Nat) (hj : j < l.length), j < k → f l[j] = false) ∧ ∃ d, wr = w.ext d) (fun i _ => l.length - (intOf i).toNat)
  case atStart => exact ⟨0, by omega, rfl, by simp, w.gained_refl⟩
  case round =>
    obtain ⟨k, hk, rfl, hno, d, rfl⟩ := hrel
    have HN := Lib.hid hno
    clear hno
    by_cases hlt : k < l.length
    · obtain ⟨b, o, rfl⟩ := sl_some hs.out (by omega)
      have hck := fun j (hj : j < 2) => sl_cells hs.out hlt hj
      have c0 := hck 0 (by omega)
      have c1 := hck 1 (by omega)
      have H1 := Lib.hid (fun (hf : f l[k] = true) => idxB_some hlt (HN.out) hf)
      have H2 := Lib.hid (fun (hf : f l[k] = false) => (show ∀ (j : Nat) (hj : j < l.length), j < k + 1 → f l[j] = false from fun j hj hjk => by
        by_cases e : j = k
        · subst e; exact hf
        · exact HN.out j hj (by omega)))
      have HMY := Lib.hid (List.getElem_mem hlt)
      generalize l[k] = y at c0 c1 hck H1 H2 HMY
      clear hck
      simp only [Ctl.cells, List.getElem?_cons_zero, List.getElem?_cons_succ, Nat.add_zero] at c0 c1
      have ob := World.oldB_of_cell c0
      go_wp2_with fail
      refine (HCL.out y d).mono ?_
      rintro e w1 ⟨rfl, d1, rfl⟩
      cases hf : f y
      · have H2' := Lib.hid (H2.out hf)
        clear hf
        go_wp2
        go_roundw
        case rel => exact ⟨k + 1, by omega, by go_num, H2'.out, gain_ext ⟨_, rfl⟩ _⟩
        case measure => simp [intOf]; omega
      · have H1' := Lib.hid (H1.out hf)
        clear hf
        go_wp2
        go_ret
        exact ⟨ret_int H1'.out.symm, gain_ext ⟨_, rfl⟩ _⟩
    · go_wp2
      go_ret
      exact ⟨ret_int (by rw [idxB_none (fun j hj => HN.out j hj (by omega))]), _, rfl⟩
theorem isCode_any (n : Int) (w : World) : Calls Tryz.prog 65 #[.int .i64 n] w fun x w' => x = .returned (.bool (insB n 31 99)) ∧ w = w' := by
  go_enter Tryz.func65, Tryz.ntmps65
  go_wp2_with (go_at_call 42; refine (inside_any _ _ _ _).mono ?_; rintro e w1 ⟨rfl, rfl⟩)
  go_ret
  exact ⟨rfl, rfl⟩
theorem l6Code_any (n : Int) (w : World) : Calls Tryz.prog 83 #[.int .i64 n] w fun x w' => x = .returned (.bool (insB n 31 99)) ∧ w = w' := by
  go_enter Tryz.func83, Tryz.ntmps83
  go_wp2_with (go_at_call 49; refine (l1In_any _ _ _ _).mono ?_; rintro e w1 ⟨rfl, rfl⟩)
  go_ret
  exact ⟨rfl, rfl⟩
theorem controlOf1_any (n : Ctl) (r : Int) (a : Addr) (w : World) (ob : w.oldB a.block) (hc : w.cell? a = some (.int .i64 r)) :
    Calls Tryz.prog 69 #[.agg #[.int .i64 n.code, .int .i64 n.cell], .pointer (some a)] w fun x w' => x = .returned (.bool (n.code == r)) ∧ ∃ d, w' = w.ext d := by
  go_enter Tryz.func69, Tryz.ntmps69
  go_wp2
  go_ret
  exact ⟨rfl, gain_alloc w.gained_refl _⟩
theorem controlOf_any (v : Value) (l : List Ctl) (r : Int) (w : World) (h : w.sl Ctl.cells 2 v l) (hl : l.length ≤ 1048576) :
    Calls Tryz.prog 43 #[v, .int .i64 r] w fun x w' => x = .returned (.int .i64 (idxB l fun e => e.code == r)) ∧ ∃ d, w' = w.ext d := by
  go_enter Tryz.func43, Tryz.ntmps43
  go_wp2_with fail
  refine (indexFunc_ctls 69 _ (fun e => e.code == r) _ l _ (sl_alloc Ctl.cells_length h _) hl (fun _ _ => by kernel_rfl) (fun n d => ?hcl)).mono ?_
  case hcl =>
    refine controlOf1_any n r _ _ ?_ ?_
    · simp [go_sem]
    · simp [go_sem]
  rintro e w1 ⟨rfl, d1, rfl⟩
  go_wp2
  go_ret
  exact ⟨rfl, gain_ext (gain_alloc w.gained_refl _) _⟩
theorem controlIn1_any (n : Ctl) (r : Int) (a : Addr) (w : World) (ob : w.oldB a.block) (hc : w.cell? a = some (.int .i64 r)) :
    Calls Tryz.prog 97 #[.agg #[.int .i64 n.code, .int .i64 n.cell], .pointer (some a)] w fun x w' => x = .returned (.bool (n.cell == r)) ∧ ∃ d, w' = w.ext d := by
  go_enter Tryz.func97, Tryz.ntmps97
  go_wp2
  go_ret
  exact ⟨rfl, gain_alloc w.gained_refl _⟩
theorem controlIn_any (v : Value) (l : List Ctl) (r : Int) (w : World) (h : w.sl Ctl.cells 2 v l) (hl : l.length ≤ 1048576) :
    Calls Tryz.prog 67 #[v, .int .i64 r] w fun x w' => x = .returned (.int .i64 (idxB l fun e => e.cell == r)) ∧ ∃ d, w' = w.ext d := by
  go_enter Tryz.func67, Tryz.ntmps67
  go_wp2_with fail
  refine (indexFunc_ctls 97 _ (fun e => e.cell == r) _ l _ (sl_alloc Ctl.cells_length h _) hl (fun _ _ => by kernel_rfl) (fun n d => ?hcl)).mono ?_
  case hcl =>
    refine controlIn1_any n r _ _ ?_ ?_
    · simp [go_sem]
    · simp [go_sem]
  rintro e w1 ⟨rfl, d1, rfl⟩
  go_wp2
  go_ret
  exact ⟨rfl, gain_ext (gain_alloc w.gained_refl _) _⟩
theorem l6Find_any (v : Value) (l : List Ctl) (r : Int) (w : World) (h : w.sl Ctl.cells 2 v l) (hl : l.length ≤ 1048576) :
    Calls Tryz.prog 50 #[v, .int .i64 r] w fun x w' => x = .returned (.int .i64 (idxB l fun e => e.code == r)) ∧ ∃ d, w' = w.ext d := by
  have hs := Lib.hid h
  obtain ⟨p, c, rfl, _⟩ := h
  go_enter Tryz.func50, Tryz.ntmps50
  go_wp2
  go_loopw [5] (fun i_ wr => ∃ k : Nat, k ≤ l.length ∧ i_ = .int .i64 k ∧ (∀ (j : Nat) (hj : j < l.length), j < k → (l[j].code == r) = false) ∧ ∃ d, wr = w.ext d) (fun i_ _ => l.length - (intOf i_).toNat)
  case atStart => exact ⟨0, by omega, rfl, by simp, w.gained_refl⟩
  case round =>
    obtain ⟨k, hk, rfl, hno, d, rfl⟩ := hrel
    have HN := Lib.hid hno
    clear hno
    by_cases hlt : k < l.length
    · obtain ⟨b, o, rfl⟩ := sl_some hs.out (by omega)
      have c0 := sl_cells hs.out hlt (j := 0) (by omega)
      have H1 := Lib.hid (fun hf => idxB_some (p := fun e : Ctl => e.code == r) hlt HN.out hf)
      have H2 := Lib.hid (fun (hf : (l[k].code == r) = false) => (show ∀ (j : Nat) (hj : j < l.length), j < k + 1 → (l[j].code == r) = false from fun j hj hjk => by
        by_cases e : j = k
        · subst e; exact hf
        · exact HN.out j hj (by omega)))
      generalize l[k] = y at c0 H1 H2
      simp only [Ctl.cells, List.getElem?_cons_zero, Nat.add_zero] at c0
      have ob := World.oldB_of_cell c0
      cases hf : (y.code == r) with
      | true =>
        have H1' := Lib.hid (H1.out hf)
        go_wp2
        go_ret
        exact ⟨ret_int H1'.out.symm, _, rfl⟩
      | false =>
        have H2' := Lib.hid (H2.out hf)
        go_wp2
        go_roundw
        case rel => exact ⟨k + 1, by omega, by go_num, H2'.out, _, rfl⟩
        case measure => simp [intOf]; omega
    · go_wp2
      go_ret
      exact ⟨ret_int (by rw [idxB_none (fun j hj => HN.out j hj (by omega))]), _, rfl⟩
end Go.Proofs.YtmcimgnobimicaaGreat
/- impl.stepTime, spec.l2Step. Conditions: a valid map; cells of it. -/
namespace Go.Proofs.YtmcimgnobimicaaGreat
open Go.RowKit Go.Ori
set_option maxHeartbeats 2000000 in
theorem stepTime_any (m : Mp) (rv cv : Value) (W H a b : Nat) (w : World) (hok : MapOk m W H) (h : w.mp rv cv m) (ha : a < m.cost.length) (hb : b < m.cost.length) :
    Calls Tryz.prog 82 #[.agg #[.int .i64 m.wd, .int .i64 m.ht, rv, cv], .int .i64 a, .int .i64 b] w fun x w' => x = .returned (.int .i64 (stepZ m a b)) ∧ ∃ d, w' = w.ext d := by
  obtain ⟨b1, o1, c1, b2, o2, c2, hin⟩ := mp_in h hok
  have hn := hok.n36
  have ca := hin.ro a ha
  have cb := hin.ro b hb
  have cc := hin.co b hb
  have ob1 := hin.ob1
  have ob2 := hin.ob2
  have ra := hok.rr a
  have rb := hok.rr b
  have rc := hok.cr b
  have HE : Hid (stepZ m a b = costAt m b + 2 * max (riseAt m b - riseAt m a) 0 + max (-(riseAt m b - riseAt m a) - 2) 0) := Lib.hid rfl
  obtain rfl := hin.rv
  obtain rfl := hin.cv
  clear h hin hok
  generalize riseAt m a = x at *
  generalize riseAt m b = y at *
  generalize costAt m b = z at *
  go_enter Tryz.func82, Tryz.ntmps82
  go_wp2
  refine wp_region_gain (by kernel_rfl) (by kernel_rfl) ?_
  repeat (first | go_big_quiet_skip | (go_big_quiet_want; go_big_quiet_op; first | go_big_quiet_on))
  refine wpQuiet_nil ?_
  rintro _ ⟨d', rfl⟩
  go_wp2
  all_goals go_ret
  all_goals rw [HE.out]
  all_goals exact ⟨ret_int (by omega), (by repeat (first | with_reducible (first | exact World.gained_refl _ | exact ⟨_, rfl⟩ | apply gain_ext | apply gain_alloc | apply gain_drewN | apply gain_drew) | (refine gain_setCell ?_ (by first | exact Nat.le_refl _ | exact World.size_ext _ _ | (simp; done) | (simp; omega)) _)))⟩
set_option maxHeartbeats 2000000 in
theorem l2Step_any (m : Mp) (rv cv : Value) (W H a b : Nat) (w : World) (hok : MapOk m W H) (h : w.mp rv cv m) (ha : a < m.cost.length) (hb : b < m.cost.length) :
    Calls Tryz.prog 86 #[.agg #[.int .i64 m.wd, .int .i64 m.ht, rv, cv], .int .i64 a, .int .i64 b] w fun x w' => x = .returned (.int .i64 (stepZ m a b)) ∧ ∃ d, w' = w.ext d := by
  obtain ⟨b1, o1, c1, b2, o2, c2, hin⟩ := mp_in h hok
  have hn := hok.n36
  have ca := hin.ro a ha
  have cb := hin.ro b hb
  have cc := hin.co b hb
  have ob1 := hin.ob1
  have ob2 := hin.ob2
  have ra := hok.rr a
  have rb := hok.rr b
  have rc := hok.cr b
  have HE : Hid (stepZ m a b = costAt m b + 2 * max (riseAt m b - riseAt m a) 0 + max (-(riseAt m b - riseAt m a) - 2) 0) := Lib.hid rfl
  obtain rfl := hin.rv
  obtain rfl := hin.cv
  clear h hin hok
  generalize riseAt m a = x at *
  generalize riseAt m b = y at *
  generalize costAt m b = z at *
  go_enter Tryz.func86, Tryz.ntmps86
  go_wp2
  refine wp_region_gain (by kernel_rfl) (by kernel_rfl) ?_
  repeat (first | go_big_quiet_skip | (go_big_quiet_want; go_big_quiet_op; first | go_big_quiet_on))
  refine wpQuiet_nil ?_
  rintro _ ⟨d', rfl⟩
  go_wp2
  refine wp_region_gain (by kernel_rfl) (by kernel_rfl) ?_
  repeat (first | go_big_quiet_skip | (go_big_quiet_want; go_big_quiet_op; first | go_big_quiet_on | ((apply Exists.intro); (refine ⟨fun _ => ?_, ?_⟩); (· (go_at_call 59; exact Calls.gain_same (l1Most_any _ _ _))); (go_big_quiet_on))))
  refine wpQuiet_nil ?_
  rintro _ ⟨d', rfl⟩
  go_wp2
  all_goals go_ret
  all_goals rw [HE.out]
  all_goals exact ⟨ret_int (by omega), (by repeat (first | with_reducible (first | exact World.gained_refl _ | exact ⟨_, rfl⟩ | apply gain_ext | apply gain_alloc | apply gain_drewN | apply gain_drew) | (refine gain_setCell ?_ (by first | exact Nat.le_refl _ | exact World.size_ext _ _ | (simp; done) | (simp; omega)) _)))⟩
end Go.Proofs.YtmcimgnobimicaaGreat
/- impl.cellsNextTo, spec.l2Next. Conditions: a valid map; a cell of it. -/
namespace Go
open RowKit Go.Ori
/-- A map's box. -/
theorem cell_up {w w' : World} {a : Addr} {v : Value} (h : w.cell? a = some v) (hg : ∃ d, w' = w.ext d) : w'.cell? a = some v := by
  obtain ⟨d, rfl⟩ := hg
  exact cell_ext h d
theorem MpIn.up {w w' : World} {m : Mp} {rv cv : Value} {b1 o1 c1 b2 o2 c2 : Nat} (h : MpIn w m rv cv b1 o1 c1 b2 o2 c2) (hg : ∃ d, w' = w.ext d) : MpIn w' m rv cv b1 o1 c1 b2 o2 c2 :=
  ⟨h.rv, h.cv, fun k hk => cell_up (h.ro k hk) hg, fun k hk => cell_up (h.co k hk) hg, Nat.lt_of_lt_of_le h.ob1 (gain_size hg), Nat.lt_of_lt_of_le h.ob2 (gain_size hg)⟩
structure MBox (w W0 : World) (B : Nat) (m : Mp) (rv cv : Value) : Prop where
  up : ∃ d, W0 = w.ext d
  c0 : W0.cell? ⟨B, 0, none⟩ = some (.int .i64 m.wd)
  c1 : W0.cell? ⟨B, 1, none⟩ = some (.int .i64 m.ht)
  c2 : W0.cell? ⟨B, 2, none⟩ = some rv
  c3 : W0.cell? ⟨B, 3, none⟩ = some cv
  ob : W0.oldB B
  sz : w.heap.size ≤ W0.heap.size
  se : W0.heap.size = B + 1
theorem mbox {w : World} {m : Mp} {rv cv : Value} {e : TypeId} : MBox w (w.alloc (.cells #[.int .i64 m.wd, .int .i64 m.ht, rv, cv] e)) w.heap.size m rv cv := by
  refine ⟨gain_alloc w.gained_refl _, ?_, ?_, ?_, ?_, by simp [go_sem], ?_, World.size_alloc _ _⟩
  · rw [World.cell?_alloc_new]; rfl
  · rw [World.cell?_alloc_new]; rfl
  · rw [World.cell?_alloc_new]; rfl
  · rw [World.cell?_alloc_new]; rfl
  · rw [World.size_alloc]; omega
end Go
namespace Go.Ori
def natL (l : List Nat) : List Int := l.map fun k : Nat => (k : Int)
theorem natL_app (l m : List Nat) : natL (l ++ m) = natL l ++ natL m := by simp [natL]
theorem natL_length (l : List Nat) : (natL l).length = l.length := by simp [natL]
theorem natL_get (l : List Nat) (i : Nat) (h : i < (natL l).length) : (natL l)[i] = ((l[i]'(by rw [← natL_length]; exact h) : Nat) : Int) := by simp [natL]
def nextTo (m : Mp) (c k : Nat) : List Nat := (List.range k).filter (isNext m c)
theorem nextTo_succ (m : Mp) (c k : Nat) : nextTo m c (k + 1) = nextTo m c k ++ if isNext m c k then [k] else [] := by
  rw [nextTo, List.range_succ, List.filter_append, nextTo]
  simp [List.filter_cons]
theorem nextTo_len (m : Mp) (c k : Nat) : (nextTo m c k).length ≤ k := by
  have := List.length_filter_le (isNext m c) (List.range k)
  rw [List.length_range] at this
  exact this
end Go.Ori
namespace Go.Proofs.YtmcimgnobimicaaGreat
open Go.RowKit Go.Ori
set_option maxHeartbeats 2000000 in
theorem cellsNextTo_any (m : Mp) (rv cv : Value) (W H c : Nat) (w : World) (hok : MapOk m W H) (h : w.mp rv cv m) (hc : c < m.cost.length) :
    Calls Tryz.prog 81 #[.agg #[.int .i64 m.wd, .int .i64 m.ht, rv, cv], .int .i64 c] w fun x w' => ∃ v', x = .returned v' ∧ (∃ d, w' = w.ext d) ∧ w'.own w.heap.size 3 intC 1 v' (natL (nextL m c)) := by
  have hm := Lib.hid h
  obtain ⟨b1, o1, c1, b2, o2, c2, hin⟩ := mp_in h hok
  have hn := hok.n36
  have HIN := Lib.hid hin
  have HK := Lib.hid hok
  obtain rfl := hin.rv
  obtain rfl := hin.cv
  have ob1 := hin.ob1
  have ob2 := hin.ob2
  clear h hin hok
  go_enter Tryz.func81, Tryz.ntmps81
  go_wp2_with fail
  generalize hW0 : w.alloc (.cells #[.int .i64 m.wd, .int .i64 m.ht, .slice (some ⟨b1, o1, none⟩) m.cost.length c1, .slice (some ⟨b2, o2, none⟩) m.cost.length c2] 26) = W0
  have hbx : MBox w W0 w.heap.size m (.slice (some ⟨b1, o1, none⟩) m.cost.length c1) (.slice (some ⟨b2, o2, none⟩) m.cost.length c2) := by rw [← hW0]; exact mbox
  have HG := Lib.hid hbx.up
  have hsz := hbx.sz
  have bx0 := hbx.c0
  have bx1 := hbx.c1
  have bx2 := hbx.c2
  have bx3 := hbx.c3
  have obx := hbx.ob
  have HSE := Lib.hid hbx.se
  have HI0 := Lib.hid (HIN.out.up HG.out)
  clear hW0 hbx ob1 ob2
  have ob1 := HI0.out.ob1
  have ob2 := HI0.out.ob2
  go_loopw [5, 12] (fun ov i wr => ∃ k : Nat, k ≤ m.cost.length ∧ i = .int .i64 k ∧ (∃ d, wr = W0.ext d) ∧ wr.own W0.heap.size 3 intC 1 ov (natL (nextTo m c k))) (fun _ i _ => m.cost.length - (intOf i).toNat)
  case atStart => exact ⟨0, by omega, rfl, (by repeat (first | with_reducible (first | exact World.gained_refl _ | exact ⟨_, rfl⟩ | apply gain_ext | apply gain_alloc | apply gain_drewN | apply gain_drew) | (refine gain_setCell ?_ (by first | exact Nat.le_refl _ | exact World.size_ext _ _ | (simp; done) | (simp; omega)) _))), own_lit' (l := ([] : List Int)) intC_length rfl HSE.out.symm (gain_size (by repeat (first | with_reducible (first | exact World.gained_refl _ | exact ⟨_, rfl⟩ | apply gain_ext | apply gain_alloc | apply gain_drewN | apply gain_drew) | (refine gain_setCell ?_ (by first | exact Nat.le_refl _ | exact World.size_ext _ _ | (simp; done) | (simp; omega)) _))))⟩
  case round =>
    obtain ⟨k, hk, rfl, ⟨d, rfl⟩, ho⟩ := hrel
    have HO := Lib.hid ho
    clear ho
    by_cases hlt : k < m.cost.length
    · have ck := HI0.out.co k hlt
      have HS := Lib.hid (nextTo_succ m c k)
      have HLN := Lib.hid (show (natL (nextTo m c k)).length + 1 ≤ 2097152 by rw [natL_length]; have := nextTo_len m c k; omega)
      have HGP := Lib.hid (fun w => gapOf_any m (.slice (some ⟨b1, o1, none⟩) m.cost.length c1) (.slice (some ⟨b2, o2, none⟩) m.cost.length c2) W H c k w HK.out hc hlt)
      by_cases hcp : 0 < costAt m k
      · by_cases hg1 : gapN m.wd.toNat c k = 1
        · have HS' := Lib.hid (show nextTo m c (k + 1) = nextTo m c k ++ [k] by rw [HS.out, isNext, if_pos (by simp [hcp, hg1])])
          rw [hg1] at HGP
          have HGP' := Lib.hid HGP.out
          clear HGP
          generalize costAt m k = x at ck hcp
          clear hg1 HS
          go_wp2_with fail
          refine (HGP'.out _).mono ?_
          rintro e w1 ⟨rfl, d1, rfl⟩
          go_wp2_with (at_builtin; go_must (refine wpList_append_gain (m := [(k : Int)]) rfl (.tmp 26) (.tmp 28) rfl Tryz.underlying24 info_int (by rfl) (by omega) intC_length intC_one (by omega) (by repeat (first | with_reducible (first | exact World.gained_refl _ | exact ⟨_, rfl⟩ | apply gain_ext | apply gain_alloc | apply gain_drewN | apply gain_drew) | (refine gain_setCell ?_ (by first | exact Nat.le_refl _ | exact World.size_ext _ _ | (simp; done) | (simp; omega)) _))) (Nat.le_refl _) (gain_size (by repeat (first | with_reducible (first | exact World.gained_refl _ | exact ⟨_, rfl⟩ | apply gain_ext | apply gain_alloc | apply gain_drewN | apply gain_drew) | (refine gain_setCell ?_ (by first | exact Nat.le_refl _ | exact World.size_ext _ _ | (simp; done) | (simp; omega)) _)))) rfl rfl (own_up (HO.out) (by repeat (first | with_reducible (first | exact World.gained_refl _ | exact ⟨_, rfl⟩ | apply gain_ext | apply gain_alloc | apply gain_drewN | apply gain_drew) | (refine gain_setCell ?_ (by first | exact Nat.le_refl _ | exact World.size_ext _ _ | (simp; done) | (simp; omega)) _)))) (sl_lit (l := [(k : Int)]) intC_length rfl (by simp)) (by simp only [List.length_singleton]; exact HLN.out) ?_); intro v' d' ho hg)
          go_roundw
          case rel => exact ⟨k + 1, by omega, by go_num, ⟨_, rfl⟩, by rw [HS'.out, natL_app]; exact ho⟩
          case measure => simp [intOf]; omega
        · have HS' := Lib.hid (show nextTo m c (k + 1) = nextTo m c k by rw [HS.out, isNext, if_neg (by simp [hg1]), List.append_nil])
          generalize costAt m k = x at ck hcp
          generalize gapN m.wd.toNat c k = y at HGP hg1
          have hg1b : (y == 1) = false := by simpa using hg1
          clear HS hg1
          go_wp2_with ((go_at_call 104; refine (HGP.out _).mono ?_; rintro e w1 ⟨rfl, d1, rfl⟩))
          go_roundw
          case rel => exact ⟨k + 1, by omega, by go_num, (by repeat (first | with_reducible (first | exact World.gained_refl _ | exact ⟨_, rfl⟩ | apply gain_ext | apply gain_alloc | apply gain_drewN | apply gain_drew) | (refine gain_setCell ?_ (by first | exact Nat.le_refl _ | exact World.size_ext _ _ | (simp; done) | (simp; omega)) _))), by rw [HS'.out]; exact (own_up (HO.out) (by repeat (first | with_reducible (first | exact World.gained_refl _ | exact ⟨_, rfl⟩ | apply gain_ext | apply gain_alloc | apply gain_drewN | apply gain_drew) | (refine gain_setCell ?_ (by first | exact Nat.le_refl _ | exact World.size_ext _ _ | (simp; done) | (simp; omega)) _))))⟩
          case measure => simp [intOf]; omega
      · have HS' := Lib.hid (show nextTo m c (k + 1) = nextTo m c k by rw [HS.out, isNext, if_neg (by simp [hcp]), List.append_nil])
        generalize costAt m k = x at ck hcp
        clear HS HGP
        go_wp2
        go_roundw
        case rel => exact ⟨k + 1, by omega, by go_num, (by repeat (first | with_reducible (first | exact World.gained_refl _ | exact ⟨_, rfl⟩ | apply gain_ext | apply gain_alloc | apply gain_drewN | apply gain_drew) | (refine gain_setCell ?_ (by first | exact Nat.le_refl _ | exact World.size_ext _ _ | (simp; done) | (simp; omega)) _))), by rw [HS'.out]; exact (own_up (HO.out) (by repeat (first | with_reducible (first | exact World.gained_refl _ | exact ⟨_, rfl⟩ | apply gain_ext | apply gain_alloc | apply gain_drewN | apply gain_drew) | (refine gain_setCell ?_ (by first | exact Nat.le_refl _ | exact World.size_ext _ _ | (simp; done) | (simp; omega)) _))))⟩
        case measure => simp [intOf]; omega
    · go_wp2
      go_ret
      obtain rfl : k = m.cost.length := by omega
      exact ⟨_, rfl, gain_trans HG.out ⟨_, rfl⟩, own_base HO.out hsz⟩
end Go.Proofs.YtmcimgnobimicaaGreat
