/- spec.DrawSharedLegs: a map, controls and two courses. Condition: at most 1048576 bytes. -/
import Derived.Test.YtmcimgnobimicaaGreatG13
import Derived.Test.YtmcimgnobimicaaGreatG18
import Derived.Test.YtmcimgnobimicaaGreatG4
import Derived.Test.YtmcimgnobimicaaGreatG2
namespace Go.Proofs.YtmcimgnobimicaaGreat
open Go.RowKit Go.Ori

set_option maxHeartbeats 4000000 in
set_option maxRecDepth 100000 in
theorem drawSharedLegs_any (v : Value) (L : List Int) (w : World) (h : w.sl byteC 1 v L) (hq : ∀ x ∈ L, 0 ≤ x ∧ x ≤ 255) (hl : L.length ≤ 1048576) :
    Calls Tryz.prog 11 #[v] w fun x w' => ∃ (m : Mp) (rv cv lv : Value) (l : List Ctl) (x0 : Value) (l0 : List Int) (x1 : Value) (l1 : List Int), x = .returned (.tuple #[.agg #[.int .i64 m.wd, .int .i64 m.ht, rv, cv], lv, x0, x1]) ∧ (∃ d, w' = w.ext d) ∧ w'.own w.heap.size 3 intC 1 rv m.rise ∧ w'.own w.heap.size 3 intC 1 cv m.cost ∧ m.rise.length ≤ 21 ∧ m.cost.length ≤ 21 ∧ w'.own w.heap.size 73 Ctl.cells 2 lv l ∧ l.length ≤ 11 ∧ w'.own w.heap.size 3 intC 1 x0 l0 ∧ l0.length ≤ 9 ∧ w'.own w.heap.size 3 intC 1 x1 l1 ∧ l1.length ≤ 20 := by
  have hs := Lib.hid h
  have HQ := Lib.hid hq
  obtain ⟨p, c, rfl, _⟩ := h
  clear hq
  have HW1 := Lib.hid (show ∃ d, w.alloc (.cells #[.int .i64 0, .int .i64 0, .slice none 0 0, .slice none 0 0] 26) = w.ext d from (by repeat (first | with_reducible (first | exact World.gained_refl _ | exact ⟨_, rfl⟩ | apply gain_ext | apply gain_alloc | apply gain_drewN | apply gain_drew) | (refine gain_setCell ?_ (by first | exact Nat.le_refl _ | exact World.size_ext _ _ | (simp; done) | (simp; omega)) _))))
  have hsz : (w.alloc (.cells #[.int .i64 0, .int .i64 0, .slice none 0 0, .slice none 0 0] 26)).heap.size = w.heap.size + 1 := World.size_alloc _ _
  have HRZ := Lib.hid (heap_alloc_new w (.cells #[.int .i64 0, .int .i64 0, .slice none 0 0, .slice none 0 0] 26))
  have HCN := Lib.hid (cur_new (e := 60) (sl_up byteC_length hs.out HW1.out) HQ.out hl)
  go_enter Tryz.func11, Tryz.ntmps11
  go_wp2_with fail
  generalize hW1 : w.alloc (.cells #[.int .i64 0, .int .i64 0, .slice none 0 0, .slice none 0 0] 26) = W1 at HW1 HCN HRZ hsz ⊢
  rw [hsz] at HCN
  refine (track_any W1 _ (w.heap.size + 1) 0 HCN.out (by omega)).mono ?_
  rintro e wm ⟨m, rv, cv, lv, x0, l, l0, rfl, ho1, ho2, hrl, hcl, ho3, hll, hx0, hl0, hc1, hg1⟩
  have hW0 : (W1.alloc (.cells #[.slice p L.length c, .int .i64 0, .int .u64 0] 60)).heap.size = w.heap.size + 2 := by rw [World.size_alloc, hsz]
  have hlm := only_size hg1
  rw [hW0] at hlm ho1 ho2 ho3 hx0
  have hQ : QSt 60 26 3 73 W1 (wm.alloc (.cells #[.int .i64 m.wd, .int .i64 m.ht, rv, cv] 26)) (w.heap.size + 1) w.heap.size wm.heap.size (w.heap.size + 2) 600 m rv cv lv l :=
    ⟨(hc1.le (by omega)).gain (by repeat (first | with_reducible (first | exact World.gained_refl _ | exact ⟨_, rfl⟩ | apply gain_ext | apply gain_alloc | apply gain_drewN | apply gain_drew) | (refine gain_setCell ?_ (by first | exact Nat.le_refl _ | exact World.size_ext _ _ | (simp; done) | (simp; omega)) _))), row_up (row_keep (row_up HRZ.out (by repeat (first | with_reducible (first | exact World.gained_refl _ | exact ⟨_, rfl⟩ | apply gain_ext | apply gain_alloc | apply gain_drewN | apply gain_drew) | (refine gain_setCell ?_ (by first | exact Nat.le_refl _ | exact World.size_ext _ _ | (simp; done) | (simp; omega)) _)))) hg1 (fun q e => by cases e; omega)) (by repeat (first | with_reducible (first | exact World.gained_refl _ | exact ⟨_, rfl⟩ | apply gain_ext | apply gain_alloc | apply gain_drewN | apply gain_drew) | (refine gain_setCell ?_ (by first | exact Nat.le_refl _ | exact World.size_ext _ _ | (simp; done) | (simp; omega)) _))), heap_alloc_new wm _, own_up ho1 (by repeat (first | with_reducible (first | exact World.gained_refl _ | exact ⟨_, rfl⟩ | apply gain_ext | apply gain_alloc | apply gain_drewN | apply gain_drew) | (refine gain_setCell ?_ (by first | exact Nat.le_refl _ | exact World.size_ext _ _ | (simp; done) | (simp; omega)) _))), own_up ho2 (by repeat (first | with_reducible (first | exact World.gained_refl _ | exact ⟨_, rfl⟩ | apply gain_ext | apply gain_alloc | apply gain_drewN | apply gain_drew) | (refine gain_setCell ?_ (by first | exact Nat.le_refl _ | exact World.size_ext _ _ | (simp; done) | (simp; omega)) _))), own_up ho3 (by repeat (first | with_reducible (first | exact World.gained_refl _ | exact ⟨_, rfl⟩ | apply gain_ext | apply gain_alloc | apply gain_drewN | apply gain_drew) | (refine gain_setCell ?_ (by first | exact Nat.le_refl _ | exact World.size_ext _ _ | (simp; done) | (simp; omega)) _))), by omega, by omega, by omega⟩
  have HQ0 := Lib.hid hQ
  have HX := Lib.hid (own_up hx0 (w' := wm.alloc (.cells #[.int .i64 m.wd, .int .i64 m.ht, rv, cv] 26)) (by repeat (first | with_reducible (first | exact World.gained_refl _ | exact ⟨_, rfl⟩ | apply gain_ext | apply gain_alloc | apply gain_drewN | apply gain_drew) | (refine gain_setCell ?_ (by first | exact Nat.le_refl _ | exact World.size_ext _ _ | (simp; done) | (simp; omega)) _)))); clear hx0
  obtain ⟨pr, kr, rfl, _⟩ := sl_of_own intC_length ho1
  obtain ⟨pc, kc, rfl, _⟩ := sl_of_own intC_length ho2
  obtain ⟨pl, kl, rfl, _⟩ := sl_of_own Ctl.cells_length ho3
  clear hc1 hg1 ho1 ho2 ho3 hQ hW1 HRZ HCN
  generalize hg : w.heap.size + 1 = g at HQ0 ⊢
  generalize hlo : w.heap.size + 2 = lo at HQ0 hlm HX ⊢
  go_wp2_with fail
  generalize wm.alloc (.cells #[.int .i64 m.wd, .int .i64 m.ht, .slice pr m.rise.length kr, .slice pc m.cost.length kc] 26) = ww at HQ0 HX ⊢
  generalize wm.heap.size = gM at HQ0 hlm ⊢
  refine (one_any _ _ g _ _ (HQ0.out.cur.gain (by repeat (first | with_reducible (first | exact World.gained_refl _ | exact ⟨_, rfl⟩ | apply gain_ext | apply gain_alloc | apply gain_drewN | apply gain_drew) | (refine gain_setCell ?_ (by first | exact Nat.le_refl _ | exact World.size_ext _ _ | (simp; done) | (simp; omega)) _)))) (by omega)).mono ?_
  rintro e wo ⟨r, rfl, hcq, hgq⟩
  have HQ1 := Lib.hid (((HQ0.out.up (by repeat (first | with_reducible (first | exact World.gained_refl _ | exact ⟨_, rfl⟩ | apply gain_ext | apply gain_alloc | apply gain_drewN | apply gain_drew) | (refine gain_setCell ?_ (by first | exact Nat.le_refl _ | exact World.size_ext _ _ | (simp; done) | (simp; omega)) _)))).on hcq hgq).le (show _ ≤ 700 by omega))
  have HX1 := Lib.hid (own_cur (own_up HX.out (by repeat (first | with_reducible (first | exact World.gained_refl _ | exact ⟨_, rfl⟩ | apply gain_ext | apply gain_alloc | apply gain_drewN | apply gain_drew) | (refine gain_setCell ?_ (by first | exact Nat.le_refl _ | exact World.size_ext _ _ | (simp; done) | (simp; omega)) _)))) HQ0.out.g1 hgq)
  clear hcq hgq HQ0 HX
  cases r with
  | true =>
    go_upto_region 4 with fail
    refine wp_region_held_drew (S := (fun w' => w'.cell? ⟨gM, 0, none⟩ = some (.int .i64 m.wd) ∧ w'.cell? ⟨gM, 1, none⟩ = some (.int .i64 m.ht) ∧ w'.cell? ⟨gM, 2, none⟩ = some (.slice pr m.rise.length kr) ∧ w'.cell? ⟨gM, 3, none⟩ = some (.slice pc m.cost.length kc))) (by kernel_rfl) ⟨World.cell_of_heap HQ1.out.box 0, World.cell_of_heap HQ1.out.box 1, World.cell_of_heap HQ1.out.box 2, World.cell_of_heap HQ1.out.box 3⟩ (fun hHeld => ?_)
    refine wpAnyH_take (i := 0) (oi := ⟨_, _, _, _, _, _⟩) (v := ?_) rfl (by kernel_rfl) (by kernel_rfl) (by kernel_rfl) (fun _ _ _ h => h) (Or.inl ⟨by rfl, ?_⟩) (by assumption) ?_
    rotate_left
    · intro w hSw; (try dsimp only at hSw); go_simp; (try with_reducible rfl)
    try simp only [Act.put, List.setIfInBounds_toArray, List.set_cons_zero, List.set_cons_succ]
    refine wpAnyH_take (i := 1) (oi := ⟨_, _, _, _, _, _⟩) (v := ?_) rfl (by kernel_rfl) (by kernel_rfl) (by kernel_rfl) (fun _ _ _ h => h) (Or.inl ⟨by rfl, ?_⟩) (by assumption) ?_
    rotate_left
    · intro w hSw; (try dsimp only at hSw); go_simp; (try with_reducible rfl)
    try simp only [Act.put, List.setIfInBounds_toArray, List.set_cons_zero, List.set_cons_succ]
    refine wpAnyH_take (i := 2) (oi := ⟨_, _, _, _, _, _⟩) (v := ?_) rfl (by kernel_rfl) (by kernel_rfl) (by kernel_rfl) (fun _ _ _ h => h) (Or.inl ⟨by rfl, ?_⟩) (by assumption) ?_
    rotate_left
    · intro w hSw; (try dsimp only at hSw); go_simp; (try with_reducible rfl)
    try simp only [Act.put, List.setIfInBounds_toArray, List.set_cons_zero, List.set_cons_succ]
    refine wpAnyH_take (i := 3) (oi := ⟨_, _, _, _, _, _⟩) (v := ?_) rfl (by kernel_rfl) (by kernel_rfl) (by kernel_rfl) (fun _ _ _ h => h) (Or.inl ⟨by rfl, ?_⟩) (by assumption) ?_
    rotate_left
    · intro w hSw; (try dsimp only at hSw); go_simp; (try with_reducible rfl)
    try simp only [Act.put, List.setIfInBounds_toArray, List.set_cons_zero, List.set_cons_succ]
    refine wpAnyH_take (i := 4) (oi := ⟨_, _, _, _, _, _⟩) (v := ?_) rfl (by kernel_rfl) (by kernel_rfl) (by kernel_rfl) (fun _ _ _ h => h) (Or.inl ⟨by rfl, ?_⟩) (by assumption) ?_
    rotate_left
    · intro w hSw; (try dsimp only at hSw); go_simp; (try with_reducible rfl)
    try simp only [Act.put, List.setIfInBounds_toArray, List.set_cons_zero, List.set_cons_succ]
    refine wpAnyH_ready (rs := [5]) (by kernel_rfl) (by simp) ?_
    refine AllReadyH.cons rfl (fun K hK => ?_) (AllReadyH.nil)
    go_simp
    go_wp2_with fail
    refine (course_any W1 _ g _ lo _ l (HQ1.out.cur.gain (by repeat (first | with_reducible (first | exact World.gained_refl _ | exact ⟨_, rfl⟩ | apply gain_ext | apply gain_alloc | apply gain_drewN | apply gain_drew) | (refine gain_setCell ?_ (by first | exact Nat.le_refl _ | exact World.size_ext _ _ | (simp; done) | (simp; omega)) _)))) (by omega) HQ1.out.g1 (own_up HQ1.out.ls (by repeat (first | with_reducible (first | exact World.gained_refl _ | exact ⟨_, rfl⟩ | apply gain_ext | apply gain_alloc | apply gain_drewN | apply gain_drew) | (refine gain_setCell ?_ (by first | exact Nat.le_refl _ | exact World.size_ext _ _ | (simp; done) | (simp; omega)) _)))) (by omega)).mono ?_
    rintro e wq ⟨u, rl, rfl, hou, hrl9, hcv, hgv⟩
    have HQ2 := Lib.hid ((HQ1.out.up (by repeat (first | with_reducible (first | exact World.gained_refl _ | exact ⟨_, rfl⟩ | apply gain_ext | apply gain_alloc | apply gain_drewN | apply gain_drew) | (refine gain_setCell ?_ (by first | exact Nat.le_refl _ | exact World.size_ext _ _ | (simp; done) | (simp; omega)) _)))).on hcv hgv)
    have HU := Lib.hid (own_base hou (Nat.le_of_lt (HQ1.out.up (by repeat (first | with_reducible (first | exact World.gained_refl _ | exact ⟨_, rfl⟩ | apply gain_ext | apply gain_alloc | apply gain_drewN | apply gain_drew) | (refine gain_setCell ?_ (by first | exact Nat.le_refl _ | exact World.size_ext _ _ | (simp; done) | (simp; omega)) _)))).size))
    have HX2 := Lib.hid (own_cur (own_up HX1.out (by repeat (first | with_reducible (first | exact World.gained_refl _ | exact ⟨_, rfl⟩ | apply gain_ext | apply gain_alloc | apply gain_drewN | apply gain_drew) | (refine gain_setCell ?_ (by first | exact Nat.le_refl _ | exact World.size_ext _ _ | (simp; done) | (simp; omega)) _)))) HQ1.out.g1 hgv)
    clear hcv hgv hou HQ1 HX1
    (try dsimp only)
    refine hK.out _ _ ?_ (fun hHeld => ?_)
    · exact ⟨World.cell_of_heap HQ2.out.box 0, World.cell_of_heap HQ2.out.box 1, World.cell_of_heap HQ2.out.box 2, World.cell_of_heap HQ2.out.box 3⟩
    clear hK K
    try simp only [Act.put, List.setIfInBounds_toArray, List.set_cons_zero, List.set_cons_succ]
    have ey0 : wq.cell? ⟨w.heap.size, 0, none⟩ = some (.int .i64 0) := World.cell_of_heap HQ2.out.res 0
    have ez0 : wq.frozen? ⟨w.heap.size, 0, none⟩ = false := World.free_of_heap HQ2.out.res 0
    have ey1 : wq.cell? ⟨w.heap.size, 1, none⟩ = some (.int .i64 0) := World.cell_of_heap HQ2.out.res 1
    have ez1 : wq.frozen? ⟨w.heap.size, 1, none⟩ = false := World.free_of_heap HQ2.out.res 1
    have ey2 : wq.cell? ⟨w.heap.size, 2, none⟩ = some (.slice none 0 0) := World.cell_of_heap HQ2.out.res 2
    have ez2 : wq.frozen? ⟨w.heap.size, 2, none⟩ = false := World.free_of_heap HQ2.out.res 2
    have ey3 : wq.cell? ⟨w.heap.size, 3, none⟩ = some (.slice none 0 0) := World.cell_of_heap HQ2.out.res 3
    have ez3 : wq.frozen? ⟨w.heap.size, 3, none⟩ = false := World.free_of_heap HQ2.out.res 3
    have ex0 : wq.cell? ⟨gM, 0, none⟩ = some (.int .i64 m.wd) := World.cell_of_heap HQ2.out.box 0
    have ex1 : wq.cell? ⟨gM, 1, none⟩ = some (.int .i64 m.ht) := World.cell_of_heap HQ2.out.box 1
    have ex2 : wq.cell? ⟨gM, 2, none⟩ = some (.slice pr m.rise.length kr) := World.cell_of_heap HQ2.out.box 2
    have ex3 : wq.cell? ⟨gM, 3, none⟩ = some (.slice pc m.cost.length kc) := World.cell_of_heap HQ2.out.box 3
    have eoc := World.oldB_of_cell ey0
    have eob := World.oldB_of_cell ex0
    have gw0 := World.heap_setCell_row HQ2.out.res 0 (.int .i64 m.wd)
    have gc0 : (wq.setCell ⟨w.heap.size, 0, none⟩ (.int .i64 m.wd)).cell? ⟨w.heap.size, 0, none⟩ = some (.int .i64 m.wd) := World.cell_of_heap gw0 0
    have gw1 := World.heap_setCell_row gw0 1 (.int .i64 m.ht)
    have gc1 : ((wq.setCell ⟨w.heap.size, 0, none⟩ (.int .i64 m.wd)).setCell ⟨w.heap.size, 1, none⟩ (.int .i64 m.ht)).cell? ⟨w.heap.size, 1, none⟩ = some (.int .i64 m.ht) := World.cell_of_heap gw1 1
    have gw2 := World.heap_setCell_row gw1 2 (.slice pr m.rise.length kr)
    have gc2 : (((wq.setCell ⟨w.heap.size, 0, none⟩ (.int .i64 m.wd)).setCell ⟨w.heap.size, 1, none⟩ (.int .i64 m.ht)).setCell ⟨w.heap.size, 2, none⟩ (.slice pr m.rise.length kr)).cell? ⟨w.heap.size, 2, none⟩ = some (.slice pr m.rise.length kr) := World.cell_of_heap gw2 2
    have gw3 := World.heap_setCell_row gw2 3 (.slice pc m.cost.length kc)
    have gc3 : ((((wq.setCell ⟨w.heap.size, 0, none⟩ (.int .i64 m.wd)).setCell ⟨w.heap.size, 1, none⟩ (.int .i64 m.ht)).setCell ⟨w.heap.size, 2, none⟩ (.slice pr m.rise.length kr)).setCell ⟨w.heap.size, 3, none⟩ (.slice pc m.cost.length kc)).cell? ⟨w.heap.size, 3, none⟩ = some (.slice pc m.cost.length kc) := World.cell_of_heap gw3 3
    clear gw0 gw1 gw2 gw3
    have hon : World.grownBy wq ((((wq.setCell ⟨w.heap.size, 0, none⟩ (.int .i64 m.wd)).setCell ⟨w.heap.size, 1, none⟩ (.int .i64 m.ht)).setCell ⟨w.heap.size, 2, none⟩ (.slice pr m.rise.length kr)).setCell ⟨w.heap.size, 3, none⟩ (.slice pc m.cost.length kc)) (some w.heap.size) := by repeat (first | exact only_refl _ _ | refine only_setCell ?_ rfl _)
    have HF := Lib.hid (HQ2.out.fin hon HW1.out (Nat.le_refl _))
    have hbl : w.heap.size ≤ lo := by omega
    have HFHX2 := Lib.hid (own_not HX2.out (fun q e => by have := (own_lt HX2.out q e).1; omega) hon)
    have HFHU := Lib.hid (own_not HU.out (fun q e => by have := (own_lt HU.out q e).1; omega) hon)
    clear hon
    refine wpAnyH_ready (rs := [6]) (by kernel_rfl) (by simp) ?_
    refine AllReadyH.cons rfl (fun K hK => ?_) (AllReadyH.nil)
    go_simp
    (try dsimp only)
    refine hK.out _ _ ?_ (fun hHeld => ?_)
    · exact ⟨World.cell_of_heap HF.out.2.2.2.2 0, World.cell_of_heap HF.out.2.2.2.2 1, World.cell_of_heap HF.out.2.2.2.2 2, World.cell_of_heap HF.out.2.2.2.2 3⟩
    clear hK K
    try simp only [Act.put, List.setIfInBounds_toArray, List.set_cons_zero, List.set_cons_succ]
    refine wpAnyH_take (i := 7) (oi := ⟨_, _, _, _, _, _⟩) (v := ?_) rfl (by kernel_rfl) (by kernel_rfl) (by kernel_rfl) (fun _ _ _ h => h) (Or.inl ⟨by rfl, ?_⟩) (by assumption) ?_
    rotate_left
    · intro w hSw; (try dsimp only at hSw); go_simp; (try with_reducible rfl)
    try simp only [Act.put, List.setIfInBounds_toArray, List.set_cons_zero, List.set_cons_succ]
    refine wpAnyH_take (i := 8) (oi := ⟨_, _, _, _, _, _⟩) (v := ?_) rfl (by kernel_rfl) (by kernel_rfl) (by kernel_rfl) (fun _ _ _ h => h) (Or.inl ⟨by rfl, ?_⟩) (by assumption) ?_
    rotate_left
    · intro w hSw; (try dsimp only at hSw); go_simp; (try with_reducible rfl)
    try simp only [Act.put, List.setIfInBounds_toArray, List.set_cons_zero, List.set_cons_succ]
    refine wpAnyH_take (i := 9) (oi := ⟨_, _, _, _, _, _⟩) (v := ?_) rfl (by kernel_rfl) (by kernel_rfl) (by kernel_rfl) (fun _ _ _ h => h) (Or.inl ⟨by rfl, ?_⟩) (by assumption) ?_
    rotate_left
    · intro w hSw; (try dsimp only at hSw); go_simp; (try with_reducible rfl)
    try simp only [Act.put, List.setIfInBounds_toArray, List.set_cons_zero, List.set_cons_succ]
    refine wpAnyH_done (by kernel_rfl) ?_ _
    go_wp2
    refine bodyPost_ret (v := .tuple #[.agg #[.int .i64 m.wd, .int .i64 m.ht, .slice pr m.rise.length kr, .slice pc m.cost.length kc], .slice pl l.length kl, x0, u]) (by simp [results, Tryz.results11, go_sem, gc0, gc1, gc2, gc3]) rfl ?_
    exact ⟨m, _, _, _, l, _, _, _, _, rfl, HF.out.1, own_base HF.out.2.1 hbl, own_base HF.out.2.2.1 hbl, hrl, hcl, own_base HF.out.2.2.2.1 hbl, hll, own_base HFHX2.out hbl, hl0, own_base HFHU.out hbl, by omega⟩
  | false =>
    have hwq : IntKind.i64.wrap ((l0.length : Int) + 1) = (l0.length : Int) + 1 := IntWalk.i64_in _ (by omega)
    obtain ⟨_, ⟨hxv, hx0⟩ | ⟨gx, kx, _, hxv, _⟩⟩ := id HX1.out
    · subst hxv
      obtain rfl : l0 = [] := List.length_eq_zero_iff.1 hx0
      go_wp2_with fail
      refine (pick_any _ _ g _ _ (HQ1.out.cur.gain (by repeat (first | with_reducible (first | exact World.gained_refl _ | exact ⟨_, rfl⟩ | apply gain_ext | apply gain_alloc | apply gain_drewN | apply gain_drew) | (refine gain_setCell ?_ (by first | exact Nat.le_refl _ | exact World.size_ext _ _ | (simp; done) | (simp; omega)) _)))) (by omega)).mono ?_
      rintro e wq ⟨r, rfl, q1, q2, hcq, hgq⟩
      obtain ⟨k, rfl⟩ : ∃ k : Nat, r = (k : Int) := ⟨r.toNat, by omega⟩
      have hk : k ≤ ([] : List Int).length := by omega
      have HQ2 := Lib.hid ((HQ1.out.up (by repeat (first | with_reducible (first | exact World.gained_refl _ | exact ⟨_, rfl⟩ | apply gain_ext | apply gain_alloc | apply gain_drewN | apply gain_drew) | (refine gain_setCell ?_ (by first | exact Nat.le_refl _ | exact World.size_ext _ _ | (simp; done) | (simp; omega)) _)))).on hcq hgq)
      have HX2 := Lib.hid (own_cur (own_up HX1.out (by repeat (first | with_reducible (first | exact World.gained_refl _ | exact ⟨_, rfl⟩ | apply gain_ext | apply gain_alloc | apply gain_drewN | apply gain_drew) | (refine gain_setCell ?_ (by first | exact Nat.le_refl _ | exact World.size_ext _ _ | (simp; done) | (simp; omega)) _)))) HQ1.out.g1 hgq)
      clear hcq hgq q1 q2 HQ1 HX1
      have hcx := sl_cap (sl_of_own intC_length HX2.out)
      have hk0 : (0 : Int) ≤ (k : Int) := by omega
      have hk2 : (k : Int) ≤ (([] : List Int).length : Int) := by omega
      obtain rfl : k = 0 := by simpa using hk
      go_upto_region 6 with fail
      refine wp_region_held_drew (S := (fun w' => w'.cell? ⟨gM, 0, none⟩ = some (.int .i64 m.wd) ∧ w'.cell? ⟨gM, 1, none⟩ = some (.int .i64 m.ht) ∧ w'.cell? ⟨gM, 2, none⟩ = some (.slice pr m.rise.length kr) ∧ w'.cell? ⟨gM, 3, none⟩ = some (.slice pc m.cost.length kc))) (by kernel_rfl) ⟨World.cell_of_heap HQ2.out.box 0, World.cell_of_heap HQ2.out.box 1, World.cell_of_heap HQ2.out.box 2, World.cell_of_heap HQ2.out.box 3⟩ (fun hHeld => ?_)
      refine wpAnyH_take (i := 0) (oi := ⟨_, _, _, _, _, _⟩) (v := ?_) rfl (by kernel_rfl) (by kernel_rfl) (by kernel_rfl) (fun _ _ _ h => h) (Or.inl ⟨by rfl, ?_⟩) (by assumption) ?_
      rotate_left
      · intro w hSw; (try dsimp only at hSw); go_simp; (try with_reducible rfl)
      try simp only [Act.put, List.setIfInBounds_toArray, List.set_cons_zero, List.set_cons_succ]
      refine wpAnyH_take (i := 1) (oi := ⟨_, _, _, _, _, _⟩) (v := ?_) rfl (by kernel_rfl) (by kernel_rfl) (by kernel_rfl) (fun _ _ _ h => h) (Or.inl ⟨by rfl, ?_⟩) (by assumption) ?_
      rotate_left
      · intro w hSw; (try dsimp only at hSw); go_simp; (try with_reducible rfl)
      try simp only [Act.put, List.setIfInBounds_toArray, List.set_cons_zero, List.set_cons_succ]
      refine wpAnyH_take (i := 2) (oi := ⟨_, _, _, _, _, _⟩) (v := ?_) rfl (by kernel_rfl) (by kernel_rfl) (by kernel_rfl) (fun _ _ _ h => h) (Or.inl ⟨by rfl, ?_⟩) (by assumption) ?_
      rotate_left
      · intro w hSw; (try dsimp only at hSw); go_simp; (try with_reducible rfl)
      try simp only [Act.put, List.setIfInBounds_toArray, List.set_cons_zero, List.set_cons_succ]
      refine wpAnyH_take (i := 4) (oi := ⟨_, _, _, _, _, _⟩) (v := ?_) rfl (by kernel_rfl) (by kernel_rfl) (by kernel_rfl) (fun _ _ _ h => h) (Or.inl ⟨by rfl, ?_⟩) (by assumption) ?_
      rotate_left
      · intro w hSw; (try dsimp only at hSw); go_simp; (try with_reducible rfl)
      try simp only [Act.put, List.setIfInBounds_toArray, List.set_cons_zero, List.set_cons_succ]
      refine wpAnyH_take (i := 5) (oi := ⟨_, _, _, _, _, _⟩) (v := ?_) rfl (by kernel_rfl) (by kernel_rfl) (by kernel_rfl) (fun _ _ _ h => h) (Or.inl ⟨by rfl, ?_⟩) (by assumption) ?_
      rotate_left
      · intro w hSw; (try dsimp only at hSw); go_simp; (try with_reducible rfl)
      try simp only [Act.put, List.setIfInBounds_toArray, List.set_cons_zero, List.set_cons_succ]
      refine wpAnyH_take (i := 6) (oi := ⟨_, _, _, _, _, _⟩) (v := ?_) rfl (by kernel_rfl) (by kernel_rfl) (by kernel_rfl) (fun _ _ _ h => h) (Or.inl ⟨by rfl, ?_⟩) (by assumption) ?_
      rotate_left
      · intro w hSw; (try dsimp only at hSw); go_simp; (try with_reducible rfl)
      try simp only [Act.put, List.setIfInBounds_toArray, List.set_cons_zero, List.set_cons_succ]
      refine wpAnyH_take (i := 8) (oi := ⟨_, _, _, _, _, _⟩) (v := ?_) rfl (by kernel_rfl) (by kernel_rfl) (by kernel_rfl) (fun _ _ _ h => h) (Or.inl ⟨by rfl, ?_⟩) (by assumption) ?_
      rotate_left
      · intro w hSw; (try dsimp only at hSw); go_simp; (try with_reducible rfl)
      try simp only [Act.put, List.setIfInBounds_toArray, List.set_cons_zero, List.set_cons_succ]
      refine wpAnyH_take (i := 9) (oi := ⟨_, _, _, _, _, _⟩) (v := ?_) rfl (by kernel_rfl) (by kernel_rfl) (by kernel_rfl) (fun _ _ _ h => h) (Or.inl ⟨by rfl, ?_⟩) (by assumption) ?_
      rotate_left
      · intro w hSw; (try dsimp only at hSw); go_simp; (try with_reducible rfl)
      try simp only [Act.put, List.setIfInBounds_toArray, List.set_cons_zero, List.set_cons_succ]
      refine wpAnyH_take (i := 10) (oi := ⟨_, _, _, _, _, _⟩) (v := ?_) rfl (by kernel_rfl) (by kernel_rfl) (by kernel_rfl) (fun _ _ _ h => h) (Or.inl ⟨by rfl, ?_⟩) (by assumption) ?_
      rotate_left
      · intro w hSw; (try dsimp only at hSw); go_simp; (try with_reducible rfl)
      try simp only [Act.put, List.setIfInBounds_toArray, List.set_cons_zero, List.set_cons_succ]
      refine wpAnyH_ready (rs := [3]) (by kernel_rfl) (by simp) ?_
      refine AllReadyH.cons rfl (fun K hK => ?_) (AllReadyH.nil)
      go_simp
      have HA := Lib.hid (own_lit' (w := wq.drew) (e := 3) (base := wq.heap.size) (C := #[]) (l := ([] : List Int)) (g := wq.heap.size) intC_length rfl rfl (Nat.le_refl _))
      have HQ3 := Lib.hid (HQ2.out.up (wr' := wq.drew.alloc (.cells #[] 3)) (by repeat (first | with_reducible (first | exact World.gained_refl _ | exact ⟨_, rfl⟩ | apply gain_ext | apply gain_alloc | apply gain_drewN | apply gain_drew) | (refine gain_setCell ?_ (by first | exact Nat.le_refl _ | exact World.size_ext _ _ | (simp; done) | (simp; omega)) _))))
      (try dsimp only)
      refine hK.out _ _ ?_ (fun hHeld => ?_)
      · exact ⟨World.cell_of_heap HQ3.out.box 0, World.cell_of_heap HQ3.out.box 1, World.cell_of_heap HQ3.out.box 2, World.cell_of_heap HQ3.out.box 3⟩
      clear hK K
      try simp only [Act.put, List.setIfInBounds_toArray, List.set_cons_zero, List.set_cons_succ]
      refine wpAnyH_ready (rs := [7]) (by kernel_rfl) (by simp) ?_
      refine AllReadyH.cons rfl (fun K hK => ?_) (AllReadyH.nil)
      refine step_append_gain (W := wq) (w := wq.drew.alloc (.cells #[] 3)) (base := wq.heap.size) (v := .slice (some ⟨wq.heap.size, 0, none⟩) 0 0) (m := ([] : List Int)) (u := .slice none 0 0) rfl (.tmp 36) (.tmp 39) rfl Tryz.underlying24 info_int (by rfl) (by omega) intC_length intC_one (by omega) (by repeat (first | with_reducible (first | exact World.gained_refl _ | exact ⟨_, rfl⟩ | apply gain_ext | apply gain_alloc | apply gain_drewN | apply gain_drew) | (refine gain_setCell ?_ (by first | exact Nat.le_refl _ | exact World.size_ext _ _ | (simp; done) | (simp; omega)) _))) (Nat.le_refl _) (gain_size (by repeat (first | with_reducible (first | exact World.gained_refl _ | exact ⟨_, rfl⟩ | apply gain_ext | apply gain_alloc | apply gain_drewN | apply gain_drew) | (refine gain_setCell ?_ (by first | exact Nat.le_refl _ | exact World.size_ext _ _ | (simp; done) | (simp; omega)) _)))) (by first | rfl | (simp; done) | (simp [World.size_alloc]; done)) (by first | rfl | (simp; done) | (simp [World.size_alloc]; done)) (HA.out) (sl_nil _ _ _) (by simp) ?_
      intro vA dA hoA hgA
      clear hgA
      rw [List.nil_append] at hoA
      have HA2 := Lib.hid hoA
      clear hoA HA
      have HQ4 := Lib.hid (HQ2.out.up (wr' := wq.ext dA) (by repeat (first | with_reducible (first | exact World.gained_refl _ | exact ⟨_, rfl⟩ | apply gain_ext | apply gain_alloc | apply gain_drewN | apply gain_drew) | (refine gain_setCell ?_ (by first | exact Nat.le_refl _ | exact World.size_ext _ _ | (simp; done) | (simp; omega)) _))))
      (try dsimp only)
      refine hK.out _ _ ?_ (fun hHeld => ?_)
      · exact ⟨World.cell_of_heap HQ4.out.box 0, World.cell_of_heap HQ4.out.box 1, World.cell_of_heap HQ4.out.box 2, World.cell_of_heap HQ4.out.box 3⟩
      clear hK K
      try simp only [Act.put, List.setIfInBounds_toArray, List.set_cons_zero, List.set_cons_succ]
      refine wpAnyH_ready (rs := [11]) (by kernel_rfl) (by simp) ?_
      refine AllReadyH.cons rfl (fun K hK => ?_) (AllReadyH.nil)
      refine step_append_gain (W := wq) (w := wq.ext dA) (base := wq.heap.size) (v := vA) (m := ([] : List Int)) (u := .slice none 0 0) rfl (.tmp 40) (.tmp 43) rfl Tryz.underlying24 info_int (by rfl) (by omega) intC_length intC_one (by omega) (by repeat (first | with_reducible (first | exact World.gained_refl _ | exact ⟨_, rfl⟩ | apply gain_ext | apply gain_alloc | apply gain_drewN | apply gain_drew) | (refine gain_setCell ?_ (by first | exact Nat.le_refl _ | exact World.size_ext _ _ | (simp; done) | (simp; omega)) _))) (Nat.le_refl _) (gain_size (by repeat (first | with_reducible (first | exact World.gained_refl _ | exact ⟨_, rfl⟩ | apply gain_ext | apply gain_alloc | apply gain_drewN | apply gain_drew) | (refine gain_setCell ?_ (by first | exact Nat.le_refl _ | exact World.size_ext _ _ | (simp; done) | (simp; omega)) _)))) (by first | rfl | (simp; done) | (simp [World.size_alloc]; done)) (by first | rfl | (simp; done) | (simp [World.size_alloc]; done)) (HA2.out) (sl_nil _ _ _) (by simp) ?_
      intro vB dB hoB hgB
      clear hgB
      obtain ⟨pu, nu, ku, rfl⟩ := own_form hoB
      have HQ5 := Lib.hid (HQ2.out.up (wr' := wq.ext dB) (by repeat (first | with_reducible (first | exact World.gained_refl _ | exact ⟨_, rfl⟩ | apply gain_ext | apply gain_alloc | apply gain_drewN | apply gain_drew) | (refine gain_setCell ?_ (by first | exact Nat.le_refl _ | exact World.size_ext _ _ | (simp; done) | (simp; omega)) _))))
      have HX5 := Lib.hid (own_up HX2.out (w' := wq.ext dB) (by repeat (first | with_reducible (first | exact World.gained_refl _ | exact ⟨_, rfl⟩ | apply gain_ext | apply gain_alloc | apply gain_drewN | apply gain_drew) | (refine gain_setCell ?_ (by first | exact Nat.le_refl _ | exact World.size_ext _ _ | (simp; done) | (simp; omega)) _))))
      have HU := Lib.hid (own_base hoB (Nat.le_of_lt HQ2.out.size))
      clear hoB HA2
      (try dsimp only)
      refine hK.out _ _ ?_ (fun hHeld => ?_)
      · exact ⟨World.cell_of_heap HQ5.out.box 0, World.cell_of_heap HQ5.out.box 1, World.cell_of_heap HQ5.out.box 2, World.cell_of_heap HQ5.out.box 3⟩
      clear hK K
      try simp only [Act.put, List.setIfInBounds_toArray, List.set_cons_zero, List.set_cons_succ]
      generalize wq.ext dB = wz at HQ5 HX5 HU ⊢
      have ey0 : wz.cell? ⟨w.heap.size, 0, none⟩ = some (.int .i64 0) := World.cell_of_heap HQ5.out.res 0
      have ez0 : wz.frozen? ⟨w.heap.size, 0, none⟩ = false := World.free_of_heap HQ5.out.res 0
      have ey1 : wz.cell? ⟨w.heap.size, 1, none⟩ = some (.int .i64 0) := World.cell_of_heap HQ5.out.res 1
      have ez1 : wz.frozen? ⟨w.heap.size, 1, none⟩ = false := World.free_of_heap HQ5.out.res 1
      have ey2 : wz.cell? ⟨w.heap.size, 2, none⟩ = some (.slice none 0 0) := World.cell_of_heap HQ5.out.res 2
      have ez2 : wz.frozen? ⟨w.heap.size, 2, none⟩ = false := World.free_of_heap HQ5.out.res 2
      have ey3 : wz.cell? ⟨w.heap.size, 3, none⟩ = some (.slice none 0 0) := World.cell_of_heap HQ5.out.res 3
      have ez3 : wz.frozen? ⟨w.heap.size, 3, none⟩ = false := World.free_of_heap HQ5.out.res 3
      have ex0 : wz.cell? ⟨gM, 0, none⟩ = some (.int .i64 m.wd) := World.cell_of_heap HQ5.out.box 0
      have ex1 : wz.cell? ⟨gM, 1, none⟩ = some (.int .i64 m.ht) := World.cell_of_heap HQ5.out.box 1
      have ex2 : wz.cell? ⟨gM, 2, none⟩ = some (.slice pr m.rise.length kr) := World.cell_of_heap HQ5.out.box 2
      have ex3 : wz.cell? ⟨gM, 3, none⟩ = some (.slice pc m.cost.length kc) := World.cell_of_heap HQ5.out.box 3
      have eoc := World.oldB_of_cell ey0
      have eob := World.oldB_of_cell ex0
      have gw0 := World.heap_setCell_row HQ5.out.res 0 (.int .i64 m.wd)
      have gc0 : (wz.setCell ⟨w.heap.size, 0, none⟩ (.int .i64 m.wd)).cell? ⟨w.heap.size, 0, none⟩ = some (.int .i64 m.wd) := World.cell_of_heap gw0 0
      have gw1 := World.heap_setCell_row gw0 1 (.int .i64 m.ht)
      have gc1 : ((wz.setCell ⟨w.heap.size, 0, none⟩ (.int .i64 m.wd)).setCell ⟨w.heap.size, 1, none⟩ (.int .i64 m.ht)).cell? ⟨w.heap.size, 1, none⟩ = some (.int .i64 m.ht) := World.cell_of_heap gw1 1
      have gw2 := World.heap_setCell_row gw1 2 (.slice pr m.rise.length kr)
      have gc2 : (((wz.setCell ⟨w.heap.size, 0, none⟩ (.int .i64 m.wd)).setCell ⟨w.heap.size, 1, none⟩ (.int .i64 m.ht)).setCell ⟨w.heap.size, 2, none⟩ (.slice pr m.rise.length kr)).cell? ⟨w.heap.size, 2, none⟩ = some (.slice pr m.rise.length kr) := World.cell_of_heap gw2 2
      have gw3 := World.heap_setCell_row gw2 3 (.slice pc m.cost.length kc)
      have gc3 : ((((wz.setCell ⟨w.heap.size, 0, none⟩ (.int .i64 m.wd)).setCell ⟨w.heap.size, 1, none⟩ (.int .i64 m.ht)).setCell ⟨w.heap.size, 2, none⟩ (.slice pr m.rise.length kr)).setCell ⟨w.heap.size, 3, none⟩ (.slice pc m.cost.length kc)).cell? ⟨w.heap.size, 3, none⟩ = some (.slice pc m.cost.length kc) := World.cell_of_heap gw3 3
      clear gw0 gw1 gw2 gw3
      have hon : World.grownBy wz ((((wz.setCell ⟨w.heap.size, 0, none⟩ (.int .i64 m.wd)).setCell ⟨w.heap.size, 1, none⟩ (.int .i64 m.ht)).setCell ⟨w.heap.size, 2, none⟩ (.slice pr m.rise.length kr)).setCell ⟨w.heap.size, 3, none⟩ (.slice pc m.cost.length kc)) (some w.heap.size) := by repeat (first | exact only_refl _ _ | refine only_setCell ?_ rfl _)
      have HF := Lib.hid (HQ5.out.fin hon HW1.out (Nat.le_refl _))
      have hbl : w.heap.size ≤ lo := by omega
      have HFHX5 := Lib.hid (own_not HX5.out (fun q e => by have := (own_lt HX5.out q e).1; omega) hon)
      have HFHU := Lib.hid (own_not HU.out (fun q e => by have := (own_lt HU.out q e).1; omega) hon)
      clear hon
      refine wpAnyH_ready (rs := [12]) (by kernel_rfl) (by simp) ?_
      refine AllReadyH.cons rfl (fun K hK => ?_) (AllReadyH.nil)
      go_simp
      (try dsimp only)
      refine hK.out _ _ ?_ (fun hHeld => ?_)
      · exact ⟨World.cell_of_heap HF.out.2.2.2.2 0, World.cell_of_heap HF.out.2.2.2.2 1, World.cell_of_heap HF.out.2.2.2.2 2, World.cell_of_heap HF.out.2.2.2.2 3⟩
      clear hK K
      try simp only [Act.put, List.setIfInBounds_toArray, List.set_cons_zero, List.set_cons_succ]
      refine wpAnyH_take (i := 13) (oi := ⟨_, _, _, _, _, _⟩) (v := ?_) rfl (by kernel_rfl) (by kernel_rfl) (by kernel_rfl) (fun _ _ _ h => h) (Or.inl ⟨by rfl, ?_⟩) (by assumption) ?_
      rotate_left
      · intro w hSw; (try dsimp only at hSw); go_simp; (try with_reducible rfl)
      try simp only [Act.put, List.setIfInBounds_toArray, List.set_cons_zero, List.set_cons_succ]
      refine wpAnyH_take (i := 14) (oi := ⟨_, _, _, _, _, _⟩) (v := ?_) rfl (by kernel_rfl) (by kernel_rfl) (by kernel_rfl) (fun _ _ _ h => h) (Or.inl ⟨by rfl, ?_⟩) (by assumption) ?_
      rotate_left
      · intro w hSw; (try dsimp only at hSw); go_simp; (try with_reducible rfl)
      try simp only [Act.put, List.setIfInBounds_toArray, List.set_cons_zero, List.set_cons_succ]
      refine wpAnyH_take (i := 15) (oi := ⟨_, _, _, _, _, _⟩) (v := ?_) rfl (by kernel_rfl) (by kernel_rfl) (by kernel_rfl) (fun _ _ _ h => h) (Or.inl ⟨by rfl, ?_⟩) (by assumption) ?_
      rotate_left
      · intro w hSw; (try dsimp only at hSw); go_simp; (try with_reducible rfl)
      try simp only [Act.put, List.setIfInBounds_toArray, List.set_cons_zero, List.set_cons_succ]
      refine wpAnyH_done (by kernel_rfl) ?_ _
      go_wp2
      refine bodyPost_ret (v := .tuple #[.agg #[.int .i64 m.wd, .int .i64 m.ht, .slice pr m.rise.length kr, .slice pc m.cost.length kc], .slice pl l.length kl, .slice none 0 0, .slice pu nu ku]) (by simp [results, Tryz.results11, go_sem, gc0, gc1, gc2, gc3]) rfl ?_
      exact ⟨m, _, _, _, l, _, _, _, _, rfl, HF.out.1, own_base HF.out.2.1 hbl, own_base HF.out.2.2.1 hbl, hrl, hcl, own_base HF.out.2.2.2.1 hbl, hll, own_base HFHX5.out hbl, hl0, own_base HFHU.out hbl, by simp⟩
    · subst hxv
      go_wp2_with fail
      refine (pick_any _ _ g _ _ (HQ1.out.cur.gain (by repeat (first | with_reducible (first | exact World.gained_refl _ | exact ⟨_, rfl⟩ | apply gain_ext | apply gain_alloc | apply gain_drewN | apply gain_drew) | (refine gain_setCell ?_ (by first | exact Nat.le_refl _ | exact World.size_ext _ _ | (simp; done) | (simp; omega)) _)))) (by omega)).mono ?_
      rintro e wq ⟨r, rfl, q1, q2, hcq, hgq⟩
      obtain ⟨k, rfl⟩ : ∃ k : Nat, r = (k : Int) := ⟨r.toNat, by omega⟩
      have hk : k ≤ l0.length := by omega
      have HQ2 := Lib.hid ((HQ1.out.up (by repeat (first | with_reducible (first | exact World.gained_refl _ | exact ⟨_, rfl⟩ | apply gain_ext | apply gain_alloc | apply gain_drewN | apply gain_drew) | (refine gain_setCell ?_ (by first | exact Nat.le_refl _ | exact World.size_ext _ _ | (simp; done) | (simp; omega)) _)))).on hcq hgq)
      have HX2 := Lib.hid (own_cur (own_up HX1.out (by repeat (first | with_reducible (first | exact World.gained_refl _ | exact ⟨_, rfl⟩ | apply gain_ext | apply gain_alloc | apply gain_drewN | apply gain_drew) | (refine gain_setCell ?_ (by first | exact Nat.le_refl _ | exact World.size_ext _ _ | (simp; done) | (simp; omega)) _)))) HQ1.out.g1 hgq)
      clear hcq hgq q1 q2 HQ1 HX1
      have hcx := sl_cap (sl_of_own intC_length HX2.out)
      have hk0 : (0 : Int) ≤ (k : Int) := by omega
      have hk2 : (k : Int) ≤ (l0.length : Int) := by omega
      have hkc : k ≤ kx := by omega
      have hk1 : (k : Int) ≤ (kx : Int) := by omega
      obtain ⟨A, hA⟩ : ∃ A : Addr, (if kx = k then some (⟨gx, 0, none⟩ : Addr) else some ⟨gx, k, none⟩) = some A := by split <;> exact ⟨_, rfl⟩
      go_upto_region 6 with fail
      refine wp_region_held_drew (S := (fun w' => w'.cell? ⟨gM, 0, none⟩ = some (.int .i64 m.wd) ∧ w'.cell? ⟨gM, 1, none⟩ = some (.int .i64 m.ht) ∧ w'.cell? ⟨gM, 2, none⟩ = some (.slice pr m.rise.length kr) ∧ w'.cell? ⟨gM, 3, none⟩ = some (.slice pc m.cost.length kc))) (by kernel_rfl) ⟨World.cell_of_heap HQ2.out.box 0, World.cell_of_heap HQ2.out.box 1, World.cell_of_heap HQ2.out.box 2, World.cell_of_heap HQ2.out.box 3⟩ (fun hHeld => ?_)
      refine wpAnyH_take (i := 0) (oi := ⟨_, _, _, _, _, _⟩) (v := ?_) rfl (by kernel_rfl) (by kernel_rfl) (by kernel_rfl) (fun _ _ _ h => h) (Or.inl ⟨by rfl, ?_⟩) (by assumption) ?_
      rotate_left
      · intro w hSw; (try dsimp only at hSw); go_simp; (try with_reducible rfl)
      try simp only [Act.put, List.setIfInBounds_toArray, List.set_cons_zero, List.set_cons_succ]
      refine wpAnyH_take (i := 1) (oi := ⟨_, _, _, _, _, _⟩) (v := ?_) rfl (by kernel_rfl) (by kernel_rfl) (by kernel_rfl) (fun _ _ _ h => h) (Or.inl ⟨by rfl, ?_⟩) (by assumption) ?_
      rotate_left
      · intro w hSw; (try dsimp only at hSw); go_simp; (try with_reducible rfl)
      try simp only [Act.put, List.setIfInBounds_toArray, List.set_cons_zero, List.set_cons_succ]
      refine wpAnyH_take (i := 2) (oi := ⟨_, _, _, _, _, _⟩) (v := ?_) rfl (by kernel_rfl) (by kernel_rfl) (by kernel_rfl) (fun _ _ _ h => h) (Or.inl ⟨by rfl, ?_⟩) (by assumption) ?_
      rotate_left
      · intro w hSw; (try dsimp only at hSw); go_simp; (try with_reducible rfl)
      try simp only [Act.put, List.setIfInBounds_toArray, List.set_cons_zero, List.set_cons_succ]
      refine wpAnyH_take (i := 4) (oi := ⟨_, _, _, _, _, _⟩) (v := ?_) rfl (by kernel_rfl) (by kernel_rfl) (by kernel_rfl) (fun _ _ _ h => h) (Or.inl ⟨by rfl, ?_⟩) (by assumption) ?_
      rotate_left
      · intro w hSw; (try dsimp only at hSw); go_simp; (try with_reducible rfl)
      try simp only [Act.put, List.setIfInBounds_toArray, List.set_cons_zero, List.set_cons_succ]
      refine wpAnyH_take (i := 5) (oi := ⟨_, _, _, _, _, _⟩) (v := ?_) rfl (by kernel_rfl) (by kernel_rfl) (by kernel_rfl) (fun _ _ _ h => h) (Or.inl ⟨by rfl, ?_⟩) (by assumption) ?_
      rotate_left
      · intro w hSw; (try dsimp only at hSw); go_simp; (try with_reducible rfl)
      try simp only [Act.put, List.setIfInBounds_toArray, List.set_cons_zero, List.set_cons_succ]
      refine wpAnyH_take (i := 6) (oi := ⟨_, _, _, _, _, _⟩) (v := ?_) rfl (by kernel_rfl) (by kernel_rfl) (by kernel_rfl) (fun _ _ _ h => h) (Or.inl ⟨by rfl, ?_⟩) (by assumption) ?_
      rotate_left
      · intro w hSw; (try dsimp only at hSw); go_simp; (try with_reducible rfl)
      try simp only [Act.put, List.setIfInBounds_toArray, List.set_cons_zero, List.set_cons_succ]
      refine wpAnyH_take (i := 8) (oi := ⟨_, _, _, _, _, _⟩) (v := ?_) rfl (by kernel_rfl) (by kernel_rfl) (by kernel_rfl) (fun _ _ _ h => h) (Or.inl ⟨by rfl, ?_⟩) (by assumption) ?_
      rotate_left
      · intro w hSw; (try dsimp only at hSw); go_simp; (try with_reducible rfl)
      try simp only [Act.put, List.setIfInBounds_toArray, List.set_cons_zero, List.set_cons_succ]
      refine wpAnyH_take (i := 9) (oi := ⟨_, _, _, _, _, _⟩) (v := ?_) rfl (by kernel_rfl) (by kernel_rfl) (by kernel_rfl) (fun _ _ _ h => h) (Or.inl ⟨by rfl, ?_⟩) (by assumption) ?_
      rotate_left
      · intro w hSw; (try dsimp only at hSw); go_simp; (try with_reducible rfl)
      try simp only [Act.put, List.setIfInBounds_toArray, List.set_cons_zero, List.set_cons_succ]
      refine wpAnyH_take (i := 10) (oi := ⟨_, _, _, _, _, _⟩) (v := ?_) rfl (by kernel_rfl) (by kernel_rfl) (by kernel_rfl) (fun _ _ _ h => h) (Or.inl ⟨by rfl, ?_⟩) (by assumption) ?_
      rotate_left
      · intro w hSw; (try dsimp only at hSw); go_simp; (try with_reducible rfl)
      try simp only [Act.put, List.setIfInBounds_toArray, List.set_cons_zero, List.set_cons_succ]
      refine wpAnyH_ready (rs := [3]) (by kernel_rfl) (by simp) ?_
      refine AllReadyH.cons rfl (fun K hK => ?_) (AllReadyH.nil)
      go_simp
      have HA := Lib.hid (own_lit' (w := wq.drew) (e := 3) (base := wq.heap.size) (C := #[]) (l := ([] : List Int)) (g := wq.heap.size) intC_length rfl rfl (Nat.le_refl _))
      have HQ3 := Lib.hid (HQ2.out.up (wr' := wq.drew.alloc (.cells #[] 3)) (by repeat (first | with_reducible (first | exact World.gained_refl _ | exact ⟨_, rfl⟩ | apply gain_ext | apply gain_alloc | apply gain_drewN | apply gain_drew) | (refine gain_setCell ?_ (by first | exact Nat.le_refl _ | exact World.size_ext _ _ | (simp; done) | (simp; omega)) _))))
      (try dsimp only)
      refine hK.out _ _ ?_ (fun hHeld => ?_)
      · exact ⟨World.cell_of_heap HQ3.out.box 0, World.cell_of_heap HQ3.out.box 1, World.cell_of_heap HQ3.out.box 2, World.cell_of_heap HQ3.out.box 3⟩
      clear hK K
      try simp only [Act.put, List.setIfInBounds_toArray, List.set_cons_zero, List.set_cons_succ]
      refine wpAnyH_ready (rs := [7]) (by kernel_rfl) (by simp) ?_
      refine AllReadyH.cons rfl (fun K hK => ?_) (AllReadyH.nil)
      refine step_append_gain (W := wq) (w := wq.drew.alloc (.cells #[] 3)) (base := wq.heap.size) (v := .slice (some ⟨wq.heap.size, 0, none⟩) 0 0) (m := l0.drop k) (u := .slice (some A) (l0.length - k) (kx - k)) rfl (.tmp 36) (.tmp 39) rfl Tryz.underlying24 info_int (by rfl) (by omega) intC_length intC_one (by omega) (by repeat (first | with_reducible (first | exact World.gained_refl _ | exact ⟨_, rfl⟩ | apply gain_ext | apply gain_alloc | apply gain_drewN | apply gain_drew) | (refine gain_setCell ?_ (by first | exact Nat.le_refl _ | exact World.size_ext _ _ | (simp; done) | (simp; omega)) _))) (Nat.le_refl _) (gain_size (by repeat (first | with_reducible (first | exact World.gained_refl _ | exact ⟨_, rfl⟩ | apply gain_ext | apply gain_alloc | apply gain_drewN | apply gain_drew) | (refine gain_setCell ?_ (by first | exact Nat.le_refl _ | exact World.size_ext _ _ | (simp; done) | (simp; omega)) _)))) (by first | rfl | (simp; done) | (simp [World.size_alloc]; done)) (by first | rfl | (simp; done) | (simp [World.size_alloc]; done)) (HA.out) (sl_up intC_length (sl_drop_any (sl_of_own intC_length HX2.out) hk (by simpa using hA)) (by repeat (first | with_reducible (first | exact World.gained_refl _ | exact ⟨_, rfl⟩ | apply gain_ext | apply gain_alloc | apply gain_drewN | apply gain_drew) | (refine gain_setCell ?_ (by first | exact Nat.le_refl _ | exact World.size_ext _ _ | (simp; done) | (simp; omega)) _)))) (by simp; omega) ?_
      intro vA dA hoA hgA
      clear hgA
      rw [List.nil_append] at hoA
      have HA2 := Lib.hid hoA
      clear hoA HA
      have HQ4 := Lib.hid (HQ2.out.up (wr' := wq.ext dA) (by repeat (first | with_reducible (first | exact World.gained_refl _ | exact ⟨_, rfl⟩ | apply gain_ext | apply gain_alloc | apply gain_drewN | apply gain_drew) | (refine gain_setCell ?_ (by first | exact Nat.le_refl _ | exact World.size_ext _ _ | (simp; done) | (simp; omega)) _))))
      (try dsimp only)
      refine hK.out _ _ ?_ (fun hHeld => ?_)
      · exact ⟨World.cell_of_heap HQ4.out.box 0, World.cell_of_heap HQ4.out.box 1, World.cell_of_heap HQ4.out.box 2, World.cell_of_heap HQ4.out.box 3⟩
      clear hK K
      try simp only [Act.put, List.setIfInBounds_toArray, List.set_cons_zero, List.set_cons_succ]
      refine wpAnyH_ready (rs := [11]) (by kernel_rfl) (by simp) ?_
      refine AllReadyH.cons rfl (fun K hK => ?_) (AllReadyH.nil)
      refine step_append_gain (W := wq) (w := wq.ext dA) (base := wq.heap.size) (v := vA) (m := l0.take k) (u := .slice (some ⟨gx, 0, none⟩) k kx) rfl (.tmp 40) (.tmp 43) rfl Tryz.underlying24 info_int (by rfl) (by omega) intC_length intC_one (by omega) (by repeat (first | with_reducible (first | exact World.gained_refl _ | exact ⟨_, rfl⟩ | apply gain_ext | apply gain_alloc | apply gain_drewN | apply gain_drew) | (refine gain_setCell ?_ (by first | exact Nat.le_refl _ | exact World.size_ext _ _ | (simp; done) | (simp; omega)) _))) (Nat.le_refl _) (gain_size (by repeat (first | with_reducible (first | exact World.gained_refl _ | exact ⟨_, rfl⟩ | apply gain_ext | apply gain_alloc | apply gain_drewN | apply gain_drew) | (refine gain_setCell ?_ (by first | exact Nat.le_refl _ | exact World.size_ext _ _ | (simp; done) | (simp; omega)) _)))) (by first | rfl | (simp; done) | (simp [World.size_alloc]; done)) (by first | rfl | (simp; done) | (simp [World.size_alloc]; done)) (HA2.out) (sl_take (sl_up intC_length (sl_of_own intC_length HX2.out) (by repeat (first | with_reducible (first | exact World.gained_refl _ | exact ⟨_, rfl⟩ | apply gain_ext | apply gain_alloc | apply gain_drewN | apply gain_drew) | (refine gain_setCell ?_ (by first | exact Nat.le_refl _ | exact World.size_ext _ _ | (simp; done) | (simp; omega)) _)))) hk) (by simp; omega) ?_
      intro vB dB hoB hgB
      clear hgB
      obtain ⟨pu, nu, ku, rfl⟩ := own_form hoB
      have HQ5 := Lib.hid (HQ2.out.up (wr' := wq.ext dB) (by repeat (first | with_reducible (first | exact World.gained_refl _ | exact ⟨_, rfl⟩ | apply gain_ext | apply gain_alloc | apply gain_drewN | apply gain_drew) | (refine gain_setCell ?_ (by first | exact Nat.le_refl _ | exact World.size_ext _ _ | (simp; done) | (simp; omega)) _))))
      have HX5 := Lib.hid (own_up HX2.out (w' := wq.ext dB) (by repeat (first | with_reducible (first | exact World.gained_refl _ | exact ⟨_, rfl⟩ | apply gain_ext | apply gain_alloc | apply gain_drewN | apply gain_drew) | (refine gain_setCell ?_ (by first | exact Nat.le_refl _ | exact World.size_ext _ _ | (simp; done) | (simp; omega)) _))))
      have HU := Lib.hid (own_base hoB (Nat.le_of_lt HQ2.out.size))
      clear hoB HA2
      (try dsimp only)
      refine hK.out _ _ ?_ (fun hHeld => ?_)
      · exact ⟨World.cell_of_heap HQ5.out.box 0, World.cell_of_heap HQ5.out.box 1, World.cell_of_heap HQ5.out.box 2, World.cell_of_heap HQ5.out.box 3⟩
      clear hK K
      try simp only [Act.put, List.setIfInBounds_toArray, List.set_cons_zero, List.set_cons_succ]
      generalize wq.ext dB = wz at HQ5 HX5 HU ⊢
      have ey0 : wz.cell? ⟨w.heap.size, 0, none⟩ = some (.int .i64 0) := World.cell_of_heap HQ5.out.res 0
      have ez0 : wz.frozen? ⟨w.heap.size, 0, none⟩ = false := World.free_of_heap HQ5.out.res 0
      have ey1 : wz.cell? ⟨w.heap.size, 1, none⟩ = some (.int .i64 0) := World.cell_of_heap HQ5.out.res 1
      have ez1 : wz.frozen? ⟨w.heap.size, 1, none⟩ = false := World.free_of_heap HQ5.out.res 1
      have ey2 : wz.cell? ⟨w.heap.size, 2, none⟩ = some (.slice none 0 0) := World.cell_of_heap HQ5.out.res 2
      have ez2 : wz.frozen? ⟨w.heap.size, 2, none⟩ = false := World.free_of_heap HQ5.out.res 2
      have ey3 : wz.cell? ⟨w.heap.size, 3, none⟩ = some (.slice none 0 0) := World.cell_of_heap HQ5.out.res 3
      have ez3 : wz.frozen? ⟨w.heap.size, 3, none⟩ = false := World.free_of_heap HQ5.out.res 3
      have ex0 : wz.cell? ⟨gM, 0, none⟩ = some (.int .i64 m.wd) := World.cell_of_heap HQ5.out.box 0
      have ex1 : wz.cell? ⟨gM, 1, none⟩ = some (.int .i64 m.ht) := World.cell_of_heap HQ5.out.box 1
      have ex2 : wz.cell? ⟨gM, 2, none⟩ = some (.slice pr m.rise.length kr) := World.cell_of_heap HQ5.out.box 2
      have ex3 : wz.cell? ⟨gM, 3, none⟩ = some (.slice pc m.cost.length kc) := World.cell_of_heap HQ5.out.box 3
      have eoc := World.oldB_of_cell ey0
      have eob := World.oldB_of_cell ex0
      have gw0 := World.heap_setCell_row HQ5.out.res 0 (.int .i64 m.wd)
      have gc0 : (wz.setCell ⟨w.heap.size, 0, none⟩ (.int .i64 m.wd)).cell? ⟨w.heap.size, 0, none⟩ = some (.int .i64 m.wd) := World.cell_of_heap gw0 0
      have gw1 := World.heap_setCell_row gw0 1 (.int .i64 m.ht)
      have gc1 : ((wz.setCell ⟨w.heap.size, 0, none⟩ (.int .i64 m.wd)).setCell ⟨w.heap.size, 1, none⟩ (.int .i64 m.ht)).cell? ⟨w.heap.size, 1, none⟩ = some (.int .i64 m.ht) := World.cell_of_heap gw1 1
      have gw2 := World.heap_setCell_row gw1 2 (.slice pr m.rise.length kr)
      have gc2 : (((wz.setCell ⟨w.heap.size, 0, none⟩ (.int .i64 m.wd)).setCell ⟨w.heap.size, 1, none⟩ (.int .i64 m.ht)).setCell ⟨w.heap.size, 2, none⟩ (.slice pr m.rise.length kr)).cell? ⟨w.heap.size, 2, none⟩ = some (.slice pr m.rise.length kr) := World.cell_of_heap gw2 2
      have gw3 := World.heap_setCell_row gw2 3 (.slice pc m.cost.length kc)
      have gc3 : ((((wz.setCell ⟨w.heap.size, 0, none⟩ (.int .i64 m.wd)).setCell ⟨w.heap.size, 1, none⟩ (.int .i64 m.ht)).setCell ⟨w.heap.size, 2, none⟩ (.slice pr m.rise.length kr)).setCell ⟨w.heap.size, 3, none⟩ (.slice pc m.cost.length kc)).cell? ⟨w.heap.size, 3, none⟩ = some (.slice pc m.cost.length kc) := World.cell_of_heap gw3 3
      clear gw0 gw1 gw2 gw3
      have hon : World.grownBy wz ((((wz.setCell ⟨w.heap.size, 0, none⟩ (.int .i64 m.wd)).setCell ⟨w.heap.size, 1, none⟩ (.int .i64 m.ht)).setCell ⟨w.heap.size, 2, none⟩ (.slice pr m.rise.length kr)).setCell ⟨w.heap.size, 3, none⟩ (.slice pc m.cost.length kc)) (some w.heap.size) := by repeat (first | exact only_refl _ _ | refine only_setCell ?_ rfl _)
      have HF := Lib.hid (HQ5.out.fin hon HW1.out (Nat.le_refl _))
      have hbl : w.heap.size ≤ lo := by omega
      have HFHX5 := Lib.hid (own_not HX5.out (fun q e => by have := (own_lt HX5.out q e).1; omega) hon)
      have HFHU := Lib.hid (own_not HU.out (fun q e => by have := (own_lt HU.out q e).1; omega) hon)
      clear hon
      refine wpAnyH_ready (rs := [12]) (by kernel_rfl) (by simp) ?_
      refine AllReadyH.cons rfl (fun K hK => ?_) (AllReadyH.nil)
      go_simp
      (try dsimp only)
      refine hK.out _ _ ?_ (fun hHeld => ?_)
      · exact ⟨World.cell_of_heap HF.out.2.2.2.2 0, World.cell_of_heap HF.out.2.2.2.2 1, World.cell_of_heap HF.out.2.2.2.2 2, World.cell_of_heap HF.out.2.2.2.2 3⟩
      clear hK K
      try simp only [Act.put, List.setIfInBounds_toArray, List.set_cons_zero, List.set_cons_succ]
      refine wpAnyH_take (i := 13) (oi := ⟨_, _, _, _, _, _⟩) (v := ?_) rfl (by kernel_rfl) (by kernel_rfl) (by kernel_rfl) (fun _ _ _ h => h) (Or.inl ⟨by rfl, ?_⟩) (by assumption) ?_
      rotate_left
      · intro w hSw; (try dsimp only at hSw); go_simp; (try with_reducible rfl)
      try simp only [Act.put, List.setIfInBounds_toArray, List.set_cons_zero, List.set_cons_succ]
      refine wpAnyH_take (i := 14) (oi := ⟨_, _, _, _, _, _⟩) (v := ?_) rfl (by kernel_rfl) (by kernel_rfl) (by kernel_rfl) (fun _ _ _ h => h) (Or.inl ⟨by rfl, ?_⟩) (by assumption) ?_
      rotate_left
      · intro w hSw; (try dsimp only at hSw); go_simp; (try with_reducible rfl)
      try simp only [Act.put, List.setIfInBounds_toArray, List.set_cons_zero, List.set_cons_succ]
      refine wpAnyH_take (i := 15) (oi := ⟨_, _, _, _, _, _⟩) (v := ?_) rfl (by kernel_rfl) (by kernel_rfl) (by kernel_rfl) (fun _ _ _ h => h) (Or.inl ⟨by rfl, ?_⟩) (by assumption) ?_
      rotate_left
      · intro w hSw; (try dsimp only at hSw); go_simp; (try with_reducible rfl)
      try simp only [Act.put, List.setIfInBounds_toArray, List.set_cons_zero, List.set_cons_succ]
      refine wpAnyH_done (by kernel_rfl) ?_ _
      go_wp2
      refine bodyPost_ret (v := .tuple #[.agg #[.int .i64 m.wd, .int .i64 m.ht, .slice pr m.rise.length kr, .slice pc m.cost.length kc], .slice pl l.length kl, .slice (some ⟨gx, 0, none⟩) l0.length kx, .slice pu nu ku]) (by simp [results, Tryz.results11, go_sem, gc0, gc1, gc2, gc3]) rfl ?_
      exact ⟨m, _, _, _, l, _, _, _, _, rfl, HF.out.1, own_base HF.out.2.1 hbl, own_base HF.out.2.2.1 hbl, hrl, hcl, own_base HF.out.2.2.2.1 hbl, hll, own_base HFHX5.out hbl, hl0, own_base HFHU.out hbl, by simp; omega⟩
end Go.Proofs.YtmcimgnobimicaaGreat
