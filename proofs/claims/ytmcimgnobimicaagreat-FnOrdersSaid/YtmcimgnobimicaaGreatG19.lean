/- The draws of a map, controls and a course. Condition: at most 1048576 bytes. -/
import Derived.Test.YtmcimgnobimicaaGreatG13
import Derived.Test.YtmcimgnobimicaaGreatG18
import Derived.Test.YtmcimgnobimicaaGreatG4
namespace Go.Proofs.YtmcimgnobimicaaGreat
open Go.RowKit Go.Ori
set_option maxHeartbeats 4000000 in
set_option maxRecDepth 100000 in
theorem drawIsCourse_any (v : Value) (L : List Int) (w : World) (h : w.sl byteC 1 v L) (hq : ∀ x ∈ L, 0 ≤ x ∧ x ≤ 255) (hl : L.length ≤ 1048576) :
    Calls Tryz.prog 19 #[v] w fun x w' => ∃ (m : Mp) (rv cv lv : Value) (l : List Ctl) (x0 : Value) (l0 : List Int), x = .returned (.tuple #[.agg #[.int .i64 m.wd, .int .i64 m.ht, rv, cv], lv, x0]) ∧ (∃ d, w' = w.ext d) ∧ w'.own w.heap.size 3 intC 1 rv m.rise ∧ w'.own w.heap.size 3 intC 1 cv m.cost ∧ m.rise.length ≤ 21 ∧ m.cost.length ≤ 21 ∧ w'.own w.heap.size 73 Ctl.cells 2 lv l ∧ l.length ≤ 11 ∧ w'.own w.heap.size 3 intC 1 x0 l0 ∧ l0.length ≤ 9 := by
  have hs := Lib.hid h
  have HQ := Lib.hid hq
  obtain ⟨p, c, rfl, _⟩ := h
  clear hq
  have HW1 := Lib.hid (show ∃ d, w.alloc (.cells #[.int .i64 0, .int .i64 0, .slice none 0 0, .slice none 0 0] 26) = w.ext d from (by repeat (first | with_reducible (first | exact World.gained_refl _ | exact ⟨_, rfl⟩ | apply gain_ext | apply gain_alloc | apply gain_drewN | apply gain_drew) | (refine gain_setCell ?_ (by first | exact Nat.le_refl _ | exact World.size_ext _ _ | (simp; done) | (simp; omega)) _))))
  have hsz : (w.alloc (.cells #[.int .i64 0, .int .i64 0, .slice none 0 0, .slice none 0 0] 26)).heap.size = w.heap.size + 1 := World.size_alloc _ _
  have HRZ := Lib.hid (heap_alloc_new w (.cells #[.int .i64 0, .int .i64 0, .slice none 0 0, .slice none 0 0] 26))
  have HCN := Lib.hid (cur_new (e := 60) (sl_up byteC_length hs.out HW1.out) HQ.out hl)
  go_enter Tryz.func19, Tryz.ntmps19
  go_wp2_with fail
  generalize hW1 : w.alloc (.cells #[.int .i64 0, .int .i64 0, .slice none 0 0, .slice none 0 0] 26) = W1 at HW1 HCN HRZ hsz ⊢
  rw [hsz] at HCN
  refine (track_any W1 _ (w.heap.size + 1) 0 HCN.out (by omega)).mono ?_
  rintro e wm ⟨m, rv, cv, lv, x0, l, l0, rfl, ho1, ho2, hrl, hcl, ho3, hll, hx0, hl0, hc1, hg1⟩
  have hW0 : (W1.alloc (.cells #[.slice p L.length c, .int .i64 0, .int .u64 0] 60)).heap.size = w.heap.size + 2 := by rw [World.size_alloc, hsz]
  have hlm := only_size hg1
  rw [hW0] at hlm ho1 ho2 ho3 hx0
  have hQ : QSt 60 26 3 73 W1 (wm.alloc (.cells #[.int .i64 m.wd, .int .i64 m.ht, rv, cv] 26)) (w.heap.size + 1) w.heap.size wm.heap.size (w.heap.size + 2) 600 m rv cv lv l :=
    ⟨(hc1.le (by omega)).gain (by repeat (first | with_reducible (first | exact World.gained_refl _ | exact ⟨_, rfl⟩ | apply gain_ext | apply gain_alloc | apply gain_drewN | apply gain_drew) | (refine gain_setCell ?_ (by first | exact Nat.le_refl _ | exact World.size_ext _ _ | (simp; done) | (simp; omega)) _))), row_up (row_keep (row_up HRZ.out (by repeat (first | with_reducible (first | exact World.gained_refl _ | exact ⟨_, rfl⟩ | apply gain_ext | apply gain_alloc | apply gain_drewN | apply gain_drew) | (refine gain_setCell ?_ (by first | exact Nat.le_refl _ | exact World.size_ext _ _ | (simp; done) | (simp; omega)) _)))) hg1 (fun q e => by cases e; omega)) (by repeat (first | with_reducible (first | exact World.gained_refl _ | exact ⟨_, rfl⟩ | apply gain_ext | apply gain_alloc | apply gain_drewN | apply gain_drew) | (refine gain_setCell ?_ (by first | exact Nat.le_refl _ | exact World.size_ext _ _ | (simp; done) | (simp; omega)) _))), heap_alloc_new wm _, own_up ho1 (by repeat (first | with_reducible (first | exact World.gained_refl _ | exact ⟨_, rfl⟩ | apply gain_ext | apply gain_alloc | apply gain_drewN | apply gain_drew) | (refine gain_setCell ?_ (by first | exact Nat.le_refl _ | exact World.size_ext _ _ | (simp; done) | (simp; omega)) _))), own_up ho2 (by repeat (first | with_reducible (first | exact World.gained_refl _ | exact ⟨_, rfl⟩ | apply gain_ext | apply gain_alloc | apply gain_drewN | apply gain_drew) | (refine gain_setCell ?_ (by first | exact Nat.le_refl _ | exact World.size_ext _ _ | (simp; done) | (simp; omega)) _))), own_up ho3 (by repeat (first | with_reducible (first | exact World.gained_refl _ | exact ⟨_, rfl⟩ | apply gain_ext | apply gain_alloc | apply gain_drewN | apply gain_drew) | (refine gain_setCell ?_ (by first | exact Nat.le_refl _ | exact World.size_ext _ _ | (simp; done) | (simp; omega)) _))), by omega, by omega, by omega⟩
  have HQ0 := Lib.hid hQ
  have HX := Lib.hid (own_up hx0 (w' := wm.alloc (.cells #[.int .i64 m.wd, .int .i64 m.ht, rv, cv] 26)) (by repeat (first | with_reducible (first | exact World.gained_refl _ | exact ⟨_, rfl⟩ | apply gain_ext | apply gain_alloc | apply gain_drewN | apply gain_drew) | (refine gain_setCell ?_ (by first | exact Nat.le_refl _ | exact World.size_ext _ _ | (simp; done) | (simp; omega)) _)))); clear hx0
  obtain ⟨pr, kr, rfl, _⟩ := sl_of_own intC_length ho1
  obtain ⟨pc, kc, rfl, _⟩ := sl_of_own intC_length ho2
  obtain ⟨pl, kl, rfl, _⟩ := sl_of_own Ctl.cells_length ho3
  clear hc1 hg1 ho1 ho2 ho3 hQ hW1 HRZ HCN
  generalize hg : w.heap.size + 1 = g at HQ0 ⊢
  generalize hlo : w.heap.size + 2 = lo at HQ0 hlm HX ⊢
  go_upto_region 3 with fail
  generalize wm.alloc (.cells #[.int .i64 m.wd, .int .i64 m.ht, .slice pr m.rise.length kr, .slice pc m.cost.length kc] 26) = ww at HQ0 HX ⊢
  generalize wm.heap.size = gM at HQ0 hlm ⊢
  have HQE := HQ0
  have ey0 : ww.cell? ⟨w.heap.size, 0, none⟩ = some (.int .i64 0) := World.cell_of_heap HQE.out.res 0
  have ez0 : ww.frozen? ⟨w.heap.size, 0, none⟩ = false := World.free_of_heap HQE.out.res 0
  have ey1 : ww.cell? ⟨w.heap.size, 1, none⟩ = some (.int .i64 0) := World.cell_of_heap HQE.out.res 1
  have ez1 : ww.frozen? ⟨w.heap.size, 1, none⟩ = false := World.free_of_heap HQE.out.res 1
  have ey2 : ww.cell? ⟨w.heap.size, 2, none⟩ = some (.slice none 0 0) := World.cell_of_heap HQE.out.res 2
  have ez2 : ww.frozen? ⟨w.heap.size, 2, none⟩ = false := World.free_of_heap HQE.out.res 2
  have ey3 : ww.cell? ⟨w.heap.size, 3, none⟩ = some (.slice none 0 0) := World.cell_of_heap HQE.out.res 3
  have ez3 : ww.frozen? ⟨w.heap.size, 3, none⟩ = false := World.free_of_heap HQE.out.res 3
  have ex0 : ww.cell? ⟨gM, 0, none⟩ = some (.int .i64 m.wd) := World.cell_of_heap HQE.out.box 0
  have ex1 : ww.cell? ⟨gM, 1, none⟩ = some (.int .i64 m.ht) := World.cell_of_heap HQE.out.box 1
  have ex2 : ww.cell? ⟨gM, 2, none⟩ = some (.slice pr m.rise.length kr) := World.cell_of_heap HQE.out.box 2
  have ex3 : ww.cell? ⟨gM, 3, none⟩ = some (.slice pc m.cost.length kc) := World.cell_of_heap HQE.out.box 3
  have eoc := World.oldB_of_cell ey0
  have eob := World.oldB_of_cell ex0
  have gw0 := World.heap_setCell_row HQE.out.res 0 (.int .i64 m.wd)
  have gc0 : (ww.setCell ⟨w.heap.size, 0, none⟩ (.int .i64 m.wd)).cell? ⟨w.heap.size, 0, none⟩ = some (.int .i64 m.wd) := World.cell_of_heap gw0 0
  have gw1 := World.heap_setCell_row gw0 1 (.int .i64 m.ht)
  have gc1 : ((ww.setCell ⟨w.heap.size, 0, none⟩ (.int .i64 m.wd)).setCell ⟨w.heap.size, 1, none⟩ (.int .i64 m.ht)).cell? ⟨w.heap.size, 1, none⟩ = some (.int .i64 m.ht) := World.cell_of_heap gw1 1
  have gw2 := World.heap_setCell_row gw1 2 (.slice pr m.rise.length kr)
  have gc2 : (((ww.setCell ⟨w.heap.size, 0, none⟩ (.int .i64 m.wd)).setCell ⟨w.heap.size, 1, none⟩ (.int .i64 m.ht)).setCell ⟨w.heap.size, 2, none⟩ (.slice pr m.rise.length kr)).cell? ⟨w.heap.size, 2, none⟩ = some (.slice pr m.rise.length kr) := World.cell_of_heap gw2 2
  have gw3 := World.heap_setCell_row gw2 3 (.slice pc m.cost.length kc)
  have gc3 : ((((ww.setCell ⟨w.heap.size, 0, none⟩ (.int .i64 m.wd)).setCell ⟨w.heap.size, 1, none⟩ (.int .i64 m.ht)).setCell ⟨w.heap.size, 2, none⟩ (.slice pr m.rise.length kr)).setCell ⟨w.heap.size, 3, none⟩ (.slice pc m.cost.length kc)).cell? ⟨w.heap.size, 3, none⟩ = some (.slice pc m.cost.length kc) := World.cell_of_heap gw3 3
  clear gw0 gw1 gw2 gw3
  have hon : World.grownBy ww ((((ww.setCell ⟨w.heap.size, 0, none⟩ (.int .i64 m.wd)).setCell ⟨w.heap.size, 1, none⟩ (.int .i64 m.ht)).setCell ⟨w.heap.size, 2, none⟩ (.slice pr m.rise.length kr)).setCell ⟨w.heap.size, 3, none⟩ (.slice pc m.cost.length kc)) (some w.heap.size) := by repeat (first | exact only_refl _ _ | refine only_setCell ?_ rfl _)
  have HF := Lib.hid (HQE.out.fin hon HW1.out (Nat.le_refl _))
  have hbl : w.heap.size ≤ lo := by omega
  have HFHX := Lib.hid (own_not HX.out (fun q e => by have := (own_lt HX.out q e).1; omega) hon)
  clear hon
  go_wp2
  refine bodyPost_ret (v := .tuple #[.agg #[.int .i64 m.wd, .int .i64 m.ht, .slice pr m.rise.length kr, .slice pc m.cost.length kc], .slice pl l.length kl, x0]) (by simp [results, Tryz.results19, go_sem, gc0, gc1, gc2, gc3]) rfl ?_
  exact ⟨m, _, _, _, l, _, _, rfl, HF.out.1, own_base HF.out.2.1 hbl, own_base HF.out.2.2.1 hbl, hrl, hcl, own_base HF.out.2.2.2.1 hbl, hll, own_base HFHX.out hbl, hl0⟩
set_option maxHeartbeats 4000000 in
set_option maxRecDepth 100000 in
theorem drawBestOrder_any (v : Value) (L : List Int) (w : World) (h : w.sl byteC 1 v L) (hq : ∀ x ∈ L, 0 ≤ x ∧ x ≤ 255) (hl : L.length ≤ 1048576) :
    Calls Tryz.prog 5 #[v] w fun x w' => ∃ (m : Mp) (rv cv lv : Value) (l : List Ctl) (x0 : Value) (l0 : List Int), x = .returned (.tuple #[.agg #[.int .i64 m.wd, .int .i64 m.ht, rv, cv], lv, x0]) ∧ (∃ d, w' = w.ext d) ∧ w'.own w.heap.size 3 intC 1 rv m.rise ∧ w'.own w.heap.size 3 intC 1 cv m.cost ∧ m.rise.length ≤ 21 ∧ m.cost.length ≤ 21 ∧ w'.own w.heap.size 73 Ctl.cells 2 lv l ∧ l.length ≤ 11 ∧ w'.own w.heap.size 3 intC 1 x0 l0 ∧ l0.length ≤ 9 := by
  have hs := Lib.hid h
  have HQ := Lib.hid hq
  obtain ⟨p, c, rfl, _⟩ := h
  clear hq
  have HW1 := Lib.hid (show ∃ d, w.alloc (.cells #[.int .i64 0, .int .i64 0, .slice none 0 0, .slice none 0 0] 26) = w.ext d from (by repeat (first | with_reducible (first | exact World.gained_refl _ | exact ⟨_, rfl⟩ | apply gain_ext | apply gain_alloc | apply gain_drewN | apply gain_drew) | (refine gain_setCell ?_ (by first | exact Nat.le_refl _ | exact World.size_ext _ _ | (simp; done) | (simp; omega)) _))))
  have hsz : (w.alloc (.cells #[.int .i64 0, .int .i64 0, .slice none 0 0, .slice none 0 0] 26)).heap.size = w.heap.size + 1 := World.size_alloc _ _
  have HRZ := Lib.hid (heap_alloc_new w (.cells #[.int .i64 0, .int .i64 0, .slice none 0 0, .slice none 0 0] 26))
  go_enter Tryz.func5, Tryz.ntmps5
  go_wp2_with fail
  generalize hW1 : w.alloc (.cells #[.int .i64 0, .int .i64 0, .slice none 0 0, .slice none 0 0] 26) = W1 at HW1 HRZ hsz ⊢
  clear hW1
  refine (drawIsCourse_any _ L _ (sl_up byteC_length hs.out HW1.out) HQ.out hl).mono ?_
  rintro e wm ⟨m, rv, cv, lv, l, x0, l0, rfl, ⟨d, rfl⟩, ho1, ho2, hrl, hcl, ho3, hll , hx0, hl0⟩
  obtain ⟨pr, kr, rfl, _⟩ := sl_of_own intC_length ho1
  obtain ⟨pc, kc, rfl, _⟩ := sl_of_own intC_length ho2
  obtain ⟨pl, kl, rfl, _⟩ := sl_of_own Ctl.cells_length ho3
  have HO1 := Lib.hid ho1
  have HO2 := Lib.hid ho2
  have HO3 := Lib.hid ho3
  have HX := Lib.hid hx0
  have HS := Lib.hid (row_up HRZ.out (w' := W1.ext d) ⟨_, rfl⟩)
  have HGN := Lib.hid (gain_trans HW1.out (show ∃ d', W1.ext d = W1.ext d' from ⟨_, rfl⟩))
  generalize W1.ext d = ww at HO1 HO2 HO3 HX HS HGN ⊢
  clear ho1 ho2 ho3
  have ey0 : ww.cell? ⟨w.heap.size, 0, none⟩ = some (.int .i64 0) := World.cell_of_heap HS.out 0
  have ez0 : ww.frozen? ⟨w.heap.size, 0, none⟩ = false := World.free_of_heap HS.out 0
  have ey1 : ww.cell? ⟨w.heap.size, 1, none⟩ = some (.int .i64 0) := World.cell_of_heap HS.out 1
  have ez1 : ww.frozen? ⟨w.heap.size, 1, none⟩ = false := World.free_of_heap HS.out 1
  have ey2 : ww.cell? ⟨w.heap.size, 2, none⟩ = some (.slice none 0 0) := World.cell_of_heap HS.out 2
  have ez2 : ww.frozen? ⟨w.heap.size, 2, none⟩ = false := World.free_of_heap HS.out 2
  have ey3 : ww.cell? ⟨w.heap.size, 3, none⟩ = some (.slice none 0 0) := World.cell_of_heap HS.out 3
  have ez3 : ww.frozen? ⟨w.heap.size, 3, none⟩ = false := World.free_of_heap HS.out 3
  have eoc := World.oldB_of_cell ey0
  have gw0 := World.heap_setCell_row HS.out 0 (.int .i64 m.wd)
  have gc0 : (ww.setCell ⟨w.heap.size, 0, none⟩ (.int .i64 m.wd)).cell? ⟨w.heap.size, 0, none⟩ = some (.int .i64 m.wd) := World.cell_of_heap gw0 0
  have gw1 := World.heap_setCell_row gw0 1 (.int .i64 m.ht)
  have gc1 : ((ww.setCell ⟨w.heap.size, 0, none⟩ (.int .i64 m.wd)).setCell ⟨w.heap.size, 1, none⟩ (.int .i64 m.ht)).cell? ⟨w.heap.size, 1, none⟩ = some (.int .i64 m.ht) := World.cell_of_heap gw1 1
  have gw2 := World.heap_setCell_row gw1 2 (.slice pr m.rise.length kr)
  have gc2 : (((ww.setCell ⟨w.heap.size, 0, none⟩ (.int .i64 m.wd)).setCell ⟨w.heap.size, 1, none⟩ (.int .i64 m.ht)).setCell ⟨w.heap.size, 2, none⟩ (.slice pr m.rise.length kr)).cell? ⟨w.heap.size, 2, none⟩ = some (.slice pr m.rise.length kr) := World.cell_of_heap gw2 2
  have gw3 := World.heap_setCell_row gw2 3 (.slice pc m.cost.length kc)
  have gc3 : ((((ww.setCell ⟨w.heap.size, 0, none⟩ (.int .i64 m.wd)).setCell ⟨w.heap.size, 1, none⟩ (.int .i64 m.ht)).setCell ⟨w.heap.size, 2, none⟩ (.slice pr m.rise.length kr)).setCell ⟨w.heap.size, 3, none⟩ (.slice pc m.cost.length kc)).cell? ⟨w.heap.size, 3, none⟩ = some (.slice pc m.cost.length kc) := World.cell_of_heap gw3 3
  clear gw0 gw1 gw2 gw3
  have hon : World.grownBy ww ((((ww.setCell ⟨w.heap.size, 0, none⟩ (.int .i64 m.wd)).setCell ⟨w.heap.size, 1, none⟩ (.int .i64 m.ht)).setCell ⟨w.heap.size, 2, none⟩ (.slice pr m.rise.length kr)).setCell ⟨w.heap.size, 3, none⟩ (.slice pc m.cost.length kc)) (some w.heap.size) := by repeat (first | exact only_refl _ _ | refine only_setCell ?_ rfl _)
  have HF0 := Lib.hid (own_not HO1.out (fun q e => by have := (own_lt HO1.out q e).1; omega) hon)
  have HF1 := Lib.hid (own_not HO2.out (fun q e => by have := (own_lt HO2.out q e).1; omega) hon)
  have HF2 := Lib.hid (own_not HO3.out (fun q e => by have := (own_lt HO3.out q e).1; omega) hon)
  have HF3 := Lib.hid (own_not HX.out (fun q e => by have := (own_lt HX.out q e).1; omega) hon)
  have HFG := Lib.hid (gain_grown HGN.out hon (fun q e => by cases e; omega))
  have hbl : w.heap.size ≤ W1.heap.size := by omega
  clear hon
  go_wp2
  refine bodyPost_ret (v := .tuple #[.agg #[.int .i64 m.wd, .int .i64 m.ht, .slice pr m.rise.length kr, .slice pc m.cost.length kc], .slice pl l.length kl, x0]) (by simp [results, Tryz.results5, go_sem, gc0, gc1, gc2, gc3]) rfl ?_
  exact ⟨m, _, _, _, l, _, _, rfl, HFG.out, own_base HF0.out hbl, own_base HF1.out hbl, hrl, hcl, own_base HF2.out hbl, hll, own_base HF3.out hbl, hl0⟩
set_option maxHeartbeats 4000000 in
set_option maxRecDepth 100000 in
theorem drawBackLegs_any (v : Value) (L : List Int) (w : World) (h : w.sl byteC 1 v L) (hq : ∀ x ∈ L, 0 ≤ x ∧ x ≤ 255) (hl : L.length ≤ 1048576) :
    Calls Tryz.prog 16 #[v] w fun x w' => ∃ (m : Mp) (rv cv lv : Value) (l : List Ctl) (x0 : Value) (l0 : List Int), x = .returned (.tuple #[.agg #[.int .i64 m.wd, .int .i64 m.ht, rv, cv], lv, x0]) ∧ (∃ d, w' = w.ext d) ∧ w'.own w.heap.size 3 intC 1 rv m.rise ∧ w'.own w.heap.size 3 intC 1 cv m.cost ∧ m.rise.length ≤ 21 ∧ m.cost.length ≤ 21 ∧ w'.own w.heap.size 73 Ctl.cells 2 lv l ∧ l.length ≤ 11 ∧ w'.own w.heap.size 3 intC 1 x0 l0 ∧ l0.length ≤ 9 := by
  have hs := Lib.hid h
  have HQ := Lib.hid hq
  obtain ⟨p, c, rfl, _⟩ := h
  clear hq
  have HW1 := Lib.hid (show ∃ d, w.alloc (.cells #[.int .i64 0, .int .i64 0, .slice none 0 0, .slice none 0 0] 26) = w.ext d from (by repeat (first | with_reducible (first | exact World.gained_refl _ | exact ⟨_, rfl⟩ | apply gain_ext | apply gain_alloc | apply gain_drewN | apply gain_drew) | (refine gain_setCell ?_ (by first | exact Nat.le_refl _ | exact World.size_ext _ _ | (simp; done) | (simp; omega)) _))))
  have hsz : (w.alloc (.cells #[.int .i64 0, .int .i64 0, .slice none 0 0, .slice none 0 0] 26)).heap.size = w.heap.size + 1 := World.size_alloc _ _
  have HRZ := Lib.hid (heap_alloc_new w (.cells #[.int .i64 0, .int .i64 0, .slice none 0 0, .slice none 0 0] 26))
  go_enter Tryz.func16, Tryz.ntmps16
  go_wp2_with fail
  generalize hW1 : w.alloc (.cells #[.int .i64 0, .int .i64 0, .slice none 0 0, .slice none 0 0] 26) = W1 at HW1 HRZ hsz ⊢
  clear hW1
  refine (drawIsCourse_any _ L _ (sl_up byteC_length hs.out HW1.out) HQ.out hl).mono ?_
  rintro e wm ⟨m, rv, cv, lv, l, x0, l0, rfl, ⟨d, rfl⟩, ho1, ho2, hrl, hcl, ho3, hll , hx0, hl0⟩
  obtain ⟨pr, kr, rfl, _⟩ := sl_of_own intC_length ho1
  obtain ⟨pc, kc, rfl, _⟩ := sl_of_own intC_length ho2
  obtain ⟨pl, kl, rfl, _⟩ := sl_of_own Ctl.cells_length ho3
  have HO1 := Lib.hid ho1
  have HO2 := Lib.hid ho2
  have HO3 := Lib.hid ho3
  have HX := Lib.hid hx0
  have HS := Lib.hid (row_up HRZ.out (w' := W1.ext d) ⟨_, rfl⟩)
  have HGN := Lib.hid (gain_trans HW1.out (show ∃ d', W1.ext d = W1.ext d' from ⟨_, rfl⟩))
  generalize W1.ext d = ww at HO1 HO2 HO3 HX HS HGN ⊢
  clear ho1 ho2 ho3
  have ey0 : ww.cell? ⟨w.heap.size, 0, none⟩ = some (.int .i64 0) := World.cell_of_heap HS.out 0
  have ez0 : ww.frozen? ⟨w.heap.size, 0, none⟩ = false := World.free_of_heap HS.out 0
  have ey1 : ww.cell? ⟨w.heap.size, 1, none⟩ = some (.int .i64 0) := World.cell_of_heap HS.out 1
  have ez1 : ww.frozen? ⟨w.heap.size, 1, none⟩ = false := World.free_of_heap HS.out 1
  have ey2 : ww.cell? ⟨w.heap.size, 2, none⟩ = some (.slice none 0 0) := World.cell_of_heap HS.out 2
  have ez2 : ww.frozen? ⟨w.heap.size, 2, none⟩ = false := World.free_of_heap HS.out 2
  have ey3 : ww.cell? ⟨w.heap.size, 3, none⟩ = some (.slice none 0 0) := World.cell_of_heap HS.out 3
  have ez3 : ww.frozen? ⟨w.heap.size, 3, none⟩ = false := World.free_of_heap HS.out 3
  have eoc := World.oldB_of_cell ey0
  have gw0 := World.heap_setCell_row HS.out 0 (.int .i64 m.wd)
  have gc0 : (ww.setCell ⟨w.heap.size, 0, none⟩ (.int .i64 m.wd)).cell? ⟨w.heap.size, 0, none⟩ = some (.int .i64 m.wd) := World.cell_of_heap gw0 0
  have gw1 := World.heap_setCell_row gw0 1 (.int .i64 m.ht)
  have gc1 : ((ww.setCell ⟨w.heap.size, 0, none⟩ (.int .i64 m.wd)).setCell ⟨w.heap.size, 1, none⟩ (.int .i64 m.ht)).cell? ⟨w.heap.size, 1, none⟩ = some (.int .i64 m.ht) := World.cell_of_heap gw1 1
  have gw2 := World.heap_setCell_row gw1 2 (.slice pr m.rise.length kr)
  have gc2 : (((ww.setCell ⟨w.heap.size, 0, none⟩ (.int .i64 m.wd)).setCell ⟨w.heap.size, 1, none⟩ (.int .i64 m.ht)).setCell ⟨w.heap.size, 2, none⟩ (.slice pr m.rise.length kr)).cell? ⟨w.heap.size, 2, none⟩ = some (.slice pr m.rise.length kr) := World.cell_of_heap gw2 2
  have gw3 := World.heap_setCell_row gw2 3 (.slice pc m.cost.length kc)
  have gc3 : ((((ww.setCell ⟨w.heap.size, 0, none⟩ (.int .i64 m.wd)).setCell ⟨w.heap.size, 1, none⟩ (.int .i64 m.ht)).setCell ⟨w.heap.size, 2, none⟩ (.slice pr m.rise.length kr)).setCell ⟨w.heap.size, 3, none⟩ (.slice pc m.cost.length kc)).cell? ⟨w.heap.size, 3, none⟩ = some (.slice pc m.cost.length kc) := World.cell_of_heap gw3 3
  clear gw0 gw1 gw2 gw3
  have hon : World.grownBy ww ((((ww.setCell ⟨w.heap.size, 0, none⟩ (.int .i64 m.wd)).setCell ⟨w.heap.size, 1, none⟩ (.int .i64 m.ht)).setCell ⟨w.heap.size, 2, none⟩ (.slice pr m.rise.length kr)).setCell ⟨w.heap.size, 3, none⟩ (.slice pc m.cost.length kc)) (some w.heap.size) := by repeat (first | exact only_refl _ _ | refine only_setCell ?_ rfl _)
  have HF0 := Lib.hid (own_not HO1.out (fun q e => by have := (own_lt HO1.out q e).1; omega) hon)
  have HF1 := Lib.hid (own_not HO2.out (fun q e => by have := (own_lt HO2.out q e).1; omega) hon)
  have HF2 := Lib.hid (own_not HO3.out (fun q e => by have := (own_lt HO3.out q e).1; omega) hon)
  have HF3 := Lib.hid (own_not HX.out (fun q e => by have := (own_lt HX.out q e).1; omega) hon)
  have HFG := Lib.hid (gain_grown HGN.out hon (fun q e => by cases e; omega))
  have hbl : w.heap.size ≤ W1.heap.size := by omega
  clear hon
  go_wp2
  refine bodyPost_ret (v := .tuple #[.agg #[.int .i64 m.wd, .int .i64 m.ht, .slice pr m.rise.length kr, .slice pc m.cost.length kc], .slice pl l.length kl, x0]) (by simp [results, Tryz.results16, go_sem, gc0, gc1, gc2, gc3]) rfl ?_
  exact ⟨m, _, _, _, l, _, _, rfl, HFG.out, own_base HF0.out hbl, own_base HF1.out hbl, hrl, hcl, own_base HF2.out hbl, hll, own_base HF3.out hbl, hl0⟩
end Go.Proofs.YtmcimgnobimicaaGreat
