/- The draws of a map, controls and more. Condition: at most 1048576 bytes. -/
import Derived.Test.YtedpckkoaioooaaDrawQ
import Derived.Test.YtedpckkoaioooaaCurN
namespace Go.Proofs.Ytedpckkoaioooaa
open Go.RowKit Go.Ori
set_option maxHeartbeats 4000000 in
set_option maxRecDepth 100000 in
theorem drawAreControls_any (v : Value) (L : List Int) (w : World) (h : w.sl byteC 1 v L) (hq : ∀ x ∈ L, 0 ≤ x ∧ x ≤ 255) (hl : L.length ≤ 1048576) :
    Calls Try.prog 84 #[v] w fun x w' => ∃ (m : Mp) (rv cv lv : Value) (l : List Ctl) , x = .returned (.tuple #[.agg #[.int .i64 m.wd, .int .i64 m.ht, rv, cv], lv]) ∧ (∃ d, w' = w.ext d) ∧ w'.own w.heap.size 3 intC 1 rv m.rise ∧ w'.own w.heap.size 3 intC 1 cv m.cost ∧ m.rise.length ≤ 21 ∧ m.cost.length ≤ 21 ∧ w'.own w.heap.size 46 Ctl.cells 2 lv l ∧ l.length ≤ 11 := by
  have hs := Lib.hid h
  have HQ := Lib.hid hq
  obtain ⟨p, c, rfl, _⟩ := h
  clear hq
  have HW1 := Lib.hid (show ∃ d, w.alloc (.cells #[.int .i64 0, .int .i64 0, .slice none 0 0, .slice none 0 0] 26) = w.ext d from (by repeat (first | with_reducible (first | exact World.gained_refl _ | exact ⟨_, rfl⟩ | apply gain_ext | apply gain_alloc | apply gain_drewN | apply gain_drew) | (refine gain_setCell ?_ (by first | exact Nat.le_refl _ | exact World.size_ext _ _ | (simp; done) | (simp; omega)) _))))
  have hsz : (w.alloc (.cells #[.int .i64 0, .int .i64 0, .slice none 0 0, .slice none 0 0] 26)).heap.size = w.heap.size + 1 := World.size_alloc _ _
  have HRZ := Lib.hid (heap_alloc_new w (.cells #[.int .i64 0, .int .i64 0, .slice none 0 0, .slice none 0 0] 26))
  have HCN := Lib.hid (cur_new (e := 82) (sl_up byteC_length hs.out HW1.out) HQ.out hl)
  go_enter Try.func84, Try.ntmps84
  go_wp2_with fail
  generalize hW1 : w.alloc (.cells #[.int .i64 0, .int .i64 0, .slice none 0 0, .slice none 0 0] 26) = W1 at HW1 HCN HRZ hsz ⊢
  rw [hsz] at HCN
  refine (site_any W1 _ (w.heap.size + 1) 0 HCN.out (by omega)).mono ?_
  rintro e wm ⟨m, rv, cv, lv, l, rfl, ho1, ho2, -, hrl, hcl, ho3, hll, hc1, hg1⟩
  have hW0 : (W1.alloc (.cells #[.slice p L.length c, .int .i64 0, .int .u64 0] 82)).heap.size = w.heap.size + 2 := by rw [World.size_alloc, hsz]
  have hlm := only_size hg1
  rw [hW0] at hlm ho1 ho2 ho3
  have hQ : QSt 82 26 3 46 W1 (wm.alloc (.cells #[.int .i64 m.wd, .int .i64 m.ht, rv, cv] 26)) (w.heap.size + 1) w.heap.size wm.heap.size (w.heap.size + 2) 600 m rv cv lv l :=
    ⟨(hc1.le (by omega)).gain (by repeat (first | with_reducible (first | exact World.gained_refl _ | exact ⟨_, rfl⟩ | apply gain_ext | apply gain_alloc | apply gain_drewN | apply gain_drew) | (refine gain_setCell ?_ (by first | exact Nat.le_refl _ | exact World.size_ext _ _ | (simp; done) | (simp; omega)) _))), row_up (row_keep (row_up HRZ.out (by repeat (first | with_reducible (first | exact World.gained_refl _ | exact ⟨_, rfl⟩ | apply gain_ext | apply gain_alloc | apply gain_drewN | apply gain_drew) | (refine gain_setCell ?_ (by first | exact Nat.le_refl _ | exact World.size_ext _ _ | (simp; done) | (simp; omega)) _)))) hg1 (fun q e => by cases e; omega)) (by repeat (first | with_reducible (first | exact World.gained_refl _ | exact ⟨_, rfl⟩ | apply gain_ext | apply gain_alloc | apply gain_drewN | apply gain_drew) | (refine gain_setCell ?_ (by first | exact Nat.le_refl _ | exact World.size_ext _ _ | (simp; done) | (simp; omega)) _))), heap_alloc_new wm _, own_up ho1 (by repeat (first | with_reducible (first | exact World.gained_refl _ | exact ⟨_, rfl⟩ | apply gain_ext | apply gain_alloc | apply gain_drewN | apply gain_drew) | (refine gain_setCell ?_ (by first | exact Nat.le_refl _ | exact World.size_ext _ _ | (simp; done) | (simp; omega)) _))), own_up ho2 (by repeat (first | with_reducible (first | exact World.gained_refl _ | exact ⟨_, rfl⟩ | apply gain_ext | apply gain_alloc | apply gain_drewN | apply gain_drew) | (refine gain_setCell ?_ (by first | exact Nat.le_refl _ | exact World.size_ext _ _ | (simp; done) | (simp; omega)) _))), own_up ho3 (by repeat (first | with_reducible (first | exact World.gained_refl _ | exact ⟨_, rfl⟩ | apply gain_ext | apply gain_alloc | apply gain_drewN | apply gain_drew) | (refine gain_setCell ?_ (by first | exact Nat.le_refl _ | exact World.size_ext _ _ | (simp; done) | (simp; omega)) _))), by omega, by omega, by omega⟩
  have HQ0 := Lib.hid hQ
  skip
  obtain ⟨pr, kr, rfl, _⟩ := sl_of_own intC_length ho1
  obtain ⟨pc, kc, rfl, _⟩ := sl_of_own intC_length ho2
  obtain ⟨pl, kl, rfl, _⟩ := sl_of_own Ctl.cells_length ho3
  clear hc1 hg1 ho1 ho2 ho3 hQ hW1 HRZ HCN
  generalize hg : w.heap.size + 1 = g at HQ0 ⊢
  generalize hlo : w.heap.size + 2 = lo at HQ0 hlm  ⊢
  go_upto_region 3 with fail
  generalize wm.alloc (.cells #[.int .i64 m.wd, .int .i64 m.ht, .slice pr m.rise.length kr, .slice pc m.cost.length kc] 26) = ww at HQ0 ⊢
  generalize wm.heap.size = gM at HQ0 hlm ⊢
  have HQE := HQ0
  have ey0 : ww.cell? ⟨w.heap.size, 0, none⟩ = some (.int .i64 0) := World.cell_of_heap HQE.out.res 0
  have ez0 : ww.frozen? ⟨w.heap.size, 0, none⟩ = false := World.free_of_heap HQE.out.res 0
  have ey1 : ww.cell? ⟨w.heap.size, 1, none⟩ = some (.int .i64 0) := World.cell_of_heap HQE.out.res 1
  have ez1 : ww.frozen? ⟨w.heap.size, 1, none⟩ = false := World.free_of_heap HQE.out.res 1
  have ey2 : ww.cell? ⟨w.heap.size, 2, none⟩ = some (.slice none 0 0) := World.cell_of_heap HQE.out.res 2
  have ez2 : ww.frozen? ⟨w.heap.size, 2, none⟩ = false := World.free_of_heap HQE.out.res 2
  have ey3 : ww.cell? ⟨w.heap.size, 3, none⟩ = some (.slice none 0 0) := World.cell_of_heap HQE.out.res 3
  have ez3 : ww.frozen? ⟨w.heap.size, 3, none⟩ = false := World.free_of_heap HQE.out.res 3
  have ex0 : ww.cell? ⟨gM, 0, none⟩ = some (.int .i64 m.wd) := World.cell_of_heap HQE.out.box 0
  have ex1 : ww.cell? ⟨gM, 1, none⟩ = some (.int .i64 m.ht) := World.cell_of_heap HQE.out.box 1
  have ex2 : ww.cell? ⟨gM, 2, none⟩ = some (.slice pr m.rise.length kr) := World.cell_of_heap HQE.out.box 2
  have ex3 : ww.cell? ⟨gM, 3, none⟩ = some (.slice pc m.cost.length kc) := World.cell_of_heap HQE.out.box 3
  have eoc := World.oldB_of_cell ey0
  have eob := World.oldB_of_cell ex0
  have gw0 := World.heap_setCell_row HQE.out.res 0 (.int .i64 m.wd)
  have gc0 : (ww.setCell ⟨w.heap.size, 0, none⟩ (.int .i64 m.wd)).cell? ⟨w.heap.size, 0, none⟩ = some (.int .i64 m.wd) := World.cell_of_heap gw0 0
  have gw1 := World.heap_setCell_row gw0 1 (.int .i64 m.ht)
  have gc1 : ((ww.setCell ⟨w.heap.size, 0, none⟩ (.int .i64 m.wd)).setCell ⟨w.heap.size, 1, none⟩ (.int .i64 m.ht)).cell? ⟨w.heap.size, 1, none⟩ = some (.int .i64 m.ht) := World.cell_of_heap gw1 1
  have gw2 := World.heap_setCell_row gw1 2 (.slice pr m.rise.length kr)
  have gc2 : (((ww.setCell ⟨w.heap.size, 0, none⟩ (.int .i64 m.wd)).setCell ⟨w.heap.size, 1, none⟩ (.int .i64 m.ht)).setCell ⟨w.heap.size, 2, none⟩ (.slice pr m.rise.length kr)).cell? ⟨w.heap.size, 2, none⟩ = some (.slice pr m.rise.length kr) := World.cell_of_heap gw2 2
  have gw3 := World.heap_setCell_row gw2 3 (.slice pc m.cost.length kc)
  have gc3 : ((((ww.setCell ⟨w.heap.size, 0, none⟩ (.int .i64 m.wd)).setCell ⟨w.heap.size, 1, none⟩ (.int .i64 m.ht)).setCell ⟨w.heap.size, 2, none⟩ (.slice pr m.rise.length kr)).setCell ⟨w.heap.size, 3, none⟩ (.slice pc m.cost.length kc)).cell? ⟨w.heap.size, 3, none⟩ = some (.slice pc m.cost.length kc) := World.cell_of_heap gw3 3
  clear gw0 gw1 gw2 gw3
  have hon : World.grownBy ww ((((ww.setCell ⟨w.heap.size, 0, none⟩ (.int .i64 m.wd)).setCell ⟨w.heap.size, 1, none⟩ (.int .i64 m.ht)).setCell ⟨w.heap.size, 2, none⟩ (.slice pr m.rise.length kr)).setCell ⟨w.heap.size, 3, none⟩ (.slice pc m.cost.length kc)) (some w.heap.size) := by repeat (first | exact only_refl _ _ | refine only_setCell ?_ rfl _)
  have HF := Lib.hid (HQE.out.fin hon HW1.out (Nat.le_refl _))
  have hbl : w.heap.size ≤ lo := by omega
  clear hon
  go_wp2
  refine bodyPost_ret (v := .tuple #[.agg #[.int .i64 m.wd, .int .i64 m.ht, .slice pr m.rise.length kr, .slice pc m.cost.length kc], .slice pl l.length kl]) (by simp [results, Try.results84, go_sem, gc0, gc1, gc2, gc3]) rfl ?_
  exact ⟨m, _, _, _, l, rfl, HF.out.1, own_base HF.out.2.1 hbl, own_base HF.out.2.2.1 hbl, hrl, hcl, own_base HF.out.2.2.2.1 hbl, hll⟩
set_option maxHeartbeats 4000000 in
set_option maxRecDepth 100000 in
theorem drawFreeCode_any (v : Value) (L : List Int) (w : World) (h : w.sl byteC 1 v L) (hq : ∀ x ∈ L, 0 ≤ x ∧ x ≤ 255) (hl : L.length ≤ 1048576) :
    Calls Try.prog 24 #[v] w fun x w' => ∃ (m : Mp) (rv cv lv : Value) (l : List Ctl) , x = .returned (.tuple #[.agg #[.int .i64 m.wd, .int .i64 m.ht, rv, cv], lv]) ∧ (∃ d, w' = w.ext d) ∧ w'.own w.heap.size 3 intC 1 rv m.rise ∧ w'.own w.heap.size 3 intC 1 cv m.cost ∧ m.rise.length ≤ 21 ∧ m.cost.length ≤ 21 ∧ w'.own w.heap.size 46 Ctl.cells 2 lv l ∧ l.length ≤ 11 := by
  have hs := Lib.hid h
  have HQ := Lib.hid hq
  obtain ⟨p, c, rfl, _⟩ := h
  clear hq
  have HW1 := Lib.hid (show ∃ d, w.alloc (.cells #[.int .i64 0, .int .i64 0, .slice none 0 0, .slice none 0 0] 26) = w.ext d from (by repeat (first | with_reducible (first | exact World.gained_refl _ | exact ⟨_, rfl⟩ | apply gain_ext | apply gain_alloc | apply gain_drewN | apply gain_drew) | (refine gain_setCell ?_ (by first | exact Nat.le_refl _ | exact World.size_ext _ _ | (simp; done) | (simp; omega)) _))))
  have hsz : (w.alloc (.cells #[.int .i64 0, .int .i64 0, .slice none 0 0, .slice none 0 0] 26)).heap.size = w.heap.size + 1 := World.size_alloc _ _
  have HRZ := Lib.hid (heap_alloc_new w (.cells #[.int .i64 0, .int .i64 0, .slice none 0 0, .slice none 0 0] 26))
  go_enter Try.func24, Try.ntmps24
  go_wp2_with fail
  generalize hW1 : w.alloc (.cells #[.int .i64 0, .int .i64 0, .slice none 0 0, .slice none 0 0] 26) = W1 at HW1 HRZ hsz ⊢
  clear hW1
  refine (drawAreControls_any _ L _ (sl_up byteC_length hs.out HW1.out) HQ.out hl).mono ?_
  rintro e wm ⟨m, rv, cv, lv, l, rfl, ⟨d, rfl⟩, ho1, ho2, hrl, hcl, ho3, hll ⟩
  obtain ⟨pr, kr, rfl, _⟩ := sl_of_own intC_length ho1
  obtain ⟨pc, kc, rfl, _⟩ := sl_of_own intC_length ho2
  obtain ⟨pl, kl, rfl, _⟩ := sl_of_own Ctl.cells_length ho3
  have HO1 := Lib.hid ho1
  have HO2 := Lib.hid ho2
  have HO3 := Lib.hid ho3
  skip
  have HS := Lib.hid (row_up HRZ.out (w' := W1.ext d) ⟨_, rfl⟩)
  have HGN := Lib.hid (gain_trans HW1.out (show ∃ d', W1.ext d = W1.ext d' from ⟨_, rfl⟩))
  generalize W1.ext d = ww at HO1 HO2 HO3  HS HGN ⊢
  clear ho1 ho2 ho3
  have ey0 : ww.cell? ⟨w.heap.size, 0, none⟩ = some (.int .i64 0) := World.cell_of_heap HS.out 0
  have ez0 : ww.frozen? ⟨w.heap.size, 0, none⟩ = false := World.free_of_heap HS.out 0
  have ey1 : ww.cell? ⟨w.heap.size, 1, none⟩ = some (.int .i64 0) := World.cell_of_heap HS.out 1
  have ez1 : ww.frozen? ⟨w.heap.size, 1, none⟩ = false := World.free_of_heap HS.out 1
  have ey2 : ww.cell? ⟨w.heap.size, 2, none⟩ = some (.slice none 0 0) := World.cell_of_heap HS.out 2
  have ez2 : ww.frozen? ⟨w.heap.size, 2, none⟩ = false := World.free_of_heap HS.out 2
  have ey3 : ww.cell? ⟨w.heap.size, 3, none⟩ = some (.slice none 0 0) := World.cell_of_heap HS.out 3
  have ez3 : ww.frozen? ⟨w.heap.size, 3, none⟩ = false := World.free_of_heap HS.out 3
  have eoc := World.oldB_of_cell ey0
  have gw0 := World.heap_setCell_row HS.out 0 (.int .i64 m.wd)
  have gc0 : (ww.setCell ⟨w.heap.size, 0, none⟩ (.int .i64 m.wd)).cell? ⟨w.heap.size, 0, none⟩ = some (.int .i64 m.wd) := World.cell_of_heap gw0 0
  have gw1 := World.heap_setCell_row gw0 1 (.int .i64 m.ht)
  have gc1 : ((ww.setCell ⟨w.heap.size, 0, none⟩ (.int .i64 m.wd)).setCell ⟨w.heap.size, 1, none⟩ (.int .i64 m.ht)).cell? ⟨w.heap.size, 1, none⟩ = some (.int .i64 m.ht) := World.cell_of_heap gw1 1
  have gw2 := World.heap_setCell_row gw1 2 (.slice pr m.rise.length kr)
  have gc2 : (((ww.setCell ⟨w.heap.size, 0, none⟩ (.int .i64 m.wd)).setCell ⟨w.heap.size, 1, none⟩ (.int .i64 m.ht)).setCell ⟨w.heap.size, 2, none⟩ (.slice pr m.rise.length kr)).cell? ⟨w.heap.size, 2, none⟩ = some (.slice pr m.rise.length kr) := World.cell_of_heap gw2 2
  have gw3 := World.heap_setCell_row gw2 3 (.slice pc m.cost.length kc)
  have gc3 : ((((ww.setCell ⟨w.heap.size, 0, none⟩ (.int .i64 m.wd)).setCell ⟨w.heap.size, 1, none⟩ (.int .i64 m.ht)).setCell ⟨w.heap.size, 2, none⟩ (.slice pr m.rise.length kr)).setCell ⟨w.heap.size, 3, none⟩ (.slice pc m.cost.length kc)).cell? ⟨w.heap.size, 3, none⟩ = some (.slice pc m.cost.length kc) := World.cell_of_heap gw3 3
  clear gw0 gw1 gw2 gw3
  have hon : World.grownBy ww ((((ww.setCell ⟨w.heap.size, 0, none⟩ (.int .i64 m.wd)).setCell ⟨w.heap.size, 1, none⟩ (.int .i64 m.ht)).setCell ⟨w.heap.size, 2, none⟩ (.slice pr m.rise.length kr)).setCell ⟨w.heap.size, 3, none⟩ (.slice pc m.cost.length kc)) (some w.heap.size) := by repeat (first | exact only_refl _ _ | refine only_setCell ?_ rfl _)
  have HF0 := Lib.hid (own_not HO1.out (fun q e => by have := (own_lt HO1.out q e).1; omega) hon)
  have HF1 := Lib.hid (own_not HO2.out (fun q e => by have := (own_lt HO2.out q e).1; omega) hon)
  have HF2 := Lib.hid (own_not HO3.out (fun q e => by have := (own_lt HO3.out q e).1; omega) hon)
  have HFG := Lib.hid (gain_grown HGN.out hon (fun q e => by cases e; omega))
  have hbl : w.heap.size ≤ W1.heap.size := by omega
  clear hon
  go_wp2
  refine bodyPost_ret (v := .tuple #[.agg #[.int .i64 m.wd, .int .i64 m.ht, .slice pr m.rise.length kr, .slice pc m.cost.length kc], .slice pl l.length kl]) (by simp [results, Try.results24, go_sem, gc0, gc1, gc2, gc3]) rfl ?_
  exact ⟨m, _, _, _, l, rfl, HFG.out, own_base HF0.out hbl, own_base HF1.out hbl, hrl, hcl, own_base HF2.out hbl, hll⟩
set_option maxHeartbeats 4000000 in
set_option maxRecDepth 100000 in
theorem drawCellOfCode_any (v : Value) (L : List Int) (w : World) (h : w.sl byteC 1 v L) (hq : ∀ x ∈ L, 0 ≤ x ∧ x ≤ 255) (hl : L.length ≤ 1048576) :
    Calls Try.prog 20 #[v] w fun x w' => ∃ (m : Mp) (rv cv lv : Value) (l : List Ctl) (x0 : Int), x = .returned (.tuple #[.agg #[.int .i64 m.wd, .int .i64 m.ht, rv, cv], lv, .int .i64 x0]) ∧ (∃ d, w' = w.ext d) ∧ w'.own w.heap.size 3 intC 1 rv m.rise ∧ w'.own w.heap.size 3 intC 1 cv m.cost ∧ m.rise.length ≤ 21 ∧ m.cost.length ≤ 21 ∧ w'.own w.heap.size 46 Ctl.cells 2 lv l ∧ l.length ≤ 11 := by
  have hs := Lib.hid h
  have HQ := Lib.hid hq
  obtain ⟨p, c, rfl, _⟩ := h
  clear hq
  have HW1 := Lib.hid (show ∃ d, w.alloc (.cells #[.int .i64 0, .int .i64 0, .slice none 0 0, .slice none 0 0] 26) = w.ext d from (by repeat (first | with_reducible (first | exact World.gained_refl _ | exact ⟨_, rfl⟩ | apply gain_ext | apply gain_alloc | apply gain_drewN | apply gain_drew) | (refine gain_setCell ?_ (by first | exact Nat.le_refl _ | exact World.size_ext _ _ | (simp; done) | (simp; omega)) _))))
  have hsz : (w.alloc (.cells #[.int .i64 0, .int .i64 0, .slice none 0 0, .slice none 0 0] 26)).heap.size = w.heap.size + 1 := World.size_alloc _ _
  have HRZ := Lib.hid (heap_alloc_new w (.cells #[.int .i64 0, .int .i64 0, .slice none 0 0, .slice none 0 0] 26))
  have HCN := Lib.hid (cur_new (e := 82) (sl_up byteC_length hs.out HW1.out) HQ.out hl)
  go_enter Try.func20, Try.ntmps20
  go_wp2_with fail
  generalize hW1 : w.alloc (.cells #[.int .i64 0, .int .i64 0, .slice none 0 0, .slice none 0 0] 26) = W1 at HW1 HCN HRZ hsz ⊢
  rw [hsz] at HCN
  refine (site_any W1 _ (w.heap.size + 1) 0 HCN.out (by omega)).mono ?_
  rintro e wm ⟨m, rv, cv, lv, l, rfl, ho1, ho2, -, hrl, hcl, ho3, hll, hc1, hg1⟩
  have hW0 : (W1.alloc (.cells #[.slice p L.length c, .int .i64 0, .int .u64 0] 82)).heap.size = w.heap.size + 2 := by rw [World.size_alloc, hsz]
  have hlm := only_size hg1
  rw [hW0] at hlm ho1 ho2 ho3
  have hQ : QSt 82 26 3 46 W1 (wm.alloc (.cells #[.int .i64 m.wd, .int .i64 m.ht, rv, cv] 26)) (w.heap.size + 1) w.heap.size wm.heap.size (w.heap.size + 2) 600 m rv cv lv l :=
    ⟨(hc1.le (by omega)).gain (by repeat (first | with_reducible (first | exact World.gained_refl _ | exact ⟨_, rfl⟩ | apply gain_ext | apply gain_alloc | apply gain_drewN | apply gain_drew) | (refine gain_setCell ?_ (by first | exact Nat.le_refl _ | exact World.size_ext _ _ | (simp; done) | (simp; omega)) _))), row_up (row_keep (row_up HRZ.out (by repeat (first | with_reducible (first | exact World.gained_refl _ | exact ⟨_, rfl⟩ | apply gain_ext | apply gain_alloc | apply gain_drewN | apply gain_drew) | (refine gain_setCell ?_ (by first | exact Nat.le_refl _ | exact World.size_ext _ _ | (simp; done) | (simp; omega)) _)))) hg1 (fun q e => by cases e; omega)) (by repeat (first | with_reducible (first | exact World.gained_refl _ | exact ⟨_, rfl⟩ | apply gain_ext | apply gain_alloc | apply gain_drewN | apply gain_drew) | (refine gain_setCell ?_ (by first | exact Nat.le_refl _ | exact World.size_ext _ _ | (simp; done) | (simp; omega)) _))), heap_alloc_new wm _, own_up ho1 (by repeat (first | with_reducible (first | exact World.gained_refl _ | exact ⟨_, rfl⟩ | apply gain_ext | apply gain_alloc | apply gain_drewN | apply gain_drew) | (refine gain_setCell ?_ (by first | exact Nat.le_refl _ | exact World.size_ext _ _ | (simp; done) | (simp; omega)) _))), own_up ho2 (by repeat (first | with_reducible (first | exact World.gained_refl _ | exact ⟨_, rfl⟩ | apply gain_ext | apply gain_alloc | apply gain_drewN | apply gain_drew) | (refine gain_setCell ?_ (by first | exact Nat.le_refl _ | exact World.size_ext _ _ | (simp; done) | (simp; omega)) _))), own_up ho3 (by repeat (first | with_reducible (first | exact World.gained_refl _ | exact ⟨_, rfl⟩ | apply gain_ext | apply gain_alloc | apply gain_drewN | apply gain_drew) | (refine gain_setCell ?_ (by first | exact Nat.le_refl _ | exact World.size_ext _ _ | (simp; done) | (simp; omega)) _))), by omega, by omega, by omega⟩
  have HQ0 := Lib.hid hQ
  skip
  obtain ⟨pr, kr, rfl, _⟩ := sl_of_own intC_length ho1
  obtain ⟨pc, kc, rfl, _⟩ := sl_of_own intC_length ho2
  obtain ⟨pl, kl, rfl, _⟩ := sl_of_own Ctl.cells_length ho3
  clear hc1 hg1 ho1 ho2 ho3 hQ hW1 HRZ HCN
  generalize hg : w.heap.size + 1 = g at HQ0 ⊢
  generalize hlo : w.heap.size + 2 = lo at HQ0 hlm  ⊢
  go_upto_region 3 with fail
  generalize wm.alloc (.cells #[.int .i64 m.wd, .int .i64 m.ht, .slice pr m.rise.length kr, .slice pc m.cost.length kc] 26) = ww at HQ0 ⊢
  generalize wm.heap.size = gM at HQ0 hlm ⊢
  refine wp_region_held_drew (S := (fun w' => w'.cell? ⟨gM, 0, none⟩ = some (.int .i64 m.wd) ∧ w'.cell? ⟨gM, 1, none⟩ = some (.int .i64 m.ht) ∧ w'.cell? ⟨gM, 2, none⟩ = some (.slice pr m.rise.length kr) ∧ w'.cell? ⟨gM, 3, none⟩ = some (.slice pc m.cost.length kc))) (by kernel_rfl) ⟨World.cell_of_heap HQ0.out.box 0, World.cell_of_heap HQ0.out.box 1, World.cell_of_heap HQ0.out.box 2, World.cell_of_heap HQ0.out.box 3⟩ (fun hHeld => ?_)
  refine wpAnyH_take (i := 0) (oi := ⟨_, _, _, _, _, _⟩) (v := ?_) rfl (by kernel_rfl) (by kernel_rfl) (by kernel_rfl) (fun _ _ _ h => h) (Or.inl ⟨by rfl, ?_⟩) (by assumption) ?_
  rotate_left
  · intro w hSw; (try dsimp only at hSw); go_simp; (try with_reducible rfl)
  try simp only [Act.put, List.setIfInBounds_toArray, List.set_cons_zero, List.set_cons_succ]
  refine wpAnyH_take (i := 1) (oi := ⟨_, _, _, _, _, _⟩) (v := ?_) rfl (by kernel_rfl) (by kernel_rfl) (by kernel_rfl) (fun _ _ _ h => h) (Or.inl ⟨by rfl, ?_⟩) (by assumption) ?_
  rotate_left
  · intro w hSw; (try dsimp only at hSw); go_simp; (try with_reducible rfl)
  try simp only [Act.put, List.setIfInBounds_toArray, List.set_cons_zero, List.set_cons_succ]
  refine wpAnyH_take (i := 2) (oi := ⟨_, _, _, _, _, _⟩) (v := ?_) rfl (by kernel_rfl) (by kernel_rfl) (by kernel_rfl) (fun _ _ _ h => h) (Or.inl ⟨by rfl, ?_⟩) (by assumption) ?_
  rotate_left
  · intro w hSw; (try dsimp only at hSw); go_simp; (try with_reducible rfl)
  try simp only [Act.put, List.setIfInBounds_toArray, List.set_cons_zero, List.set_cons_succ]
  refine wpAnyH_take (i := 3) (oi := ⟨_, _, _, _, _, _⟩) (v := ?_) rfl (by kernel_rfl) (by kernel_rfl) (by kernel_rfl) (fun _ _ _ h => h) (Or.inl ⟨by rfl, ?_⟩) (by assumption) ?_
  rotate_left
  · intro w hSw; (try dsimp only at hSw); go_simp; (try with_reducible rfl)
  try simp only [Act.put, List.setIfInBounds_toArray, List.set_cons_zero, List.set_cons_succ]
  refine wpAnyH_ready (rs := [4]) (by kernel_rfl) (by simp) ?_
  refine AllReadyH.cons rfl (fun K hK => ?_) (AllReadyH.nil)
  go_simp
  go_wp2_with fail
  refine (codeOf_any _ _ g _ lo _ l (HQ0.out.cur.gain (by repeat (first | with_reducible (first | exact World.gained_refl _ | exact ⟨_, rfl⟩ | apply gain_ext | apply gain_alloc | apply gain_drewN | apply gain_drew) | (refine gain_setCell ?_ (by first | exact Nat.le_refl _ | exact World.size_ext _ _ | (simp; done) | (simp; omega)) _)))) (by omega) (by omega) (own_up HQ0.out.ls (by repeat (first | with_reducible (first | exact World.gained_refl _ | exact ⟨_, rfl⟩ | apply gain_ext | apply gain_alloc | apply gain_drewN | apply gain_drew) | (refine gain_setCell ?_ (by first | exact Nat.le_refl _ | exact World.size_ext _ _ | (simp; done) | (simp; omega)) _)))) (by omega)).mono ?_
  rintro e wq ⟨x0, rfl, hcq, hgq⟩
  have HQ00 := Lib.hid ((HQ0.out.up (by repeat (first | with_reducible (first | exact World.gained_refl _ | exact ⟨_, rfl⟩ | apply gain_ext | apply gain_alloc | apply gain_drewN | apply gain_drew) | (refine gain_setCell ?_ (by first | exact Nat.le_refl _ | exact World.size_ext _ _ | (simp; done) | (simp; omega)) _)))).on hcq hgq)
  clear hcq hgq
  (try dsimp only)
  refine hK.out _ _ ?_ (fun hHeld => ?_)
  · exact ⟨World.cell_of_heap HQ00.out.box 0, World.cell_of_heap HQ00.out.box 1, World.cell_of_heap HQ00.out.box 2, World.cell_of_heap HQ00.out.box 3⟩
  clear hK K
  try simp only [Act.put, List.setIfInBounds_toArray, List.set_cons_zero, List.set_cons_succ]
  have ey0 : wq.cell? ⟨w.heap.size, 0, none⟩ = some (.int .i64 0) := World.cell_of_heap HQ00.out.res 0
  have ez0 : wq.frozen? ⟨w.heap.size, 0, none⟩ = false := World.free_of_heap HQ00.out.res 0
  have ey1 : wq.cell? ⟨w.heap.size, 1, none⟩ = some (.int .i64 0) := World.cell_of_heap HQ00.out.res 1
  have ez1 : wq.frozen? ⟨w.heap.size, 1, none⟩ = false := World.free_of_heap HQ00.out.res 1
  have ey2 : wq.cell? ⟨w.heap.size, 2, none⟩ = some (.slice none 0 0) := World.cell_of_heap HQ00.out.res 2
  have ez2 : wq.frozen? ⟨w.heap.size, 2, none⟩ = false := World.free_of_heap HQ00.out.res 2
  have ey3 : wq.cell? ⟨w.heap.size, 3, none⟩ = some (.slice none 0 0) := World.cell_of_heap HQ00.out.res 3
  have ez3 : wq.frozen? ⟨w.heap.size, 3, none⟩ = false := World.free_of_heap HQ00.out.res 3
  have ex0 : wq.cell? ⟨gM, 0, none⟩ = some (.int .i64 m.wd) := World.cell_of_heap HQ00.out.box 0
  have ex1 : wq.cell? ⟨gM, 1, none⟩ = some (.int .i64 m.ht) := World.cell_of_heap HQ00.out.box 1
  have ex2 : wq.cell? ⟨gM, 2, none⟩ = some (.slice pr m.rise.length kr) := World.cell_of_heap HQ00.out.box 2
  have ex3 : wq.cell? ⟨gM, 3, none⟩ = some (.slice pc m.cost.length kc) := World.cell_of_heap HQ00.out.box 3
  have eoc := World.oldB_of_cell ey0
  have eob := World.oldB_of_cell ex0
  have gw0 := World.heap_setCell_row HQ00.out.res 0 (.int .i64 m.wd)
  have gc0 : (wq.setCell ⟨w.heap.size, 0, none⟩ (.int .i64 m.wd)).cell? ⟨w.heap.size, 0, none⟩ = some (.int .i64 m.wd) := World.cell_of_heap gw0 0
  have gw1 := World.heap_setCell_row gw0 1 (.int .i64 m.ht)
  have gc1 : ((wq.setCell ⟨w.heap.size, 0, none⟩ (.int .i64 m.wd)).setCell ⟨w.heap.size, 1, none⟩ (.int .i64 m.ht)).cell? ⟨w.heap.size, 1, none⟩ = some (.int .i64 m.ht) := World.cell_of_heap gw1 1
  have gw2 := World.heap_setCell_row gw1 2 (.slice pr m.rise.length kr)
  have gc2 : (((wq.setCell ⟨w.heap.size, 0, none⟩ (.int .i64 m.wd)).setCell ⟨w.heap.size, 1, none⟩ (.int .i64 m.ht)).setCell ⟨w.heap.size, 2, none⟩ (.slice pr m.rise.length kr)).cell? ⟨w.heap.size, 2, none⟩ = some (.slice pr m.rise.length kr) := World.cell_of_heap gw2 2
  have gw3 := World.heap_setCell_row gw2 3 (.slice pc m.cost.length kc)
  have gc3 : ((((wq.setCell ⟨w.heap.size, 0, none⟩ (.int .i64 m.wd)).setCell ⟨w.heap.size, 1, none⟩ (.int .i64 m.ht)).setCell ⟨w.heap.size, 2, none⟩ (.slice pr m.rise.length kr)).setCell ⟨w.heap.size, 3, none⟩ (.slice pc m.cost.length kc)).cell? ⟨w.heap.size, 3, none⟩ = some (.slice pc m.cost.length kc) := World.cell_of_heap gw3 3
  clear gw0 gw1 gw2 gw3
  have hon : World.grownBy wq ((((wq.setCell ⟨w.heap.size, 0, none⟩ (.int .i64 m.wd)).setCell ⟨w.heap.size, 1, none⟩ (.int .i64 m.ht)).setCell ⟨w.heap.size, 2, none⟩ (.slice pr m.rise.length kr)).setCell ⟨w.heap.size, 3, none⟩ (.slice pc m.cost.length kc)) (some w.heap.size) := by repeat (first | exact only_refl _ _ | refine only_setCell ?_ rfl _)
  have HF := Lib.hid (HQ00.out.fin hon HW1.out (Nat.le_refl _))
  have hbl : w.heap.size ≤ lo := by omega
  clear hon
  refine wpAnyH_ready (rs := [5]) (by kernel_rfl) (by simp) ?_
  refine AllReadyH.cons rfl (fun K hK => ?_) (AllReadyH.nil)
  go_simp
  refine hK.out _ _ ?_ (fun hHeld => ?_)
  · exact ⟨World.cell_of_heap HF.out.2.2.2.2 0, World.cell_of_heap HF.out.2.2.2.2 1, World.cell_of_heap HF.out.2.2.2.2 2, World.cell_of_heap HF.out.2.2.2.2 3⟩
  clear hK K
  try simp only [Act.put, List.setIfInBounds_toArray, List.set_cons_zero, List.set_cons_succ]
  refine wpAnyH_take (i := 6) (oi := ⟨_, _, _, _, _, _⟩) (v := ?_) rfl (by kernel_rfl) (by kernel_rfl) (by kernel_rfl) (fun _ _ _ h => h) (Or.inl ⟨by rfl, ?_⟩) (by assumption) ?_
  rotate_left
  · intro w hSw; (try dsimp only at hSw); go_simp; (try with_reducible rfl)
  try simp only [Act.put, List.setIfInBounds_toArray, List.set_cons_zero, List.set_cons_succ]
  refine wpAnyH_take (i := 7) (oi := ⟨_, _, _, _, _, _⟩) (v := ?_) rfl (by kernel_rfl) (by kernel_rfl) (by kernel_rfl) (fun _ _ _ h => h) (Or.inl ⟨by rfl, ?_⟩) (by assumption) ?_
  rotate_left
  · intro w hSw; (try dsimp only at hSw); go_simp; (try with_reducible rfl)
  try simp only [Act.put, List.setIfInBounds_toArray, List.set_cons_zero, List.set_cons_succ]
  refine wpAnyH_done (by kernel_rfl) ?_ _
  go_wp2
  refine bodyPost_ret (v := .tuple #[.agg #[.int .i64 m.wd, .int .i64 m.ht, .slice pr m.rise.length kr, .slice pc m.cost.length kc], .slice pl l.length kl, .int .i64 x0]) (by simp [results, Try.results20, go_sem, gc0, gc1, gc2, gc3]) rfl ?_
  exact ⟨m, _, _, _, l, _, rfl, HF.out.1, own_base HF.out.2.1 hbl, own_base HF.out.2.2.1 hbl, hrl, hcl, own_base HF.out.2.2.2.1 hbl, hll⟩
set_option maxHeartbeats 4000000 in
set_option maxRecDepth 100000 in
theorem drawNearestControl_any (v : Value) (L : List Int) (w : World) (h : w.sl byteC 1 v L) (hq : ∀ x ∈ L, 0 ≤ x ∧ x ≤ 255) (hl : L.length ≤ 1048576) :
    Calls Try.prog 33 #[v] w fun x w' => ∃ (m : Mp) (rv cv lv : Value) (l : List Ctl) (x0 : Int), x = .returned (.tuple #[.agg #[.int .i64 m.wd, .int .i64 m.ht, rv, cv], lv, .int .i64 x0]) ∧ (∃ d, w' = w.ext d) ∧ w'.own w.heap.size 3 intC 1 rv m.rise ∧ w'.own w.heap.size 3 intC 1 cv m.cost ∧ m.rise.length ≤ 21 ∧ m.cost.length ≤ 21 ∧ w'.own w.heap.size 46 Ctl.cells 2 lv l ∧ l.length ≤ 11 := by
  have hs := Lib.hid h
  have HQ := Lib.hid hq
  obtain ⟨p, c, rfl, _⟩ := h
  clear hq
  have HW1 := Lib.hid (show ∃ d, w.alloc (.cells #[.int .i64 0, .int .i64 0, .slice none 0 0, .slice none 0 0] 26) = w.ext d from (by repeat (first | with_reducible (first | exact World.gained_refl _ | exact ⟨_, rfl⟩ | apply gain_ext | apply gain_alloc | apply gain_drewN | apply gain_drew) | (refine gain_setCell ?_ (by first | exact Nat.le_refl _ | exact World.size_ext _ _ | (simp; done) | (simp; omega)) _))))
  have hsz : (w.alloc (.cells #[.int .i64 0, .int .i64 0, .slice none 0 0, .slice none 0 0] 26)).heap.size = w.heap.size + 1 := World.size_alloc _ _
  have HRZ := Lib.hid (heap_alloc_new w (.cells #[.int .i64 0, .int .i64 0, .slice none 0 0, .slice none 0 0] 26))
  have HCN := Lib.hid (cur_new (e := 82) (sl_up byteC_length hs.out HW1.out) HQ.out hl)
  go_enter Try.func33, Try.ntmps33
  go_wp2_with fail
  generalize hW1 : w.alloc (.cells #[.int .i64 0, .int .i64 0, .slice none 0 0, .slice none 0 0] 26) = W1 at HW1 HCN HRZ hsz ⊢
  rw [hsz] at HCN
  refine (site_any W1 _ (w.heap.size + 1) 0 HCN.out (by omega)).mono ?_
  rintro e wm ⟨m, rv, cv, lv, l, rfl, ho1, ho2, -, hrl, hcl, ho3, hll, hc1, hg1⟩
  have hW0 : (W1.alloc (.cells #[.slice p L.length c, .int .i64 0, .int .u64 0] 82)).heap.size = w.heap.size + 2 := by rw [World.size_alloc, hsz]
  have hlm := only_size hg1
  rw [hW0] at hlm ho1 ho2 ho3
  have hQ : QSt 82 26 3 46 W1 (wm.alloc (.cells #[.int .i64 m.wd, .int .i64 m.ht, rv, cv] 26)) (w.heap.size + 1) w.heap.size wm.heap.size (w.heap.size + 2) 600 m rv cv lv l :=
    ⟨(hc1.le (by omega)).gain (by repeat (first | with_reducible (first | exact World.gained_refl _ | exact ⟨_, rfl⟩ | apply gain_ext | apply gain_alloc | apply gain_drewN | apply gain_drew) | (refine gain_setCell ?_ (by first | exact Nat.le_refl _ | exact World.size_ext _ _ | (simp; done) | (simp; omega)) _))), row_up (row_keep (row_up HRZ.out (by repeat (first | with_reducible (first | exact World.gained_refl _ | exact ⟨_, rfl⟩ | apply gain_ext | apply gain_alloc | apply gain_drewN | apply gain_drew) | (refine gain_setCell ?_ (by first | exact Nat.le_refl _ | exact World.size_ext _ _ | (simp; done) | (simp; omega)) _)))) hg1 (fun q e => by cases e; omega)) (by repeat (first | with_reducible (first | exact World.gained_refl _ | exact ⟨_, rfl⟩ | apply gain_ext | apply gain_alloc | apply gain_drewN | apply gain_drew) | (refine gain_setCell ?_ (by first | exact Nat.le_refl _ | exact World.size_ext _ _ | (simp; done) | (simp; omega)) _))), heap_alloc_new wm _, own_up ho1 (by repeat (first | with_reducible (first | exact World.gained_refl _ | exact ⟨_, rfl⟩ | apply gain_ext | apply gain_alloc | apply gain_drewN | apply gain_drew) | (refine gain_setCell ?_ (by first | exact Nat.le_refl _ | exact World.size_ext _ _ | (simp; done) | (simp; omega)) _))), own_up ho2 (by repeat (first | with_reducible (first | exact World.gained_refl _ | exact ⟨_, rfl⟩ | apply gain_ext | apply gain_alloc | apply gain_drewN | apply gain_drew) | (refine gain_setCell ?_ (by first | exact Nat.le_refl _ | exact World.size_ext _ _ | (simp; done) | (simp; omega)) _))), own_up ho3 (by repeat (first | with_reducible (first | exact World.gained_refl _ | exact ⟨_, rfl⟩ | apply gain_ext | apply gain_alloc | apply gain_drewN | apply gain_drew) | (refine gain_setCell ?_ (by first | exact Nat.le_refl _ | exact World.size_ext _ _ | (simp; done) | (simp; omega)) _))), by omega, by omega, by omega⟩
  have HQ0 := Lib.hid hQ
  skip
  obtain ⟨pr, kr, rfl, _⟩ := sl_of_own intC_length ho1
  obtain ⟨pc, kc, rfl, _⟩ := sl_of_own intC_length ho2
  obtain ⟨pl, kl, rfl, _⟩ := sl_of_own Ctl.cells_length ho3
  clear hc1 hg1 ho1 ho2 ho3 hQ hW1 HRZ HCN
  generalize hg : w.heap.size + 1 = g at HQ0 ⊢
  generalize hlo : w.heap.size + 2 = lo at HQ0 hlm  ⊢
  go_upto_region 3 with fail
  generalize wm.alloc (.cells #[.int .i64 m.wd, .int .i64 m.ht, .slice pr m.rise.length kr, .slice pc m.cost.length kc] 26) = ww at HQ0 ⊢
  generalize wm.heap.size = gM at HQ0 hlm ⊢
  refine wp_region_held_drew (S := (fun w' => w'.cell? ⟨gM, 0, none⟩ = some (.int .i64 m.wd) ∧ w'.cell? ⟨gM, 1, none⟩ = some (.int .i64 m.ht) ∧ w'.cell? ⟨gM, 2, none⟩ = some (.slice pr m.rise.length kr) ∧ w'.cell? ⟨gM, 3, none⟩ = some (.slice pc m.cost.length kc))) (by kernel_rfl) ⟨World.cell_of_heap HQ0.out.box 0, World.cell_of_heap HQ0.out.box 1, World.cell_of_heap HQ0.out.box 2, World.cell_of_heap HQ0.out.box 3⟩ (fun hHeld => ?_)
  refine wpAnyH_take (i := 0) (oi := ⟨_, _, _, _, _, _⟩) (v := ?_) rfl (by kernel_rfl) (by kernel_rfl) (by kernel_rfl) (fun _ _ _ h => h) (Or.inl ⟨by rfl, ?_⟩) (by assumption) ?_
  rotate_left
  · intro w hSw; (try dsimp only at hSw); go_simp; (try with_reducible rfl)
  try simp only [Act.put, List.setIfInBounds_toArray, List.set_cons_zero, List.set_cons_succ]
  refine wpAnyH_take (i := 1) (oi := ⟨_, _, _, _, _, _⟩) (v := ?_) rfl (by kernel_rfl) (by kernel_rfl) (by kernel_rfl) (fun _ _ _ h => h) (Or.inl ⟨by rfl, ?_⟩) (by assumption) ?_
  rotate_left
  · intro w hSw; (try dsimp only at hSw); go_simp; (try with_reducible rfl)
  try simp only [Act.put, List.setIfInBounds_toArray, List.set_cons_zero, List.set_cons_succ]
  refine wpAnyH_take (i := 2) (oi := ⟨_, _, _, _, _, _⟩) (v := ?_) rfl (by kernel_rfl) (by kernel_rfl) (by kernel_rfl) (fun _ _ _ h => h) (Or.inl ⟨by rfl, ?_⟩) (by assumption) ?_
  rotate_left
  · intro w hSw; (try dsimp only at hSw); go_simp; (try with_reducible rfl)
  try simp only [Act.put, List.setIfInBounds_toArray, List.set_cons_zero, List.set_cons_succ]
  refine wpAnyH_take (i := 3) (oi := ⟨_, _, _, _, _, _⟩) (v := ?_) rfl (by kernel_rfl) (by kernel_rfl) (by kernel_rfl) (fun _ _ _ h => h) (Or.inl ⟨by rfl, ?_⟩) (by assumption) ?_
  rotate_left
  · intro w hSw; (try dsimp only at hSw); go_simp; (try with_reducible rfl)
  try simp only [Act.put, List.setIfInBounds_toArray, List.set_cons_zero, List.set_cons_succ]
  refine wpAnyH_ready (rs := [4]) (by kernel_rfl) (by simp) ?_
  refine AllReadyH.cons rfl (fun K hK => ?_) (AllReadyH.nil)
  go_simp
  go_wp2_with fail
  refine (cellOfD_any _ _ g _ m pr pc kr kc (HQ0.out.cur.gain (by repeat (first | with_reducible (first | exact World.gained_refl _ | exact ⟨_, rfl⟩ | apply gain_ext | apply gain_alloc | apply gain_drewN | apply gain_drew) | (refine gain_setCell ?_ (by first | exact Nat.le_refl _ | exact World.size_ext _ _ | (simp; done) | (simp; omega)) _)))) (by omega) (by omega)).mono ?_
  rintro e wq ⟨x0, rfl, -, -, hcq, hgq⟩
  have HQ00 := Lib.hid ((HQ0.out.up (by repeat (first | with_reducible (first | exact World.gained_refl _ | exact ⟨_, rfl⟩ | apply gain_ext | apply gain_alloc | apply gain_drewN | apply gain_drew) | (refine gain_setCell ?_ (by first | exact Nat.le_refl _ | exact World.size_ext _ _ | (simp; done) | (simp; omega)) _)))).on hcq hgq)
  clear hcq hgq
  (try dsimp only)
  refine hK.out _ _ ?_ (fun hHeld => ?_)
  · exact ⟨World.cell_of_heap HQ00.out.box 0, World.cell_of_heap HQ00.out.box 1, World.cell_of_heap HQ00.out.box 2, World.cell_of_heap HQ00.out.box 3⟩
  clear hK K
  try simp only [Act.put, List.setIfInBounds_toArray, List.set_cons_zero, List.set_cons_succ]
  have ey0 : wq.cell? ⟨w.heap.size, 0, none⟩ = some (.int .i64 0) := World.cell_of_heap HQ00.out.res 0
  have ez0 : wq.frozen? ⟨w.heap.size, 0, none⟩ = false := World.free_of_heap HQ00.out.res 0
  have ey1 : wq.cell? ⟨w.heap.size, 1, none⟩ = some (.int .i64 0) := World.cell_of_heap HQ00.out.res 1
  have ez1 : wq.frozen? ⟨w.heap.size, 1, none⟩ = false := World.free_of_heap HQ00.out.res 1
  have ey2 : wq.cell? ⟨w.heap.size, 2, none⟩ = some (.slice none 0 0) := World.cell_of_heap HQ00.out.res 2
  have ez2 : wq.frozen? ⟨w.heap.size, 2, none⟩ = false := World.free_of_heap HQ00.out.res 2
  have ey3 : wq.cell? ⟨w.heap.size, 3, none⟩ = some (.slice none 0 0) := World.cell_of_heap HQ00.out.res 3
  have ez3 : wq.frozen? ⟨w.heap.size, 3, none⟩ = false := World.free_of_heap HQ00.out.res 3
  have ex0 : wq.cell? ⟨gM, 0, none⟩ = some (.int .i64 m.wd) := World.cell_of_heap HQ00.out.box 0
  have ex1 : wq.cell? ⟨gM, 1, none⟩ = some (.int .i64 m.ht) := World.cell_of_heap HQ00.out.box 1
  have ex2 : wq.cell? ⟨gM, 2, none⟩ = some (.slice pr m.rise.length kr) := World.cell_of_heap HQ00.out.box 2
  have ex3 : wq.cell? ⟨gM, 3, none⟩ = some (.slice pc m.cost.length kc) := World.cell_of_heap HQ00.out.box 3
  have eoc := World.oldB_of_cell ey0
  have eob := World.oldB_of_cell ex0
  have gw0 := World.heap_setCell_row HQ00.out.res 0 (.int .i64 m.wd)
  have gc0 : (wq.setCell ⟨w.heap.size, 0, none⟩ (.int .i64 m.wd)).cell? ⟨w.heap.size, 0, none⟩ = some (.int .i64 m.wd) := World.cell_of_heap gw0 0
  have gw1 := World.heap_setCell_row gw0 1 (.int .i64 m.ht)
  have gc1 : ((wq.setCell ⟨w.heap.size, 0, none⟩ (.int .i64 m.wd)).setCell ⟨w.heap.size, 1, none⟩ (.int .i64 m.ht)).cell? ⟨w.heap.size, 1, none⟩ = some (.int .i64 m.ht) := World.cell_of_heap gw1 1
  have gw2 := World.heap_setCell_row gw1 2 (.slice pr m.rise.length kr)
  have gc2 : (((wq.setCell ⟨w.heap.size, 0, none⟩ (.int .i64 m.wd)).setCell ⟨w.heap.size, 1, none⟩ (.int .i64 m.ht)).setCell ⟨w.heap.size, 2, none⟩ (.slice pr m.rise.length kr)).cell? ⟨w.heap.size, 2, none⟩ = some (.slice pr m.rise.length kr) := World.cell_of_heap gw2 2
  have gw3 := World.heap_setCell_row gw2 3 (.slice pc m.cost.length kc)
  have gc3 : ((((wq.setCell ⟨w.heap.size, 0, none⟩ (.int .i64 m.wd)).setCell ⟨w.heap.size, 1, none⟩ (.int .i64 m.ht)).setCell ⟨w.heap.size, 2, none⟩ (.slice pr m.rise.length kr)).setCell ⟨w.heap.size, 3, none⟩ (.slice pc m.cost.length kc)).cell? ⟨w.heap.size, 3, none⟩ = some (.slice pc m.cost.length kc) := World.cell_of_heap gw3 3
  clear gw0 gw1 gw2 gw3
  have hon : World.grownBy wq ((((wq.setCell ⟨w.heap.size, 0, none⟩ (.int .i64 m.wd)).setCell ⟨w.heap.size, 1, none⟩ (.int .i64 m.ht)).setCell ⟨w.heap.size, 2, none⟩ (.slice pr m.rise.length kr)).setCell ⟨w.heap.size, 3, none⟩ (.slice pc m.cost.length kc)) (some w.heap.size) := by repeat (first | exact only_refl _ _ | refine only_setCell ?_ rfl _)
  have HF := Lib.hid (HQ00.out.fin hon HW1.out (Nat.le_refl _))
  have hbl : w.heap.size ≤ lo := by omega
  clear hon
  refine wpAnyH_ready (rs := [5]) (by kernel_rfl) (by simp) ?_
  refine AllReadyH.cons rfl (fun K hK => ?_) (AllReadyH.nil)
  go_simp
  refine hK.out _ _ ?_ (fun hHeld => ?_)
  · exact ⟨World.cell_of_heap HF.out.2.2.2.2 0, World.cell_of_heap HF.out.2.2.2.2 1, World.cell_of_heap HF.out.2.2.2.2 2, World.cell_of_heap HF.out.2.2.2.2 3⟩
  clear hK K
  try simp only [Act.put, List.setIfInBounds_toArray, List.set_cons_zero, List.set_cons_succ]
  refine wpAnyH_take (i := 6) (oi := ⟨_, _, _, _, _, _⟩) (v := ?_) rfl (by kernel_rfl) (by kernel_rfl) (by kernel_rfl) (fun _ _ _ h => h) (Or.inl ⟨by rfl, ?_⟩) (by assumption) ?_
  rotate_left
  · intro w hSw; (try dsimp only at hSw); go_simp; (try with_reducible rfl)
  try simp only [Act.put, List.setIfInBounds_toArray, List.set_cons_zero, List.set_cons_succ]
  refine wpAnyH_take (i := 7) (oi := ⟨_, _, _, _, _, _⟩) (v := ?_) rfl (by kernel_rfl) (by kernel_rfl) (by kernel_rfl) (fun _ _ _ h => h) (Or.inl ⟨by rfl, ?_⟩) (by assumption) ?_
  rotate_left
  · intro w hSw; (try dsimp only at hSw); go_simp; (try with_reducible rfl)
  try simp only [Act.put, List.setIfInBounds_toArray, List.set_cons_zero, List.set_cons_succ]
  refine wpAnyH_done (by kernel_rfl) ?_ _
  go_wp2
  refine bodyPost_ret (v := .tuple #[.agg #[.int .i64 m.wd, .int .i64 m.ht, .slice pr m.rise.length kr, .slice pc m.cost.length kc], .slice pl l.length kl, .int .i64 x0]) (by simp [results, Try.results33, go_sem, gc0, gc1, gc2, gc3]) rfl ?_
  exact ⟨m, _, _, _, l, _, rfl, HF.out.1, own_base HF.out.2.1 hbl, own_base HF.out.2.2.1 hbl, hrl, hcl, own_base HF.out.2.2.2.1 hbl, hll⟩
set_option maxHeartbeats 4000000 in
set_option maxRecDepth 100000 in
theorem drawMoveControl_any (v : Value) (L : List Int) (w : World) (h : w.sl byteC 1 v L) (hq : ∀ x ∈ L, 0 ≤ x ∧ x ≤ 255) (hl : L.length ≤ 1048576) :
    Calls Try.prog 9 #[v] w fun x w' => ∃ (m : Mp) (rv cv lv : Value) (l : List Ctl) (x0 x1 : Int), x = .returned (.tuple #[.agg #[.int .i64 m.wd, .int .i64 m.ht, rv, cv], lv, .int .i64 x0, .int .i64 x1]) ∧ (∃ d, w' = w.ext d) ∧ w'.own w.heap.size 3 intC 1 rv m.rise ∧ w'.own w.heap.size 3 intC 1 cv m.cost ∧ m.rise.length ≤ 21 ∧ m.cost.length ≤ 21 ∧ w'.own w.heap.size 46 Ctl.cells 2 lv l ∧ l.length ≤ 11 := by
  have hs := Lib.hid h
  have HQ := Lib.hid hq
  obtain ⟨p, c, rfl, _⟩ := h
  clear hq
  have HW1 := Lib.hid (show ∃ d, w.alloc (.cells #[.int .i64 0, .int .i64 0, .slice none 0 0, .slice none 0 0] 26) = w.ext d from (by repeat (first | with_reducible (first | exact World.gained_refl _ | exact ⟨_, rfl⟩ | apply gain_ext | apply gain_alloc | apply gain_drewN | apply gain_drew) | (refine gain_setCell ?_ (by first | exact Nat.le_refl _ | exact World.size_ext _ _ | (simp; done) | (simp; omega)) _))))
  have hsz : (w.alloc (.cells #[.int .i64 0, .int .i64 0, .slice none 0 0, .slice none 0 0] 26)).heap.size = w.heap.size + 1 := World.size_alloc _ _
  have HRZ := Lib.hid (heap_alloc_new w (.cells #[.int .i64 0, .int .i64 0, .slice none 0 0, .slice none 0 0] 26))
  have HCN := Lib.hid (cur_new (e := 82) (sl_up byteC_length hs.out HW1.out) HQ.out hl)
  go_enter Try.func9, Try.ntmps9
  go_wp2_with fail
  generalize hW1 : w.alloc (.cells #[.int .i64 0, .int .i64 0, .slice none 0 0, .slice none 0 0] 26) = W1 at HW1 HCN HRZ hsz ⊢
  rw [hsz] at HCN
  refine (site_any W1 _ (w.heap.size + 1) 0 HCN.out (by omega)).mono ?_
  rintro e wm ⟨m, rv, cv, lv, l, rfl, ho1, ho2, -, hrl, hcl, ho3, hll, hc1, hg1⟩
  have hW0 : (W1.alloc (.cells #[.slice p L.length c, .int .i64 0, .int .u64 0] 82)).heap.size = w.heap.size + 2 := by rw [World.size_alloc, hsz]
  have hlm := only_size hg1
  rw [hW0] at hlm ho1 ho2 ho3
  have hQ : QSt 82 26 3 46 W1 (wm.alloc (.cells #[.int .i64 m.wd, .int .i64 m.ht, rv, cv] 26)) (w.heap.size + 1) w.heap.size wm.heap.size (w.heap.size + 2) 600 m rv cv lv l :=
    ⟨(hc1.le (by omega)).gain (by repeat (first | with_reducible (first | exact World.gained_refl _ | exact ⟨_, rfl⟩ | apply gain_ext | apply gain_alloc | apply gain_drewN | apply gain_drew) | (refine gain_setCell ?_ (by first | exact Nat.le_refl _ | exact World.size_ext _ _ | (simp; done) | (simp; omega)) _))), row_up (row_keep (row_up HRZ.out (by repeat (first | with_reducible (first | exact World.gained_refl _ | exact ⟨_, rfl⟩ | apply gain_ext | apply gain_alloc | apply gain_drewN | apply gain_drew) | (refine gain_setCell ?_ (by first | exact Nat.le_refl _ | exact World.size_ext _ _ | (simp; done) | (simp; omega)) _)))) hg1 (fun q e => by cases e; omega)) (by repeat (first | with_reducible (first | exact World.gained_refl _ | exact ⟨_, rfl⟩ | apply gain_ext | apply gain_alloc | apply gain_drewN | apply gain_drew) | (refine gain_setCell ?_ (by first | exact Nat.le_refl _ | exact World.size_ext _ _ | (simp; done) | (simp; omega)) _))), heap_alloc_new wm _, own_up ho1 (by repeat (first | with_reducible (first | exact World.gained_refl _ | exact ⟨_, rfl⟩ | apply gain_ext | apply gain_alloc | apply gain_drewN | apply gain_drew) | (refine gain_setCell ?_ (by first | exact Nat.le_refl _ | exact World.size_ext _ _ | (simp; done) | (simp; omega)) _))), own_up ho2 (by repeat (first | with_reducible (first | exact World.gained_refl _ | exact ⟨_, rfl⟩ | apply gain_ext | apply gain_alloc | apply gain_drewN | apply gain_drew) | (refine gain_setCell ?_ (by first | exact Nat.le_refl _ | exact World.size_ext _ _ | (simp; done) | (simp; omega)) _))), own_up ho3 (by repeat (first | with_reducible (first | exact World.gained_refl _ | exact ⟨_, rfl⟩ | apply gain_ext | apply gain_alloc | apply gain_drewN | apply gain_drew) | (refine gain_setCell ?_ (by first | exact Nat.le_refl _ | exact World.size_ext _ _ | (simp; done) | (simp; omega)) _))), by omega, by omega, by omega⟩
  have HQ0 := Lib.hid hQ
  skip
  obtain ⟨pr, kr, rfl, _⟩ := sl_of_own intC_length ho1
  obtain ⟨pc, kc, rfl, _⟩ := sl_of_own intC_length ho2
  obtain ⟨pl, kl, rfl, _⟩ := sl_of_own Ctl.cells_length ho3
  clear hc1 hg1 ho1 ho2 ho3 hQ hW1 HRZ HCN
  generalize hg : w.heap.size + 1 = g at HQ0 ⊢
  generalize hlo : w.heap.size + 2 = lo at HQ0 hlm  ⊢
  go_upto_region 3 with fail
  generalize wm.alloc (.cells #[.int .i64 m.wd, .int .i64 m.ht, .slice pr m.rise.length kr, .slice pc m.cost.length kc] 26) = ww at HQ0 ⊢
  generalize wm.heap.size = gM at HQ0 hlm ⊢
  refine wp_region_held_drew (S := (fun w' => w'.cell? ⟨gM, 0, none⟩ = some (.int .i64 m.wd) ∧ w'.cell? ⟨gM, 1, none⟩ = some (.int .i64 m.ht) ∧ w'.cell? ⟨gM, 2, none⟩ = some (.slice pr m.rise.length kr) ∧ w'.cell? ⟨gM, 3, none⟩ = some (.slice pc m.cost.length kc))) (by kernel_rfl) ⟨World.cell_of_heap HQ0.out.box 0, World.cell_of_heap HQ0.out.box 1, World.cell_of_heap HQ0.out.box 2, World.cell_of_heap HQ0.out.box 3⟩ (fun hHeld => ?_)
  refine wpAnyH_take (i := 0) (oi := ⟨_, _, _, _, _, _⟩) (v := ?_) rfl (by kernel_rfl) (by kernel_rfl) (by kernel_rfl) (fun _ _ _ h => h) (Or.inl ⟨by rfl, ?_⟩) (by assumption) ?_
  rotate_left
  · intro w hSw; (try dsimp only at hSw); go_simp; (try with_reducible rfl)
  try simp only [Act.put, List.setIfInBounds_toArray, List.set_cons_zero, List.set_cons_succ]
  refine wpAnyH_take (i := 1) (oi := ⟨_, _, _, _, _, _⟩) (v := ?_) rfl (by kernel_rfl) (by kernel_rfl) (by kernel_rfl) (fun _ _ _ h => h) (Or.inl ⟨by rfl, ?_⟩) (by assumption) ?_
  rotate_left
  · intro w hSw; (try dsimp only at hSw); go_simp; (try with_reducible rfl)
  try simp only [Act.put, List.setIfInBounds_toArray, List.set_cons_zero, List.set_cons_succ]
  refine wpAnyH_take (i := 2) (oi := ⟨_, _, _, _, _, _⟩) (v := ?_) rfl (by kernel_rfl) (by kernel_rfl) (by kernel_rfl) (fun _ _ _ h => h) (Or.inl ⟨by rfl, ?_⟩) (by assumption) ?_
  rotate_left
  · intro w hSw; (try dsimp only at hSw); go_simp; (try with_reducible rfl)
  try simp only [Act.put, List.setIfInBounds_toArray, List.set_cons_zero, List.set_cons_succ]
  refine wpAnyH_take (i := 3) (oi := ⟨_, _, _, _, _, _⟩) (v := ?_) rfl (by kernel_rfl) (by kernel_rfl) (by kernel_rfl) (fun _ _ _ h => h) (Or.inl ⟨by rfl, ?_⟩) (by assumption) ?_
  rotate_left
  · intro w hSw; (try dsimp only at hSw); go_simp; (try with_reducible rfl)
  try simp only [Act.put, List.setIfInBounds_toArray, List.set_cons_zero, List.set_cons_succ]
  refine wpAnyH_take (i := 5) (oi := ⟨_, _, _, _, _, _⟩) (v := ?_) rfl (by kernel_rfl) (by kernel_rfl) (by kernel_rfl) (fun _ _ _ h => h) (Or.inl ⟨by rfl, ?_⟩) (by assumption) ?_
  rotate_left
  · intro w hSw; (try dsimp only at hSw); go_simp; (try with_reducible rfl)
  try simp only [Act.put, List.setIfInBounds_toArray, List.set_cons_zero, List.set_cons_succ]
  refine wpAnyH_take (i := 6) (oi := ⟨_, _, _, _, _, _⟩) (v := ?_) rfl (by kernel_rfl) (by kernel_rfl) (by kernel_rfl) (fun _ _ _ h => h) (Or.inl ⟨by rfl, ?_⟩) (by assumption) ?_
  rotate_left
  · intro w hSw; (try dsimp only at hSw); go_simp; (try with_reducible rfl)
  try simp only [Act.put, List.setIfInBounds_toArray, List.set_cons_zero, List.set_cons_succ]
  refine wpAnyH_ready (rs := [4]) (by kernel_rfl) (by simp) ?_
  refine AllReadyH.cons rfl (fun K hK => ?_) (AllReadyH.nil)
  go_simp
  go_wp2_with fail
  refine (codeOf_any _ _ g _ lo _ l (HQ0.out.cur.gain (by repeat (first | with_reducible (first | exact World.gained_refl _ | exact ⟨_, rfl⟩ | apply gain_ext | apply gain_alloc | apply gain_drewN | apply gain_drew) | (refine gain_setCell ?_ (by first | exact Nat.le_refl _ | exact World.size_ext _ _ | (simp; done) | (simp; omega)) _)))) (by omega) (by omega) (own_up HQ0.out.ls (by repeat (first | with_reducible (first | exact World.gained_refl _ | exact ⟨_, rfl⟩ | apply gain_ext | apply gain_alloc | apply gain_drewN | apply gain_drew) | (refine gain_setCell ?_ (by first | exact Nat.le_refl _ | exact World.size_ext _ _ | (simp; done) | (simp; omega)) _)))) (by omega)).mono ?_
  rintro e wq ⟨x0, rfl, hcq, hgq⟩
  have HQ00 := Lib.hid ((HQ0.out.up (by repeat (first | with_reducible (first | exact World.gained_refl _ | exact ⟨_, rfl⟩ | apply gain_ext | apply gain_alloc | apply gain_drewN | apply gain_drew) | (refine gain_setCell ?_ (by first | exact Nat.le_refl _ | exact World.size_ext _ _ | (simp; done) | (simp; omega)) _)))).on hcq hgq)
  clear hcq hgq
  (try dsimp only)
  refine hK.out _ _ ?_ (fun hHeld => ?_)
  · exact ⟨World.cell_of_heap HQ00.out.box 0, World.cell_of_heap HQ00.out.box 1, World.cell_of_heap HQ00.out.box 2, World.cell_of_heap HQ00.out.box 3⟩
  clear hK K
  try simp only [Act.put, List.setIfInBounds_toArray, List.set_cons_zero, List.set_cons_succ]
  refine wpAnyH_ready (rs := [7]) (by kernel_rfl) (by simp) ?_
  refine AllReadyH.cons rfl (fun K hK => ?_) (AllReadyH.nil)
  go_simp
  go_wp2_with fail
  refine (openCell_any _ _ g _ lo m _ _ (HQ00.out.cur.gain (by repeat (first | with_reducible (first | exact World.gained_refl _ | exact ⟨_, rfl⟩ | apply gain_ext | apply gain_alloc | apply gain_drewN | apply gain_drew) | (refine gain_setCell ?_ (by first | exact Nat.le_refl _ | exact World.size_ext _ _ | (simp; done) | (simp; omega)) _)))) (by omega) (by omega) (own_up HQ00.out.r (by repeat (first | with_reducible (first | exact World.gained_refl _ | exact ⟨_, rfl⟩ | apply gain_ext | apply gain_alloc | apply gain_drewN | apply gain_drew) | (refine gain_setCell ?_ (by first | exact Nat.le_refl _ | exact World.size_ext _ _ | (simp; done) | (simp; omega)) _)))) (own_up HQ00.out.c (by repeat (first | with_reducible (first | exact World.gained_refl _ | exact ⟨_, rfl⟩ | apply gain_ext | apply gain_alloc | apply gain_drewN | apply gain_drew) | (refine gain_setCell ?_ (by first | exact Nat.le_refl _ | exact World.size_ext _ _ | (simp; done) | (simp; omega)) _)))) (by omega) (by omega)).mono ?_
  rintro e wq ⟨x1, rfl, hcq, hgq⟩
  have HQ001 := Lib.hid ((HQ00.out.up (by repeat (first | with_reducible (first | exact World.gained_refl _ | exact ⟨_, rfl⟩ | apply gain_ext | apply gain_alloc | apply gain_drewN | apply gain_drew) | (refine gain_setCell ?_ (by first | exact Nat.le_refl _ | exact World.size_ext _ _ | (simp; done) | (simp; omega)) _)))).on hcq hgq)
  clear hcq hgq
  (try dsimp only)
  refine hK.out _ _ ?_ (fun hHeld => ?_)
  · exact ⟨World.cell_of_heap HQ001.out.box 0, World.cell_of_heap HQ001.out.box 1, World.cell_of_heap HQ001.out.box 2, World.cell_of_heap HQ001.out.box 3⟩
  clear hK K
  try simp only [Act.put, List.setIfInBounds_toArray, List.set_cons_zero, List.set_cons_succ]
  have ey0 : wq.cell? ⟨w.heap.size, 0, none⟩ = some (.int .i64 0) := World.cell_of_heap HQ001.out.res 0
  have ez0 : wq.frozen? ⟨w.heap.size, 0, none⟩ = false := World.free_of_heap HQ001.out.res 0
  have ey1 : wq.cell? ⟨w.heap.size, 1, none⟩ = some (.int .i64 0) := World.cell_of_heap HQ001.out.res 1
  have ez1 : wq.frozen? ⟨w.heap.size, 1, none⟩ = false := World.free_of_heap HQ001.out.res 1
  have ey2 : wq.cell? ⟨w.heap.size, 2, none⟩ = some (.slice none 0 0) := World.cell_of_heap HQ001.out.res 2
  have ez2 : wq.frozen? ⟨w.heap.size, 2, none⟩ = false := World.free_of_heap HQ001.out.res 2
  have ey3 : wq.cell? ⟨w.heap.size, 3, none⟩ = some (.slice none 0 0) := World.cell_of_heap HQ001.out.res 3
  have ez3 : wq.frozen? ⟨w.heap.size, 3, none⟩ = false := World.free_of_heap HQ001.out.res 3
  have ex0 : wq.cell? ⟨gM, 0, none⟩ = some (.int .i64 m.wd) := World.cell_of_heap HQ001.out.box 0
  have ex1 : wq.cell? ⟨gM, 1, none⟩ = some (.int .i64 m.ht) := World.cell_of_heap HQ001.out.box 1
  have ex2 : wq.cell? ⟨gM, 2, none⟩ = some (.slice pr m.rise.length kr) := World.cell_of_heap HQ001.out.box 2
  have ex3 : wq.cell? ⟨gM, 3, none⟩ = some (.slice pc m.cost.length kc) := World.cell_of_heap HQ001.out.box 3
  have eoc := World.oldB_of_cell ey0
  have eob := World.oldB_of_cell ex0
  have gw0 := World.heap_setCell_row HQ001.out.res 0 (.int .i64 m.wd)
  have gc0 : (wq.setCell ⟨w.heap.size, 0, none⟩ (.int .i64 m.wd)).cell? ⟨w.heap.size, 0, none⟩ = some (.int .i64 m.wd) := World.cell_of_heap gw0 0
  have gw1 := World.heap_setCell_row gw0 1 (.int .i64 m.ht)
  have gc1 : ((wq.setCell ⟨w.heap.size, 0, none⟩ (.int .i64 m.wd)).setCell ⟨w.heap.size, 1, none⟩ (.int .i64 m.ht)).cell? ⟨w.heap.size, 1, none⟩ = some (.int .i64 m.ht) := World.cell_of_heap gw1 1
  have gw2 := World.heap_setCell_row gw1 2 (.slice pr m.rise.length kr)
  have gc2 : (((wq.setCell ⟨w.heap.size, 0, none⟩ (.int .i64 m.wd)).setCell ⟨w.heap.size, 1, none⟩ (.int .i64 m.ht)).setCell ⟨w.heap.size, 2, none⟩ (.slice pr m.rise.length kr)).cell? ⟨w.heap.size, 2, none⟩ = some (.slice pr m.rise.length kr) := World.cell_of_heap gw2 2
  have gw3 := World.heap_setCell_row gw2 3 (.slice pc m.cost.length kc)
  have gc3 : ((((wq.setCell ⟨w.heap.size, 0, none⟩ (.int .i64 m.wd)).setCell ⟨w.heap.size, 1, none⟩ (.int .i64 m.ht)).setCell ⟨w.heap.size, 2, none⟩ (.slice pr m.rise.length kr)).setCell ⟨w.heap.size, 3, none⟩ (.slice pc m.cost.length kc)).cell? ⟨w.heap.size, 3, none⟩ = some (.slice pc m.cost.length kc) := World.cell_of_heap gw3 3
  clear gw0 gw1 gw2 gw3
  have hon : World.grownBy wq ((((wq.setCell ⟨w.heap.size, 0, none⟩ (.int .i64 m.wd)).setCell ⟨w.heap.size, 1, none⟩ (.int .i64 m.ht)).setCell ⟨w.heap.size, 2, none⟩ (.slice pr m.rise.length kr)).setCell ⟨w.heap.size, 3, none⟩ (.slice pc m.cost.length kc)) (some w.heap.size) := by repeat (first | exact only_refl _ _ | refine only_setCell ?_ rfl _)
  have HF := Lib.hid (HQ001.out.fin hon HW1.out (Nat.le_refl _))
  have hbl : w.heap.size ≤ lo := by omega
  clear hon
  refine wpAnyH_ready (rs := [8]) (by kernel_rfl) (by simp) ?_
  refine AllReadyH.cons rfl (fun K hK => ?_) (AllReadyH.nil)
  go_simp
  refine hK.out _ _ ?_ (fun hHeld => ?_)
  · exact ⟨World.cell_of_heap HF.out.2.2.2.2 0, World.cell_of_heap HF.out.2.2.2.2 1, World.cell_of_heap HF.out.2.2.2.2 2, World.cell_of_heap HF.out.2.2.2.2 3⟩
  clear hK K
  try simp only [Act.put, List.setIfInBounds_toArray, List.set_cons_zero, List.set_cons_succ]
  refine wpAnyH_take (i := 9) (oi := ⟨_, _, _, _, _, _⟩) (v := ?_) rfl (by kernel_rfl) (by kernel_rfl) (by kernel_rfl) (fun _ _ _ h => h) (Or.inl ⟨by rfl, ?_⟩) (by assumption) ?_
  rotate_left
  · intro w hSw; (try dsimp only at hSw); go_simp; (try with_reducible rfl)
  try simp only [Act.put, List.setIfInBounds_toArray, List.set_cons_zero, List.set_cons_succ]
  refine wpAnyH_take (i := 10) (oi := ⟨_, _, _, _, _, _⟩) (v := ?_) rfl (by kernel_rfl) (by kernel_rfl) (by kernel_rfl) (fun _ _ _ h => h) (Or.inl ⟨by rfl, ?_⟩) (by assumption) ?_
  rotate_left
  · intro w hSw; (try dsimp only at hSw); go_simp; (try with_reducible rfl)
  try simp only [Act.put, List.setIfInBounds_toArray, List.set_cons_zero, List.set_cons_succ]
  refine wpAnyH_take (i := 11) (oi := ⟨_, _, _, _, _, _⟩) (v := ?_) rfl (by kernel_rfl) (by kernel_rfl) (by kernel_rfl) (fun _ _ _ h => h) (Or.inl ⟨by rfl, ?_⟩) (by assumption) ?_
  rotate_left
  · intro w hSw; (try dsimp only at hSw); go_simp; (try with_reducible rfl)
  try simp only [Act.put, List.setIfInBounds_toArray, List.set_cons_zero, List.set_cons_succ]
  refine wpAnyH_done (by kernel_rfl) ?_ _
  go_wp2
  refine bodyPost_ret (v := .tuple #[.agg #[.int .i64 m.wd, .int .i64 m.ht, .slice pr m.rise.length kr, .slice pc m.cost.length kc], .slice pl l.length kl, .int .i64 x0, .int .i64 x1]) (by simp [results, Try.results9, go_sem, gc0, gc1, gc2, gc3]) rfl ?_
  exact ⟨m, _, _, _, l, _, _, rfl, HF.out.1, own_base HF.out.2.1 hbl, own_base HF.out.2.2.1 hbl, hrl, hcl, own_base HF.out.2.2.2.1 hbl, hll⟩
set_option maxHeartbeats 4000000 in
set_option maxRecDepth 100000 in
theorem drawCloseControls_any (v : Value) (L : List Int) (w : World) (h : w.sl byteC 1 v L) (hq : ∀ x ∈ L, 0 ≤ x ∧ x ≤ 255) (hl : L.length ≤ 1048576) :
    Calls Try.prog 30 #[v] w fun x w' => ∃ (m : Mp) (rv cv lv : Value) (l : List Ctl) (x0 : Int), x = .returned (.tuple #[.agg #[.int .i64 m.wd, .int .i64 m.ht, rv, cv], lv, .int .i64 x0]) ∧ (∃ d, w' = w.ext d) ∧ w'.own w.heap.size 3 intC 1 rv m.rise ∧ w'.own w.heap.size 3 intC 1 cv m.cost ∧ m.rise.length ≤ 21 ∧ m.cost.length ≤ 21 ∧ w'.own w.heap.size 46 Ctl.cells 2 lv l ∧ l.length ≤ 11 ∧ -1 ≤ x0 ∧ x0 ≤ 100 := by
  have hs := Lib.hid h
  have HQ := Lib.hid hq
  obtain ⟨p, c, rfl, _⟩ := h
  clear hq
  have HW1 := Lib.hid (show ∃ d, w.alloc (.cells #[.int .i64 0, .int .i64 0, .slice none 0 0, .slice none 0 0] 26) = w.ext d from (by repeat (first | with_reducible (first | exact World.gained_refl _ | exact ⟨_, rfl⟩ | apply gain_ext | apply gain_alloc | apply gain_drewN | apply gain_drew) | (refine gain_setCell ?_ (by first | exact Nat.le_refl _ | exact World.size_ext _ _ | (simp; done) | (simp; omega)) _))))
  have hsz : (w.alloc (.cells #[.int .i64 0, .int .i64 0, .slice none 0 0, .slice none 0 0] 26)).heap.size = w.heap.size + 1 := World.size_alloc _ _
  have HRZ := Lib.hid (heap_alloc_new w (.cells #[.int .i64 0, .int .i64 0, .slice none 0 0, .slice none 0 0] 26))
  have HCN := Lib.hid (cur_new (e := 82) (sl_up byteC_length hs.out HW1.out) HQ.out hl)
  go_enter Try.func30, Try.ntmps30
  go_wp2_with fail
  generalize hW1 : w.alloc (.cells #[.int .i64 0, .int .i64 0, .slice none 0 0, .slice none 0 0] 26) = W1 at HW1 HCN HRZ hsz ⊢
  rw [hsz] at HCN
  refine (site_any W1 _ (w.heap.size + 1) 0 HCN.out (by omega)).mono ?_
  rintro e wm ⟨m, rv, cv, lv, l, rfl, ho1, ho2, -, hrl, hcl, ho3, hll, hc1, hg1⟩
  have hW0 : (W1.alloc (.cells #[.slice p L.length c, .int .i64 0, .int .u64 0] 82)).heap.size = w.heap.size + 2 := by rw [World.size_alloc, hsz]
  have hlm := only_size hg1
  rw [hW0] at hlm ho1 ho2 ho3
  have hQ : QSt 82 26 3 46 W1 (wm.alloc (.cells #[.int .i64 m.wd, .int .i64 m.ht, rv, cv] 26)) (w.heap.size + 1) w.heap.size wm.heap.size (w.heap.size + 2) 600 m rv cv lv l :=
    ⟨(hc1.le (by omega)).gain (by repeat (first | with_reducible (first | exact World.gained_refl _ | exact ⟨_, rfl⟩ | apply gain_ext | apply gain_alloc | apply gain_drewN | apply gain_drew) | (refine gain_setCell ?_ (by first | exact Nat.le_refl _ | exact World.size_ext _ _ | (simp; done) | (simp; omega)) _))), row_up (row_keep (row_up HRZ.out (by repeat (first | with_reducible (first | exact World.gained_refl _ | exact ⟨_, rfl⟩ | apply gain_ext | apply gain_alloc | apply gain_drewN | apply gain_drew) | (refine gain_setCell ?_ (by first | exact Nat.le_refl _ | exact World.size_ext _ _ | (simp; done) | (simp; omega)) _)))) hg1 (fun q e => by cases e; omega)) (by repeat (first | with_reducible (first | exact World.gained_refl _ | exact ⟨_, rfl⟩ | apply gain_ext | apply gain_alloc | apply gain_drewN | apply gain_drew) | (refine gain_setCell ?_ (by first | exact Nat.le_refl _ | exact World.size_ext _ _ | (simp; done) | (simp; omega)) _))), heap_alloc_new wm _, own_up ho1 (by repeat (first | with_reducible (first | exact World.gained_refl _ | exact ⟨_, rfl⟩ | apply gain_ext | apply gain_alloc | apply gain_drewN | apply gain_drew) | (refine gain_setCell ?_ (by first | exact Nat.le_refl _ | exact World.size_ext _ _ | (simp; done) | (simp; omega)) _))), own_up ho2 (by repeat (first | with_reducible (first | exact World.gained_refl _ | exact ⟨_, rfl⟩ | apply gain_ext | apply gain_alloc | apply gain_drewN | apply gain_drew) | (refine gain_setCell ?_ (by first | exact Nat.le_refl _ | exact World.size_ext _ _ | (simp; done) | (simp; omega)) _))), own_up ho3 (by repeat (first | with_reducible (first | exact World.gained_refl _ | exact ⟨_, rfl⟩ | apply gain_ext | apply gain_alloc | apply gain_drewN | apply gain_drew) | (refine gain_setCell ?_ (by first | exact Nat.le_refl _ | exact World.size_ext _ _ | (simp; done) | (simp; omega)) _))), by omega, by omega, by omega⟩
  have HQ0 := Lib.hid hQ
  skip
  obtain ⟨pr, kr, rfl, _⟩ := sl_of_own intC_length ho1
  obtain ⟨pc, kc, rfl, _⟩ := sl_of_own intC_length ho2
  obtain ⟨pl, kl, rfl, _⟩ := sl_of_own Ctl.cells_length ho3
  clear hc1 hg1 ho1 ho2 ho3 hQ hW1 HRZ HCN
  generalize hg : w.heap.size + 1 = g at HQ0 ⊢
  generalize hlo : w.heap.size + 2 = lo at HQ0 hlm  ⊢
  go_upto_region 3 with fail
  generalize wm.alloc (.cells #[.int .i64 m.wd, .int .i64 m.ht, .slice pr m.rise.length kr, .slice pc m.cost.length kc] 26) = ww at HQ0 ⊢
  generalize wm.heap.size = gM at HQ0 hlm ⊢
  refine wp_region_held_drew (S := (fun w' => w'.cell? ⟨gM, 0, none⟩ = some (.int .i64 m.wd) ∧ w'.cell? ⟨gM, 1, none⟩ = some (.int .i64 m.ht) ∧ w'.cell? ⟨gM, 2, none⟩ = some (.slice pr m.rise.length kr) ∧ w'.cell? ⟨gM, 3, none⟩ = some (.slice pc m.cost.length kc))) (by kernel_rfl) ⟨World.cell_of_heap HQ0.out.box 0, World.cell_of_heap HQ0.out.box 1, World.cell_of_heap HQ0.out.box 2, World.cell_of_heap HQ0.out.box 3⟩ (fun hHeld => ?_)
  refine wpAnyH_take (i := 0) (oi := ⟨_, _, _, _, _, _⟩) (v := ?_) rfl (by kernel_rfl) (by kernel_rfl) (by kernel_rfl) (fun _ _ _ h => h) (Or.inl ⟨by rfl, ?_⟩) (by assumption) ?_
  rotate_left
  · intro w hSw; (try dsimp only at hSw); go_simp; (try with_reducible rfl)
  try simp only [Act.put, List.setIfInBounds_toArray, List.set_cons_zero, List.set_cons_succ]
  refine wpAnyH_take (i := 1) (oi := ⟨_, _, _, _, _, _⟩) (v := ?_) rfl (by kernel_rfl) (by kernel_rfl) (by kernel_rfl) (fun _ _ _ h => h) (Or.inl ⟨by rfl, ?_⟩) (by assumption) ?_
  rotate_left
  · intro w hSw; (try dsimp only at hSw); go_simp; (try with_reducible rfl)
  try simp only [Act.put, List.setIfInBounds_toArray, List.set_cons_zero, List.set_cons_succ]
  refine wpAnyH_take (i := 2) (oi := ⟨_, _, _, _, _, _⟩) (v := ?_) rfl (by kernel_rfl) (by kernel_rfl) (by kernel_rfl) (fun _ _ _ h => h) (Or.inl ⟨by rfl, ?_⟩) (by assumption) ?_
  rotate_left
  · intro w hSw; (try dsimp only at hSw); go_simp; (try with_reducible rfl)
  try simp only [Act.put, List.setIfInBounds_toArray, List.set_cons_zero, List.set_cons_succ]
  refine wpAnyH_ready (rs := [3]) (by kernel_rfl) (by simp) ?_
  refine AllReadyH.cons rfl (fun K hK => ?_) (AllReadyH.nil)
  go_simp
  have HLHQ0l := Lib.hid (own_lit' (w := ww) (e := 3) (base := lo) (C := #[.int .i64 0, .int .i64 1, .int .i64 2, .int .i64 3, .int .i64 5, .int .i64 (-1)]) (l := [0, 1, 2, 3, 5, -1]) intC_length rfl rfl (Nat.le_of_lt HQ0.out.size))
  have HQ0l := Lib.hid (HQ0.out.up (wr' := ww.alloc (.cells #[.int .i64 0, .int .i64 1, .int .i64 2, .int .i64 3, .int .i64 5, .int .i64 (-1)] 3)) (by repeat (first | with_reducible (first | exact World.gained_refl _ | exact ⟨_, rfl⟩ | apply gain_ext | apply gain_alloc | apply gain_drewN | apply gain_drew) | (refine gain_setCell ?_ (by first | exact Nat.le_refl _ | exact World.size_ext _ _ | (simp; done) | (simp; omega)) _))))
  refine hK.out _ _ ?_ (fun hHeld => ?_)
  · exact ⟨World.cell_of_heap HQ0l.out.box 0, World.cell_of_heap HQ0l.out.box 1, World.cell_of_heap HQ0l.out.box 2, World.cell_of_heap HQ0l.out.box 3⟩
  clear hK K
  try simp only [Act.put, List.setIfInBounds_toArray, List.set_cons_zero, List.set_cons_succ]
  generalize ww.alloc (.cells #[.int .i64 0, .int .i64 1, .int .i64 2, .int .i64 3, .int .i64 5, .int .i64 (-1)] 3) = wq at HLHQ0l HQ0l ⊢
  refine wpAnyH_ready (rs := [4]) (by kernel_rfl) (by simp) ?_
  refine AllReadyH.cons rfl (fun K hK => ?_) (AllReadyH.nil)
  go_simp
  go_wp2_with fail
  refine (among_any _ _ g _ _ [0, 1, 2, 3, 5, -1] lo (HQ0l.out.cur.gain (by repeat (first | with_reducible (first | exact World.gained_refl _ | exact ⟨_, rfl⟩ | apply gain_ext | apply gain_alloc | apply gain_drewN | apply gain_drew) | (refine gain_setCell ?_ (by first | exact Nat.le_refl _ | exact World.size_ext _ _ | (simp; done) | (simp; omega)) _)))) (by omega) (own_up HLHQ0l.out (by repeat (first | with_reducible (first | exact World.gained_refl _ | exact ⟨_, rfl⟩ | apply gain_ext | apply gain_alloc | apply gain_drewN | apply gain_drew) | (refine gain_setCell ?_ (by first | exact Nat.le_refl _ | exact World.size_ext _ _ | (simp; done) | (simp; omega)) _)))) (by omega) (by simp) (by simp)).mono ?_
  rintro e wq ⟨x0, rfl, hmm, hcq, hgq⟩
  have hbx0 : -1 ≤ x0 ∧ x0 ≤ 100 := by simp at hmm; omega
  clear hmm
  have HQ0l0 := Lib.hid ((HQ0l.out.up (by repeat (first | with_reducible (first | exact World.gained_refl _ | exact ⟨_, rfl⟩ | apply gain_ext | apply gain_alloc | apply gain_drewN | apply gain_drew) | (refine gain_setCell ?_ (by first | exact Nat.le_refl _ | exact World.size_ext _ _ | (simp; done) | (simp; omega)) _)))).on hcq hgq)
  clear hcq hgq
  (try dsimp only)
  refine hK.out _ _ ?_ (fun hHeld => ?_)
  · exact ⟨World.cell_of_heap HQ0l0.out.box 0, World.cell_of_heap HQ0l0.out.box 1, World.cell_of_heap HQ0l0.out.box 2, World.cell_of_heap HQ0l0.out.box 3⟩
  clear hK K
  try simp only [Act.put, List.setIfInBounds_toArray, List.set_cons_zero, List.set_cons_succ]
  have ey0 : wq.cell? ⟨w.heap.size, 0, none⟩ = some (.int .i64 0) := World.cell_of_heap HQ0l0.out.res 0
  have ez0 : wq.frozen? ⟨w.heap.size, 0, none⟩ = false := World.free_of_heap HQ0l0.out.res 0
  have ey1 : wq.cell? ⟨w.heap.size, 1, none⟩ = some (.int .i64 0) := World.cell_of_heap HQ0l0.out.res 1
  have ez1 : wq.frozen? ⟨w.heap.size, 1, none⟩ = false := World.free_of_heap HQ0l0.out.res 1
  have ey2 : wq.cell? ⟨w.heap.size, 2, none⟩ = some (.slice none 0 0) := World.cell_of_heap HQ0l0.out.res 2
  have ez2 : wq.frozen? ⟨w.heap.size, 2, none⟩ = false := World.free_of_heap HQ0l0.out.res 2
  have ey3 : wq.cell? ⟨w.heap.size, 3, none⟩ = some (.slice none 0 0) := World.cell_of_heap HQ0l0.out.res 3
  have ez3 : wq.frozen? ⟨w.heap.size, 3, none⟩ = false := World.free_of_heap HQ0l0.out.res 3
  have ex0 : wq.cell? ⟨gM, 0, none⟩ = some (.int .i64 m.wd) := World.cell_of_heap HQ0l0.out.box 0
  have ex1 : wq.cell? ⟨gM, 1, none⟩ = some (.int .i64 m.ht) := World.cell_of_heap HQ0l0.out.box 1
  have ex2 : wq.cell? ⟨gM, 2, none⟩ = some (.slice pr m.rise.length kr) := World.cell_of_heap HQ0l0.out.box 2
  have ex3 : wq.cell? ⟨gM, 3, none⟩ = some (.slice pc m.cost.length kc) := World.cell_of_heap HQ0l0.out.box 3
  have eoc := World.oldB_of_cell ey0
  have eob := World.oldB_of_cell ex0
  have gw0 := World.heap_setCell_row HQ0l0.out.res 0 (.int .i64 m.wd)
  have gc0 : (wq.setCell ⟨w.heap.size, 0, none⟩ (.int .i64 m.wd)).cell? ⟨w.heap.size, 0, none⟩ = some (.int .i64 m.wd) := World.cell_of_heap gw0 0
  have gw1 := World.heap_setCell_row gw0 1 (.int .i64 m.ht)
  have gc1 : ((wq.setCell ⟨w.heap.size, 0, none⟩ (.int .i64 m.wd)).setCell ⟨w.heap.size, 1, none⟩ (.int .i64 m.ht)).cell? ⟨w.heap.size, 1, none⟩ = some (.int .i64 m.ht) := World.cell_of_heap gw1 1
  have gw2 := World.heap_setCell_row gw1 2 (.slice pr m.rise.length kr)
  have gc2 : (((wq.setCell ⟨w.heap.size, 0, none⟩ (.int .i64 m.wd)).setCell ⟨w.heap.size, 1, none⟩ (.int .i64 m.ht)).setCell ⟨w.heap.size, 2, none⟩ (.slice pr m.rise.length kr)).cell? ⟨w.heap.size, 2, none⟩ = some (.slice pr m.rise.length kr) := World.cell_of_heap gw2 2
  have gw3 := World.heap_setCell_row gw2 3 (.slice pc m.cost.length kc)
  have gc3 : ((((wq.setCell ⟨w.heap.size, 0, none⟩ (.int .i64 m.wd)).setCell ⟨w.heap.size, 1, none⟩ (.int .i64 m.ht)).setCell ⟨w.heap.size, 2, none⟩ (.slice pr m.rise.length kr)).setCell ⟨w.heap.size, 3, none⟩ (.slice pc m.cost.length kc)).cell? ⟨w.heap.size, 3, none⟩ = some (.slice pc m.cost.length kc) := World.cell_of_heap gw3 3
  clear gw0 gw1 gw2 gw3
  have hon : World.grownBy wq ((((wq.setCell ⟨w.heap.size, 0, none⟩ (.int .i64 m.wd)).setCell ⟨w.heap.size, 1, none⟩ (.int .i64 m.ht)).setCell ⟨w.heap.size, 2, none⟩ (.slice pr m.rise.length kr)).setCell ⟨w.heap.size, 3, none⟩ (.slice pc m.cost.length kc)) (some w.heap.size) := by repeat (first | exact only_refl _ _ | refine only_setCell ?_ rfl _)
  have HF := Lib.hid (HQ0l0.out.fin hon HW1.out (Nat.le_refl _))
  have hbl : w.heap.size ≤ lo := by omega
  clear hon
  refine wpAnyH_ready (rs := [5]) (by kernel_rfl) (by simp) ?_
  refine AllReadyH.cons rfl (fun K hK => ?_) (AllReadyH.nil)
  go_simp
  refine hK.out _ _ ?_ (fun hHeld => ?_)
  · exact ⟨World.cell_of_heap HF.out.2.2.2.2 0, World.cell_of_heap HF.out.2.2.2.2 1, World.cell_of_heap HF.out.2.2.2.2 2, World.cell_of_heap HF.out.2.2.2.2 3⟩
  clear hK K
  try simp only [Act.put, List.setIfInBounds_toArray, List.set_cons_zero, List.set_cons_succ]
  refine wpAnyH_take (i := 6) (oi := ⟨_, _, _, _, _, _⟩) (v := ?_) rfl (by kernel_rfl) (by kernel_rfl) (by kernel_rfl) (fun _ _ _ h => h) (Or.inl ⟨by rfl, ?_⟩) (by assumption) ?_
  rotate_left
  · intro w hSw; (try dsimp only at hSw); go_simp; (try with_reducible rfl)
  try simp only [Act.put, List.setIfInBounds_toArray, List.set_cons_zero, List.set_cons_succ]
  refine wpAnyH_take (i := 7) (oi := ⟨_, _, _, _, _, _⟩) (v := ?_) rfl (by kernel_rfl) (by kernel_rfl) (by kernel_rfl) (fun _ _ _ h => h) (Or.inl ⟨by rfl, ?_⟩) (by assumption) ?_
  rotate_left
  · intro w hSw; (try dsimp only at hSw); go_simp; (try with_reducible rfl)
  try simp only [Act.put, List.setIfInBounds_toArray, List.set_cons_zero, List.set_cons_succ]
  refine wpAnyH_done (by kernel_rfl) ?_ _
  go_wp2
  refine bodyPost_ret (v := .tuple #[.agg #[.int .i64 m.wd, .int .i64 m.ht, .slice pr m.rise.length kr, .slice pc m.cost.length kc], .slice pl l.length kl, .int .i64 x0]) (by simp [results, Try.results30, go_sem, gc0, gc1, gc2, gc3]) rfl ?_
  exact ⟨m, _, _, _, l, _, rfl, HF.out.1, own_base HF.out.2.1 hbl, own_base HF.out.2.2.1 hbl, hrl, hcl, own_base HF.out.2.2.2.1 hbl, hll, hbx0.1, hbx0.2⟩
set_option maxHeartbeats 4000000 in
set_option maxRecDepth 100000 in
theorem drawRecodeControl_any (v : Value) (L : List Int) (w : World) (h : w.sl byteC 1 v L) (hq : ∀ x ∈ L, 0 ≤ x ∧ x ≤ 255) (hl : L.length ≤ 1048576) :
    Calls Try.prog 17 #[v] w fun x w' => ∃ (m : Mp) (rv cv lv : Value) (l : List Ctl) (x0 x1 : Int), x = .returned (.tuple #[.agg #[.int .i64 m.wd, .int .i64 m.ht, rv, cv], lv, .int .i64 x0, .int .i64 x1]) ∧ (∃ d, w' = w.ext d) ∧ w'.own w.heap.size 3 intC 1 rv m.rise ∧ w'.own w.heap.size 3 intC 1 cv m.cost ∧ m.rise.length ≤ 21 ∧ m.cost.length ≤ 21 ∧ w'.own w.heap.size 46 Ctl.cells 2 lv l ∧ l.length ≤ 11 := by
  have hs := Lib.hid h
  have HQ := Lib.hid hq
  obtain ⟨p, c, rfl, _⟩ := h
  clear hq
  have HW1 := Lib.hid (show ∃ d, w.alloc (.cells #[.int .i64 0, .int .i64 0, .slice none 0 0, .slice none 0 0] 26) = w.ext d from (by repeat (first | with_reducible (first | exact World.gained_refl _ | exact ⟨_, rfl⟩ | apply gain_ext | apply gain_alloc | apply gain_drewN | apply gain_drew) | (refine gain_setCell ?_ (by first | exact Nat.le_refl _ | exact World.size_ext _ _ | (simp; done) | (simp; omega)) _))))
  have hsz : (w.alloc (.cells #[.int .i64 0, .int .i64 0, .slice none 0 0, .slice none 0 0] 26)).heap.size = w.heap.size + 1 := World.size_alloc _ _
  have HRZ := Lib.hid (heap_alloc_new w (.cells #[.int .i64 0, .int .i64 0, .slice none 0 0, .slice none 0 0] 26))
  have HCN := Lib.hid (cur_new (e := 82) (sl_up byteC_length hs.out HW1.out) HQ.out hl)
  go_enter Try.func17, Try.ntmps17
  go_wp2_with fail
  generalize hW1 : w.alloc (.cells #[.int .i64 0, .int .i64 0, .slice none 0 0, .slice none 0 0] 26) = W1 at HW1 HCN HRZ hsz ⊢
  rw [hsz] at HCN
  refine (site_any W1 _ (w.heap.size + 1) 0 HCN.out (by omega)).mono ?_
  rintro e wm ⟨m, rv, cv, lv, l, rfl, ho1, ho2, -, hrl, hcl, ho3, hll, hc1, hg1⟩
  have hW0 : (W1.alloc (.cells #[.slice p L.length c, .int .i64 0, .int .u64 0] 82)).heap.size = w.heap.size + 2 := by rw [World.size_alloc, hsz]
  have hlm := only_size hg1
  rw [hW0] at hlm ho1 ho2 ho3
  have hQ : QSt 82 26 3 46 W1 (wm.alloc (.cells #[.int .i64 m.wd, .int .i64 m.ht, rv, cv] 26)) (w.heap.size + 1) w.heap.size wm.heap.size (w.heap.size + 2) 600 m rv cv lv l :=
    ⟨(hc1.le (by omega)).gain (by repeat (first | with_reducible (first | exact World.gained_refl _ | exact ⟨_, rfl⟩ | apply gain_ext | apply gain_alloc | apply gain_drewN | apply gain_drew) | (refine gain_setCell ?_ (by first | exact Nat.le_refl _ | exact World.size_ext _ _ | (simp; done) | (simp; omega)) _))), row_up (row_keep (row_up HRZ.out (by repeat (first | with_reducible (first | exact World.gained_refl _ | exact ⟨_, rfl⟩ | apply gain_ext | apply gain_alloc | apply gain_drewN | apply gain_drew) | (refine gain_setCell ?_ (by first | exact Nat.le_refl _ | exact World.size_ext _ _ | (simp; done) | (simp; omega)) _)))) hg1 (fun q e => by cases e; omega)) (by repeat (first | with_reducible (first | exact World.gained_refl _ | exact ⟨_, rfl⟩ | apply gain_ext | apply gain_alloc | apply gain_drewN | apply gain_drew) | (refine gain_setCell ?_ (by first | exact Nat.le_refl _ | exact World.size_ext _ _ | (simp; done) | (simp; omega)) _))), heap_alloc_new wm _, own_up ho1 (by repeat (first | with_reducible (first | exact World.gained_refl _ | exact ⟨_, rfl⟩ | apply gain_ext | apply gain_alloc | apply gain_drewN | apply gain_drew) | (refine gain_setCell ?_ (by first | exact Nat.le_refl _ | exact World.size_ext _ _ | (simp; done) | (simp; omega)) _))), own_up ho2 (by repeat (first | with_reducible (first | exact World.gained_refl _ | exact ⟨_, rfl⟩ | apply gain_ext | apply gain_alloc | apply gain_drewN | apply gain_drew) | (refine gain_setCell ?_ (by first | exact Nat.le_refl _ | exact World.size_ext _ _ | (simp; done) | (simp; omega)) _))), own_up ho3 (by repeat (first | with_reducible (first | exact World.gained_refl _ | exact ⟨_, rfl⟩ | apply gain_ext | apply gain_alloc | apply gain_drewN | apply gain_drew) | (refine gain_setCell ?_ (by first | exact Nat.le_refl _ | exact World.size_ext _ _ | (simp; done) | (simp; omega)) _))), by omega, by omega, by omega⟩
  have HQ0 := Lib.hid hQ
  skip
  obtain ⟨pr, kr, rfl, _⟩ := sl_of_own intC_length ho1
  obtain ⟨pc, kc, rfl, _⟩ := sl_of_own intC_length ho2
  obtain ⟨pl, kl, rfl, _⟩ := sl_of_own Ctl.cells_length ho3
  clear hc1 hg1 ho1 ho2 ho3 hQ hW1 HRZ HCN
  generalize hg : w.heap.size + 1 = g at HQ0 ⊢
  generalize hlo : w.heap.size + 2 = lo at HQ0 hlm  ⊢
  go_upto_region 3 with fail
  generalize wm.alloc (.cells #[.int .i64 m.wd, .int .i64 m.ht, .slice pr m.rise.length kr, .slice pc m.cost.length kc] 26) = ww at HQ0 ⊢
  generalize wm.heap.size = gM at HQ0 hlm ⊢
  refine wp_region_held_drew (S := (fun w' => w'.cell? ⟨gM, 0, none⟩ = some (.int .i64 m.wd) ∧ w'.cell? ⟨gM, 1, none⟩ = some (.int .i64 m.ht) ∧ w'.cell? ⟨gM, 2, none⟩ = some (.slice pr m.rise.length kr) ∧ w'.cell? ⟨gM, 3, none⟩ = some (.slice pc m.cost.length kc))) (by kernel_rfl) ⟨World.cell_of_heap HQ0.out.box 0, World.cell_of_heap HQ0.out.box 1, World.cell_of_heap HQ0.out.box 2, World.cell_of_heap HQ0.out.box 3⟩ (fun hHeld => ?_)
  refine wpAnyH_take (i := 0) (oi := ⟨_, _, _, _, _, _⟩) (v := ?_) rfl (by kernel_rfl) (by kernel_rfl) (by kernel_rfl) (fun _ _ _ h => h) (Or.inl ⟨by rfl, ?_⟩) (by assumption) ?_
  rotate_left
  · intro w hSw; (try dsimp only at hSw); go_simp; (try with_reducible rfl)
  try simp only [Act.put, List.setIfInBounds_toArray, List.set_cons_zero, List.set_cons_succ]
  refine wpAnyH_take (i := 1) (oi := ⟨_, _, _, _, _, _⟩) (v := ?_) rfl (by kernel_rfl) (by kernel_rfl) (by kernel_rfl) (fun _ _ _ h => h) (Or.inl ⟨by rfl, ?_⟩) (by assumption) ?_
  rotate_left
  · intro w hSw; (try dsimp only at hSw); go_simp; (try with_reducible rfl)
  try simp only [Act.put, List.setIfInBounds_toArray, List.set_cons_zero, List.set_cons_succ]
  refine wpAnyH_take (i := 2) (oi := ⟨_, _, _, _, _, _⟩) (v := ?_) rfl (by kernel_rfl) (by kernel_rfl) (by kernel_rfl) (fun _ _ _ h => h) (Or.inl ⟨by rfl, ?_⟩) (by assumption) ?_
  rotate_left
  · intro w hSw; (try dsimp only at hSw); go_simp; (try with_reducible rfl)
  try simp only [Act.put, List.setIfInBounds_toArray, List.set_cons_zero, List.set_cons_succ]
  refine wpAnyH_take (i := 3) (oi := ⟨_, _, _, _, _, _⟩) (v := ?_) rfl (by kernel_rfl) (by kernel_rfl) (by kernel_rfl) (fun _ _ _ h => h) (Or.inl ⟨by rfl, ?_⟩) (by assumption) ?_
  rotate_left
  · intro w hSw; (try dsimp only at hSw); go_simp; (try with_reducible rfl)
  try simp only [Act.put, List.setIfInBounds_toArray, List.set_cons_zero, List.set_cons_succ]
  refine wpAnyH_take (i := 5) (oi := ⟨_, _, _, _, _, _⟩) (v := ?_) rfl (by kernel_rfl) (by kernel_rfl) (by kernel_rfl) (fun _ _ _ h => h) (Or.inl ⟨by rfl, ?_⟩) (by assumption) ?_
  rotate_left
  · intro w hSw; (try dsimp only at hSw); go_simp; (try with_reducible rfl)
  try simp only [Act.put, List.setIfInBounds_toArray, List.set_cons_zero, List.set_cons_succ]
  refine wpAnyH_ready (rs := [4, 6]) (by kernel_rfl) (by simp) ?_
  refine AllReadyH.cons rfl (fun K hK => ?_) (AllReadyH.cons rfl (fun K hK => ?_) (AllReadyH.nil))
  · go_simp
    go_wp2_with fail
    refine (codeOf_any _ _ g _ lo _ l (HQ0.out.cur.gain (by repeat (first | with_reducible (first | exact World.gained_refl _ | exact ⟨_, rfl⟩ | apply gain_ext | apply gain_alloc | apply gain_drewN | apply gain_drew) | (refine gain_setCell ?_ (by first | exact Nat.le_refl _ | exact World.size_ext _ _ | (simp; done) | (simp; omega)) _)))) (by omega) (by omega) (own_up HQ0.out.ls (by repeat (first | with_reducible (first | exact World.gained_refl _ | exact ⟨_, rfl⟩ | apply gain_ext | apply gain_alloc | apply gain_drewN | apply gain_drew) | (refine gain_setCell ?_ (by first | exact Nat.le_refl _ | exact World.size_ext _ _ | (simp; done) | (simp; omega)) _)))) (by omega)).mono ?_
    rintro e wq ⟨x0, rfl, hcq, hgq⟩
    have HQ00 := Lib.hid ((HQ0.out.up (by repeat (first | with_reducible (first | exact World.gained_refl _ | exact ⟨_, rfl⟩ | apply gain_ext | apply gain_alloc | apply gain_drewN | apply gain_drew) | (refine gain_setCell ?_ (by first | exact Nat.le_refl _ | exact World.size_ext _ _ | (simp; done) | (simp; omega)) _)))).on hcq hgq)
    clear hcq hgq
    (try dsimp only)
    refine hK.out _ _ ?_ (fun hHeld => ?_)
    · exact ⟨World.cell_of_heap HQ00.out.box 0, World.cell_of_heap HQ00.out.box 1, World.cell_of_heap HQ00.out.box 2, World.cell_of_heap HQ00.out.box 3⟩
    clear hK K
    try simp only [Act.put, List.setIfInBounds_toArray, List.set_cons_zero, List.set_cons_succ]
    refine wpAnyH_ready (rs := [6]) (by kernel_rfl) (by simp) ?_
    refine AllReadyH.cons rfl (fun K hK => ?_) (AllReadyH.nil)
    go_simp
    have HLHQ00l := Lib.hid (own_lit' (w := wq) (e := 3) (base := lo) (C := #[.int .i64 33, .int .i64 50, .int .i64 88, .int .i64 30, .int .i64 100, .int .i64 31, .int .i64 45]) (l := [33, 50, 88, 30, 100, 31, 45]) intC_length rfl rfl (Nat.le_of_lt HQ00.out.size))
    have HQ00l := Lib.hid (HQ00.out.up (wr' := wq.alloc (.cells #[.int .i64 33, .int .i64 50, .int .i64 88, .int .i64 30, .int .i64 100, .int .i64 31, .int .i64 45] 3)) (by repeat (first | with_reducible (first | exact World.gained_refl _ | exact ⟨_, rfl⟩ | apply gain_ext | apply gain_alloc | apply gain_drewN | apply gain_drew) | (refine gain_setCell ?_ (by first | exact Nat.le_refl _ | exact World.size_ext _ _ | (simp; done) | (simp; omega)) _))))
    refine hK.out _ _ ?_ (fun hHeld => ?_)
    · exact ⟨World.cell_of_heap HQ00l.out.box 0, World.cell_of_heap HQ00l.out.box 1, World.cell_of_heap HQ00l.out.box 2, World.cell_of_heap HQ00l.out.box 3⟩
    clear hK K
    try simp only [Act.put, List.setIfInBounds_toArray, List.set_cons_zero, List.set_cons_succ]
    generalize wq.alloc (.cells #[.int .i64 33, .int .i64 50, .int .i64 88, .int .i64 30, .int .i64 100, .int .i64 31, .int .i64 45] 3) = wq at HLHQ00l HQ00l ⊢
    refine wpAnyH_ready (rs := [7]) (by kernel_rfl) (by simp) ?_
    refine AllReadyH.cons rfl (fun K hK => ?_) (AllReadyH.nil)
    go_simp
    go_wp2_with fail
    refine (among_any _ _ g _ _ [33, 50, 88, 30, 100, 31, 45] lo (HQ00l.out.cur.gain (by repeat (first | with_reducible (first | exact World.gained_refl _ | exact ⟨_, rfl⟩ | apply gain_ext | apply gain_alloc | apply gain_drewN | apply gain_drew) | (refine gain_setCell ?_ (by first | exact Nat.le_refl _ | exact World.size_ext _ _ | (simp; done) | (simp; omega)) _)))) (by omega) (own_up HLHQ00l.out (by repeat (first | with_reducible (first | exact World.gained_refl _ | exact ⟨_, rfl⟩ | apply gain_ext | apply gain_alloc | apply gain_drewN | apply gain_drew) | (refine gain_setCell ?_ (by first | exact Nat.le_refl _ | exact World.size_ext _ _ | (simp; done) | (simp; omega)) _)))) (by omega) (by simp) (by simp)).mono ?_
    rintro e wq ⟨x1, rfl, hmm, hcq, hgq⟩
    have hbx1 : -1 ≤ x1 ∧ x1 ≤ 100 := by simp at hmm; omega
    clear hmm
    have HQ00l1 := Lib.hid ((HQ00l.out.up (by repeat (first | with_reducible (first | exact World.gained_refl _ | exact ⟨_, rfl⟩ | apply gain_ext | apply gain_alloc | apply gain_drewN | apply gain_drew) | (refine gain_setCell ?_ (by first | exact Nat.le_refl _ | exact World.size_ext _ _ | (simp; done) | (simp; omega)) _)))).on hcq hgq)
    clear hcq hgq
    (try dsimp only)
    refine hK.out _ _ ?_ (fun hHeld => ?_)
    · exact ⟨World.cell_of_heap HQ00l1.out.box 0, World.cell_of_heap HQ00l1.out.box 1, World.cell_of_heap HQ00l1.out.box 2, World.cell_of_heap HQ00l1.out.box 3⟩
    clear hK K
    try simp only [Act.put, List.setIfInBounds_toArray, List.set_cons_zero, List.set_cons_succ]
    have ey0 : wq.cell? ⟨w.heap.size, 0, none⟩ = some (.int .i64 0) := World.cell_of_heap HQ00l1.out.res 0
    have ez0 : wq.frozen? ⟨w.heap.size, 0, none⟩ = false := World.free_of_heap HQ00l1.out.res 0
    have ey1 : wq.cell? ⟨w.heap.size, 1, none⟩ = some (.int .i64 0) := World.cell_of_heap HQ00l1.out.res 1
    have ez1 : wq.frozen? ⟨w.heap.size, 1, none⟩ = false := World.free_of_heap HQ00l1.out.res 1
    have ey2 : wq.cell? ⟨w.heap.size, 2, none⟩ = some (.slice none 0 0) := World.cell_of_heap HQ00l1.out.res 2
    have ez2 : wq.frozen? ⟨w.heap.size, 2, none⟩ = false := World.free_of_heap HQ00l1.out.res 2
    have ey3 : wq.cell? ⟨w.heap.size, 3, none⟩ = some (.slice none 0 0) := World.cell_of_heap HQ00l1.out.res 3
    have ez3 : wq.frozen? ⟨w.heap.size, 3, none⟩ = false := World.free_of_heap HQ00l1.out.res 3
    have ex0 : wq.cell? ⟨gM, 0, none⟩ = some (.int .i64 m.wd) := World.cell_of_heap HQ00l1.out.box 0
    have ex1 : wq.cell? ⟨gM, 1, none⟩ = some (.int .i64 m.ht) := World.cell_of_heap HQ00l1.out.box 1
    have ex2 : wq.cell? ⟨gM, 2, none⟩ = some (.slice pr m.rise.length kr) := World.cell_of_heap HQ00l1.out.box 2
    have ex3 : wq.cell? ⟨gM, 3, none⟩ = some (.slice pc m.cost.length kc) := World.cell_of_heap HQ00l1.out.box 3
    have eoc := World.oldB_of_cell ey0
    have eob := World.oldB_of_cell ex0
    have gw0 := World.heap_setCell_row HQ00l1.out.res 0 (.int .i64 m.wd)
    have gc0 : (wq.setCell ⟨w.heap.size, 0, none⟩ (.int .i64 m.wd)).cell? ⟨w.heap.size, 0, none⟩ = some (.int .i64 m.wd) := World.cell_of_heap gw0 0
    have gw1 := World.heap_setCell_row gw0 1 (.int .i64 m.ht)
    have gc1 : ((wq.setCell ⟨w.heap.size, 0, none⟩ (.int .i64 m.wd)).setCell ⟨w.heap.size, 1, none⟩ (.int .i64 m.ht)).cell? ⟨w.heap.size, 1, none⟩ = some (.int .i64 m.ht) := World.cell_of_heap gw1 1
    have gw2 := World.heap_setCell_row gw1 2 (.slice pr m.rise.length kr)
    have gc2 : (((wq.setCell ⟨w.heap.size, 0, none⟩ (.int .i64 m.wd)).setCell ⟨w.heap.size, 1, none⟩ (.int .i64 m.ht)).setCell ⟨w.heap.size, 2, none⟩ (.slice pr m.rise.length kr)).cell? ⟨w.heap.size, 2, none⟩ = some (.slice pr m.rise.length kr) := World.cell_of_heap gw2 2
    have gw3 := World.heap_setCell_row gw2 3 (.slice pc m.cost.length kc)
    have gc3 : ((((wq.setCell ⟨w.heap.size, 0, none⟩ (.int .i64 m.wd)).setCell ⟨w.heap.size, 1, none⟩ (.int .i64 m.ht)).setCell ⟨w.heap.size, 2, none⟩ (.slice pr m.rise.length kr)).setCell ⟨w.heap.size, 3, none⟩ (.slice pc m.cost.length kc)).cell? ⟨w.heap.size, 3, none⟩ = some (.slice pc m.cost.length kc) := World.cell_of_heap gw3 3
    clear gw0 gw1 gw2 gw3
    have hon : World.grownBy wq ((((wq.setCell ⟨w.heap.size, 0, none⟩ (.int .i64 m.wd)).setCell ⟨w.heap.size, 1, none⟩ (.int .i64 m.ht)).setCell ⟨w.heap.size, 2, none⟩ (.slice pr m.rise.length kr)).setCell ⟨w.heap.size, 3, none⟩ (.slice pc m.cost.length kc)) (some w.heap.size) := by repeat (first | exact only_refl _ _ | refine only_setCell ?_ rfl _)
    have HF := Lib.hid (HQ00l1.out.fin hon HW1.out (Nat.le_refl _))
    have hbl : w.heap.size ≤ lo := by omega
    clear hon
    refine wpAnyH_ready (rs := [8]) (by kernel_rfl) (by simp) ?_
    refine AllReadyH.cons rfl (fun K hK => ?_) (AllReadyH.nil)
    go_simp
    refine hK.out _ _ ?_ (fun hHeld => ?_)
    · exact ⟨World.cell_of_heap HF.out.2.2.2.2 0, World.cell_of_heap HF.out.2.2.2.2 1, World.cell_of_heap HF.out.2.2.2.2 2, World.cell_of_heap HF.out.2.2.2.2 3⟩
    clear hK K
    try simp only [Act.put, List.setIfInBounds_toArray, List.set_cons_zero, List.set_cons_succ]
    refine wpAnyH_take (i := 9) (oi := ⟨_, _, _, _, _, _⟩) (v := ?_) rfl (by kernel_rfl) (by kernel_rfl) (by kernel_rfl) (fun _ _ _ h => h) (Or.inl ⟨by rfl, ?_⟩) (by assumption) ?_
    rotate_left
    · intro w hSw; (try dsimp only at hSw); go_simp; (try with_reducible rfl)
    try simp only [Act.put, List.setIfInBounds_toArray, List.set_cons_zero, List.set_cons_succ]
    refine wpAnyH_take (i := 10) (oi := ⟨_, _, _, _, _, _⟩) (v := ?_) rfl (by kernel_rfl) (by kernel_rfl) (by kernel_rfl) (fun _ _ _ h => h) (Or.inl ⟨by rfl, ?_⟩) (by assumption) ?_
    rotate_left
    · intro w hSw; (try dsimp only at hSw); go_simp; (try with_reducible rfl)
    try simp only [Act.put, List.setIfInBounds_toArray, List.set_cons_zero, List.set_cons_succ]
    refine wpAnyH_take (i := 11) (oi := ⟨_, _, _, _, _, _⟩) (v := ?_) rfl (by kernel_rfl) (by kernel_rfl) (by kernel_rfl) (fun _ _ _ h => h) (Or.inl ⟨by rfl, ?_⟩) (by assumption) ?_
    rotate_left
    · intro w hSw; (try dsimp only at hSw); go_simp; (try with_reducible rfl)
    try simp only [Act.put, List.setIfInBounds_toArray, List.set_cons_zero, List.set_cons_succ]
    refine wpAnyH_done (by kernel_rfl) ?_ _
    go_wp2
    refine bodyPost_ret (v := .tuple #[.agg #[.int .i64 m.wd, .int .i64 m.ht, .slice pr m.rise.length kr, .slice pc m.cost.length kc], .slice pl l.length kl, .int .i64 x0, .int .i64 x1]) (by simp [results, Try.results17, go_sem, gc0, gc1, gc2, gc3]) rfl ?_
    exact ⟨m, _, _, _, l, _, _, rfl, HF.out.1, own_base HF.out.2.1 hbl, own_base HF.out.2.2.1 hbl, hrl, hcl, own_base HF.out.2.2.2.1 hbl, hll⟩
  · go_simp
    have HLHQ0l := Lib.hid (own_lit' (w := ww) (e := 3) (base := lo) (C := #[.int .i64 33, .int .i64 50, .int .i64 88, .int .i64 30, .int .i64 100, .int .i64 31, .int .i64 45]) (l := [33, 50, 88, 30, 100, 31, 45]) intC_length rfl rfl (Nat.le_of_lt HQ0.out.size))
    have HQ0l := Lib.hid (HQ0.out.up (wr' := ww.alloc (.cells #[.int .i64 33, .int .i64 50, .int .i64 88, .int .i64 30, .int .i64 100, .int .i64 31, .int .i64 45] 3)) (by repeat (first | with_reducible (first | exact World.gained_refl _ | exact ⟨_, rfl⟩ | apply gain_ext | apply gain_alloc | apply gain_drewN | apply gain_drew) | (refine gain_setCell ?_ (by first | exact Nat.le_refl _ | exact World.size_ext _ _ | (simp; done) | (simp; omega)) _))))
    refine hK.out _ _ ?_ (fun hHeld => ?_)
    · exact ⟨World.cell_of_heap HQ0l.out.box 0, World.cell_of_heap HQ0l.out.box 1, World.cell_of_heap HQ0l.out.box 2, World.cell_of_heap HQ0l.out.box 3⟩
    clear hK K
    try simp only [Act.put, List.setIfInBounds_toArray, List.set_cons_zero, List.set_cons_succ]
    generalize ww.alloc (.cells #[.int .i64 33, .int .i64 50, .int .i64 88, .int .i64 30, .int .i64 100, .int .i64 31, .int .i64 45] 3) = wq at HLHQ0l HQ0l ⊢
    refine wpAnyH_ready (rs := [4]) (by kernel_rfl) (by simp) ?_
    refine AllReadyH.cons rfl (fun K hK => ?_) (AllReadyH.nil)
    go_simp
    go_wp2_with fail
    refine (codeOf_any _ _ g _ lo _ l (HQ0l.out.cur.gain (by repeat (first | with_reducible (first | exact World.gained_refl _ | exact ⟨_, rfl⟩ | apply gain_ext | apply gain_alloc | apply gain_drewN | apply gain_drew) | (refine gain_setCell ?_ (by first | exact Nat.le_refl _ | exact World.size_ext _ _ | (simp; done) | (simp; omega)) _)))) (by omega) (by omega) (own_up HQ0l.out.ls (by repeat (first | with_reducible (first | exact World.gained_refl _ | exact ⟨_, rfl⟩ | apply gain_ext | apply gain_alloc | apply gain_drewN | apply gain_drew) | (refine gain_setCell ?_ (by first | exact Nat.le_refl _ | exact World.size_ext _ _ | (simp; done) | (simp; omega)) _)))) (by omega)).mono ?_
    rintro e wq ⟨x0, rfl, hcq, hgq⟩
    have HQ0l0 := Lib.hid ((HQ0l.out.up (by repeat (first | with_reducible (first | exact World.gained_refl _ | exact ⟨_, rfl⟩ | apply gain_ext | apply gain_alloc | apply gain_drewN | apply gain_drew) | (refine gain_setCell ?_ (by first | exact Nat.le_refl _ | exact World.size_ext _ _ | (simp; done) | (simp; omega)) _)))).on hcq hgq)
    have HLHQ0l0 := Lib.hid (own_cur (own_up HLHQ0l.out (by repeat (first | with_reducible (first | exact World.gained_refl _ | exact ⟨_, rfl⟩ | apply gain_ext | apply gain_alloc | apply gain_drewN | apply gain_drew) | (refine gain_setCell ?_ (by first | exact Nat.le_refl _ | exact World.size_ext _ _ | (simp; done) | (simp; omega)) _)))) (show g < lo by omega) hgq)
    clear hcq hgq
    (try dsimp only)
    refine hK.out _ _ ?_ (fun hHeld => ?_)
    · exact ⟨World.cell_of_heap HQ0l0.out.box 0, World.cell_of_heap HQ0l0.out.box 1, World.cell_of_heap HQ0l0.out.box 2, World.cell_of_heap HQ0l0.out.box 3⟩
    clear hK K
    try simp only [Act.put, List.setIfInBounds_toArray, List.set_cons_zero, List.set_cons_succ]
    refine wpAnyH_ready (rs := [7]) (by kernel_rfl) (by simp) ?_
    refine AllReadyH.cons rfl (fun K hK => ?_) (AllReadyH.nil)
    go_simp
    go_wp2_with fail
    refine (among_any _ _ g _ _ [33, 50, 88, 30, 100, 31, 45] lo (HQ0l0.out.cur.gain (by repeat (first | with_reducible (first | exact World.gained_refl _ | exact ⟨_, rfl⟩ | apply gain_ext | apply gain_alloc | apply gain_drewN | apply gain_drew) | (refine gain_setCell ?_ (by first | exact Nat.le_refl _ | exact World.size_ext _ _ | (simp; done) | (simp; omega)) _)))) (by omega) (own_up HLHQ0l0.out (by repeat (first | with_reducible (first | exact World.gained_refl _ | exact ⟨_, rfl⟩ | apply gain_ext | apply gain_alloc | apply gain_drewN | apply gain_drew) | (refine gain_setCell ?_ (by first | exact Nat.le_refl _ | exact World.size_ext _ _ | (simp; done) | (simp; omega)) _)))) (by omega) (by simp) (by simp)).mono ?_
    rintro e wq ⟨x1, rfl, hmm, hcq, hgq⟩
    have hbx1 : -1 ≤ x1 ∧ x1 ≤ 100 := by simp at hmm; omega
    clear hmm
    have HQ0l01 := Lib.hid ((HQ0l0.out.up (by repeat (first | with_reducible (first | exact World.gained_refl _ | exact ⟨_, rfl⟩ | apply gain_ext | apply gain_alloc | apply gain_drewN | apply gain_drew) | (refine gain_setCell ?_ (by first | exact Nat.le_refl _ | exact World.size_ext _ _ | (simp; done) | (simp; omega)) _)))).on hcq hgq)
    clear hcq hgq
    (try dsimp only)
    refine hK.out _ _ ?_ (fun hHeld => ?_)
    · exact ⟨World.cell_of_heap HQ0l01.out.box 0, World.cell_of_heap HQ0l01.out.box 1, World.cell_of_heap HQ0l01.out.box 2, World.cell_of_heap HQ0l01.out.box 3⟩
    clear hK K
    try simp only [Act.put, List.setIfInBounds_toArray, List.set_cons_zero, List.set_cons_succ]
    have ey0 : wq.cell? ⟨w.heap.size, 0, none⟩ = some (.int .i64 0) := World.cell_of_heap HQ0l01.out.res 0
    have ez0 : wq.frozen? ⟨w.heap.size, 0, none⟩ = false := World.free_of_heap HQ0l01.out.res 0
    have ey1 : wq.cell? ⟨w.heap.size, 1, none⟩ = some (.int .i64 0) := World.cell_of_heap HQ0l01.out.res 1
    have ez1 : wq.frozen? ⟨w.heap.size, 1, none⟩ = false := World.free_of_heap HQ0l01.out.res 1
    have ey2 : wq.cell? ⟨w.heap.size, 2, none⟩ = some (.slice none 0 0) := World.cell_of_heap HQ0l01.out.res 2
    have ez2 : wq.frozen? ⟨w.heap.size, 2, none⟩ = false := World.free_of_heap HQ0l01.out.res 2
    have ey3 : wq.cell? ⟨w.heap.size, 3, none⟩ = some (.slice none 0 0) := World.cell_of_heap HQ0l01.out.res 3
    have ez3 : wq.frozen? ⟨w.heap.size, 3, none⟩ = false := World.free_of_heap HQ0l01.out.res 3
    have ex0 : wq.cell? ⟨gM, 0, none⟩ = some (.int .i64 m.wd) := World.cell_of_heap HQ0l01.out.box 0
    have ex1 : wq.cell? ⟨gM, 1, none⟩ = some (.int .i64 m.ht) := World.cell_of_heap HQ0l01.out.box 1
    have ex2 : wq.cell? ⟨gM, 2, none⟩ = some (.slice pr m.rise.length kr) := World.cell_of_heap HQ0l01.out.box 2
    have ex3 : wq.cell? ⟨gM, 3, none⟩ = some (.slice pc m.cost.length kc) := World.cell_of_heap HQ0l01.out.box 3
    have eoc := World.oldB_of_cell ey0
    have eob := World.oldB_of_cell ex0
    have gw0 := World.heap_setCell_row HQ0l01.out.res 0 (.int .i64 m.wd)
    have gc0 : (wq.setCell ⟨w.heap.size, 0, none⟩ (.int .i64 m.wd)).cell? ⟨w.heap.size, 0, none⟩ = some (.int .i64 m.wd) := World.cell_of_heap gw0 0
    have gw1 := World.heap_setCell_row gw0 1 (.int .i64 m.ht)
    have gc1 : ((wq.setCell ⟨w.heap.size, 0, none⟩ (.int .i64 m.wd)).setCell ⟨w.heap.size, 1, none⟩ (.int .i64 m.ht)).cell? ⟨w.heap.size, 1, none⟩ = some (.int .i64 m.ht) := World.cell_of_heap gw1 1
    have gw2 := World.heap_setCell_row gw1 2 (.slice pr m.rise.length kr)
    have gc2 : (((wq.setCell ⟨w.heap.size, 0, none⟩ (.int .i64 m.wd)).setCell ⟨w.heap.size, 1, none⟩ (.int .i64 m.ht)).setCell ⟨w.heap.size, 2, none⟩ (.slice pr m.rise.length kr)).cell? ⟨w.heap.size, 2, none⟩ = some (.slice pr m.rise.length kr) := World.cell_of_heap gw2 2
    have gw3 := World.heap_setCell_row gw2 3 (.slice pc m.cost.length kc)
    have gc3 : ((((wq.setCell ⟨w.heap.size, 0, none⟩ (.int .i64 m.wd)).setCell ⟨w.heap.size, 1, none⟩ (.int .i64 m.ht)).setCell ⟨w.heap.size, 2, none⟩ (.slice pr m.rise.length kr)).setCell ⟨w.heap.size, 3, none⟩ (.slice pc m.cost.length kc)).cell? ⟨w.heap.size, 3, none⟩ = some (.slice pc m.cost.length kc) := World.cell_of_heap gw3 3
    clear gw0 gw1 gw2 gw3
    have hon : World.grownBy wq ((((wq.setCell ⟨w.heap.size, 0, none⟩ (.int .i64 m.wd)).setCell ⟨w.heap.size, 1, none⟩ (.int .i64 m.ht)).setCell ⟨w.heap.size, 2, none⟩ (.slice pr m.rise.length kr)).setCell ⟨w.heap.size, 3, none⟩ (.slice pc m.cost.length kc)) (some w.heap.size) := by repeat (first | exact only_refl _ _ | refine only_setCell ?_ rfl _)
    have HF := Lib.hid (HQ0l01.out.fin hon HW1.out (Nat.le_refl _))
    have hbl : w.heap.size ≤ lo := by omega
    clear hon
    refine wpAnyH_ready (rs := [8]) (by kernel_rfl) (by simp) ?_
    refine AllReadyH.cons rfl (fun K hK => ?_) (AllReadyH.nil)
    go_simp
    refine hK.out _ _ ?_ (fun hHeld => ?_)
    · exact ⟨World.cell_of_heap HF.out.2.2.2.2 0, World.cell_of_heap HF.out.2.2.2.2 1, World.cell_of_heap HF.out.2.2.2.2 2, World.cell_of_heap HF.out.2.2.2.2 3⟩
    clear hK K
    try simp only [Act.put, List.setIfInBounds_toArray, List.set_cons_zero, List.set_cons_succ]
    refine wpAnyH_take (i := 9) (oi := ⟨_, _, _, _, _, _⟩) (v := ?_) rfl (by kernel_rfl) (by kernel_rfl) (by kernel_rfl) (fun _ _ _ h => h) (Or.inl ⟨by rfl, ?_⟩) (by assumption) ?_
    rotate_left
    · intro w hSw; (try dsimp only at hSw); go_simp; (try with_reducible rfl)
    try simp only [Act.put, List.setIfInBounds_toArray, List.set_cons_zero, List.set_cons_succ]
    refine wpAnyH_take (i := 10) (oi := ⟨_, _, _, _, _, _⟩) (v := ?_) rfl (by kernel_rfl) (by kernel_rfl) (by kernel_rfl) (fun _ _ _ h => h) (Or.inl ⟨by rfl, ?_⟩) (by assumption) ?_
    rotate_left
    · intro w hSw; (try dsimp only at hSw); go_simp; (try with_reducible rfl)
    try simp only [Act.put, List.setIfInBounds_toArray, List.set_cons_zero, List.set_cons_succ]
    refine wpAnyH_take (i := 11) (oi := ⟨_, _, _, _, _, _⟩) (v := ?_) rfl (by kernel_rfl) (by kernel_rfl) (by kernel_rfl) (fun _ _ _ h => h) (Or.inl ⟨by rfl, ?_⟩) (by assumption) ?_
    rotate_left
    · intro w hSw; (try dsimp only at hSw); go_simp; (try with_reducible rfl)
    try simp only [Act.put, List.setIfInBounds_toArray, List.set_cons_zero, List.set_cons_succ]
    refine wpAnyH_done (by kernel_rfl) ?_ _
    go_wp2
    refine bodyPost_ret (v := .tuple #[.agg #[.int .i64 m.wd, .int .i64 m.ht, .slice pr m.rise.length kr, .slice pc m.cost.length kc], .slice pl l.length kl, .int .i64 x0, .int .i64 x1]) (by simp [results, Try.results17, go_sem, gc0, gc1, gc2, gc3]) rfl ?_
    exact ⟨m, _, _, _, l, _, _, rfl, HF.out.1, own_base HF.out.2.1 hbl, own_base HF.out.2.2.1 hbl, hrl, hcl, own_base HF.out.2.2.2.1 hbl, hll⟩
end Go.Proofs.Ytedpckkoaioooaa
