/- The draws of a map alone. Condition: at most 1048576 bytes. -/
import Derived.Test.YtepjemfkmnpepaaDrawMap
import Derived.Test.YtepjemfkmnpepaaDrawCell
namespace Go.Proofs.Ytepjemfkmnpepaa
open Go.RowKit Go.Ori
set_option maxHeartbeats 4000000 in
set_option maxRecDepth 100000 in
theorem drawIsMap_any (v : Value) (L : List Int) (w : World) (h : w.sl byteC 1 v L) (hq : ∀ x ∈ L, 0 ≤ x ∧ x ≤ 255) (hl : L.length ≤ 1048576) :
    Calls Try.prog 27 #[v] w fun x w' => ∃ (m : Mp) (rv cv : Value), x = .returned (.agg #[.int .i64 m.wd, .int .i64 m.ht, rv, cv]) ∧ (∃ d, w' = w.ext d) ∧ w'.own w.heap.size 3 intC 1 rv m.rise ∧ w'.own w.heap.size 3 intC 1 cv m.cost ∧ m.rise.length ≤ 1048576 ∧ m.cost.length ≤ 1048576 := by
  have hs := Lib.hid h
  have HQ := Lib.hid hq
  obtain ⟨p, c, rfl, _⟩ := h
  clear hq
  have HW1 := Lib.hid (show ∃ d, w.alloc (.cells #[.int .i64 0, .int .i64 0, .slice none 0 0, .slice none 0 0] 26) = w.ext d from (by repeat (first | with_reducible (first | exact World.gained_refl _ | exact ⟨_, rfl⟩ | apply gain_ext | apply gain_alloc | apply gain_drewN | apply gain_drew) | (refine gain_setCell ?_ (by first | exact Nat.le_refl _ | exact World.size_ext _ _ | (simp; done) | (simp; omega)) _))))
  have hsz : (w.alloc (.cells #[.int .i64 0, .int .i64 0, .slice none 0 0, .slice none 0 0] 26)).heap.size = w.heap.size + 1 := World.size_alloc _ _
  have HRZ := Lib.hid (heap_alloc_new w (.cells #[.int .i64 0, .int .i64 0, .slice none 0 0, .slice none 0 0] 26))
  have HCN := Lib.hid (cur_new (e := 46) (sl_up byteC_length hs.out HW1.out) HQ.out hl)
  go_enter Try.func27, Try.ntmps27
  go_wp2_with fail
  generalize hW1 : w.alloc (.cells #[.int .i64 0, .int .i64 0, .slice none 0 0, .slice none 0 0] 26) = W1 at HW1 HCN HRZ hsz ⊢
  rw [hsz] at HCN
  refine (mapOf_any W1 _ (w.heap.size + 1) 0 HCN.out (by omega)).mono ?_
  rintro e wm ⟨m, rv, cv, rfl, ho1, ho2, -, hrl, hcl, hc1, hg1⟩
  have HRS := Lib.hid (row_keep (row_up HRZ.out (by repeat (first | with_reducible (first | exact World.gained_refl _ | exact ⟨_, rfl⟩ | apply gain_ext | apply gain_alloc | apply gain_drewN | apply gain_drew) | (refine gain_setCell ?_ (by first | exact Nat.le_refl _ | exact World.size_ext _ _ | (simp; done) | (simp; omega)) _)))) hg1 (fun q e => by cases e; omega))
  have hlm := only_size hg1
  have hgm := hc1.lt
  have HCU := Lib.hid hc1
  have HR := Lib.hid ho1
  have HCO := Lib.hid ho2
  have hlo : w.heap.size + 1 < (W1.alloc (.cells #[.slice p L.length c, .int .i64 0, .int .u64 0] 46)).heap.size := by rw [World.size_alloc, hsz]; omega
  generalize (W1.alloc (.cells #[.slice p L.length c, .int .i64 0, .int .u64 0] 46)).heap.size = lo at hlo HR HCO hlm
  obtain ⟨pr, nr, kr, rfl⟩ := own_form ho1
  obtain ⟨pc, nc, kc, rfl⟩ := own_form ho2
  replace hrl : m.rise.length ≤ 1048576 := by omega
  replace hcl : m.cost.length ≤ 1048576 := by omega
  clear hc1 hg1 ho1 ho2 hW1
  have hglo : w.heap.size + 1 < lo := hlo
  generalize hg : w.heap.size + 1 = g at HCU hglo hgm ⊢
  have HO1 := Lib.hid HR.out
  have HO2 := Lib.hid HCO.out
  have HS := Lib.hid HRS.out
  have HGN := Lib.hid (gain_trans HW1.out HCU.out.up)
  have ey0 : wm.cell? ⟨w.heap.size, 0, none⟩ = some (.int .i64 0) := World.cell_of_heap HS.out 0
  have ez0 : wm.frozen? ⟨w.heap.size, 0, none⟩ = false := World.free_of_heap HS.out 0
  have ey1 : wm.cell? ⟨w.heap.size, 1, none⟩ = some (.int .i64 0) := World.cell_of_heap HS.out 1
  have ez1 : wm.frozen? ⟨w.heap.size, 1, none⟩ = false := World.free_of_heap HS.out 1
  have ey2 : wm.cell? ⟨w.heap.size, 2, none⟩ = some (.slice none 0 0) := World.cell_of_heap HS.out 2
  have ez2 : wm.frozen? ⟨w.heap.size, 2, none⟩ = false := World.free_of_heap HS.out 2
  have ey3 : wm.cell? ⟨w.heap.size, 3, none⟩ = some (.slice none 0 0) := World.cell_of_heap HS.out 3
  have ez3 : wm.frozen? ⟨w.heap.size, 3, none⟩ = false := World.free_of_heap HS.out 3
  have eoc := World.oldB_of_cell ey0
  have gw0 := World.heap_setCell_row HS.out 0 (.int .i64 m.wd)
  have gc0 : (wm.setCell ⟨w.heap.size, 0, none⟩ (.int .i64 m.wd)).cell? ⟨w.heap.size, 0, none⟩ = some (.int .i64 m.wd) := World.cell_of_heap gw0 0
  have gw1 := World.heap_setCell_row gw0 1 (.int .i64 m.ht)
  have gc1 : ((wm.setCell ⟨w.heap.size, 0, none⟩ (.int .i64 m.wd)).setCell ⟨w.heap.size, 1, none⟩ (.int .i64 m.ht)).cell? ⟨w.heap.size, 1, none⟩ = some (.int .i64 m.ht) := World.cell_of_heap gw1 1
  have gw2 := World.heap_setCell_row gw1 2 (.slice pr nr kr)
  have gc2 : (((wm.setCell ⟨w.heap.size, 0, none⟩ (.int .i64 m.wd)).setCell ⟨w.heap.size, 1, none⟩ (.int .i64 m.ht)).setCell ⟨w.heap.size, 2, none⟩ (.slice pr nr kr)).cell? ⟨w.heap.size, 2, none⟩ = some (.slice pr nr kr) := World.cell_of_heap gw2 2
  have gw3 := World.heap_setCell_row gw2 3 (.slice pc nc kc)
  have gc3 : ((((wm.setCell ⟨w.heap.size, 0, none⟩ (.int .i64 m.wd)).setCell ⟨w.heap.size, 1, none⟩ (.int .i64 m.ht)).setCell ⟨w.heap.size, 2, none⟩ (.slice pr nr kr)).setCell ⟨w.heap.size, 3, none⟩ (.slice pc nc kc)).cell? ⟨w.heap.size, 3, none⟩ = some (.slice pc nc kc) := World.cell_of_heap gw3 3
  clear gw0 gw1 gw2 gw3
  have hon : World.grownBy wm ((((wm.setCell ⟨w.heap.size, 0, none⟩ (.int .i64 m.wd)).setCell ⟨w.heap.size, 1, none⟩ (.int .i64 m.ht)).setCell ⟨w.heap.size, 2, none⟩ (.slice pr nr kr)).setCell ⟨w.heap.size, 3, none⟩ (.slice pc nc kc)) (some w.heap.size) := by repeat (first | exact only_refl _ _ | refine only_setCell ?_ rfl _)
  have HF1 := Lib.hid (own_not HO1.out (fun q e => by have := (own_lt HO1.out q e).1; omega) hon)
  have HF2 := Lib.hid (own_not HO2.out (fun q e => by have := (own_lt HO2.out q e).1; omega) hon)
  skip
  have HFG := Lib.hid (gain_grown HGN.out hon (fun q e => by cases e; omega))
  have hbo : w.heap.size ≤ lo := by omega
  clear hon
  go_wp2
  refine bodyPost_ret (v := .agg #[.int .i64 m.wd, .int .i64 m.ht, .slice pr nr kr, .slice pc nc kc]) (by simp [results, Try.results27, go_sem, gc0, gc1, gc2, gc3]) rfl ?_
  exact ⟨m, _, _, rfl, HFG.out, own_base HF1.out hbo, own_base HF2.out hbo, hrl, hcl⟩
set_option maxHeartbeats 4000000 in
set_option maxRecDepth 100000 in
theorem drawOpenParts_any (v : Value) (L : List Int) (w : World) (h : w.sl byteC 1 v L) (hq : ∀ x ∈ L, 0 ≤ x ∧ x ≤ 255) (hl : L.length ≤ 1048576) :
    Calls Try.prog 10 #[v] w fun x w' => ∃ (m : Mp) (rv cv : Value), x = .returned (.agg #[.int .i64 m.wd, .int .i64 m.ht, rv, cv]) ∧ (∃ d, w' = w.ext d) ∧ w'.own w.heap.size 3 intC 1 rv m.rise ∧ w'.own w.heap.size 3 intC 1 cv m.cost ∧ m.rise.length ≤ 1048576 ∧ m.cost.length ≤ 1048576 := by
  have hs := Lib.hid h
  have HQ := Lib.hid hq
  obtain ⟨p, c, rfl, _⟩ := h
  clear hq
  have HW1 := Lib.hid (show ∃ d, w.alloc (.cells #[.int .i64 0, .int .i64 0, .slice none 0 0, .slice none 0 0] 26) = w.ext d from (by repeat (first | with_reducible (first | exact World.gained_refl _ | exact ⟨_, rfl⟩ | apply gain_ext | apply gain_alloc | apply gain_drewN | apply gain_drew) | (refine gain_setCell ?_ (by first | exact Nat.le_refl _ | exact World.size_ext _ _ | (simp; done) | (simp; omega)) _))))
  have hsz : (w.alloc (.cells #[.int .i64 0, .int .i64 0, .slice none 0 0, .slice none 0 0] 26)).heap.size = w.heap.size + 1 := World.size_alloc _ _
  have HRZ := Lib.hid (heap_alloc_new w (.cells #[.int .i64 0, .int .i64 0, .slice none 0 0, .slice none 0 0] 26))
  go_enter Try.func10, Try.ntmps10
  go_wp2_with fail
  generalize hW1 : w.alloc (.cells #[.int .i64 0, .int .i64 0, .slice none 0 0, .slice none 0 0] 26) = W1 at HW1 HRZ hsz ⊢
  clear hW1
  refine (drawIsMap_any _ L _ (sl_up byteC_length hs.out HW1.out) HQ.out hl).mono ?_
  rintro e wm ⟨m, rv, cv, rfl, ⟨d, rfl⟩, ho1, ho2, hrl, hcl⟩
  obtain ⟨pr, nr, kr, rfl⟩ := own_form ho1
  obtain ⟨pc, nc, kc, rfl⟩ := own_form ho2
  have HO1 := Lib.hid ho1
  have HO2 := Lib.hid ho2
  skip
  have HS := Lib.hid (row_up HRZ.out (w' := W1.ext d) ⟨_, rfl⟩)
  have HGN := Lib.hid (gain_trans HW1.out (show ∃ d', W1.ext d = W1.ext d' from ⟨_, rfl⟩))
  generalize W1.ext d = ww at HO1 HO2 HS HGN ⊢
  clear ho1 ho2
  have ey0 : ww.cell? ⟨w.heap.size, 0, none⟩ = some (.int .i64 0) := World.cell_of_heap HS.out 0
  have ez0 : ww.frozen? ⟨w.heap.size, 0, none⟩ = false := World.free_of_heap HS.out 0
  have ey1 : ww.cell? ⟨w.heap.size, 1, none⟩ = some (.int .i64 0) := World.cell_of_heap HS.out 1
  have ez1 : ww.frozen? ⟨w.heap.size, 1, none⟩ = false := World.free_of_heap HS.out 1
  have ey2 : ww.cell? ⟨w.heap.size, 2, none⟩ = some (.slice none 0 0) := World.cell_of_heap HS.out 2
  have ez2 : ww.frozen? ⟨w.heap.size, 2, none⟩ = false := World.free_of_heap HS.out 2
  have ey3 : ww.cell? ⟨w.heap.size, 3, none⟩ = some (.slice none 0 0) := World.cell_of_heap HS.out 3
  have ez3 : ww.frozen? ⟨w.heap.size, 3, none⟩ = false := World.free_of_heap HS.out 3
  have eoc := World.oldB_of_cell ey0
  have gw0 := World.heap_setCell_row HS.out 0 (.int .i64 m.wd)
  have gc0 : (ww.setCell ⟨w.heap.size, 0, none⟩ (.int .i64 m.wd)).cell? ⟨w.heap.size, 0, none⟩ = some (.int .i64 m.wd) := World.cell_of_heap gw0 0
  have gw1 := World.heap_setCell_row gw0 1 (.int .i64 m.ht)
  have gc1 : ((ww.setCell ⟨w.heap.size, 0, none⟩ (.int .i64 m.wd)).setCell ⟨w.heap.size, 1, none⟩ (.int .i64 m.ht)).cell? ⟨w.heap.size, 1, none⟩ = some (.int .i64 m.ht) := World.cell_of_heap gw1 1
  have gw2 := World.heap_setCell_row gw1 2 (.slice pr nr kr)
  have gc2 : (((ww.setCell ⟨w.heap.size, 0, none⟩ (.int .i64 m.wd)).setCell ⟨w.heap.size, 1, none⟩ (.int .i64 m.ht)).setCell ⟨w.heap.size, 2, none⟩ (.slice pr nr kr)).cell? ⟨w.heap.size, 2, none⟩ = some (.slice pr nr kr) := World.cell_of_heap gw2 2
  have gw3 := World.heap_setCell_row gw2 3 (.slice pc nc kc)
  have gc3 : ((((ww.setCell ⟨w.heap.size, 0, none⟩ (.int .i64 m.wd)).setCell ⟨w.heap.size, 1, none⟩ (.int .i64 m.ht)).setCell ⟨w.heap.size, 2, none⟩ (.slice pr nr kr)).setCell ⟨w.heap.size, 3, none⟩ (.slice pc nc kc)).cell? ⟨w.heap.size, 3, none⟩ = some (.slice pc nc kc) := World.cell_of_heap gw3 3
  clear gw0 gw1 gw2 gw3
  have hon : World.grownBy ww ((((ww.setCell ⟨w.heap.size, 0, none⟩ (.int .i64 m.wd)).setCell ⟨w.heap.size, 1, none⟩ (.int .i64 m.ht)).setCell ⟨w.heap.size, 2, none⟩ (.slice pr nr kr)).setCell ⟨w.heap.size, 3, none⟩ (.slice pc nc kc)) (some w.heap.size) := by repeat (first | exact only_refl _ _ | refine only_setCell ?_ rfl _)
  have HF1 := Lib.hid (own_not HO1.out (fun q e => by have := (own_lt HO1.out q e).1; omega) hon)
  have HF2 := Lib.hid (own_not HO2.out (fun q e => by have := (own_lt HO2.out q e).1; omega) hon)
  skip
  have HFG := Lib.hid (gain_grown HGN.out hon (fun q e => by cases e; omega))
  have hbl : w.heap.size ≤ W1.heap.size := by omega
  clear hon
  go_wp2
  refine bodyPost_ret (v := .agg #[.int .i64 m.wd, .int .i64 m.ht, .slice pr nr kr, .slice pc nc kc]) (by simp [results, Try.results10, go_sem, gc0, gc1, gc2, gc3]) rfl ?_
  exact ⟨m, _, _, rfl, HFG.out, own_base HF1.out hbl, own_base HF2.out hbl, hrl, hcl⟩
set_option maxHeartbeats 4000000 in
set_option maxRecDepth 100000 in
theorem drawHighestCell_any (v : Value) (L : List Int) (w : World) (h : w.sl byteC 1 v L) (hq : ∀ x ∈ L, 0 ≤ x ∧ x ≤ 255) (hl : L.length ≤ 1048576) :
    Calls Try.prog 18 #[v] w fun x w' => ∃ (m : Mp) (rv cv : Value), x = .returned (.agg #[.int .i64 m.wd, .int .i64 m.ht, rv, cv]) ∧ (∃ d, w' = w.ext d) ∧ w'.own w.heap.size 3 intC 1 rv m.rise ∧ w'.own w.heap.size 3 intC 1 cv m.cost ∧ m.rise.length ≤ 1048576 ∧ m.cost.length ≤ 1048576 := by
  have hs := Lib.hid h
  have HQ := Lib.hid hq
  obtain ⟨p, c, rfl, _⟩ := h
  clear hq
  have HW1 := Lib.hid (show ∃ d, w.alloc (.cells #[.int .i64 0, .int .i64 0, .slice none 0 0, .slice none 0 0] 26) = w.ext d from (by repeat (first | with_reducible (first | exact World.gained_refl _ | exact ⟨_, rfl⟩ | apply gain_ext | apply gain_alloc | apply gain_drewN | apply gain_drew) | (refine gain_setCell ?_ (by first | exact Nat.le_refl _ | exact World.size_ext _ _ | (simp; done) | (simp; omega)) _))))
  have hsz : (w.alloc (.cells #[.int .i64 0, .int .i64 0, .slice none 0 0, .slice none 0 0] 26)).heap.size = w.heap.size + 1 := World.size_alloc _ _
  have HRZ := Lib.hid (heap_alloc_new w (.cells #[.int .i64 0, .int .i64 0, .slice none 0 0, .slice none 0 0] 26))
  go_enter Try.func18, Try.ntmps18
  go_wp2_with fail
  generalize hW1 : w.alloc (.cells #[.int .i64 0, .int .i64 0, .slice none 0 0, .slice none 0 0] 26) = W1 at HW1 HRZ hsz ⊢
  clear hW1
  refine (drawIsMap_any _ L _ (sl_up byteC_length hs.out HW1.out) HQ.out hl).mono ?_
  rintro e wm ⟨m, rv, cv, rfl, ⟨d, rfl⟩, ho1, ho2, hrl, hcl⟩
  obtain ⟨pr, nr, kr, rfl⟩ := own_form ho1
  obtain ⟨pc, nc, kc, rfl⟩ := own_form ho2
  have HO1 := Lib.hid ho1
  have HO2 := Lib.hid ho2
  skip
  have HS := Lib.hid (row_up HRZ.out (w' := W1.ext d) ⟨_, rfl⟩)
  have HGN := Lib.hid (gain_trans HW1.out (show ∃ d', W1.ext d = W1.ext d' from ⟨_, rfl⟩))
  generalize W1.ext d = ww at HO1 HO2 HS HGN ⊢
  clear ho1 ho2
  have ey0 : ww.cell? ⟨w.heap.size, 0, none⟩ = some (.int .i64 0) := World.cell_of_heap HS.out 0
  have ez0 : ww.frozen? ⟨w.heap.size, 0, none⟩ = false := World.free_of_heap HS.out 0
  have ey1 : ww.cell? ⟨w.heap.size, 1, none⟩ = some (.int .i64 0) := World.cell_of_heap HS.out 1
  have ez1 : ww.frozen? ⟨w.heap.size, 1, none⟩ = false := World.free_of_heap HS.out 1
  have ey2 : ww.cell? ⟨w.heap.size, 2, none⟩ = some (.slice none 0 0) := World.cell_of_heap HS.out 2
  have ez2 : ww.frozen? ⟨w.heap.size, 2, none⟩ = false := World.free_of_heap HS.out 2
  have ey3 : ww.cell? ⟨w.heap.size, 3, none⟩ = some (.slice none 0 0) := World.cell_of_heap HS.out 3
  have ez3 : ww.frozen? ⟨w.heap.size, 3, none⟩ = false := World.free_of_heap HS.out 3
  have eoc := World.oldB_of_cell ey0
  have gw0 := World.heap_setCell_row HS.out 0 (.int .i64 m.wd)
  have gc0 : (ww.setCell ⟨w.heap.size, 0, none⟩ (.int .i64 m.wd)).cell? ⟨w.heap.size, 0, none⟩ = some (.int .i64 m.wd) := World.cell_of_heap gw0 0
  have gw1 := World.heap_setCell_row gw0 1 (.int .i64 m.ht)
  have gc1 : ((ww.setCell ⟨w.heap.size, 0, none⟩ (.int .i64 m.wd)).setCell ⟨w.heap.size, 1, none⟩ (.int .i64 m.ht)).cell? ⟨w.heap.size, 1, none⟩ = some (.int .i64 m.ht) := World.cell_of_heap gw1 1
  have gw2 := World.heap_setCell_row gw1 2 (.slice pr nr kr)
  have gc2 : (((ww.setCell ⟨w.heap.size, 0, none⟩ (.int .i64 m.wd)).setCell ⟨w.heap.size, 1, none⟩ (.int .i64 m.ht)).setCell ⟨w.heap.size, 2, none⟩ (.slice pr nr kr)).cell? ⟨w.heap.size, 2, none⟩ = some (.slice pr nr kr) := World.cell_of_heap gw2 2
  have gw3 := World.heap_setCell_row gw2 3 (.slice pc nc kc)
  have gc3 : ((((ww.setCell ⟨w.heap.size, 0, none⟩ (.int .i64 m.wd)).setCell ⟨w.heap.size, 1, none⟩ (.int .i64 m.ht)).setCell ⟨w.heap.size, 2, none⟩ (.slice pr nr kr)).setCell ⟨w.heap.size, 3, none⟩ (.slice pc nc kc)).cell? ⟨w.heap.size, 3, none⟩ = some (.slice pc nc kc) := World.cell_of_heap gw3 3
  clear gw0 gw1 gw2 gw3
  have hon : World.grownBy ww ((((ww.setCell ⟨w.heap.size, 0, none⟩ (.int .i64 m.wd)).setCell ⟨w.heap.size, 1, none⟩ (.int .i64 m.ht)).setCell ⟨w.heap.size, 2, none⟩ (.slice pr nr kr)).setCell ⟨w.heap.size, 3, none⟩ (.slice pc nc kc)) (some w.heap.size) := by repeat (first | exact only_refl _ _ | refine only_setCell ?_ rfl _)
  have HF1 := Lib.hid (own_not HO1.out (fun q e => by have := (own_lt HO1.out q e).1; omega) hon)
  have HF2 := Lib.hid (own_not HO2.out (fun q e => by have := (own_lt HO2.out q e).1; omega) hon)
  skip
  have HFG := Lib.hid (gain_grown HGN.out hon (fun q e => by cases e; omega))
  have hbl : w.heap.size ≤ W1.heap.size := by omega
  clear hon
  go_wp2
  refine bodyPost_ret (v := .agg #[.int .i64 m.wd, .int .i64 m.ht, .slice pr nr kr, .slice pc nc kc]) (by simp [results, Try.results18, go_sem, gc0, gc1, gc2, gc3]) rfl ?_
  exact ⟨m, _, _, rfl, HFG.out, own_base HF1.out hbl, own_base HF2.out hbl, hrl, hcl⟩
end Go.Proofs.Ytepjemfkmnpepaa
