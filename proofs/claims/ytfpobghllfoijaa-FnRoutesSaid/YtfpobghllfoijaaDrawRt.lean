/- The draws of a map and a route. Condition: at most 1048576 bytes. -/
import Derived.Test.YtfpobghllfoijaaDrawMap
import Derived.Test.YtfpobghllfoijaaDrawCell
import Derived.Test.YtfpobghllfoijaaDrawRoute
namespace Go.Proofs.Ytfpobghllfoijaa
open Go.RowKit Go.Ori
set_option maxHeartbeats 4000000 in
set_option maxRecDepth 100000 in
theorem drawIsRoute_any (v : Value) (L : List Int) (w : World) (h : w.sl byteC 1 v L) (hq : ∀ x ∈ L, 0 ≤ x ∧ x ≤ 255) (hl : L.length ≤ 1048576) :
    Calls Try.prog 16 #[v] w fun x w' => ∃ (m : Mp) (rv cv : Value) (x0 : Value) (l0 : List Int), x = .returned (.tuple #[.agg #[.int .i64 m.wd, .int .i64 m.ht, rv, cv], x0]) ∧ (∃ d, w' = w.ext d) ∧ w'.own w.heap.size 3 intC 1 rv m.rise ∧ w'.own w.heap.size 3 intC 1 cv m.cost ∧ m.rise.length ≤ 1048576 ∧ m.cost.length ≤ 1048576 ∧ w'.own w.heap.size 3 intC 1 x0 l0 ∧ l0.length ≤ 40 := by
  have hs := Lib.hid h
  have HQ := Lib.hid hq
  obtain ⟨p, c, rfl, _⟩ := h
  clear hq
  have HW1 := Lib.hid (show ∃ d, w.alloc (.cells #[.int .i64 0, .int .i64 0, .slice none 0 0, .slice none 0 0] 26) = w.ext d from (by repeat (first | with_reducible (first | exact World.gained_refl _ | exact ⟨_, rfl⟩ | apply gain_ext | apply gain_alloc | apply gain_drewN | apply gain_drew) | (refine gain_setCell ?_ (by first | exact Nat.le_refl _ | exact World.size_ext _ _ | (simp; done) | (simp; omega)) _))))
  have hsz : (w.alloc (.cells #[.int .i64 0, .int .i64 0, .slice none 0 0, .slice none 0 0] 26)).heap.size = w.heap.size + 1 := World.size_alloc _ _
  have HRZ := Lib.hid (heap_alloc_new w (.cells #[.int .i64 0, .int .i64 0, .slice none 0 0, .slice none 0 0] 26))
  have HCN := Lib.hid (cur_new (e := 52) (sl_up byteC_length hs.out HW1.out) HQ.out hl)
  go_enter Try.func16, Try.ntmps16
  go_wp2_with fail
  generalize hW1 : w.alloc (.cells #[.int .i64 0, .int .i64 0, .slice none 0 0, .slice none 0 0] 26) = W1 at HW1 HCN HRZ hsz ⊢
  rw [hsz] at HCN
  refine (mapOf_any W1 _ (w.heap.size + 1) 0 HCN.out (by omega)).mono ?_
  rintro e wm ⟨m, rv, cv, rfl, ho1, ho2, -, hrl, hcl, hc1, hg1⟩
  have HRS := Lib.hid (row_keep (row_up HRZ.out (by repeat (first | with_reducible (first | exact World.gained_refl _ | exact ⟨_, rfl⟩ | apply gain_ext | apply gain_alloc | apply gain_drewN | apply gain_drew) | (refine gain_setCell ?_ (by first | exact Nat.le_refl _ | exact World.size_ext _ _ | (simp; done) | (simp; omega)) _)))) hg1 (fun q e => by cases e; omega))
  have hlm := only_size hg1
  have hgm := hc1.lt
  have HCU := Lib.hid hc1
  have HR := Lib.hid ho1
  have HCO := Lib.hid ho2
  have hlo : w.heap.size + 1 < (W1.alloc (.cells #[.slice p L.length c, .int .i64 0, .int .u64 0] 52)).heap.size := by rw [World.size_alloc, hsz]; omega
  generalize (W1.alloc (.cells #[.slice p L.length c, .int .i64 0, .int .u64 0] 52)).heap.size = lo at hlo HR HCO hlm
  obtain ⟨pr, nr, kr, rfl⟩ := own_form ho1
  obtain ⟨pc, nc, kc, rfl⟩ := own_form ho2
  replace hrl : m.rise.length ≤ 1048576 := by omega
  replace hcl : m.cost.length ≤ 1048576 := by omega
  clear hc1 hg1 ho1 ho2 hW1
  have hglo : w.heap.size + 1 < lo := hlo
  generalize hg : w.heap.size + 1 = g at HCU hglo hgm ⊢
  go_upto_region 3 with fail
  have HB0 := Lib.hid (heap_alloc_new wm (.cells #[.int .i64 m.wd, .int .i64 m.ht, .slice pr nr kr, .slice pc nc kc] 26))
  have HS0 := Lib.hid (row_up HRS.out (w' := wm.alloc (.cells #[.int .i64 m.wd, .int .i64 m.ht, .slice pr nr kr, .slice pc nc kc] 26)) (by repeat (first | with_reducible (first | exact World.gained_refl _ | exact ⟨_, rfl⟩ | apply gain_ext | apply gain_alloc | apply gain_drewN | apply gain_drew) | (refine gain_setCell ?_ (by first | exact Nat.le_refl _ | exact World.size_ext _ _ | (simp; done) | (simp; omega)) _))))
  have HC0 := Lib.hid (HCU.out.gain (w' := wm.alloc (.cells #[.int .i64 m.wd, .int .i64 m.ht, .slice pr nr kr, .slice pc nc kc] 26)) (by repeat (first | with_reducible (first | exact World.gained_refl _ | exact ⟨_, rfl⟩ | apply gain_ext | apply gain_alloc | apply gain_drewN | apply gain_drew) | (refine gain_setCell ?_ (by first | exact Nat.le_refl _ | exact World.size_ext _ _ | (simp; done) | (simp; omega)) _))))
  have HO0 := Lib.hid (own_up HR.out (w' := wm.alloc (.cells #[.int .i64 m.wd, .int .i64 m.ht, .slice pr nr kr, .slice pc nc kc] 26)) (by repeat (first | with_reducible (first | exact World.gained_refl _ | exact ⟨_, rfl⟩ | apply gain_ext | apply gain_alloc | apply gain_drewN | apply gain_drew) | (refine gain_setCell ?_ (by first | exact Nat.le_refl _ | exact World.size_ext _ _ | (simp; done) | (simp; omega)) _))))
  have HP0 := Lib.hid (own_up HCO.out (w' := wm.alloc (.cells #[.int .i64 m.wd, .int .i64 m.ht, .slice pr nr kr, .slice pc nc kc] 26)) (by repeat (first | with_reducible (first | exact World.gained_refl _ | exact ⟨_, rfl⟩ | apply gain_ext | apply gain_alloc | apply gain_drewN | apply gain_drew) | (refine gain_setCell ?_ (by first | exact Nat.le_refl _ | exact World.size_ext _ _ | (simp; done) | (simp; omega)) _))))
  generalize wm.alloc (.cells #[.int .i64 m.wd, .int .i64 m.ht, .slice pr nr kr, .slice pc nc kc] 26) = ww0 at HB0 HS0 HC0 HO0 HP0 ⊢
  generalize wm.heap.size = gM at HB0 hgm hlm ⊢
  refine wp_region_held_drew (S := (fun w' => w'.cell? ⟨gM, 0, none⟩ = some (.int .i64 m.wd) ∧ w'.cell? ⟨gM, 1, none⟩ = some (.int .i64 m.ht) ∧ w'.cell? ⟨gM, 2, none⟩ = some (.slice pr nr kr) ∧ w'.cell? ⟨gM, 3, none⟩ = some (.slice pc nc kc))) (by kernel_rfl) ⟨World.cell_of_heap HB0.out 0, World.cell_of_heap HB0.out 1, World.cell_of_heap HB0.out 2, World.cell_of_heap HB0.out 3⟩ (fun hHeld => ?_)
  refine wpAnyH_take (i := 0) (oi := ⟨_, _, _, _, _, _⟩) (v := ?_) rfl (by kernel_rfl) (by kernel_rfl) (by kernel_rfl) (fun _ _ _ h => h) (Or.inl ⟨by rfl, ?_⟩) (by assumption) ?_
  rotate_left
  · intro w hSw; (try dsimp only at hSw); go_simp; (try with_reducible rfl)
  try simp only [Act.put, List.setIfInBounds_toArray, List.set_cons_zero, List.set_cons_succ]
  refine wpAnyH_take (i := 1) (oi := ⟨_, _, _, _, _, _⟩) (v := ?_) rfl (by kernel_rfl) (by kernel_rfl) (by kernel_rfl) (fun _ _ _ h => h) (Or.inl ⟨by rfl, ?_⟩) (by assumption) ?_
  rotate_left
  · intro w hSw; (try dsimp only at hSw); go_simp; (try with_reducible rfl)
  try simp only [Act.put, List.setIfInBounds_toArray, List.set_cons_zero, List.set_cons_succ]
  refine wpAnyH_take (i := 2) (oi := ⟨_, _, _, _, _, _⟩) (v := ?_) rfl (by kernel_rfl) (by kernel_rfl) (by kernel_rfl) (fun _ _ _ h => h) (Or.inl ⟨by rfl, ?_⟩) (by assumption) ?_
  rotate_left
  · intro w hSw; (try dsimp only at hSw); go_simp; (try with_reducible rfl)
  try simp only [Act.put, List.setIfInBounds_toArray, List.set_cons_zero, List.set_cons_succ]
  refine wpAnyH_ready (rs := [3]) (by kernel_rfl) (by simp) ?_
  refine AllReadyH.cons rfl (fun K hK => ?_) (AllReadyH.nil)
  go_simp
  go_wp2_with fail
  refine (route_any _ _ g _ lo m _ _ (HC0.out.gain (by repeat (first | with_reducible (first | exact World.gained_refl _ | exact ⟨_, rfl⟩ | apply gain_ext | apply gain_alloc | apply gain_drewN | apply gain_drew) | (refine gain_setCell ?_ (by first | exact Nat.le_refl _ | exact World.size_ext _ _ | (simp; done) | (simp; omega)) _)))) (by omega) hglo (own_up HO0.out (by repeat (first | with_reducible (first | exact World.gained_refl _ | exact ⟨_, rfl⟩ | apply gain_ext | apply gain_alloc | apply gain_drewN | apply gain_drew) | (refine gain_setCell ?_ (by first | exact Nat.le_refl _ | exact World.size_ext _ _ | (simp; done) | (simp; omega)) _)))) (own_up HP0.out (by repeat (first | with_reducible (first | exact World.gained_refl _ | exact ⟨_, rfl⟩ | apply gain_ext | apply gain_alloc | apply gain_drewN | apply gain_drew) | (refine gain_setCell ?_ (by first | exact Nat.le_refl _ | exact World.size_ext _ _ | (simp; done) | (simp; omega)) _)))) hrl hcl).mono ?_
  rintro e ww1 ⟨x0, l0, rfl, hx, hxl0, hc1, hg1⟩
  have HX0 := Lib.hid (own_base hx (show lo ≤ _ from Nat.le_trans hlm (Nat.le_of_lt (by have := (Array.getElem?_eq_some_iff.1 HB0.out).1; exact Nat.lt_of_lt_of_le this (gain_size (by repeat (first | with_reducible (first | exact World.gained_refl _ | exact ⟨_, rfl⟩ | apply gain_ext | apply gain_alloc | apply gain_drewN | apply gain_drew) | (refine gain_setCell ?_ (by first | exact Nat.le_refl _ | exact World.size_ext _ _ | (simp; done) | (simp; omega)) _))))))))
  clear hx
  have HB1 := Lib.hid (row_keep (row_up HB0.out (by repeat (first | with_reducible (first | exact World.gained_refl _ | exact ⟨_, rfl⟩ | apply gain_ext | apply gain_alloc | apply gain_drewN | apply gain_drew) | (refine gain_setCell ?_ (by first | exact Nat.le_refl _ | exact World.size_ext _ _ | (simp; done) | (simp; omega)) _)))) hg1 (fun q e => by cases e; omega))
  have HS1 := Lib.hid (row_keep (row_up HS0.out (by repeat (first | with_reducible (first | exact World.gained_refl _ | exact ⟨_, rfl⟩ | apply gain_ext | apply gain_alloc | apply gain_drewN | apply gain_drew) | (refine gain_setCell ?_ (by first | exact Nat.le_refl _ | exact World.size_ext _ _ | (simp; done) | (simp; omega)) _)))) hg1 (fun q e => by cases e; omega))
  have HO1 := Lib.hid (own_cur (own_up HO0.out (by repeat (first | with_reducible (first | exact World.gained_refl _ | exact ⟨_, rfl⟩ | apply gain_ext | apply gain_alloc | apply gain_drewN | apply gain_drew) | (refine gain_setCell ?_ (by first | exact Nat.le_refl _ | exact World.size_ext _ _ | (simp; done) | (simp; omega)) _)))) hglo hg1)
  have HP1 := Lib.hid (own_cur (own_up HP0.out (by repeat (first | with_reducible (first | exact World.gained_refl _ | exact ⟨_, rfl⟩ | apply gain_ext | apply gain_alloc | apply gain_drewN | apply gain_drew) | (refine gain_setCell ?_ (by first | exact Nat.le_refl _ | exact World.size_ext _ _ | (simp; done) | (simp; omega)) _)))) hglo hg1)
  have HC1 := Lib.hid hc1
  clear hc1 hg1
  (try dsimp only)
  refine hK.out _ _ ?_ (fun hHeld => ?_)
  · exact ⟨World.cell_of_heap HB1.out 0, World.cell_of_heap HB1.out 1, World.cell_of_heap HB1.out 2, World.cell_of_heap HB1.out 3⟩
  clear hK K
  try simp only [Act.put, List.setIfInBounds_toArray, List.set_cons_zero, List.set_cons_succ]
  have ey0 : ww1.cell? ⟨w.heap.size, 0, none⟩ = some (.int .i64 0) := World.cell_of_heap HS1.out 0
  have ez0 : ww1.frozen? ⟨w.heap.size, 0, none⟩ = false := World.free_of_heap HS1.out 0
  have ey1 : ww1.cell? ⟨w.heap.size, 1, none⟩ = some (.int .i64 0) := World.cell_of_heap HS1.out 1
  have ez1 : ww1.frozen? ⟨w.heap.size, 1, none⟩ = false := World.free_of_heap HS1.out 1
  have ey2 : ww1.cell? ⟨w.heap.size, 2, none⟩ = some (.slice none 0 0) := World.cell_of_heap HS1.out 2
  have ez2 : ww1.frozen? ⟨w.heap.size, 2, none⟩ = false := World.free_of_heap HS1.out 2
  have ey3 : ww1.cell? ⟨w.heap.size, 3, none⟩ = some (.slice none 0 0) := World.cell_of_heap HS1.out 3
  have ez3 : ww1.frozen? ⟨w.heap.size, 3, none⟩ = false := World.free_of_heap HS1.out 3
  have eoc := World.oldB_of_cell ey0
  have gw0 := World.heap_setCell_row HS1.out 0 (.int .i64 m.wd)
  have gc0 : (ww1.setCell ⟨w.heap.size, 0, none⟩ (.int .i64 m.wd)).cell? ⟨w.heap.size, 0, none⟩ = some (.int .i64 m.wd) := World.cell_of_heap gw0 0
  have gw1 := World.heap_setCell_row gw0 1 (.int .i64 m.ht)
  have gc1 : ((ww1.setCell ⟨w.heap.size, 0, none⟩ (.int .i64 m.wd)).setCell ⟨w.heap.size, 1, none⟩ (.int .i64 m.ht)).cell? ⟨w.heap.size, 1, none⟩ = some (.int .i64 m.ht) := World.cell_of_heap gw1 1
  have gw2 := World.heap_setCell_row gw1 2 (.slice pr nr kr)
  have gc2 : (((ww1.setCell ⟨w.heap.size, 0, none⟩ (.int .i64 m.wd)).setCell ⟨w.heap.size, 1, none⟩ (.int .i64 m.ht)).setCell ⟨w.heap.size, 2, none⟩ (.slice pr nr kr)).cell? ⟨w.heap.size, 2, none⟩ = some (.slice pr nr kr) := World.cell_of_heap gw2 2
  have gw3 := World.heap_setCell_row gw2 3 (.slice pc nc kc)
  have gc3 : ((((ww1.setCell ⟨w.heap.size, 0, none⟩ (.int .i64 m.wd)).setCell ⟨w.heap.size, 1, none⟩ (.int .i64 m.ht)).setCell ⟨w.heap.size, 2, none⟩ (.slice pr nr kr)).setCell ⟨w.heap.size, 3, none⟩ (.slice pc nc kc)).cell? ⟨w.heap.size, 3, none⟩ = some (.slice pc nc kc) := World.cell_of_heap gw3 3
  clear gw0 gw1 gw2 gw3
  have hon : ww1.grownBy ((((ww1.setCell ⟨w.heap.size, 0, none⟩ (.int .i64 m.wd)).setCell ⟨w.heap.size, 1, none⟩ (.int .i64 m.ht)).setCell ⟨w.heap.size, 2, none⟩ (.slice pr nr kr)).setCell ⟨w.heap.size, 3, none⟩ (.slice pc nc kc)) (some w.heap.size) := by repeat (first | exact only_refl _ _ | refine only_setCell ?_ rfl _)
  have HBF := Lib.hid (row_keep HB1.out hon (fun q e => by cases e; omega))
  have HF1 := Lib.hid (own_not HO1.out (fun q e => by have := (own_lt HO1.out q e).1; omega) hon)
  have HF2 := Lib.hid (own_not HP1.out (fun q e => by have := (own_lt HP1.out q e).1; omega) hon)
  have HFG := Lib.hid (gain_grown (gain_trans HW1.out HC1.out.up) hon (fun q e => by cases e; omega))
  have HFX0 := Lib.hid (own_not HX0.out (fun q e => by have := (own_lt HX0.out q e).1; omega) hon)
  have hbl : w.heap.size ≤ lo := by omega
  clear hon
  refine wpAnyH_ready (rs := [4]) (by kernel_rfl) (by simp) ?_
  refine AllReadyH.cons rfl (fun K hK => ?_) (AllReadyH.nil)
  go_simp
  refine hK.out _ _ ?_ (fun hHeld => ?_)
  · exact ⟨World.cell_of_heap HBF.out 0, World.cell_of_heap HBF.out 1, World.cell_of_heap HBF.out 2, World.cell_of_heap HBF.out 3⟩
  clear hK K
  try simp only [Act.put, List.setIfInBounds_toArray, List.set_cons_zero, List.set_cons_succ]
  refine wpAnyH_take (i := 5) (oi := ⟨_, _, _, _, _, _⟩) (v := ?_) rfl (by kernel_rfl) (by kernel_rfl) (by kernel_rfl) (fun _ _ _ h => h) (Or.inl ⟨by rfl, ?_⟩) (by assumption) ?_
  rotate_left
  · intro w hSw; (try dsimp only at hSw); go_simp; (try with_reducible rfl)
  try simp only [Act.put, List.setIfInBounds_toArray, List.set_cons_zero, List.set_cons_succ]
  refine wpAnyH_done (by kernel_rfl) ?_ _
  go_wp2
  refine bodyPost_ret (v := .tuple #[.agg #[.int .i64 m.wd, .int .i64 m.ht, .slice pr nr kr, .slice pc nc kc], x0]) (by simp [results, Try.results16, go_sem, gc0, gc1, gc2, gc3]) rfl ?_
  exact ⟨m, _, _, _, _, rfl, HFG.out, own_base HF1.out hbl, own_base HF2.out hbl, hrl, hcl, own_base HFX0.out hbl, hxl0⟩
set_option maxHeartbeats 4000000 in
set_option maxRecDepth 100000 in
theorem drawLeastO_any (v : Value) (L : List Int) (w : World) (h : w.sl byteC 1 v L) (hq : ∀ x ∈ L, 0 ≤ x ∧ x ≤ 255) (hl : L.length ≤ 1048576) :
    Calls Try.prog 21 #[v] w fun x w' => ∃ (m : Mp) (rv cv : Value) (x0 : Int) (x1 : Int), x = .returned (.tuple #[.agg #[.int .i64 m.wd, .int .i64 m.ht, rv, cv], .int .i64 x0, .int .i64 x1]) ∧ (∃ d, w' = w.ext d) ∧ w'.own w.heap.size 3 intC 1 rv m.rise ∧ w'.own w.heap.size 3 intC 1 cv m.cost ∧ m.rise.length ≤ 1048576 ∧ m.cost.length ≤ 1048576 := by
  have hs := Lib.hid h
  have HQ := Lib.hid hq
  obtain ⟨p, c, rfl, _⟩ := h
  clear hq
  have HW1 := Lib.hid (show ∃ d, w.alloc (.cells #[.int .i64 0, .int .i64 0, .slice none 0 0, .slice none 0 0] 26) = w.ext d from (by repeat (first | with_reducible (first | exact World.gained_refl _ | exact ⟨_, rfl⟩ | apply gain_ext | apply gain_alloc | apply gain_drewN | apply gain_drew) | (refine gain_setCell ?_ (by first | exact Nat.le_refl _ | exact World.size_ext _ _ | (simp; done) | (simp; omega)) _))))
  have hsz : (w.alloc (.cells #[.int .i64 0, .int .i64 0, .slice none 0 0, .slice none 0 0] 26)).heap.size = w.heap.size + 1 := World.size_alloc _ _
  have HRZ := Lib.hid (heap_alloc_new w (.cells #[.int .i64 0, .int .i64 0, .slice none 0 0, .slice none 0 0] 26))
  have HCN := Lib.hid (cur_new (e := 52) (sl_up byteC_length hs.out HW1.out) HQ.out hl)
  go_enter Try.func21, Try.ntmps21
  go_wp2_with fail
  generalize hW1 : w.alloc (.cells #[.int .i64 0, .int .i64 0, .slice none 0 0, .slice none 0 0] 26) = W1 at HW1 HCN HRZ hsz ⊢
  rw [hsz] at HCN
  refine (mapOf_any W1 _ (w.heap.size + 1) 0 HCN.out (by omega)).mono ?_
  rintro e wm ⟨m, rv, cv, rfl, ho1, ho2, -, hrl, hcl, hc1, hg1⟩
  have HRS := Lib.hid (row_keep (row_up HRZ.out (by repeat (first | with_reducible (first | exact World.gained_refl _ | exact ⟨_, rfl⟩ | apply gain_ext | apply gain_alloc | apply gain_drewN | apply gain_drew) | (refine gain_setCell ?_ (by first | exact Nat.le_refl _ | exact World.size_ext _ _ | (simp; done) | (simp; omega)) _)))) hg1 (fun q e => by cases e; omega))
  have hlm := only_size hg1
  have hgm := hc1.lt
  have HCU := Lib.hid hc1
  have HR := Lib.hid ho1
  have HCO := Lib.hid ho2
  have hlo : w.heap.size + 1 < (W1.alloc (.cells #[.slice p L.length c, .int .i64 0, .int .u64 0] 52)).heap.size := by rw [World.size_alloc, hsz]; omega
  generalize (W1.alloc (.cells #[.slice p L.length c, .int .i64 0, .int .u64 0] 52)).heap.size = lo at hlo HR HCO hlm
  obtain ⟨pr, nr, kr, rfl⟩ := own_form ho1
  obtain ⟨pc, nc, kc, rfl⟩ := own_form ho2
  replace hrl : m.rise.length ≤ 1048576 := by omega
  replace hcl : m.cost.length ≤ 1048576 := by omega
  clear hc1 hg1 ho1 ho2 hW1
  have hglo : w.heap.size + 1 < lo := hlo
  generalize hg : w.heap.size + 1 = g at HCU hglo hgm ⊢
  go_upto_region 3 with fail
  have HB0 := Lib.hid (heap_alloc_new wm (.cells #[.int .i64 m.wd, .int .i64 m.ht, .slice pr nr kr, .slice pc nc kc] 26))
  have HS0 := Lib.hid (row_up HRS.out (w' := wm.alloc (.cells #[.int .i64 m.wd, .int .i64 m.ht, .slice pr nr kr, .slice pc nc kc] 26)) (by repeat (first | with_reducible (first | exact World.gained_refl _ | exact ⟨_, rfl⟩ | apply gain_ext | apply gain_alloc | apply gain_drewN | apply gain_drew) | (refine gain_setCell ?_ (by first | exact Nat.le_refl _ | exact World.size_ext _ _ | (simp; done) | (simp; omega)) _))))
  have HC0 := Lib.hid (HCU.out.gain (w' := wm.alloc (.cells #[.int .i64 m.wd, .int .i64 m.ht, .slice pr nr kr, .slice pc nc kc] 26)) (by repeat (first | with_reducible (first | exact World.gained_refl _ | exact ⟨_, rfl⟩ | apply gain_ext | apply gain_alloc | apply gain_drewN | apply gain_drew) | (refine gain_setCell ?_ (by first | exact Nat.le_refl _ | exact World.size_ext _ _ | (simp; done) | (simp; omega)) _))))
  have HO0 := Lib.hid (own_up HR.out (w' := wm.alloc (.cells #[.int .i64 m.wd, .int .i64 m.ht, .slice pr nr kr, .slice pc nc kc] 26)) (by repeat (first | with_reducible (first | exact World.gained_refl _ | exact ⟨_, rfl⟩ | apply gain_ext | apply gain_alloc | apply gain_drewN | apply gain_drew) | (refine gain_setCell ?_ (by first | exact Nat.le_refl _ | exact World.size_ext _ _ | (simp; done) | (simp; omega)) _))))
  have HP0 := Lib.hid (own_up HCO.out (w' := wm.alloc (.cells #[.int .i64 m.wd, .int .i64 m.ht, .slice pr nr kr, .slice pc nc kc] 26)) (by repeat (first | with_reducible (first | exact World.gained_refl _ | exact ⟨_, rfl⟩ | apply gain_ext | apply gain_alloc | apply gain_drewN | apply gain_drew) | (refine gain_setCell ?_ (by first | exact Nat.le_refl _ | exact World.size_ext _ _ | (simp; done) | (simp; omega)) _))))
  generalize wm.alloc (.cells #[.int .i64 m.wd, .int .i64 m.ht, .slice pr nr kr, .slice pc nc kc] 26) = ww0 at HB0 HS0 HC0 HO0 HP0 ⊢
  generalize wm.heap.size = gM at HB0 hgm hlm ⊢
  refine wp_region_held_drew (S := (fun w' => w'.cell? ⟨gM, 0, none⟩ = some (.int .i64 m.wd) ∧ w'.cell? ⟨gM, 1, none⟩ = some (.int .i64 m.ht) ∧ w'.cell? ⟨gM, 2, none⟩ = some (.slice pr nr kr) ∧ w'.cell? ⟨gM, 3, none⟩ = some (.slice pc nc kc))) (by kernel_rfl) ⟨World.cell_of_heap HB0.out 0, World.cell_of_heap HB0.out 1, World.cell_of_heap HB0.out 2, World.cell_of_heap HB0.out 3⟩ (fun hHeld => ?_)
  refine wpAnyH_take (i := 0) (oi := ⟨_, _, _, _, _, _⟩) (v := ?_) rfl (by kernel_rfl) (by kernel_rfl) (by kernel_rfl) (fun _ _ _ h => h) (Or.inl ⟨by rfl, ?_⟩) (by assumption) ?_
  rotate_left
  · intro w hSw; (try dsimp only at hSw); go_simp; (try with_reducible rfl)
  try simp only [Act.put, List.setIfInBounds_toArray, List.set_cons_zero, List.set_cons_succ]
  refine wpAnyH_take (i := 1) (oi := ⟨_, _, _, _, _, _⟩) (v := ?_) rfl (by kernel_rfl) (by kernel_rfl) (by kernel_rfl) (fun _ _ _ h => h) (Or.inl ⟨by rfl, ?_⟩) (by assumption) ?_
  rotate_left
  · intro w hSw; (try dsimp only at hSw); go_simp; (try with_reducible rfl)
  try simp only [Act.put, List.setIfInBounds_toArray, List.set_cons_zero, List.set_cons_succ]
  refine wpAnyH_take (i := 2) (oi := ⟨_, _, _, _, _, _⟩) (v := ?_) rfl (by kernel_rfl) (by kernel_rfl) (by kernel_rfl) (fun _ _ _ h => h) (Or.inl ⟨by rfl, ?_⟩) (by assumption) ?_
  rotate_left
  · intro w hSw; (try dsimp only at hSw); go_simp; (try with_reducible rfl)
  try simp only [Act.put, List.setIfInBounds_toArray, List.set_cons_zero, List.set_cons_succ]
  refine wpAnyH_take (i := 4) (oi := ⟨_, _, _, _, _, _⟩) (v := ?_) rfl (by kernel_rfl) (by kernel_rfl) (by kernel_rfl) (fun _ _ _ h => h) (Or.inl ⟨by rfl, ?_⟩) (by assumption) ?_
  rotate_left
  · intro w hSw; (try dsimp only at hSw); go_simp; (try with_reducible rfl)
  try simp only [Act.put, List.setIfInBounds_toArray, List.set_cons_zero, List.set_cons_succ]
  refine wpAnyH_take (i := 5) (oi := ⟨_, _, _, _, _, _⟩) (v := ?_) rfl (by kernel_rfl) (by kernel_rfl) (by kernel_rfl) (fun _ _ _ h => h) (Or.inl ⟨by rfl, ?_⟩) (by assumption) ?_
  rotate_left
  · intro w hSw; (try dsimp only at hSw); go_simp; (try with_reducible rfl)
  try simp only [Act.put, List.setIfInBounds_toArray, List.set_cons_zero, List.set_cons_succ]
  refine wpAnyH_ready (rs := [3]) (by kernel_rfl) (by simp) ?_
  refine AllReadyH.cons rfl (fun K hK => ?_) (AllReadyH.nil)
  go_simp
  go_wp2_with fail
  refine (openCell_any _ _ g _ lo m _ _ (HC0.out.gain (by repeat (first | with_reducible (first | exact World.gained_refl _ | exact ⟨_, rfl⟩ | apply gain_ext | apply gain_alloc | apply gain_drewN | apply gain_drew) | (refine gain_setCell ?_ (by first | exact Nat.le_refl _ | exact World.size_ext _ _ | (simp; done) | (simp; omega)) _)))) (by omega) hglo (own_up HO0.out (by repeat (first | with_reducible (first | exact World.gained_refl _ | exact ⟨_, rfl⟩ | apply gain_ext | apply gain_alloc | apply gain_drewN | apply gain_drew) | (refine gain_setCell ?_ (by first | exact Nat.le_refl _ | exact World.size_ext _ _ | (simp; done) | (simp; omega)) _)))) (own_up HP0.out (by repeat (first | with_reducible (first | exact World.gained_refl _ | exact ⟨_, rfl⟩ | apply gain_ext | apply gain_alloc | apply gain_drewN | apply gain_drew) | (refine gain_setCell ?_ (by first | exact Nat.le_refl _ | exact World.size_ext _ _ | (simp; done) | (simp; omega)) _)))) hrl hcl).mono ?_
  rintro e ww1 ⟨x0, rfl, hc1, hg1⟩
  have HB1 := Lib.hid (row_keep (row_up HB0.out (by repeat (first | with_reducible (first | exact World.gained_refl _ | exact ⟨_, rfl⟩ | apply gain_ext | apply gain_alloc | apply gain_drewN | apply gain_drew) | (refine gain_setCell ?_ (by first | exact Nat.le_refl _ | exact World.size_ext _ _ | (simp; done) | (simp; omega)) _)))) hg1 (fun q e => by cases e; omega))
  have HS1 := Lib.hid (row_keep (row_up HS0.out (by repeat (first | with_reducible (first | exact World.gained_refl _ | exact ⟨_, rfl⟩ | apply gain_ext | apply gain_alloc | apply gain_drewN | apply gain_drew) | (refine gain_setCell ?_ (by first | exact Nat.le_refl _ | exact World.size_ext _ _ | (simp; done) | (simp; omega)) _)))) hg1 (fun q e => by cases e; omega))
  have HO1 := Lib.hid (own_cur (own_up HO0.out (by repeat (first | with_reducible (first | exact World.gained_refl _ | exact ⟨_, rfl⟩ | apply gain_ext | apply gain_alloc | apply gain_drewN | apply gain_drew) | (refine gain_setCell ?_ (by first | exact Nat.le_refl _ | exact World.size_ext _ _ | (simp; done) | (simp; omega)) _)))) hglo hg1)
  have HP1 := Lib.hid (own_cur (own_up HP0.out (by repeat (first | with_reducible (first | exact World.gained_refl _ | exact ⟨_, rfl⟩ | apply gain_ext | apply gain_alloc | apply gain_drewN | apply gain_drew) | (refine gain_setCell ?_ (by first | exact Nat.le_refl _ | exact World.size_ext _ _ | (simp; done) | (simp; omega)) _)))) hglo hg1)
  have HC1 := Lib.hid hc1
  clear hc1 hg1
  (try dsimp only)
  refine hK.out _ _ ?_ (fun hHeld => ?_)
  · exact ⟨World.cell_of_heap HB1.out 0, World.cell_of_heap HB1.out 1, World.cell_of_heap HB1.out 2, World.cell_of_heap HB1.out 3⟩
  clear hK K
  try simp only [Act.put, List.setIfInBounds_toArray, List.set_cons_zero, List.set_cons_succ]
  refine wpAnyH_ready (rs := [6]) (by kernel_rfl) (by simp) ?_
  refine AllReadyH.cons rfl (fun K hK => ?_) (AllReadyH.nil)
  go_simp
  go_wp2_with fail
  refine (openCell_any _ _ g _ lo m _ _ (HC1.out.gain (by repeat (first | with_reducible (first | exact World.gained_refl _ | exact ⟨_, rfl⟩ | apply gain_ext | apply gain_alloc | apply gain_drewN | apply gain_drew) | (refine gain_setCell ?_ (by first | exact Nat.le_refl _ | exact World.size_ext _ _ | (simp; done) | (simp; omega)) _)))) (by omega) hglo (own_up HO1.out (by repeat (first | with_reducible (first | exact World.gained_refl _ | exact ⟨_, rfl⟩ | apply gain_ext | apply gain_alloc | apply gain_drewN | apply gain_drew) | (refine gain_setCell ?_ (by first | exact Nat.le_refl _ | exact World.size_ext _ _ | (simp; done) | (simp; omega)) _)))) (own_up HP1.out (by repeat (first | with_reducible (first | exact World.gained_refl _ | exact ⟨_, rfl⟩ | apply gain_ext | apply gain_alloc | apply gain_drewN | apply gain_drew) | (refine gain_setCell ?_ (by first | exact Nat.le_refl _ | exact World.size_ext _ _ | (simp; done) | (simp; omega)) _)))) hrl hcl).mono ?_
  rintro e ww2 ⟨x1, rfl, hc1, hg1⟩
  have HB2 := Lib.hid (row_keep (row_up HB1.out (by repeat (first | with_reducible (first | exact World.gained_refl _ | exact ⟨_, rfl⟩ | apply gain_ext | apply gain_alloc | apply gain_drewN | apply gain_drew) | (refine gain_setCell ?_ (by first | exact Nat.le_refl _ | exact World.size_ext _ _ | (simp; done) | (simp; omega)) _)))) hg1 (fun q e => by cases e; omega))
  have HS2 := Lib.hid (row_keep (row_up HS1.out (by repeat (first | with_reducible (first | exact World.gained_refl _ | exact ⟨_, rfl⟩ | apply gain_ext | apply gain_alloc | apply gain_drewN | apply gain_drew) | (refine gain_setCell ?_ (by first | exact Nat.le_refl _ | exact World.size_ext _ _ | (simp; done) | (simp; omega)) _)))) hg1 (fun q e => by cases e; omega))
  have HO2 := Lib.hid (own_cur (own_up HO1.out (by repeat (first | with_reducible (first | exact World.gained_refl _ | exact ⟨_, rfl⟩ | apply gain_ext | apply gain_alloc | apply gain_drewN | apply gain_drew) | (refine gain_setCell ?_ (by first | exact Nat.le_refl _ | exact World.size_ext _ _ | (simp; done) | (simp; omega)) _)))) hglo hg1)
  have HP2 := Lib.hid (own_cur (own_up HP1.out (by repeat (first | with_reducible (first | exact World.gained_refl _ | exact ⟨_, rfl⟩ | apply gain_ext | apply gain_alloc | apply gain_drewN | apply gain_drew) | (refine gain_setCell ?_ (by first | exact Nat.le_refl _ | exact World.size_ext _ _ | (simp; done) | (simp; omega)) _)))) hglo hg1)
  have HC2 := Lib.hid hc1
  clear hc1 hg1
  (try dsimp only)
  refine hK.out _ _ ?_ (fun hHeld => ?_)
  · exact ⟨World.cell_of_heap HB2.out 0, World.cell_of_heap HB2.out 1, World.cell_of_heap HB2.out 2, World.cell_of_heap HB2.out 3⟩
  clear hK K
  try simp only [Act.put, List.setIfInBounds_toArray, List.set_cons_zero, List.set_cons_succ]
  have ey0 : ww2.cell? ⟨w.heap.size, 0, none⟩ = some (.int .i64 0) := World.cell_of_heap HS2.out 0
  have ez0 : ww2.frozen? ⟨w.heap.size, 0, none⟩ = false := World.free_of_heap HS2.out 0
  have ey1 : ww2.cell? ⟨w.heap.size, 1, none⟩ = some (.int .i64 0) := World.cell_of_heap HS2.out 1
  have ez1 : ww2.frozen? ⟨w.heap.size, 1, none⟩ = false := World.free_of_heap HS2.out 1
  have ey2 : ww2.cell? ⟨w.heap.size, 2, none⟩ = some (.slice none 0 0) := World.cell_of_heap HS2.out 2
  have ez2 : ww2.frozen? ⟨w.heap.size, 2, none⟩ = false := World.free_of_heap HS2.out 2
  have ey3 : ww2.cell? ⟨w.heap.size, 3, none⟩ = some (.slice none 0 0) := World.cell_of_heap HS2.out 3
  have ez3 : ww2.frozen? ⟨w.heap.size, 3, none⟩ = false := World.free_of_heap HS2.out 3
  have eoc := World.oldB_of_cell ey0
  have gw0 := World.heap_setCell_row HS2.out 0 (.int .i64 m.wd)
  have gc0 : (ww2.setCell ⟨w.heap.size, 0, none⟩ (.int .i64 m.wd)).cell? ⟨w.heap.size, 0, none⟩ = some (.int .i64 m.wd) := World.cell_of_heap gw0 0
  have gw1 := World.heap_setCell_row gw0 1 (.int .i64 m.ht)
  have gc1 : ((ww2.setCell ⟨w.heap.size, 0, none⟩ (.int .i64 m.wd)).setCell ⟨w.heap.size, 1, none⟩ (.int .i64 m.ht)).cell? ⟨w.heap.size, 1, none⟩ = some (.int .i64 m.ht) := World.cell_of_heap gw1 1
  have gw2 := World.heap_setCell_row gw1 2 (.slice pr nr kr)
  have gc2 : (((ww2.setCell ⟨w.heap.size, 0, none⟩ (.int .i64 m.wd)).setCell ⟨w.heap.size, 1, none⟩ (.int .i64 m.ht)).setCell ⟨w.heap.size, 2, none⟩ (.slice pr nr kr)).cell? ⟨w.heap.size, 2, none⟩ = some (.slice pr nr kr) := World.cell_of_heap gw2 2
  have gw3 := World.heap_setCell_row gw2 3 (.slice pc nc kc)
  have gc3 : ((((ww2.setCell ⟨w.heap.size, 0, none⟩ (.int .i64 m.wd)).setCell ⟨w.heap.size, 1, none⟩ (.int .i64 m.ht)).setCell ⟨w.heap.size, 2, none⟩ (.slice pr nr kr)).setCell ⟨w.heap.size, 3, none⟩ (.slice pc nc kc)).cell? ⟨w.heap.size, 3, none⟩ = some (.slice pc nc kc) := World.cell_of_heap gw3 3
  clear gw0 gw1 gw2 gw3
  have hon : ww2.grownBy ((((ww2.setCell ⟨w.heap.size, 0, none⟩ (.int .i64 m.wd)).setCell ⟨w.heap.size, 1, none⟩ (.int .i64 m.ht)).setCell ⟨w.heap.size, 2, none⟩ (.slice pr nr kr)).setCell ⟨w.heap.size, 3, none⟩ (.slice pc nc kc)) (some w.heap.size) := by repeat (first | exact only_refl _ _ | refine only_setCell ?_ rfl _)
  have HBF := Lib.hid (row_keep HB2.out hon (fun q e => by cases e; omega))
  have HF1 := Lib.hid (own_not HO2.out (fun q e => by have := (own_lt HO2.out q e).1; omega) hon)
  have HF2 := Lib.hid (own_not HP2.out (fun q e => by have := (own_lt HP2.out q e).1; omega) hon)
  have HFG := Lib.hid (gain_grown (gain_trans HW1.out HC2.out.up) hon (fun q e => by cases e; omega))
  have hbl : w.heap.size ≤ lo := by omega
  clear hon
  refine wpAnyH_ready (rs := [7]) (by kernel_rfl) (by simp) ?_
  refine AllReadyH.cons rfl (fun K hK => ?_) (AllReadyH.nil)
  go_simp
  refine hK.out _ _ ?_ (fun hHeld => ?_)
  · exact ⟨World.cell_of_heap HBF.out 0, World.cell_of_heap HBF.out 1, World.cell_of_heap HBF.out 2, World.cell_of_heap HBF.out 3⟩
  clear hK K
  try simp only [Act.put, List.setIfInBounds_toArray, List.set_cons_zero, List.set_cons_succ]
  refine wpAnyH_take (i := 8) (oi := ⟨_, _, _, _, _, _⟩) (v := ?_) rfl (by kernel_rfl) (by kernel_rfl) (by kernel_rfl) (fun _ _ _ h => h) (Or.inl ⟨by rfl, ?_⟩) (by assumption) ?_
  rotate_left
  · intro w hSw; (try dsimp only at hSw); go_simp; (try with_reducible rfl)
  try simp only [Act.put, List.setIfInBounds_toArray, List.set_cons_zero, List.set_cons_succ]
  refine wpAnyH_take (i := 9) (oi := ⟨_, _, _, _, _, _⟩) (v := ?_) rfl (by kernel_rfl) (by kernel_rfl) (by kernel_rfl) (fun _ _ _ h => h) (Or.inl ⟨by rfl, ?_⟩) (by assumption) ?_
  rotate_left
  · intro w hSw; (try dsimp only at hSw); go_simp; (try with_reducible rfl)
  try simp only [Act.put, List.setIfInBounds_toArray, List.set_cons_zero, List.set_cons_succ]
  refine wpAnyH_done (by kernel_rfl) ?_ _
  go_wp2
  refine bodyPost_ret (v := .tuple #[.agg #[.int .i64 m.wd, .int .i64 m.ht, .slice pr nr kr, .slice pc nc kc], .int .i64 x0, .int .i64 x1]) (by simp [results, Try.results21, go_sem, gc0, gc1, gc2, gc3]) rfl ?_
  exact ⟨m, _, _, _, _, rfl, HFG.out, own_base HF1.out hbl, own_base HF2.out hbl, hrl, hcl⟩
set_option maxHeartbeats 4000000 in
set_option maxRecDepth 100000 in
theorem drawRouteTime_any (v : Value) (L : List Int) (w : World) (h : w.sl byteC 1 v L) (hq : ∀ x ∈ L, 0 ≤ x ∧ x ≤ 255) (hl : L.length ≤ 1048576) :
    Calls Try.prog 14 #[v] w fun x w' => ∃ (m : Mp) (rv cv : Value) (x0 : Value) (l0 : List Int), x = .returned (.tuple #[.agg #[.int .i64 m.wd, .int .i64 m.ht, rv, cv], x0]) ∧ (∃ d, w' = w.ext d) ∧ w'.own w.heap.size 3 intC 1 rv m.rise ∧ w'.own w.heap.size 3 intC 1 cv m.cost ∧ m.rise.length ≤ 1048576 ∧ m.cost.length ≤ 1048576 ∧ w'.own w.heap.size 3 intC 1 x0 l0 ∧ l0.length ≤ 40 := by
  have hs := Lib.hid h
  have HQ := Lib.hid hq
  obtain ⟨p, c, rfl, _⟩ := h
  clear hq
  have HW1 := Lib.hid (show ∃ d, w.alloc (.cells #[.int .i64 0, .int .i64 0, .slice none 0 0, .slice none 0 0] 26) = w.ext d from (by repeat (first | with_reducible (first | exact World.gained_refl _ | exact ⟨_, rfl⟩ | apply gain_ext | apply gain_alloc | apply gain_drewN | apply gain_drew) | (refine gain_setCell ?_ (by first | exact Nat.le_refl _ | exact World.size_ext _ _ | (simp; done) | (simp; omega)) _))))
  have hsz : (w.alloc (.cells #[.int .i64 0, .int .i64 0, .slice none 0 0, .slice none 0 0] 26)).heap.size = w.heap.size + 1 := World.size_alloc _ _
  have HRZ := Lib.hid (heap_alloc_new w (.cells #[.int .i64 0, .int .i64 0, .slice none 0 0, .slice none 0 0] 26))
  go_enter Try.func14, Try.ntmps14
  go_wp2_with fail
  generalize hW1 : w.alloc (.cells #[.int .i64 0, .int .i64 0, .slice none 0 0, .slice none 0 0] 26) = W1 at HW1 HRZ hsz ⊢
  clear hW1
  refine (drawIsRoute_any _ L _ (sl_up byteC_length hs.out HW1.out) HQ.out hl).mono ?_
  rintro e wm ⟨m, rv, cv, x0, l0, rfl, ⟨d, rfl⟩, ho1, ho2, hrl, hcl , hx, hxl⟩
  obtain ⟨pr, nr, kr, rfl⟩ := own_form ho1
  obtain ⟨pc, nc, kc, rfl⟩ := own_form ho2
  have HO1 := Lib.hid ho1
  have HO2 := Lib.hid ho2
  have HX := Lib.hid hx
  have HS := Lib.hid (row_up HRZ.out (w' := W1.ext d) ⟨_, rfl⟩)
  have HGN := Lib.hid (gain_trans HW1.out (show ∃ d', W1.ext d = W1.ext d' from ⟨_, rfl⟩))
  generalize W1.ext d = ww at HO1 HO2 HX HS HGN ⊢
  clear ho1 ho2
  have ey0 : ww.cell? ⟨w.heap.size, 0, none⟩ = some (.int .i64 0) := World.cell_of_heap HS.out 0
  have ez0 : ww.frozen? ⟨w.heap.size, 0, none⟩ = false := World.free_of_heap HS.out 0
  have ey1 : ww.cell? ⟨w.heap.size, 1, none⟩ = some (.int .i64 0) := World.cell_of_heap HS.out 1
  have ez1 : ww.frozen? ⟨w.heap.size, 1, none⟩ = false := World.free_of_heap HS.out 1
  have ey2 : ww.cell? ⟨w.heap.size, 2, none⟩ = some (.slice none 0 0) := World.cell_of_heap HS.out 2
  have ez2 : ww.frozen? ⟨w.heap.size, 2, none⟩ = false := World.free_of_heap HS.out 2
  have ey3 : ww.cell? ⟨w.heap.size, 3, none⟩ = some (.slice none 0 0) := World.cell_of_heap HS.out 3
  have ez3 : ww.frozen? ⟨w.heap.size, 3, none⟩ = false := World.free_of_heap HS.out 3
  have eoc := World.oldB_of_cell ey0
  have gw0 := World.heap_setCell_row HS.out 0 (.int .i64 m.wd)
  have gc0 : (ww.setCell ⟨w.heap.size, 0, none⟩ (.int .i64 m.wd)).cell? ⟨w.heap.size, 0, none⟩ = some (.int .i64 m.wd) := World.cell_of_heap gw0 0
  have gw1 := World.heap_setCell_row gw0 1 (.int .i64 m.ht)
  have gc1 : ((ww.setCell ⟨w.heap.size, 0, none⟩ (.int .i64 m.wd)).setCell ⟨w.heap.size, 1, none⟩ (.int .i64 m.ht)).cell? ⟨w.heap.size, 1, none⟩ = some (.int .i64 m.ht) := World.cell_of_heap gw1 1
  have gw2 := World.heap_setCell_row gw1 2 (.slice pr nr kr)
  have gc2 : (((ww.setCell ⟨w.heap.size, 0, none⟩ (.int .i64 m.wd)).setCell ⟨w.heap.size, 1, none⟩ (.int .i64 m.ht)).setCell ⟨w.heap.size, 2, none⟩ (.slice pr nr kr)).cell? ⟨w.heap.size, 2, none⟩ = some (.slice pr nr kr) := World.cell_of_heap gw2 2
  have gw3 := World.heap_setCell_row gw2 3 (.slice pc nc kc)
  have gc3 : ((((ww.setCell ⟨w.heap.size, 0, none⟩ (.int .i64 m.wd)).setCell ⟨w.heap.size, 1, none⟩ (.int .i64 m.ht)).setCell ⟨w.heap.size, 2, none⟩ (.slice pr nr kr)).setCell ⟨w.heap.size, 3, none⟩ (.slice pc nc kc)).cell? ⟨w.heap.size, 3, none⟩ = some (.slice pc nc kc) := World.cell_of_heap gw3 3
  clear gw0 gw1 gw2 gw3
  have hon : World.grownBy ww ((((ww.setCell ⟨w.heap.size, 0, none⟩ (.int .i64 m.wd)).setCell ⟨w.heap.size, 1, none⟩ (.int .i64 m.ht)).setCell ⟨w.heap.size, 2, none⟩ (.slice pr nr kr)).setCell ⟨w.heap.size, 3, none⟩ (.slice pc nc kc)) (some w.heap.size) := by repeat (first | exact only_refl _ _ | refine only_setCell ?_ rfl _)
  have HF1 := Lib.hid (own_not HO1.out (fun q e => by have := (own_lt HO1.out q e).1; omega) hon)
  have HF2 := Lib.hid (own_not HO2.out (fun q e => by have := (own_lt HO2.out q e).1; omega) hon)
  have HF3 := Lib.hid (own_not HX.out (fun q e => by have := (own_lt HX.out q e).1; omega) hon)
  have HFG := Lib.hid (gain_grown HGN.out hon (fun q e => by cases e; omega))
  have hbl : w.heap.size ≤ W1.heap.size := by omega
  clear hon
  go_wp2
  refine bodyPost_ret (v := .tuple #[.agg #[.int .i64 m.wd, .int .i64 m.ht, .slice pr nr kr, .slice pc nc kc], x0]) (by simp [results, Try.results14, go_sem, gc0, gc1, gc2, gc3]) rfl ?_
  exact ⟨m, _, _, _, _, rfl, HFG.out, own_base HF1.out hbl, own_base HF2.out hbl, hrl, hcl , own_base HF3.out hbl, hxl⟩
set_option maxHeartbeats 4000000 in
set_option maxRecDepth 100000 in
theorem drawRouteClimb_any (v : Value) (L : List Int) (w : World) (h : w.sl byteC 1 v L) (hq : ∀ x ∈ L, 0 ≤ x ∧ x ≤ 255) (hl : L.length ≤ 1048576) :
    Calls Try.prog 18 #[v] w fun x w' => ∃ (m : Mp) (rv cv : Value) (x0 : Value) (l0 : List Int), x = .returned (.tuple #[.agg #[.int .i64 m.wd, .int .i64 m.ht, rv, cv], x0]) ∧ (∃ d, w' = w.ext d) ∧ w'.own w.heap.size 3 intC 1 rv m.rise ∧ w'.own w.heap.size 3 intC 1 cv m.cost ∧ m.rise.length ≤ 1048576 ∧ m.cost.length ≤ 1048576 ∧ w'.own w.heap.size 3 intC 1 x0 l0 ∧ l0.length ≤ 40 := by
  have hs := Lib.hid h
  have HQ := Lib.hid hq
  obtain ⟨p, c, rfl, _⟩ := h
  clear hq
  have HW1 := Lib.hid (show ∃ d, w.alloc (.cells #[.int .i64 0, .int .i64 0, .slice none 0 0, .slice none 0 0] 26) = w.ext d from (by repeat (first | with_reducible (first | exact World.gained_refl _ | exact ⟨_, rfl⟩ | apply gain_ext | apply gain_alloc | apply gain_drewN | apply gain_drew) | (refine gain_setCell ?_ (by first | exact Nat.le_refl _ | exact World.size_ext _ _ | (simp; done) | (simp; omega)) _))))
  have hsz : (w.alloc (.cells #[.int .i64 0, .int .i64 0, .slice none 0 0, .slice none 0 0] 26)).heap.size = w.heap.size + 1 := World.size_alloc _ _
  have HRZ := Lib.hid (heap_alloc_new w (.cells #[.int .i64 0, .int .i64 0, .slice none 0 0, .slice none 0 0] 26))
  go_enter Try.func18, Try.ntmps18
  go_wp2_with fail
  generalize hW1 : w.alloc (.cells #[.int .i64 0, .int .i64 0, .slice none 0 0, .slice none 0 0] 26) = W1 at HW1 HRZ hsz ⊢
  clear hW1
  refine (drawIsRoute_any _ L _ (sl_up byteC_length hs.out HW1.out) HQ.out hl).mono ?_
  rintro e wm ⟨m, rv, cv, x0, l0, rfl, ⟨d, rfl⟩, ho1, ho2, hrl, hcl , hx, hxl⟩
  obtain ⟨pr, nr, kr, rfl⟩ := own_form ho1
  obtain ⟨pc, nc, kc, rfl⟩ := own_form ho2
  have HO1 := Lib.hid ho1
  have HO2 := Lib.hid ho2
  have HX := Lib.hid hx
  have HS := Lib.hid (row_up HRZ.out (w' := W1.ext d) ⟨_, rfl⟩)
  have HGN := Lib.hid (gain_trans HW1.out (show ∃ d', W1.ext d = W1.ext d' from ⟨_, rfl⟩))
  generalize W1.ext d = ww at HO1 HO2 HX HS HGN ⊢
  clear ho1 ho2
  have ey0 : ww.cell? ⟨w.heap.size, 0, none⟩ = some (.int .i64 0) := World.cell_of_heap HS.out 0
  have ez0 : ww.frozen? ⟨w.heap.size, 0, none⟩ = false := World.free_of_heap HS.out 0
  have ey1 : ww.cell? ⟨w.heap.size, 1, none⟩ = some (.int .i64 0) := World.cell_of_heap HS.out 1
  have ez1 : ww.frozen? ⟨w.heap.size, 1, none⟩ = false := World.free_of_heap HS.out 1
  have ey2 : ww.cell? ⟨w.heap.size, 2, none⟩ = some (.slice none 0 0) := World.cell_of_heap HS.out 2
  have ez2 : ww.frozen? ⟨w.heap.size, 2, none⟩ = false := World.free_of_heap HS.out 2
  have ey3 : ww.cell? ⟨w.heap.size, 3, none⟩ = some (.slice none 0 0) := World.cell_of_heap HS.out 3
  have ez3 : ww.frozen? ⟨w.heap.size, 3, none⟩ = false := World.free_of_heap HS.out 3
  have eoc := World.oldB_of_cell ey0
  have gw0 := World.heap_setCell_row HS.out 0 (.int .i64 m.wd)
  have gc0 : (ww.setCell ⟨w.heap.size, 0, none⟩ (.int .i64 m.wd)).cell? ⟨w.heap.size, 0, none⟩ = some (.int .i64 m.wd) := World.cell_of_heap gw0 0
  have gw1 := World.heap_setCell_row gw0 1 (.int .i64 m.ht)
  have gc1 : ((ww.setCell ⟨w.heap.size, 0, none⟩ (.int .i64 m.wd)).setCell ⟨w.heap.size, 1, none⟩ (.int .i64 m.ht)).cell? ⟨w.heap.size, 1, none⟩ = some (.int .i64 m.ht) := World.cell_of_heap gw1 1
  have gw2 := World.heap_setCell_row gw1 2 (.slice pr nr kr)
  have gc2 : (((ww.setCell ⟨w.heap.size, 0, none⟩ (.int .i64 m.wd)).setCell ⟨w.heap.size, 1, none⟩ (.int .i64 m.ht)).setCell ⟨w.heap.size, 2, none⟩ (.slice pr nr kr)).cell? ⟨w.heap.size, 2, none⟩ = some (.slice pr nr kr) := World.cell_of_heap gw2 2
  have gw3 := World.heap_setCell_row gw2 3 (.slice pc nc kc)
  have gc3 : ((((ww.setCell ⟨w.heap.size, 0, none⟩ (.int .i64 m.wd)).setCell ⟨w.heap.size, 1, none⟩ (.int .i64 m.ht)).setCell ⟨w.heap.size, 2, none⟩ (.slice pr nr kr)).setCell ⟨w.heap.size, 3, none⟩ (.slice pc nc kc)).cell? ⟨w.heap.size, 3, none⟩ = some (.slice pc nc kc) := World.cell_of_heap gw3 3
  clear gw0 gw1 gw2 gw3
  have hon : World.grownBy ww ((((ww.setCell ⟨w.heap.size, 0, none⟩ (.int .i64 m.wd)).setCell ⟨w.heap.size, 1, none⟩ (.int .i64 m.ht)).setCell ⟨w.heap.size, 2, none⟩ (.slice pr nr kr)).setCell ⟨w.heap.size, 3, none⟩ (.slice pc nc kc)) (some w.heap.size) := by repeat (first | exact only_refl _ _ | refine only_setCell ?_ rfl _)
  have HF1 := Lib.hid (own_not HO1.out (fun q e => by have := (own_lt HO1.out q e).1; omega) hon)
  have HF2 := Lib.hid (own_not HO2.out (fun q e => by have := (own_lt HO2.out q e).1; omega) hon)
  have HF3 := Lib.hid (own_not HX.out (fun q e => by have := (own_lt HX.out q e).1; omega) hon)
  have HFG := Lib.hid (gain_grown HGN.out hon (fun q e => by cases e; omega))
  have hbl : w.heap.size ≤ W1.heap.size := by omega
  clear hon
  go_wp2
  refine bodyPost_ret (v := .tuple #[.agg #[.int .i64 m.wd, .int .i64 m.ht, .slice pr nr kr, .slice pc nc kc], x0]) (by simp [results, Try.results18, go_sem, gc0, gc1, gc2, gc3]) rfl ?_
  exact ⟨m, _, _, _, _, rfl, HFG.out, own_base HF1.out hbl, own_base HF2.out hbl, hrl, hcl , own_base HF3.out hbl, hxl⟩
set_option maxHeartbeats 4000000 in
set_option maxRecDepth 100000 in
theorem drawBest_any (v : Value) (L : List Int) (w : World) (h : w.sl byteC 1 v L) (hq : ∀ x ∈ L, 0 ≤ x ∧ x ≤ 255) (hl : L.length ≤ 1048576) :
    Calls Try.prog 5 #[v] w fun x w' => ∃ (m : Mp) (rv cv : Value) (x0 x1 : Int), x = .returned (.tuple #[.agg #[.int .i64 m.wd, .int .i64 m.ht, rv, cv], .int .i64 x0, .int .i64 x1]) ∧ (∃ d, w' = w.ext d) ∧ w'.own w.heap.size 3 intC 1 rv m.rise ∧ w'.own w.heap.size 3 intC 1 cv m.cost ∧ m.rise.length ≤ 1048576 ∧ m.cost.length ≤ 1048576  := by
  have hs := Lib.hid h
  have HQ := Lib.hid hq
  obtain ⟨p, c, rfl, _⟩ := h
  clear hq
  have HW1 := Lib.hid (show ∃ d, w.alloc (.cells #[.int .i64 0, .int .i64 0, .slice none 0 0, .slice none 0 0] 26) = w.ext d from (by repeat (first | with_reducible (first | exact World.gained_refl _ | exact ⟨_, rfl⟩ | apply gain_ext | apply gain_alloc | apply gain_drewN | apply gain_drew) | (refine gain_setCell ?_ (by first | exact Nat.le_refl _ | exact World.size_ext _ _ | (simp; done) | (simp; omega)) _))))
  have hsz : (w.alloc (.cells #[.int .i64 0, .int .i64 0, .slice none 0 0, .slice none 0 0] 26)).heap.size = w.heap.size + 1 := World.size_alloc _ _
  have HRZ := Lib.hid (heap_alloc_new w (.cells #[.int .i64 0, .int .i64 0, .slice none 0 0, .slice none 0 0] 26))
  go_enter Try.func5, Try.ntmps5
  go_wp2_with fail
  generalize hW1 : w.alloc (.cells #[.int .i64 0, .int .i64 0, .slice none 0 0, .slice none 0 0] 26) = W1 at HW1 HRZ hsz ⊢
  clear hW1
  refine (drawLeastO_any _ L _ (sl_up byteC_length hs.out HW1.out) HQ.out hl).mono ?_
  rintro e wm ⟨m, rv, cv, x0, x1, rfl, ⟨d, rfl⟩, ho1, ho2, hrl, hcl ⟩
  obtain ⟨pr, nr, kr, rfl⟩ := own_form ho1
  obtain ⟨pc, nc, kc, rfl⟩ := own_form ho2
  have HO1 := Lib.hid ho1
  have HO2 := Lib.hid ho2
  skip
  have HS := Lib.hid (row_up HRZ.out (w' := W1.ext d) ⟨_, rfl⟩)
  have HGN := Lib.hid (gain_trans HW1.out (show ∃ d', W1.ext d = W1.ext d' from ⟨_, rfl⟩))
  generalize W1.ext d = ww at HO1 HO2  HS HGN ⊢
  clear ho1 ho2
  have ey0 : ww.cell? ⟨w.heap.size, 0, none⟩ = some (.int .i64 0) := World.cell_of_heap HS.out 0
  have ez0 : ww.frozen? ⟨w.heap.size, 0, none⟩ = false := World.free_of_heap HS.out 0
  have ey1 : ww.cell? ⟨w.heap.size, 1, none⟩ = some (.int .i64 0) := World.cell_of_heap HS.out 1
  have ez1 : ww.frozen? ⟨w.heap.size, 1, none⟩ = false := World.free_of_heap HS.out 1
  have ey2 : ww.cell? ⟨w.heap.size, 2, none⟩ = some (.slice none 0 0) := World.cell_of_heap HS.out 2
  have ez2 : ww.frozen? ⟨w.heap.size, 2, none⟩ = false := World.free_of_heap HS.out 2
  have ey3 : ww.cell? ⟨w.heap.size, 3, none⟩ = some (.slice none 0 0) := World.cell_of_heap HS.out 3
  have ez3 : ww.frozen? ⟨w.heap.size, 3, none⟩ = false := World.free_of_heap HS.out 3
  have eoc := World.oldB_of_cell ey0
  have gw0 := World.heap_setCell_row HS.out 0 (.int .i64 m.wd)
  have gc0 : (ww.setCell ⟨w.heap.size, 0, none⟩ (.int .i64 m.wd)).cell? ⟨w.heap.size, 0, none⟩ = some (.int .i64 m.wd) := World.cell_of_heap gw0 0
  have gw1 := World.heap_setCell_row gw0 1 (.int .i64 m.ht)
  have gc1 : ((ww.setCell ⟨w.heap.size, 0, none⟩ (.int .i64 m.wd)).setCell ⟨w.heap.size, 1, none⟩ (.int .i64 m.ht)).cell? ⟨w.heap.size, 1, none⟩ = some (.int .i64 m.ht) := World.cell_of_heap gw1 1
  have gw2 := World.heap_setCell_row gw1 2 (.slice pr nr kr)
  have gc2 : (((ww.setCell ⟨w.heap.size, 0, none⟩ (.int .i64 m.wd)).setCell ⟨w.heap.size, 1, none⟩ (.int .i64 m.ht)).setCell ⟨w.heap.size, 2, none⟩ (.slice pr nr kr)).cell? ⟨w.heap.size, 2, none⟩ = some (.slice pr nr kr) := World.cell_of_heap gw2 2
  have gw3 := World.heap_setCell_row gw2 3 (.slice pc nc kc)
  have gc3 : ((((ww.setCell ⟨w.heap.size, 0, none⟩ (.int .i64 m.wd)).setCell ⟨w.heap.size, 1, none⟩ (.int .i64 m.ht)).setCell ⟨w.heap.size, 2, none⟩ (.slice pr nr kr)).setCell ⟨w.heap.size, 3, none⟩ (.slice pc nc kc)).cell? ⟨w.heap.size, 3, none⟩ = some (.slice pc nc kc) := World.cell_of_heap gw3 3
  clear gw0 gw1 gw2 gw3
  have hon : World.grownBy ww ((((ww.setCell ⟨w.heap.size, 0, none⟩ (.int .i64 m.wd)).setCell ⟨w.heap.size, 1, none⟩ (.int .i64 m.ht)).setCell ⟨w.heap.size, 2, none⟩ (.slice pr nr kr)).setCell ⟨w.heap.size, 3, none⟩ (.slice pc nc kc)) (some w.heap.size) := by repeat (first | exact only_refl _ _ | refine only_setCell ?_ rfl _)
  have HF1 := Lib.hid (own_not HO1.out (fun q e => by have := (own_lt HO1.out q e).1; omega) hon)
  have HF2 := Lib.hid (own_not HO2.out (fun q e => by have := (own_lt HO2.out q e).1; omega) hon)
  skip
  have HFG := Lib.hid (gain_grown HGN.out hon (fun q e => by cases e; omega))
  have hbl : w.heap.size ≤ W1.heap.size := by omega
  clear hon
  go_wp2
  refine bodyPost_ret (v := .tuple #[.agg #[.int .i64 m.wd, .int .i64 m.ht, .slice pr nr kr, .slice pc nc kc], .int .i64 x0, .int .i64 x1]) (by simp [results, Try.results5, go_sem, gc0, gc1, gc2, gc3]) rfl ?_
  exact ⟨m, _, _, _, _, rfl, HFG.out, own_base HF1.out hbl, own_base HF2.out hbl, hrl, hcl ⟩
end Go.Proofs.Ytfpobghllfoijaa
