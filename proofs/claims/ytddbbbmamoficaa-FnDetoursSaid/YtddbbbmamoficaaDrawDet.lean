/- The draws of a map and cells of it. Condition: at most 1048576 bytes. -/
import Derived.Test.YtddbbbmamoficaaDrawMap
import Derived.Test.YtddbbbmamoficaaDrawCell
namespace Go.Proofs.Ytddbbbmamoficaa
open Go.RowKit Go.Ori
set_option maxHeartbeats 4000000 in
set_option maxRecDepth 100000 in
theorem drawDetour_any (v : Value) (L : List Int) (w : World) (h : w.sl byteC 1 v L) (hq : ∀ x ∈ L, 0 ≤ x ∧ x ≤ 255) (hl : L.length ≤ 1048576) :
    Calls Try.prog 39 #[v] w fun x w' => ∃ (m : Mp) (rv cv : Value) (x0 x1 x2 : Int), x = .returned (.tuple #[.agg #[.int .i64 m.wd, .int .i64 m.ht, rv, cv], .int .i64 x0, .int .i64 x1, .int .i64 x2]) ∧ (∃ d, w' = w.ext d) ∧ w'.mp rv cv m := by
  have hs := Lib.hid h
  have HQ := Lib.hid hq
  obtain ⟨p, c, rfl, _⟩ := h
  clear hq
  have HW1 := Lib.hid (show ∃ d, w.alloc (.cells #[.int .i64 0, .int .i64 0, .slice none 0 0, .slice none 0 0] 26) = w.ext d from (by repeat (first | with_reducible (first | exact World.gained_refl _ | exact ⟨_, rfl⟩ | apply gain_ext | apply gain_alloc | apply gain_drewN | apply gain_drew) | (refine gain_setCell ?_ (by first | exact Nat.le_refl _ | exact World.size_ext _ _ | (simp; done) | (simp; omega)) _))))
  have hsz : (w.alloc (.cells #[.int .i64 0, .int .i64 0, .slice none 0 0, .slice none 0 0] 26)).heap.size = w.heap.size + 1 := World.size_alloc _ _
  have HRZ := Lib.hid (heap_alloc_new w (.cells #[.int .i64 0, .int .i64 0, .slice none 0 0, .slice none 0 0] 26))
  have HCN := Lib.hid (cur_new (e := 76) (sl_up byteC_length hs.out HW1.out) HQ.out hl)
  go_enter Try.func39, Try.ntmps39
  go_wp2_with fail
  generalize hW1 : w.alloc (.cells #[.int .i64 0, .int .i64 0, .slice none 0 0, .slice none 0 0] 26) = W1 at HW1 HCN HRZ hsz ⊢
  rw [hsz] at HCN
  refine (mapOf_any W1 _ (w.heap.size + 1) 0 HCN.out (by omega)).mono ?_
  rintro e wm ⟨m, rv, cv, rfl, ho1, ho2, -, hrl, hcl, hc1, hg1⟩
  have HRS := Lib.hid (row_keep (row_up HRZ.out (by repeat (first | with_reducible (first | exact World.gained_refl _ | exact ⟨_, rfl⟩ | apply gain_ext | apply gain_alloc | apply gain_drewN | apply gain_drew) | (refine gain_setCell ?_ (by first | exact Nat.le_refl _ | exact World.size_ext _ _ | (simp; done) | (simp; omega)) _)))) hg1 (fun q e => by cases e; omega))
  have hlm := only_size hg1
  have hgm := hc1.lt
  have HCU := Lib.hid hc1
  have HR := Lib.hid ho1
  have HCO := Lib.hid ho2
  have hlo : w.heap.size + 1 < (W1.alloc (.cells #[.slice p L.length c, .int .i64 0, .int .u64 0] 76)).heap.size := by rw [World.size_alloc, hsz]; omega
  generalize (W1.alloc (.cells #[.slice p L.length c, .int .i64 0, .int .u64 0] 76)).heap.size = lo at hlo HR HCO hlm
  obtain ⟨pr, nr, kr, rfl⟩ := own_form ho1
  obtain ⟨pc, nc, kc, rfl⟩ := own_form ho2
  replace hrl : m.rise.length ≤ 1048576 := by omega
  replace hcl : m.cost.length ≤ 1048576 := by omega
  clear hc1 hg1 ho1 ho2 hW1
  have hglo : w.heap.size + 1 < lo := hlo
  generalize hg : w.heap.size + 1 = g at HCU hglo hgm ⊢
  go_upto_region 3 with fail
  have HB0 := Lib.hid (heap_alloc_new wm (.cells #[.int .i64 m.wd, .int .i64 m.ht, .slice pr nr kr, .slice pc nc kc] 26))
  have HS0 := Lib.hid (row_up HRS.out (w' := wm.alloc (.cells #[.int .i64 m.wd, .int .i64 m.ht, .slice pr nr kr, .slice pc nc kc] 26)) (by repeat (first | with_reducible (first | exact World.gained_refl _ | exact ⟨_, rfl⟩ | apply gain_ext | apply gain_alloc | apply gain_drewN | apply gain_drew) | (refine gain_setCell ?_ (by first | exact Nat.le_refl _ | exact World.size_ext _ _ | (simp; done) | (simp; omega)) _))))
  have HC0 := Lib.hid (HCU.out.gain (w' := wm.alloc (.cells #[.int .i64 m.wd, .int .i64 m.ht, .slice pr nr kr, .slice pc nc kc] 26)) (by repeat (first | with_reducible (first | exact World.gained_refl _ | exact ⟨_, rfl⟩ | apply gain_ext | apply gain_alloc | apply gain_drewN | apply gain_drew) | (refine gain_setCell ?_ (by first | exact Nat.le_refl _ | exact World.size_ext _ _ | (simp; done) | (simp; omega)) _))))
  have HO0 := Lib.hid (own_up HR.out (w' := wm.alloc (.cells #[.int .i64 m.wd, .int .i64 m.ht, .slice pr nr kr, .slice pc nc kc] 26)) (by repeat (first | with_reducible (first | exact World.gained_refl _ | exact ⟨_, rfl⟩ | apply gain_ext | apply gain_alloc | apply gain_drewN | apply gain_drew) | (refine gain_setCell ?_ (by first | exact Nat.le_refl _ | exact World.size_ext _ _ | (simp; done) | (simp; omega)) _))))
  have HP0 := Lib.hid (own_up HCO.out (w' := wm.alloc (.cells #[.int .i64 m.wd, .int .i64 m.ht, .slice pr nr kr, .slice pc nc kc] 26)) (by repeat (first | with_reducible (first | exact World.gained_refl _ | exact ⟨_, rfl⟩ | apply gain_ext | apply gain_alloc | apply gain_drewN | apply gain_drew) | (refine gain_setCell ?_ (by first | exact Nat.le_refl _ | exact World.size_ext _ _ | (simp; done) | (simp; omega)) _))))
  generalize wm.alloc (.cells #[.int .i64 m.wd, .int .i64 m.ht, .slice pr nr kr, .slice pc nc kc] 26) = ww0 at HB0 HS0 HC0 HO0 HP0 ⊢
  generalize wm.heap.size = gM at HB0 hgm hlm ⊢
  refine wp_region_held_drew (S := (fun w' => w'.cell? ⟨gM, 0, none⟩ = some (.int .i64 m.wd) ∧ w'.cell? ⟨gM, 1, none⟩ = some (.int .i64 m.ht) ∧ w'.cell? ⟨gM, 2, none⟩ = some (.slice pr nr kr) ∧ w'.cell? ⟨gM, 3, none⟩ = some (.slice pc nc kc))) (by kernel_rfl) ⟨World.cell_of_heap HB0.out 0, World.cell_of_heap HB0.out 1, World.cell_of_heap HB0.out 2, World.cell_of_heap HB0.out 3⟩ (fun hHeld => ?_)
  refine wpAnyH_take (i := 0) (oi := ⟨_, _, _, _, _, _⟩) (v := ?_) rfl (by kernel_rfl) (by kernel_rfl) (by kernel_rfl) (fun _ _ _ h => h) (Or.inl ⟨by rfl, ?_⟩) (by assumption) ?_
  rotate_left
  · intro w hSw; (try dsimp only at hSw); go_simp; (try with_reducible rfl)
  try simp only [Act.put, List.setIfInBounds_toArray, List.set_cons_zero, List.set_cons_succ]
  refine wpAnyH_take (i := 1) (oi := ⟨_, _, _, _, _, _⟩) (v := ?_) rfl (by kernel_rfl) (by kernel_rfl) (by kernel_rfl) (fun _ _ _ h => h) (Or.inl ⟨by rfl, ?_⟩) (by assumption) ?_
  rotate_left
  · intro w hSw; (try dsimp only at hSw); go_simp; (try with_reducible rfl)
  try simp only [Act.put, List.setIfInBounds_toArray, List.set_cons_zero, List.set_cons_succ]
  refine wpAnyH_take (i := 2) (oi := ⟨_, _, _, _, _, _⟩) (v := ?_) rfl (by kernel_rfl) (by kernel_rfl) (by kernel_rfl) (fun _ _ _ h => h) (Or.inl ⟨by rfl, ?_⟩) (by assumption) ?_
  rotate_left
  · intro w hSw; (try dsimp only at hSw); go_simp; (try with_reducible rfl)
  try simp only [Act.put, List.setIfInBounds_toArray, List.set_cons_zero, List.set_cons_succ]
  refine wpAnyH_take (i := 4) (oi := ⟨_, _, _, _, _, _⟩) (v := ?_) rfl (by kernel_rfl) (by kernel_rfl) (by kernel_rfl) (fun _ _ _ h => h) (Or.inl ⟨by rfl, ?_⟩) (by assumption) ?_
  rotate_left
  · intro w hSw; (try dsimp only at hSw); go_simp; (try with_reducible rfl)
  try simp only [Act.put, List.setIfInBounds_toArray, List.set_cons_zero, List.set_cons_succ]
  refine wpAnyH_take (i := 5) (oi := ⟨_, _, _, _, _, _⟩) (v := ?_) rfl (by kernel_rfl) (by kernel_rfl) (by kernel_rfl) (fun _ _ _ h => h) (Or.inl ⟨by rfl, ?_⟩) (by assumption) ?_
  rotate_left
  · intro w hSw; (try dsimp only at hSw); go_simp; (try with_reducible rfl)
  try simp only [Act.put, List.setIfInBounds_toArray, List.set_cons_zero, List.set_cons_succ]
  refine wpAnyH_take (i := 7) (oi := ⟨_, _, _, _, _, _⟩) (v := ?_) rfl (by kernel_rfl) (by kernel_rfl) (by kernel_rfl) (fun _ _ _ h => h) (Or.inl ⟨by rfl, ?_⟩) (by assumption) ?_
  rotate_left
  · intro w hSw; (try dsimp only at hSw); go_simp; (try with_reducible rfl)
  try simp only [Act.put, List.setIfInBounds_toArray, List.set_cons_zero, List.set_cons_succ]
  refine wpAnyH_take (i := 8) (oi := ⟨_, _, _, _, _, _⟩) (v := ?_) rfl (by kernel_rfl) (by kernel_rfl) (by kernel_rfl) (fun _ _ _ h => h) (Or.inl ⟨by rfl, ?_⟩) (by assumption) ?_
  rotate_left
  · intro w hSw; (try dsimp only at hSw); go_simp; (try with_reducible rfl)
  try simp only [Act.put, List.setIfInBounds_toArray, List.set_cons_zero, List.set_cons_succ]
  refine wpAnyH_ready (rs := [3]) (by kernel_rfl) (by simp) ?_
  refine AllReadyH.cons rfl (fun K hK => ?_) (AllReadyH.nil)
  go_simp
  go_wp2_with fail
  refine (openCell_any _ _ g _ lo m _ _ (HC0.out.gain (by repeat (first | with_reducible (first | exact World.gained_refl _ | exact ⟨_, rfl⟩ | apply gain_ext | apply gain_alloc | apply gain_drewN | apply gain_drew) | (refine gain_setCell ?_ (by first | exact Nat.le_refl _ | exact World.size_ext _ _ | (simp; done) | (simp; omega)) _)))) (by omega) hglo (own_up HO0.out (by repeat (first | with_reducible (first | exact World.gained_refl _ | exact ⟨_, rfl⟩ | apply gain_ext | apply gain_alloc | apply gain_drewN | apply gain_drew) | (refine gain_setCell ?_ (by first | exact Nat.le_refl _ | exact World.size_ext _ _ | (simp; done) | (simp; omega)) _)))) (own_up HP0.out (by repeat (first | with_reducible (first | exact World.gained_refl _ | exact ⟨_, rfl⟩ | apply gain_ext | apply gain_alloc | apply gain_drewN | apply gain_drew) | (refine gain_setCell ?_ (by first | exact Nat.le_refl _ | exact World.size_ext _ _ | (simp; done) | (simp; omega)) _)))) hrl hcl).mono ?_
  rintro e ww1 ⟨x0, rfl, hc1, hg1⟩
  have HB1 := Lib.hid (row_keep (row_up HB0.out (by repeat (first | with_reducible (first | exact World.gained_refl _ | exact ⟨_, rfl⟩ | apply gain_ext | apply gain_alloc | apply gain_drewN | apply gain_drew) | (refine gain_setCell ?_ (by first | exact Nat.le_refl _ | exact World.size_ext _ _ | (simp; done) | (simp; omega)) _)))) hg1 (fun q e => by cases e; omega))
  have HS1 := Lib.hid (row_keep (row_up HS0.out (by repeat (first | with_reducible (first | exact World.gained_refl _ | exact ⟨_, rfl⟩ | apply gain_ext | apply gain_alloc | apply gain_drewN | apply gain_drew) | (refine gain_setCell ?_ (by first | exact Nat.le_refl _ | exact World.size_ext _ _ | (simp; done) | (simp; omega)) _)))) hg1 (fun q e => by cases e; omega))
  have HO1 := Lib.hid (own_cur (own_up HO0.out (by repeat (first | with_reducible (first | exact World.gained_refl _ | exact ⟨_, rfl⟩ | apply gain_ext | apply gain_alloc | apply gain_drewN | apply gain_drew) | (refine gain_setCell ?_ (by first | exact Nat.le_refl _ | exact World.size_ext _ _ | (simp; done) | (simp; omega)) _)))) hglo hg1)
  have HP1 := Lib.hid (own_cur (own_up HP0.out (by repeat (first | with_reducible (first | exact World.gained_refl _ | exact ⟨_, rfl⟩ | apply gain_ext | apply gain_alloc | apply gain_drewN | apply gain_drew) | (refine gain_setCell ?_ (by first | exact Nat.le_refl _ | exact World.size_ext _ _ | (simp; done) | (simp; omega)) _)))) hglo hg1)
  have HC1 := Lib.hid hc1
  clear hc1 hg1
  (try dsimp only)
  refine hK.out _ _ ?_ (fun hHeld => ?_)
  · exact ⟨World.cell_of_heap HB1.out 0, World.cell_of_heap HB1.out 1, World.cell_of_heap HB1.out 2, World.cell_of_heap HB1.out 3⟩
  clear hK K
  try simp only [Act.put, List.setIfInBounds_toArray, List.set_cons_zero, List.set_cons_succ]
  refine wpAnyH_ready (rs := [6]) (by kernel_rfl) (by simp) ?_
  refine AllReadyH.cons rfl (fun K hK => ?_) (AllReadyH.nil)
  go_simp
  go_wp2_with fail
  refine (openCell_any _ _ g _ lo m _ _ (HC1.out.gain (by repeat (first | with_reducible (first | exact World.gained_refl _ | exact ⟨_, rfl⟩ | apply gain_ext | apply gain_alloc | apply gain_drewN | apply gain_drew) | (refine gain_setCell ?_ (by first | exact Nat.le_refl _ | exact World.size_ext _ _ | (simp; done) | (simp; omega)) _)))) (by omega) hglo (own_up HO1.out (by repeat (first | with_reducible (first | exact World.gained_refl _ | exact ⟨_, rfl⟩ | apply gain_ext | apply gain_alloc | apply gain_drewN | apply gain_drew) | (refine gain_setCell ?_ (by first | exact Nat.le_refl _ | exact World.size_ext _ _ | (simp; done) | (simp; omega)) _)))) (own_up HP1.out (by repeat (first | with_reducible (first | exact World.gained_refl _ | exact ⟨_, rfl⟩ | apply gain_ext | apply gain_alloc | apply gain_drewN | apply gain_drew) | (refine gain_setCell ?_ (by first | exact Nat.le_refl _ | exact World.size_ext _ _ | (simp; done) | (simp; omega)) _)))) hrl hcl).mono ?_
  rintro e ww2 ⟨x1, rfl, hc1, hg1⟩
  have HB2 := Lib.hid (row_keep (row_up HB1.out (by repeat (first | with_reducible (first | exact World.gained_refl _ | exact ⟨_, rfl⟩ | apply gain_ext | apply gain_alloc | apply gain_drewN | apply gain_drew) | (refine gain_setCell ?_ (by first | exact Nat.le_refl _ | exact World.size_ext _ _ | (simp; done) | (simp; omega)) _)))) hg1 (fun q e => by cases e; omega))
  have HS2 := Lib.hid (row_keep (row_up HS1.out (by repeat (first | with_reducible (first | exact World.gained_refl _ | exact ⟨_, rfl⟩ | apply gain_ext | apply gain_alloc | apply gain_drewN | apply gain_drew) | (refine gain_setCell ?_ (by first | exact Nat.le_refl _ | exact World.size_ext _ _ | (simp; done) | (simp; omega)) _)))) hg1 (fun q e => by cases e; omega))
  have HO2 := Lib.hid (own_cur (own_up HO1.out (by repeat (first | with_reducible (first | exact World.gained_refl _ | exact ⟨_, rfl⟩ | apply gain_ext | apply gain_alloc | apply gain_drewN | apply gain_drew) | (refine gain_setCell ?_ (by first | exact Nat.le_refl _ | exact World.size_ext _ _ | (simp; done) | (simp; omega)) _)))) hglo hg1)
  have HP2 := Lib.hid (own_cur (own_up HP1.out (by repeat (first | with_reducible (first | exact World.gained_refl _ | exact ⟨_, rfl⟩ | apply gain_ext | apply gain_alloc | apply gain_drewN | apply gain_drew) | (refine gain_setCell ?_ (by first | exact Nat.le_refl _ | exact World.size_ext _ _ | (simp; done) | (simp; omega)) _)))) hglo hg1)
  have HC2 := Lib.hid hc1
  clear hc1 hg1
  (try dsimp only)
  refine hK.out _ _ ?_ (fun hHeld => ?_)
  · exact ⟨World.cell_of_heap HB2.out 0, World.cell_of_heap HB2.out 1, World.cell_of_heap HB2.out 2, World.cell_of_heap HB2.out 3⟩
  clear hK K
  try simp only [Act.put, List.setIfInBounds_toArray, List.set_cons_zero, List.set_cons_succ]
  refine wpAnyH_ready (rs := [9]) (by kernel_rfl) (by simp) ?_
  refine AllReadyH.cons rfl (fun K hK => ?_) (AllReadyH.nil)
  go_simp
  go_wp2_with fail
  refine (openCell_any _ _ g _ lo m _ _ (HC2.out.gain (by repeat (first | with_reducible (first | exact World.gained_refl _ | exact ⟨_, rfl⟩ | apply gain_ext | apply gain_alloc | apply gain_drewN | apply gain_drew) | (refine gain_setCell ?_ (by first | exact Nat.le_refl _ | exact World.size_ext _ _ | (simp; done) | (simp; omega)) _)))) (by omega) hglo (own_up HO2.out (by repeat (first | with_reducible (first | exact World.gained_refl _ | exact ⟨_, rfl⟩ | apply gain_ext | apply gain_alloc | apply gain_drewN | apply gain_drew) | (refine gain_setCell ?_ (by first | exact Nat.le_refl _ | exact World.size_ext _ _ | (simp; done) | (simp; omega)) _)))) (own_up HP2.out (by repeat (first | with_reducible (first | exact World.gained_refl _ | exact ⟨_, rfl⟩ | apply gain_ext | apply gain_alloc | apply gain_drewN | apply gain_drew) | (refine gain_setCell ?_ (by first | exact Nat.le_refl _ | exact World.size_ext _ _ | (simp; done) | (simp; omega)) _)))) hrl hcl).mono ?_
  rintro e ww3 ⟨x2, rfl, hc1, hg1⟩
  have HB3 := Lib.hid (row_keep (row_up HB2.out (by repeat (first | with_reducible (first | exact World.gained_refl _ | exact ⟨_, rfl⟩ | apply gain_ext | apply gain_alloc | apply gain_drewN | apply gain_drew) | (refine gain_setCell ?_ (by first | exact Nat.le_refl _ | exact World.size_ext _ _ | (simp; done) | (simp; omega)) _)))) hg1 (fun q e => by cases e; omega))
  have HS3 := Lib.hid (row_keep (row_up HS2.out (by repeat (first | with_reducible (first | exact World.gained_refl _ | exact ⟨_, rfl⟩ | apply gain_ext | apply gain_alloc | apply gain_drewN | apply gain_drew) | (refine gain_setCell ?_ (by first | exact Nat.le_refl _ | exact World.size_ext _ _ | (simp; done) | (simp; omega)) _)))) hg1 (fun q e => by cases e; omega))
  have HO3 := Lib.hid (own_cur (own_up HO2.out (by repeat (first | with_reducible (first | exact World.gained_refl _ | exact ⟨_, rfl⟩ | apply gain_ext | apply gain_alloc | apply gain_drewN | apply gain_drew) | (refine gain_setCell ?_ (by first | exact Nat.le_refl _ | exact World.size_ext _ _ | (simp; done) | (simp; omega)) _)))) hglo hg1)
  have HP3 := Lib.hid (own_cur (own_up HP2.out (by repeat (first | with_reducible (first | exact World.gained_refl _ | exact ⟨_, rfl⟩ | apply gain_ext | apply gain_alloc | apply gain_drewN | apply gain_drew) | (refine gain_setCell ?_ (by first | exact Nat.le_refl _ | exact World.size_ext _ _ | (simp; done) | (simp; omega)) _)))) hglo hg1)
  have HC3 := Lib.hid hc1
  clear hc1 hg1
  (try dsimp only)
  refine hK.out _ _ ?_ (fun hHeld => ?_)
  · exact ⟨World.cell_of_heap HB3.out 0, World.cell_of_heap HB3.out 1, World.cell_of_heap HB3.out 2, World.cell_of_heap HB3.out 3⟩
  clear hK K
  try simp only [Act.put, List.setIfInBounds_toArray, List.set_cons_zero, List.set_cons_succ]
  have ey0 : ww3.cell? ⟨w.heap.size, 0, none⟩ = some (.int .i64 0) := World.cell_of_heap HS3.out 0
  have ez0 : ww3.frozen? ⟨w.heap.size, 0, none⟩ = false := World.free_of_heap HS3.out 0
  have ey1 : ww3.cell? ⟨w.heap.size, 1, none⟩ = some (.int .i64 0) := World.cell_of_heap HS3.out 1
  have ez1 : ww3.frozen? ⟨w.heap.size, 1, none⟩ = false := World.free_of_heap HS3.out 1
  have ey2 : ww3.cell? ⟨w.heap.size, 2, none⟩ = some (.slice none 0 0) := World.cell_of_heap HS3.out 2
  have ez2 : ww3.frozen? ⟨w.heap.size, 2, none⟩ = false := World.free_of_heap HS3.out 2
  have ey3 : ww3.cell? ⟨w.heap.size, 3, none⟩ = some (.slice none 0 0) := World.cell_of_heap HS3.out 3
  have ez3 : ww3.frozen? ⟨w.heap.size, 3, none⟩ = false := World.free_of_heap HS3.out 3
  have eoc := World.oldB_of_cell ey0
  have gw0 := World.heap_setCell_row HS3.out 0 (.int .i64 m.wd)
  have gc0 : (ww3.setCell ⟨w.heap.size, 0, none⟩ (.int .i64 m.wd)).cell? ⟨w.heap.size, 0, none⟩ = some (.int .i64 m.wd) := World.cell_of_heap gw0 0
  have gw1 := World.heap_setCell_row gw0 1 (.int .i64 m.ht)
  have gc1 : ((ww3.setCell ⟨w.heap.size, 0, none⟩ (.int .i64 m.wd)).setCell ⟨w.heap.size, 1, none⟩ (.int .i64 m.ht)).cell? ⟨w.heap.size, 1, none⟩ = some (.int .i64 m.ht) := World.cell_of_heap gw1 1
  have gw2 := World.heap_setCell_row gw1 2 (.slice pr nr kr)
  have gc2 : (((ww3.setCell ⟨w.heap.size, 0, none⟩ (.int .i64 m.wd)).setCell ⟨w.heap.size, 1, none⟩ (.int .i64 m.ht)).setCell ⟨w.heap.size, 2, none⟩ (.slice pr nr kr)).cell? ⟨w.heap.size, 2, none⟩ = some (.slice pr nr kr) := World.cell_of_heap gw2 2
  have gw3 := World.heap_setCell_row gw2 3 (.slice pc nc kc)
  have gc3 : ((((ww3.setCell ⟨w.heap.size, 0, none⟩ (.int .i64 m.wd)).setCell ⟨w.heap.size, 1, none⟩ (.int .i64 m.ht)).setCell ⟨w.heap.size, 2, none⟩ (.slice pr nr kr)).setCell ⟨w.heap.size, 3, none⟩ (.slice pc nc kc)).cell? ⟨w.heap.size, 3, none⟩ = some (.slice pc nc kc) := World.cell_of_heap gw3 3
  clear gw0 gw1 gw2 gw3
  have hon : ww3.grownBy ((((ww3.setCell ⟨w.heap.size, 0, none⟩ (.int .i64 m.wd)).setCell ⟨w.heap.size, 1, none⟩ (.int .i64 m.ht)).setCell ⟨w.heap.size, 2, none⟩ (.slice pr nr kr)).setCell ⟨w.heap.size, 3, none⟩ (.slice pc nc kc)) (some w.heap.size) := by repeat (first | exact only_refl _ _ | refine only_setCell ?_ rfl _)
  have HBF := Lib.hid (row_keep HB3.out hon (fun q e => by cases e; omega))
  have HF1 := Lib.hid (own_not HO3.out (fun q e => by have := (own_lt HO3.out q e).1; omega) hon)
  have HF2 := Lib.hid (own_not HP3.out (fun q e => by have := (own_lt HP3.out q e).1; omega) hon)
  have HFG := Lib.hid (gain_grown (gain_trans HW1.out HC3.out.up) hon (fun q e => by cases e; omega))
  clear hon
  refine wpAnyH_ready (rs := [10]) (by kernel_rfl) (by simp) ?_
  refine AllReadyH.cons rfl (fun K hK => ?_) (AllReadyH.nil)
  go_simp
  refine hK.out _ _ ?_ (fun hHeld => ?_)
  · exact ⟨World.cell_of_heap HBF.out 0, World.cell_of_heap HBF.out 1, World.cell_of_heap HBF.out 2, World.cell_of_heap HBF.out 3⟩
  clear hK K
  try simp only [Act.put, List.setIfInBounds_toArray, List.set_cons_zero, List.set_cons_succ]
  refine wpAnyH_take (i := 11) (oi := ⟨_, _, _, _, _, _⟩) (v := ?_) rfl (by kernel_rfl) (by kernel_rfl) (by kernel_rfl) (fun _ _ _ h => h) (Or.inl ⟨by rfl, ?_⟩) (by assumption) ?_
  rotate_left
  · intro w hSw; (try dsimp only at hSw); go_simp; (try with_reducible rfl)
  try simp only [Act.put, List.setIfInBounds_toArray, List.set_cons_zero, List.set_cons_succ]
  refine wpAnyH_take (i := 12) (oi := ⟨_, _, _, _, _, _⟩) (v := ?_) rfl (by kernel_rfl) (by kernel_rfl) (by kernel_rfl) (fun _ _ _ h => h) (Or.inl ⟨by rfl, ?_⟩) (by assumption) ?_
  rotate_left
  · intro w hSw; (try dsimp only at hSw); go_simp; (try with_reducible rfl)
  try simp only [Act.put, List.setIfInBounds_toArray, List.set_cons_zero, List.set_cons_succ]
  refine wpAnyH_take (i := 13) (oi := ⟨_, _, _, _, _, _⟩) (v := ?_) rfl (by kernel_rfl) (by kernel_rfl) (by kernel_rfl) (fun _ _ _ h => h) (Or.inl ⟨by rfl, ?_⟩) (by assumption) ?_
  rotate_left
  · intro w hSw; (try dsimp only at hSw); go_simp; (try with_reducible rfl)
  try simp only [Act.put, List.setIfInBounds_toArray, List.set_cons_zero, List.set_cons_succ]
  refine wpAnyH_done (by kernel_rfl) ?_ _
  go_wp2
  refine bodyPost_ret (v := .tuple #[.agg #[.int .i64 m.wd, .int .i64 m.ht, .slice pr nr kr, .slice pc nc kc], .int .i64 x0, .int .i64 x1, .int .i64 x2]) (by simp [results, Try.results39, go_sem, gc0, gc1, gc2, gc3]) rfl ?_
  exact ⟨m, _, _, _, _, _, rfl, HFG.out, ⟨sl_of_own intC_length HF1.out, sl_of_own intC_length HF2.out, hrl, hcl⟩⟩
set_option maxHeartbeats 4000000 in
set_option maxRecDepth 100000 in
theorem drawLeast_any (v : Value) (L : List Int) (w : World) (h : w.sl byteC 1 v L) (hq : ∀ x ∈ L, 0 ≤ x ∧ x ≤ 255) (hl : L.length ≤ 1048576) :
    Calls Try.prog 71 #[v] w fun x w' => ∃ (m : Mp) (rv cv : Value) (x0 x1 : Int), x = .returned (.tuple #[.agg #[.int .i64 m.wd, .int .i64 m.ht, rv, cv], .int .i64 x0, .int .i64 x1]) ∧ (∃ d, w' = w.ext d) ∧ w'.mp rv cv m := by
  have hs := Lib.hid h
  have HQ := Lib.hid hq
  obtain ⟨p, c, rfl, _⟩ := h
  clear hq
  have HW1 := Lib.hid (show ∃ d, w.alloc (.cells #[.int .i64 0, .int .i64 0, .slice none 0 0, .slice none 0 0] 26) = w.ext d from (by repeat (first | with_reducible (first | exact World.gained_refl _ | exact ⟨_, rfl⟩ | apply gain_ext | apply gain_alloc | apply gain_drewN | apply gain_drew) | (refine gain_setCell ?_ (by first | exact Nat.le_refl _ | exact World.size_ext _ _ | (simp; done) | (simp; omega)) _))))
  have hsz : (w.alloc (.cells #[.int .i64 0, .int .i64 0, .slice none 0 0, .slice none 0 0] 26)).heap.size = w.heap.size + 1 := World.size_alloc _ _
  have HRZ := Lib.hid (heap_alloc_new w (.cells #[.int .i64 0, .int .i64 0, .slice none 0 0, .slice none 0 0] 26))
  have HCN := Lib.hid (cur_new (e := 76) (sl_up byteC_length hs.out HW1.out) HQ.out hl)
  go_enter Try.func71, Try.ntmps71
  go_wp2_with fail
  generalize hW1 : w.alloc (.cells #[.int .i64 0, .int .i64 0, .slice none 0 0, .slice none 0 0] 26) = W1 at HW1 HCN HRZ hsz ⊢
  rw [hsz] at HCN
  refine (mapOf_any W1 _ (w.heap.size + 1) 0 HCN.out (by omega)).mono ?_
  rintro e wm ⟨m, rv, cv, rfl, ho1, ho2, -, hrl, hcl, hc1, hg1⟩
  have HRS := Lib.hid (row_keep (row_up HRZ.out (by repeat (first | with_reducible (first | exact World.gained_refl _ | exact ⟨_, rfl⟩ | apply gain_ext | apply gain_alloc | apply gain_drewN | apply gain_drew) | (refine gain_setCell ?_ (by first | exact Nat.le_refl _ | exact World.size_ext _ _ | (simp; done) | (simp; omega)) _)))) hg1 (fun q e => by cases e; omega))
  have hlm := only_size hg1
  have hgm := hc1.lt
  have HCU := Lib.hid hc1
  have HR := Lib.hid ho1
  have HCO := Lib.hid ho2
  have hlo : w.heap.size + 1 < (W1.alloc (.cells #[.slice p L.length c, .int .i64 0, .int .u64 0] 76)).heap.size := by rw [World.size_alloc, hsz]; omega
  generalize (W1.alloc (.cells #[.slice p L.length c, .int .i64 0, .int .u64 0] 76)).heap.size = lo at hlo HR HCO hlm
  obtain ⟨pr, nr, kr, rfl⟩ := own_form ho1
  obtain ⟨pc, nc, kc, rfl⟩ := own_form ho2
  replace hrl : m.rise.length ≤ 1048576 := by omega
  replace hcl : m.cost.length ≤ 1048576 := by omega
  clear hc1 hg1 ho1 ho2 hW1
  have hglo : w.heap.size + 1 < lo := hlo
  generalize hg : w.heap.size + 1 = g at HCU hglo hgm ⊢
  go_upto_region 3 with fail
  have HB0 := Lib.hid (heap_alloc_new wm (.cells #[.int .i64 m.wd, .int .i64 m.ht, .slice pr nr kr, .slice pc nc kc] 26))
  have HS0 := Lib.hid (row_up HRS.out (w' := wm.alloc (.cells #[.int .i64 m.wd, .int .i64 m.ht, .slice pr nr kr, .slice pc nc kc] 26)) (by repeat (first | with_reducible (first | exact World.gained_refl _ | exact ⟨_, rfl⟩ | apply gain_ext | apply gain_alloc | apply gain_drewN | apply gain_drew) | (refine gain_setCell ?_ (by first | exact Nat.le_refl _ | exact World.size_ext _ _ | (simp; done) | (simp; omega)) _))))
  have HC0 := Lib.hid (HCU.out.gain (w' := wm.alloc (.cells #[.int .i64 m.wd, .int .i64 m.ht, .slice pr nr kr, .slice pc nc kc] 26)) (by repeat (first | with_reducible (first | exact World.gained_refl _ | exact ⟨_, rfl⟩ | apply gain_ext | apply gain_alloc | apply gain_drewN | apply gain_drew) | (refine gain_setCell ?_ (by first | exact Nat.le_refl _ | exact World.size_ext _ _ | (simp; done) | (simp; omega)) _))))
  have HO0 := Lib.hid (own_up HR.out (w' := wm.alloc (.cells #[.int .i64 m.wd, .int .i64 m.ht, .slice pr nr kr, .slice pc nc kc] 26)) (by repeat (first | with_reducible (first | exact World.gained_refl _ | exact ⟨_, rfl⟩ | apply gain_ext | apply gain_alloc | apply gain_drewN | apply gain_drew) | (refine gain_setCell ?_ (by first | exact Nat.le_refl _ | exact World.size_ext _ _ | (simp; done) | (simp; omega)) _))))
  have HP0 := Lib.hid (own_up HCO.out (w' := wm.alloc (.cells #[.int .i64 m.wd, .int .i64 m.ht, .slice pr nr kr, .slice pc nc kc] 26)) (by repeat (first | with_reducible (first | exact World.gained_refl _ | exact ⟨_, rfl⟩ | apply gain_ext | apply gain_alloc | apply gain_drewN | apply gain_drew) | (refine gain_setCell ?_ (by first | exact Nat.le_refl _ | exact World.size_ext _ _ | (simp; done) | (simp; omega)) _))))
  generalize wm.alloc (.cells #[.int .i64 m.wd, .int .i64 m.ht, .slice pr nr kr, .slice pc nc kc] 26) = ww0 at HB0 HS0 HC0 HO0 HP0 ⊢
  generalize wm.heap.size = gM at HB0 hgm hlm ⊢
  refine wp_region_held_drew (S := (fun w' => w'.cell? ⟨gM, 0, none⟩ = some (.int .i64 m.wd) ∧ w'.cell? ⟨gM, 1, none⟩ = some (.int .i64 m.ht) ∧ w'.cell? ⟨gM, 2, none⟩ = some (.slice pr nr kr) ∧ w'.cell? ⟨gM, 3, none⟩ = some (.slice pc nc kc))) (by kernel_rfl) ⟨World.cell_of_heap HB0.out 0, World.cell_of_heap HB0.out 1, World.cell_of_heap HB0.out 2, World.cell_of_heap HB0.out 3⟩ (fun hHeld => ?_)
  refine wpAnyH_take (i := 0) (oi := ⟨_, _, _, _, _, _⟩) (v := ?_) rfl (by kernel_rfl) (by kernel_rfl) (by kernel_rfl) (fun _ _ _ h => h) (Or.inl ⟨by rfl, ?_⟩) (by assumption) ?_
  rotate_left
  · intro w hSw; (try dsimp only at hSw); go_simp; (try with_reducible rfl)
  try simp only [Act.put, List.setIfInBounds_toArray, List.set_cons_zero, List.set_cons_succ]
  refine wpAnyH_take (i := 1) (oi := ⟨_, _, _, _, _, _⟩) (v := ?_) rfl (by kernel_rfl) (by kernel_rfl) (by kernel_rfl) (fun _ _ _ h => h) (Or.inl ⟨by rfl, ?_⟩) (by assumption) ?_
  rotate_left
  · intro w hSw; (try dsimp only at hSw); go_simp; (try with_reducible rfl)
  try simp only [Act.put, List.setIfInBounds_toArray, List.set_cons_zero, List.set_cons_succ]
  refine wpAnyH_take (i := 2) (oi := ⟨_, _, _, _, _, _⟩) (v := ?_) rfl (by kernel_rfl) (by kernel_rfl) (by kernel_rfl) (fun _ _ _ h => h) (Or.inl ⟨by rfl, ?_⟩) (by assumption) ?_
  rotate_left
  · intro w hSw; (try dsimp only at hSw); go_simp; (try with_reducible rfl)
  try simp only [Act.put, List.setIfInBounds_toArray, List.set_cons_zero, List.set_cons_succ]
  refine wpAnyH_take (i := 4) (oi := ⟨_, _, _, _, _, _⟩) (v := ?_) rfl (by kernel_rfl) (by kernel_rfl) (by kernel_rfl) (fun _ _ _ h => h) (Or.inl ⟨by rfl, ?_⟩) (by assumption) ?_
  rotate_left
  · intro w hSw; (try dsimp only at hSw); go_simp; (try with_reducible rfl)
  try simp only [Act.put, List.setIfInBounds_toArray, List.set_cons_zero, List.set_cons_succ]
  refine wpAnyH_take (i := 5) (oi := ⟨_, _, _, _, _, _⟩) (v := ?_) rfl (by kernel_rfl) (by kernel_rfl) (by kernel_rfl) (fun _ _ _ h => h) (Or.inl ⟨by rfl, ?_⟩) (by assumption) ?_
  rotate_left
  · intro w hSw; (try dsimp only at hSw); go_simp; (try with_reducible rfl)
  try simp only [Act.put, List.setIfInBounds_toArray, List.set_cons_zero, List.set_cons_succ]
  refine wpAnyH_ready (rs := [3]) (by kernel_rfl) (by simp) ?_
  refine AllReadyH.cons rfl (fun K hK => ?_) (AllReadyH.nil)
  go_simp
  go_wp2_with fail
  refine (openCell_any _ _ g _ lo m _ _ (HC0.out.gain (by repeat (first | with_reducible (first | exact World.gained_refl _ | exact ⟨_, rfl⟩ | apply gain_ext | apply gain_alloc | apply gain_drewN | apply gain_drew) | (refine gain_setCell ?_ (by first | exact Nat.le_refl _ | exact World.size_ext _ _ | (simp; done) | (simp; omega)) _)))) (by omega) hglo (own_up HO0.out (by repeat (first | with_reducible (first | exact World.gained_refl _ | exact ⟨_, rfl⟩ | apply gain_ext | apply gain_alloc | apply gain_drewN | apply gain_drew) | (refine gain_setCell ?_ (by first | exact Nat.le_refl _ | exact World.size_ext _ _ | (simp; done) | (simp; omega)) _)))) (own_up HP0.out (by repeat (first | with_reducible (first | exact World.gained_refl _ | exact ⟨_, rfl⟩ | apply gain_ext | apply gain_alloc | apply gain_drewN | apply gain_drew) | (refine gain_setCell ?_ (by first | exact Nat.le_refl _ | exact World.size_ext _ _ | (simp; done) | (simp; omega)) _)))) hrl hcl).mono ?_
  rintro e ww1 ⟨x0, rfl, hc1, hg1⟩
  have HB1 := Lib.hid (row_keep (row_up HB0.out (by repeat (first | with_reducible (first | exact World.gained_refl _ | exact ⟨_, rfl⟩ | apply gain_ext | apply gain_alloc | apply gain_drewN | apply gain_drew) | (refine gain_setCell ?_ (by first | exact Nat.le_refl _ | exact World.size_ext _ _ | (simp; done) | (simp; omega)) _)))) hg1 (fun q e => by cases e; omega))
  have HS1 := Lib.hid (row_keep (row_up HS0.out (by repeat (first | with_reducible (first | exact World.gained_refl _ | exact ⟨_, rfl⟩ | apply gain_ext | apply gain_alloc | apply gain_drewN | apply gain_drew) | (refine gain_setCell ?_ (by first | exact Nat.le_refl _ | exact World.size_ext _ _ | (simp; done) | (simp; omega)) _)))) hg1 (fun q e => by cases e; omega))
  have HO1 := Lib.hid (own_cur (own_up HO0.out (by repeat (first | with_reducible (first | exact World.gained_refl _ | exact ⟨_, rfl⟩ | apply gain_ext | apply gain_alloc | apply gain_drewN | apply gain_drew) | (refine gain_setCell ?_ (by first | exact Nat.le_refl _ | exact World.size_ext _ _ | (simp; done) | (simp; omega)) _)))) hglo hg1)
  have HP1 := Lib.hid (own_cur (own_up HP0.out (by repeat (first | with_reducible (first | exact World.gained_refl _ | exact ⟨_, rfl⟩ | apply gain_ext | apply gain_alloc | apply gain_drewN | apply gain_drew) | (refine gain_setCell ?_ (by first | exact Nat.le_refl _ | exact World.size_ext _ _ | (simp; done) | (simp; omega)) _)))) hglo hg1)
  have HC1 := Lib.hid hc1
  clear hc1 hg1
  (try dsimp only)
  refine hK.out _ _ ?_ (fun hHeld => ?_)
  · exact ⟨World.cell_of_heap HB1.out 0, World.cell_of_heap HB1.out 1, World.cell_of_heap HB1.out 2, World.cell_of_heap HB1.out 3⟩
  clear hK K
  try simp only [Act.put, List.setIfInBounds_toArray, List.set_cons_zero, List.set_cons_succ]
  refine wpAnyH_ready (rs := [6]) (by kernel_rfl) (by simp) ?_
  refine AllReadyH.cons rfl (fun K hK => ?_) (AllReadyH.nil)
  go_simp
  go_wp2_with fail
  refine (openCell_any _ _ g _ lo m _ _ (HC1.out.gain (by repeat (first | with_reducible (first | exact World.gained_refl _ | exact ⟨_, rfl⟩ | apply gain_ext | apply gain_alloc | apply gain_drewN | apply gain_drew) | (refine gain_setCell ?_ (by first | exact Nat.le_refl _ | exact World.size_ext _ _ | (simp; done) | (simp; omega)) _)))) (by omega) hglo (own_up HO1.out (by repeat (first | with_reducible (first | exact World.gained_refl _ | exact ⟨_, rfl⟩ | apply gain_ext | apply gain_alloc | apply gain_drewN | apply gain_drew) | (refine gain_setCell ?_ (by first | exact Nat.le_refl _ | exact World.size_ext _ _ | (simp; done) | (simp; omega)) _)))) (own_up HP1.out (by repeat (first | with_reducible (first | exact World.gained_refl _ | exact ⟨_, rfl⟩ | apply gain_ext | apply gain_alloc | apply gain_drewN | apply gain_drew) | (refine gain_setCell ?_ (by first | exact Nat.le_refl _ | exact World.size_ext _ _ | (simp; done) | (simp; omega)) _)))) hrl hcl).mono ?_
  rintro e ww2 ⟨x1, rfl, hc1, hg1⟩
  have HB2 := Lib.hid (row_keep (row_up HB1.out (by repeat (first | with_reducible (first | exact World.gained_refl _ | exact ⟨_, rfl⟩ | apply gain_ext | apply gain_alloc | apply gain_drewN | apply gain_drew) | (refine gain_setCell ?_ (by first | exact Nat.le_refl _ | exact World.size_ext _ _ | (simp; done) | (simp; omega)) _)))) hg1 (fun q e => by cases e; omega))
  have HS2 := Lib.hid (row_keep (row_up HS1.out (by repeat (first | with_reducible (first | exact World.gained_refl _ | exact ⟨_, rfl⟩ | apply gain_ext | apply gain_alloc | apply gain_drewN | apply gain_drew) | (refine gain_setCell ?_ (by first | exact Nat.le_refl _ | exact World.size_ext _ _ | (simp; done) | (simp; omega)) _)))) hg1 (fun q e => by cases e; omega))
  have HO2 := Lib.hid (own_cur (own_up HO1.out (by repeat (first | with_reducible (first | exact World.gained_refl _ | exact ⟨_, rfl⟩ | apply gain_ext | apply gain_alloc | apply gain_drewN | apply gain_drew) | (refine gain_setCell ?_ (by first | exact Nat.le_refl _ | exact World.size_ext _ _ | (simp; done) | (simp; omega)) _)))) hglo hg1)
  have HP2 := Lib.hid (own_cur (own_up HP1.out (by repeat (first | with_reducible (first | exact World.gained_refl _ | exact ⟨_, rfl⟩ | apply gain_ext | apply gain_alloc | apply gain_drewN | apply gain_drew) | (refine gain_setCell ?_ (by first | exact Nat.le_refl _ | exact World.size_ext _ _ | (simp; done) | (simp; omega)) _)))) hglo hg1)
  have HC2 := Lib.hid hc1
  clear hc1 hg1
  (try dsimp only)
  refine hK.out _ _ ?_ (fun hHeld => ?_)
  · exact ⟨World.cell_of_heap HB2.out 0, World.cell_of_heap HB2.out 1, World.cell_of_heap HB2.out 2, World.cell_of_heap HB2.out 3⟩
  clear hK K
  try simp only [Act.put, List.setIfInBounds_toArray, List.set_cons_zero, List.set_cons_succ]
  have ey0 : ww2.cell? ⟨w.heap.size, 0, none⟩ = some (.int .i64 0) := World.cell_of_heap HS2.out 0
  have ez0 : ww2.frozen? ⟨w.heap.size, 0, none⟩ = false := World.free_of_heap HS2.out 0
  have ey1 : ww2.cell? ⟨w.heap.size, 1, none⟩ = some (.int .i64 0) := World.cell_of_heap HS2.out 1
  have ez1 : ww2.frozen? ⟨w.heap.size, 1, none⟩ = false := World.free_of_heap HS2.out 1
  have ey2 : ww2.cell? ⟨w.heap.size, 2, none⟩ = some (.slice none 0 0) := World.cell_of_heap HS2.out 2
  have ez2 : ww2.frozen? ⟨w.heap.size, 2, none⟩ = false := World.free_of_heap HS2.out 2
  have ey3 : ww2.cell? ⟨w.heap.size, 3, none⟩ = some (.slice none 0 0) := World.cell_of_heap HS2.out 3
  have ez3 : ww2.frozen? ⟨w.heap.size, 3, none⟩ = false := World.free_of_heap HS2.out 3
  have eoc := World.oldB_of_cell ey0
  have gw0 := World.heap_setCell_row HS2.out 0 (.int .i64 m.wd)
  have gc0 : (ww2.setCell ⟨w.heap.size, 0, none⟩ (.int .i64 m.wd)).cell? ⟨w.heap.size, 0, none⟩ = some (.int .i64 m.wd) := World.cell_of_heap gw0 0
  have gw1 := World.heap_setCell_row gw0 1 (.int .i64 m.ht)
  have gc1 : ((ww2.setCell ⟨w.heap.size, 0, none⟩ (.int .i64 m.wd)).setCell ⟨w.heap.size, 1, none⟩ (.int .i64 m.ht)).cell? ⟨w.heap.size, 1, none⟩ = some (.int .i64 m.ht) := World.cell_of_heap gw1 1
  have gw2 := World.heap_setCell_row gw1 2 (.slice pr nr kr)
  have gc2 : (((ww2.setCell ⟨w.heap.size, 0, none⟩ (.int .i64 m.wd)).setCell ⟨w.heap.size, 1, none⟩ (.int .i64 m.ht)).setCell ⟨w.heap.size, 2, none⟩ (.slice pr nr kr)).cell? ⟨w.heap.size, 2, none⟩ = some (.slice pr nr kr) := World.cell_of_heap gw2 2
  have gw3 := World.heap_setCell_row gw2 3 (.slice pc nc kc)
  have gc3 : ((((ww2.setCell ⟨w.heap.size, 0, none⟩ (.int .i64 m.wd)).setCell ⟨w.heap.size, 1, none⟩ (.int .i64 m.ht)).setCell ⟨w.heap.size, 2, none⟩ (.slice pr nr kr)).setCell ⟨w.heap.size, 3, none⟩ (.slice pc nc kc)).cell? ⟨w.heap.size, 3, none⟩ = some (.slice pc nc kc) := World.cell_of_heap gw3 3
  clear gw0 gw1 gw2 gw3
  have hon : ww2.grownBy ((((ww2.setCell ⟨w.heap.size, 0, none⟩ (.int .i64 m.wd)).setCell ⟨w.heap.size, 1, none⟩ (.int .i64 m.ht)).setCell ⟨w.heap.size, 2, none⟩ (.slice pr nr kr)).setCell ⟨w.heap.size, 3, none⟩ (.slice pc nc kc)) (some w.heap.size) := by repeat (first | exact only_refl _ _ | refine only_setCell ?_ rfl _)
  have HBF := Lib.hid (row_keep HB2.out hon (fun q e => by cases e; omega))
  have HF1 := Lib.hid (own_not HO2.out (fun q e => by have := (own_lt HO2.out q e).1; omega) hon)
  have HF2 := Lib.hid (own_not HP2.out (fun q e => by have := (own_lt HP2.out q e).1; omega) hon)
  have HFG := Lib.hid (gain_grown (gain_trans HW1.out HC2.out.up) hon (fun q e => by cases e; omega))
  clear hon
  refine wpAnyH_ready (rs := [7]) (by kernel_rfl) (by simp) ?_
  refine AllReadyH.cons rfl (fun K hK => ?_) (AllReadyH.nil)
  go_simp
  refine hK.out _ _ ?_ (fun hHeld => ?_)
  · exact ⟨World.cell_of_heap HBF.out 0, World.cell_of_heap HBF.out 1, World.cell_of_heap HBF.out 2, World.cell_of_heap HBF.out 3⟩
  clear hK K
  try simp only [Act.put, List.setIfInBounds_toArray, List.set_cons_zero, List.set_cons_succ]
  refine wpAnyH_take (i := 8) (oi := ⟨_, _, _, _, _, _⟩) (v := ?_) rfl (by kernel_rfl) (by kernel_rfl) (by kernel_rfl) (fun _ _ _ h => h) (Or.inl ⟨by rfl, ?_⟩) (by assumption) ?_
  rotate_left
  · intro w hSw; (try dsimp only at hSw); go_simp; (try with_reducible rfl)
  try simp only [Act.put, List.setIfInBounds_toArray, List.set_cons_zero, List.set_cons_succ]
  refine wpAnyH_take (i := 9) (oi := ⟨_, _, _, _, _, _⟩) (v := ?_) rfl (by kernel_rfl) (by kernel_rfl) (by kernel_rfl) (fun _ _ _ h => h) (Or.inl ⟨by rfl, ?_⟩) (by assumption) ?_
  rotate_left
  · intro w hSw; (try dsimp only at hSw); go_simp; (try with_reducible rfl)
  try simp only [Act.put, List.setIfInBounds_toArray, List.set_cons_zero, List.set_cons_succ]
  refine wpAnyH_done (by kernel_rfl) ?_ _
  go_wp2
  refine bodyPost_ret (v := .tuple #[.agg #[.int .i64 m.wd, .int .i64 m.ht, .slice pr nr kr, .slice pc nc kc], .int .i64 x0, .int .i64 x1]) (by simp [results, Try.results71, go_sem, gc0, gc1, gc2, gc3]) rfl ?_
  exact ⟨m, _, _, _, _, rfl, HFG.out, ⟨sl_of_own intC_length HF1.out, sl_of_own intC_length HF2.out, hrl, hcl⟩⟩
set_option maxHeartbeats 4000000 in
set_option maxRecDepth 100000 in
theorem drawFarthest_any (v : Value) (L : List Int) (w : World) (h : w.sl byteC 1 v L) (hq : ∀ x ∈ L, 0 ≤ x ∧ x ≤ 255) (hl : L.length ≤ 1048576) :
    Calls Try.prog 48 #[v] w fun x w' => ∃ (m : Mp) (rv cv : Value) (x0 : Int), x = .returned (.tuple #[.agg #[.int .i64 m.wd, .int .i64 m.ht, rv, cv], .int .i64 x0]) ∧ (∃ d, w' = w.ext d) ∧ w'.mp rv cv m := by
  have hs := Lib.hid h
  have HQ := Lib.hid hq
  obtain ⟨p, c, rfl, _⟩ := h
  clear hq
  have HW1 := Lib.hid (show ∃ d, w.alloc (.cells #[.int .i64 0, .int .i64 0, .slice none 0 0, .slice none 0 0] 26) = w.ext d from (by repeat (first | with_reducible (first | exact World.gained_refl _ | exact ⟨_, rfl⟩ | apply gain_ext | apply gain_alloc | apply gain_drewN | apply gain_drew) | (refine gain_setCell ?_ (by first | exact Nat.le_refl _ | exact World.size_ext _ _ | (simp; done) | (simp; omega)) _))))
  have hsz : (w.alloc (.cells #[.int .i64 0, .int .i64 0, .slice none 0 0, .slice none 0 0] 26)).heap.size = w.heap.size + 1 := World.size_alloc _ _
  have HRZ := Lib.hid (heap_alloc_new w (.cells #[.int .i64 0, .int .i64 0, .slice none 0 0, .slice none 0 0] 26))
  have HCN := Lib.hid (cur_new (e := 76) (sl_up byteC_length hs.out HW1.out) HQ.out hl)
  go_enter Try.func48, Try.ntmps48
  go_wp2_with fail
  generalize hW1 : w.alloc (.cells #[.int .i64 0, .int .i64 0, .slice none 0 0, .slice none 0 0] 26) = W1 at HW1 HCN HRZ hsz ⊢
  rw [hsz] at HCN
  refine (mapOf_any W1 _ (w.heap.size + 1) 0 HCN.out (by omega)).mono ?_
  rintro e wm ⟨m, rv, cv, rfl, ho1, ho2, -, hrl, hcl, hc1, hg1⟩
  have HRS := Lib.hid (row_keep (row_up HRZ.out (by repeat (first | with_reducible (first | exact World.gained_refl _ | exact ⟨_, rfl⟩ | apply gain_ext | apply gain_alloc | apply gain_drewN | apply gain_drew) | (refine gain_setCell ?_ (by first | exact Nat.le_refl _ | exact World.size_ext _ _ | (simp; done) | (simp; omega)) _)))) hg1 (fun q e => by cases e; omega))
  have hlm := only_size hg1
  have hgm := hc1.lt
  have HCU := Lib.hid hc1
  have HR := Lib.hid ho1
  have HCO := Lib.hid ho2
  have hlo : w.heap.size + 1 < (W1.alloc (.cells #[.slice p L.length c, .int .i64 0, .int .u64 0] 76)).heap.size := by rw [World.size_alloc, hsz]; omega
  generalize (W1.alloc (.cells #[.slice p L.length c, .int .i64 0, .int .u64 0] 76)).heap.size = lo at hlo HR HCO hlm
  obtain ⟨pr, nr, kr, rfl⟩ := own_form ho1
  obtain ⟨pc, nc, kc, rfl⟩ := own_form ho2
  replace hrl : m.rise.length ≤ 1048576 := by omega
  replace hcl : m.cost.length ≤ 1048576 := by omega
  clear hc1 hg1 ho1 ho2 hW1
  have hglo : w.heap.size + 1 < lo := hlo
  generalize hg : w.heap.size + 1 = g at HCU hglo hgm ⊢
  go_upto_region 3 with fail
  have HB0 := Lib.hid (heap_alloc_new wm (.cells #[.int .i64 m.wd, .int .i64 m.ht, .slice pr nr kr, .slice pc nc kc] 26))
  have HS0 := Lib.hid (row_up HRS.out (w' := wm.alloc (.cells #[.int .i64 m.wd, .int .i64 m.ht, .slice pr nr kr, .slice pc nc kc] 26)) (by repeat (first | with_reducible (first | exact World.gained_refl _ | exact ⟨_, rfl⟩ | apply gain_ext | apply gain_alloc | apply gain_drewN | apply gain_drew) | (refine gain_setCell ?_ (by first | exact Nat.le_refl _ | exact World.size_ext _ _ | (simp; done) | (simp; omega)) _))))
  have HC0 := Lib.hid (HCU.out.gain (w' := wm.alloc (.cells #[.int .i64 m.wd, .int .i64 m.ht, .slice pr nr kr, .slice pc nc kc] 26)) (by repeat (first | with_reducible (first | exact World.gained_refl _ | exact ⟨_, rfl⟩ | apply gain_ext | apply gain_alloc | apply gain_drewN | apply gain_drew) | (refine gain_setCell ?_ (by first | exact Nat.le_refl _ | exact World.size_ext _ _ | (simp; done) | (simp; omega)) _))))
  have HO0 := Lib.hid (own_up HR.out (w' := wm.alloc (.cells #[.int .i64 m.wd, .int .i64 m.ht, .slice pr nr kr, .slice pc nc kc] 26)) (by repeat (first | with_reducible (first | exact World.gained_refl _ | exact ⟨_, rfl⟩ | apply gain_ext | apply gain_alloc | apply gain_drewN | apply gain_drew) | (refine gain_setCell ?_ (by first | exact Nat.le_refl _ | exact World.size_ext _ _ | (simp; done) | (simp; omega)) _))))
  have HP0 := Lib.hid (own_up HCO.out (w' := wm.alloc (.cells #[.int .i64 m.wd, .int .i64 m.ht, .slice pr nr kr, .slice pc nc kc] 26)) (by repeat (first | with_reducible (first | exact World.gained_refl _ | exact ⟨_, rfl⟩ | apply gain_ext | apply gain_alloc | apply gain_drewN | apply gain_drew) | (refine gain_setCell ?_ (by first | exact Nat.le_refl _ | exact World.size_ext _ _ | (simp; done) | (simp; omega)) _))))
  generalize wm.alloc (.cells #[.int .i64 m.wd, .int .i64 m.ht, .slice pr nr kr, .slice pc nc kc] 26) = ww0 at HB0 HS0 HC0 HO0 HP0 ⊢
  generalize wm.heap.size = gM at HB0 hgm hlm ⊢
  refine wp_region_held_drew (S := (fun w' => w'.cell? ⟨gM, 0, none⟩ = some (.int .i64 m.wd) ∧ w'.cell? ⟨gM, 1, none⟩ = some (.int .i64 m.ht) ∧ w'.cell? ⟨gM, 2, none⟩ = some (.slice pr nr kr) ∧ w'.cell? ⟨gM, 3, none⟩ = some (.slice pc nc kc))) (by kernel_rfl) ⟨World.cell_of_heap HB0.out 0, World.cell_of_heap HB0.out 1, World.cell_of_heap HB0.out 2, World.cell_of_heap HB0.out 3⟩ (fun hHeld => ?_)
  refine wpAnyH_take (i := 0) (oi := ⟨_, _, _, _, _, _⟩) (v := ?_) rfl (by kernel_rfl) (by kernel_rfl) (by kernel_rfl) (fun _ _ _ h => h) (Or.inl ⟨by rfl, ?_⟩) (by assumption) ?_
  rotate_left
  · intro w hSw; (try dsimp only at hSw); go_simp; (try with_reducible rfl)
  try simp only [Act.put, List.setIfInBounds_toArray, List.set_cons_zero, List.set_cons_succ]
  refine wpAnyH_take (i := 1) (oi := ⟨_, _, _, _, _, _⟩) (v := ?_) rfl (by kernel_rfl) (by kernel_rfl) (by kernel_rfl) (fun _ _ _ h => h) (Or.inl ⟨by rfl, ?_⟩) (by assumption) ?_
  rotate_left
  · intro w hSw; (try dsimp only at hSw); go_simp; (try with_reducible rfl)
  try simp only [Act.put, List.setIfInBounds_toArray, List.set_cons_zero, List.set_cons_succ]
  refine wpAnyH_take (i := 2) (oi := ⟨_, _, _, _, _, _⟩) (v := ?_) rfl (by kernel_rfl) (by kernel_rfl) (by kernel_rfl) (fun _ _ _ h => h) (Or.inl ⟨by rfl, ?_⟩) (by assumption) ?_
  rotate_left
  · intro w hSw; (try dsimp only at hSw); go_simp; (try with_reducible rfl)
  try simp only [Act.put, List.setIfInBounds_toArray, List.set_cons_zero, List.set_cons_succ]
  refine wpAnyH_ready (rs := [3]) (by kernel_rfl) (by simp) ?_
  refine AllReadyH.cons rfl (fun K hK => ?_) (AllReadyH.nil)
  go_simp
  go_wp2_with fail
  refine (openCell_any _ _ g _ lo m _ _ (HC0.out.gain (by repeat (first | with_reducible (first | exact World.gained_refl _ | exact ⟨_, rfl⟩ | apply gain_ext | apply gain_alloc | apply gain_drewN | apply gain_drew) | (refine gain_setCell ?_ (by first | exact Nat.le_refl _ | exact World.size_ext _ _ | (simp; done) | (simp; omega)) _)))) (by omega) hglo (own_up HO0.out (by repeat (first | with_reducible (first | exact World.gained_refl _ | exact ⟨_, rfl⟩ | apply gain_ext | apply gain_alloc | apply gain_drewN | apply gain_drew) | (refine gain_setCell ?_ (by first | exact Nat.le_refl _ | exact World.size_ext _ _ | (simp; done) | (simp; omega)) _)))) (own_up HP0.out (by repeat (first | with_reducible (first | exact World.gained_refl _ | exact ⟨_, rfl⟩ | apply gain_ext | apply gain_alloc | apply gain_drewN | apply gain_drew) | (refine gain_setCell ?_ (by first | exact Nat.le_refl _ | exact World.size_ext _ _ | (simp; done) | (simp; omega)) _)))) hrl hcl).mono ?_
  rintro e ww1 ⟨x0, rfl, hc1, hg1⟩
  have HB1 := Lib.hid (row_keep (row_up HB0.out (by repeat (first | with_reducible (first | exact World.gained_refl _ | exact ⟨_, rfl⟩ | apply gain_ext | apply gain_alloc | apply gain_drewN | apply gain_drew) | (refine gain_setCell ?_ (by first | exact Nat.le_refl _ | exact World.size_ext _ _ | (simp; done) | (simp; omega)) _)))) hg1 (fun q e => by cases e; omega))
  have HS1 := Lib.hid (row_keep (row_up HS0.out (by repeat (first | with_reducible (first | exact World.gained_refl _ | exact ⟨_, rfl⟩ | apply gain_ext | apply gain_alloc | apply gain_drewN | apply gain_drew) | (refine gain_setCell ?_ (by first | exact Nat.le_refl _ | exact World.size_ext _ _ | (simp; done) | (simp; omega)) _)))) hg1 (fun q e => by cases e; omega))
  have HO1 := Lib.hid (own_cur (own_up HO0.out (by repeat (first | with_reducible (first | exact World.gained_refl _ | exact ⟨_, rfl⟩ | apply gain_ext | apply gain_alloc | apply gain_drewN | apply gain_drew) | (refine gain_setCell ?_ (by first | exact Nat.le_refl _ | exact World.size_ext _ _ | (simp; done) | (simp; omega)) _)))) hglo hg1)
  have HP1 := Lib.hid (own_cur (own_up HP0.out (by repeat (first | with_reducible (first | exact World.gained_refl _ | exact ⟨_, rfl⟩ | apply gain_ext | apply gain_alloc | apply gain_drewN | apply gain_drew) | (refine gain_setCell ?_ (by first | exact Nat.le_refl _ | exact World.size_ext _ _ | (simp; done) | (simp; omega)) _)))) hglo hg1)
  have HC1 := Lib.hid hc1
  clear hc1 hg1
  (try dsimp only)
  refine hK.out _ _ ?_ (fun hHeld => ?_)
  · exact ⟨World.cell_of_heap HB1.out 0, World.cell_of_heap HB1.out 1, World.cell_of_heap HB1.out 2, World.cell_of_heap HB1.out 3⟩
  clear hK K
  try simp only [Act.put, List.setIfInBounds_toArray, List.set_cons_zero, List.set_cons_succ]
  have ey0 : ww1.cell? ⟨w.heap.size, 0, none⟩ = some (.int .i64 0) := World.cell_of_heap HS1.out 0
  have ez0 : ww1.frozen? ⟨w.heap.size, 0, none⟩ = false := World.free_of_heap HS1.out 0
  have ey1 : ww1.cell? ⟨w.heap.size, 1, none⟩ = some (.int .i64 0) := World.cell_of_heap HS1.out 1
  have ez1 : ww1.frozen? ⟨w.heap.size, 1, none⟩ = false := World.free_of_heap HS1.out 1
  have ey2 : ww1.cell? ⟨w.heap.size, 2, none⟩ = some (.slice none 0 0) := World.cell_of_heap HS1.out 2
  have ez2 : ww1.frozen? ⟨w.heap.size, 2, none⟩ = false := World.free_of_heap HS1.out 2
  have ey3 : ww1.cell? ⟨w.heap.size, 3, none⟩ = some (.slice none 0 0) := World.cell_of_heap HS1.out 3
  have ez3 : ww1.frozen? ⟨w.heap.size, 3, none⟩ = false := World.free_of_heap HS1.out 3
  have eoc := World.oldB_of_cell ey0
  have gw0 := World.heap_setCell_row HS1.out 0 (.int .i64 m.wd)
  have gc0 : (ww1.setCell ⟨w.heap.size, 0, none⟩ (.int .i64 m.wd)).cell? ⟨w.heap.size, 0, none⟩ = some (.int .i64 m.wd) := World.cell_of_heap gw0 0
  have gw1 := World.heap_setCell_row gw0 1 (.int .i64 m.ht)
  have gc1 : ((ww1.setCell ⟨w.heap.size, 0, none⟩ (.int .i64 m.wd)).setCell ⟨w.heap.size, 1, none⟩ (.int .i64 m.ht)).cell? ⟨w.heap.size, 1, none⟩ = some (.int .i64 m.ht) := World.cell_of_heap gw1 1
  have gw2 := World.heap_setCell_row gw1 2 (.slice pr nr kr)
  have gc2 : (((ww1.setCell ⟨w.heap.size, 0, none⟩ (.int .i64 m.wd)).setCell ⟨w.heap.size, 1, none⟩ (.int .i64 m.ht)).setCell ⟨w.heap.size, 2, none⟩ (.slice pr nr kr)).cell? ⟨w.heap.size, 2, none⟩ = some (.slice pr nr kr) := World.cell_of_heap gw2 2
  have gw3 := World.heap_setCell_row gw2 3 (.slice pc nc kc)
  have gc3 : ((((ww1.setCell ⟨w.heap.size, 0, none⟩ (.int .i64 m.wd)).setCell ⟨w.heap.size, 1, none⟩ (.int .i64 m.ht)).setCell ⟨w.heap.size, 2, none⟩ (.slice pr nr kr)).setCell ⟨w.heap.size, 3, none⟩ (.slice pc nc kc)).cell? ⟨w.heap.size, 3, none⟩ = some (.slice pc nc kc) := World.cell_of_heap gw3 3
  clear gw0 gw1 gw2 gw3
  have hon : ww1.grownBy ((((ww1.setCell ⟨w.heap.size, 0, none⟩ (.int .i64 m.wd)).setCell ⟨w.heap.size, 1, none⟩ (.int .i64 m.ht)).setCell ⟨w.heap.size, 2, none⟩ (.slice pr nr kr)).setCell ⟨w.heap.size, 3, none⟩ (.slice pc nc kc)) (some w.heap.size) := by repeat (first | exact only_refl _ _ | refine only_setCell ?_ rfl _)
  have HBF := Lib.hid (row_keep HB1.out hon (fun q e => by cases e; omega))
  have HF1 := Lib.hid (own_not HO1.out (fun q e => by have := (own_lt HO1.out q e).1; omega) hon)
  have HF2 := Lib.hid (own_not HP1.out (fun q e => by have := (own_lt HP1.out q e).1; omega) hon)
  have HFG := Lib.hid (gain_grown (gain_trans HW1.out HC1.out.up) hon (fun q e => by cases e; omega))
  clear hon
  refine wpAnyH_ready (rs := [4]) (by kernel_rfl) (by simp) ?_
  refine AllReadyH.cons rfl (fun K hK => ?_) (AllReadyH.nil)
  go_simp
  refine hK.out _ _ ?_ (fun hHeld => ?_)
  · exact ⟨World.cell_of_heap HBF.out 0, World.cell_of_heap HBF.out 1, World.cell_of_heap HBF.out 2, World.cell_of_heap HBF.out 3⟩
  clear hK K
  try simp only [Act.put, List.setIfInBounds_toArray, List.set_cons_zero, List.set_cons_succ]
  refine wpAnyH_take (i := 5) (oi := ⟨_, _, _, _, _, _⟩) (v := ?_) rfl (by kernel_rfl) (by kernel_rfl) (by kernel_rfl) (fun _ _ _ h => h) (Or.inl ⟨by rfl, ?_⟩) (by assumption) ?_
  rotate_left
  · intro w hSw; (try dsimp only at hSw); go_simp; (try with_reducible rfl)
  try simp only [Act.put, List.setIfInBounds_toArray, List.set_cons_zero, List.set_cons_succ]
  refine wpAnyH_done (by kernel_rfl) ?_ _
  go_wp2
  refine bodyPost_ret (v := .tuple #[.agg #[.int .i64 m.wd, .int .i64 m.ht, .slice pr nr kr, .slice pc nc kc], .int .i64 x0]) (by simp [results, Try.results48, go_sem, gc0, gc1, gc2, gc3]) rfl ?_
  exact ⟨m, _, _, _, rfl, HFG.out, ⟨sl_of_own intC_length HF1.out, sl_of_own intC_length HF2.out, hrl, hcl⟩⟩
set_option maxHeartbeats 4000000 in
set_option maxRecDepth 100000 in
theorem drawWithin_any (v : Value) (L : List Int) (w : World) (h : w.sl byteC 1 v L) (hq : ∀ x ∈ L, 0 ≤ x ∧ x ≤ 255) (hl : L.length ≤ 1048576) :
    Calls Try.prog 43 #[v] w fun x w' => ∃ (m : Mp) (rv cv : Value) (x0 x1 : Int), x = .returned (.tuple #[.agg #[.int .i64 m.wd, .int .i64 m.ht, rv, cv], .int .i64 x0, .int .i64 x1]) ∧ (∃ d, w' = w.ext d) ∧ w'.mp rv cv m ∧ x1 ≤ 1048576 := by
  have hs := Lib.hid h
  have HQ := Lib.hid hq
  obtain ⟨p, c, rfl, _⟩ := h
  clear hq
  have HW1 := Lib.hid (show ∃ d, w.alloc (.cells #[.int .i64 0, .int .i64 0, .slice none 0 0, .slice none 0 0] 26) = w.ext d from (by repeat (first | with_reducible (first | exact World.gained_refl _ | exact ⟨_, rfl⟩ | apply gain_ext | apply gain_alloc | apply gain_drewN | apply gain_drew) | (refine gain_setCell ?_ (by first | exact Nat.le_refl _ | exact World.size_ext _ _ | (simp; done) | (simp; omega)) _))))
  have hsz : (w.alloc (.cells #[.int .i64 0, .int .i64 0, .slice none 0 0, .slice none 0 0] 26)).heap.size = w.heap.size + 1 := World.size_alloc _ _
  have HRZ := Lib.hid (heap_alloc_new w (.cells #[.int .i64 0, .int .i64 0, .slice none 0 0, .slice none 0 0] 26))
  have HCN := Lib.hid (cur_new (e := 76) (sl_up byteC_length hs.out HW1.out) HQ.out hl)
  go_enter Try.func43, Try.ntmps43
  go_wp2_with fail
  generalize hW1 : w.alloc (.cells #[.int .i64 0, .int .i64 0, .slice none 0 0, .slice none 0 0] 26) = W1 at HW1 HCN HRZ hsz ⊢
  rw [hsz] at HCN
  refine (mapOf_any W1 _ (w.heap.size + 1) 0 HCN.out (by omega)).mono ?_
  rintro e wm ⟨m, rv, cv, rfl, ho1, ho2, -, hrl, hcl, hc1, hg1⟩
  have HRS := Lib.hid (row_keep (row_up HRZ.out (by repeat (first | with_reducible (first | exact World.gained_refl _ | exact ⟨_, rfl⟩ | apply gain_ext | apply gain_alloc | apply gain_drewN | apply gain_drew) | (refine gain_setCell ?_ (by first | exact Nat.le_refl _ | exact World.size_ext _ _ | (simp; done) | (simp; omega)) _)))) hg1 (fun q e => by cases e; omega))
  have hlm := only_size hg1
  have hgm := hc1.lt
  have HCU := Lib.hid hc1
  have HR := Lib.hid ho1
  have HCO := Lib.hid ho2
  have hlo : w.heap.size + 1 < (W1.alloc (.cells #[.slice p L.length c, .int .i64 0, .int .u64 0] 76)).heap.size := by rw [World.size_alloc, hsz]; omega
  generalize (W1.alloc (.cells #[.slice p L.length c, .int .i64 0, .int .u64 0] 76)).heap.size = lo at hlo HR HCO hlm
  obtain ⟨pr, nr, kr, rfl⟩ := own_form ho1
  obtain ⟨pc, nc, kc, rfl⟩ := own_form ho2
  replace hrl : m.rise.length ≤ 1048576 := by omega
  replace hcl : m.cost.length ≤ 1048576 := by omega
  clear hc1 hg1 ho1 ho2 hW1
  have hglo : w.heap.size + 1 < lo := hlo
  generalize hg : w.heap.size + 1 = g at HCU hglo hgm ⊢
  go_upto_region 3 with fail
  have HB0 := Lib.hid (heap_alloc_new wm (.cells #[.int .i64 m.wd, .int .i64 m.ht, .slice pr nr kr, .slice pc nc kc] 26))
  have HS0 := Lib.hid (row_up HRS.out (w' := wm.alloc (.cells #[.int .i64 m.wd, .int .i64 m.ht, .slice pr nr kr, .slice pc nc kc] 26)) (by repeat (first | with_reducible (first | exact World.gained_refl _ | exact ⟨_, rfl⟩ | apply gain_ext | apply gain_alloc | apply gain_drewN | apply gain_drew) | (refine gain_setCell ?_ (by first | exact Nat.le_refl _ | exact World.size_ext _ _ | (simp; done) | (simp; omega)) _))))
  have HC0 := Lib.hid (HCU.out.gain (w' := wm.alloc (.cells #[.int .i64 m.wd, .int .i64 m.ht, .slice pr nr kr, .slice pc nc kc] 26)) (by repeat (first | with_reducible (first | exact World.gained_refl _ | exact ⟨_, rfl⟩ | apply gain_ext | apply gain_alloc | apply gain_drewN | apply gain_drew) | (refine gain_setCell ?_ (by first | exact Nat.le_refl _ | exact World.size_ext _ _ | (simp; done) | (simp; omega)) _))))
  have HO0 := Lib.hid (own_up HR.out (w' := wm.alloc (.cells #[.int .i64 m.wd, .int .i64 m.ht, .slice pr nr kr, .slice pc nc kc] 26)) (by repeat (first | with_reducible (first | exact World.gained_refl _ | exact ⟨_, rfl⟩ | apply gain_ext | apply gain_alloc | apply gain_drewN | apply gain_drew) | (refine gain_setCell ?_ (by first | exact Nat.le_refl _ | exact World.size_ext _ _ | (simp; done) | (simp; omega)) _))))
  have HP0 := Lib.hid (own_up HCO.out (w' := wm.alloc (.cells #[.int .i64 m.wd, .int .i64 m.ht, .slice pr nr kr, .slice pc nc kc] 26)) (by repeat (first | with_reducible (first | exact World.gained_refl _ | exact ⟨_, rfl⟩ | apply gain_ext | apply gain_alloc | apply gain_drewN | apply gain_drew) | (refine gain_setCell ?_ (by first | exact Nat.le_refl _ | exact World.size_ext _ _ | (simp; done) | (simp; omega)) _))))
  generalize wm.alloc (.cells #[.int .i64 m.wd, .int .i64 m.ht, .slice pr nr kr, .slice pc nc kc] 26) = ww0 at HB0 HS0 HC0 HO0 HP0 ⊢
  generalize wm.heap.size = gM at HB0 hgm hlm ⊢
  refine wp_region_held_drew (S := (fun w' => w'.cell? ⟨gM, 0, none⟩ = some (.int .i64 m.wd) ∧ w'.cell? ⟨gM, 1, none⟩ = some (.int .i64 m.ht) ∧ w'.cell? ⟨gM, 2, none⟩ = some (.slice pr nr kr) ∧ w'.cell? ⟨gM, 3, none⟩ = some (.slice pc nc kc))) (by kernel_rfl) ⟨World.cell_of_heap HB0.out 0, World.cell_of_heap HB0.out 1, World.cell_of_heap HB0.out 2, World.cell_of_heap HB0.out 3⟩ (fun hHeld => ?_)
  refine wpAnyH_take (i := 0) (oi := ⟨_, _, _, _, _, _⟩) (v := ?_) rfl (by kernel_rfl) (by kernel_rfl) (by kernel_rfl) (fun _ _ _ h => h) (Or.inl ⟨by rfl, ?_⟩) (by assumption) ?_
  rotate_left
  · intro w hSw; (try dsimp only at hSw); go_simp; (try with_reducible rfl)
  try simp only [Act.put, List.setIfInBounds_toArray, List.set_cons_zero, List.set_cons_succ]
  refine wpAnyH_take (i := 1) (oi := ⟨_, _, _, _, _, _⟩) (v := ?_) rfl (by kernel_rfl) (by kernel_rfl) (by kernel_rfl) (fun _ _ _ h => h) (Or.inl ⟨by rfl, ?_⟩) (by assumption) ?_
  rotate_left
  · intro w hSw; (try dsimp only at hSw); go_simp; (try with_reducible rfl)
  try simp only [Act.put, List.setIfInBounds_toArray, List.set_cons_zero, List.set_cons_succ]
  refine wpAnyH_take (i := 2) (oi := ⟨_, _, _, _, _, _⟩) (v := ?_) rfl (by kernel_rfl) (by kernel_rfl) (by kernel_rfl) (fun _ _ _ h => h) (Or.inl ⟨by rfl, ?_⟩) (by assumption) ?_
  rotate_left
  · intro w hSw; (try dsimp only at hSw); go_simp; (try with_reducible rfl)
  try simp only [Act.put, List.setIfInBounds_toArray, List.set_cons_zero, List.set_cons_succ]
  refine wpAnyH_take (i := 4) (oi := ⟨_, _, _, _, _, _⟩) (v := ?_) rfl (by kernel_rfl) (by kernel_rfl) (by kernel_rfl) (fun _ _ _ h => h) (Or.inl ⟨by rfl, ?_⟩) (by assumption) ?_
  rotate_left
  · intro w hSw; (try dsimp only at hSw); go_simp; (try with_reducible rfl)
  try simp only [Act.put, List.setIfInBounds_toArray, List.set_cons_zero, List.set_cons_succ]
  refine wpAnyH_ready (rs := [3, 5]) (by kernel_rfl) (by simp) ?_
  refine AllReadyH.cons rfl (fun K hK => ?_) (AllReadyH.cons rfl (fun K hK => ?_) (AllReadyH.nil))
  · go_simp
    go_wp2_with fail
    refine (openCell_any _ _ g _ lo m _ _ (HC0.out.gain (by repeat (first | with_reducible (first | exact World.gained_refl _ | exact ⟨_, rfl⟩ | apply gain_ext | apply gain_alloc | apply gain_drewN | apply gain_drew) | (refine gain_setCell ?_ (by first | exact Nat.le_refl _ | exact World.size_ext _ _ | (simp; done) | (simp; omega)) _)))) (by omega) hglo (own_up HO0.out (by repeat (first | with_reducible (first | exact World.gained_refl _ | exact ⟨_, rfl⟩ | apply gain_ext | apply gain_alloc | apply gain_drewN | apply gain_drew) | (refine gain_setCell ?_ (by first | exact Nat.le_refl _ | exact World.size_ext _ _ | (simp; done) | (simp; omega)) _)))) (own_up HP0.out (by repeat (first | with_reducible (first | exact World.gained_refl _ | exact ⟨_, rfl⟩ | apply gain_ext | apply gain_alloc | apply gain_drewN | apply gain_drew) | (refine gain_setCell ?_ (by first | exact Nat.le_refl _ | exact World.size_ext _ _ | (simp; done) | (simp; omega)) _)))) hrl hcl).mono ?_
    rintro e ww1 ⟨x0, rfl, hc1, hg1⟩
    have HB1 := Lib.hid (row_keep (row_up HB0.out (by repeat (first | with_reducible (first | exact World.gained_refl _ | exact ⟨_, rfl⟩ | apply gain_ext | apply gain_alloc | apply gain_drewN | apply gain_drew) | (refine gain_setCell ?_ (by first | exact Nat.le_refl _ | exact World.size_ext _ _ | (simp; done) | (simp; omega)) _)))) hg1 (fun q e => by cases e; omega))
    have HS1 := Lib.hid (row_keep (row_up HS0.out (by repeat (first | with_reducible (first | exact World.gained_refl _ | exact ⟨_, rfl⟩ | apply gain_ext | apply gain_alloc | apply gain_drewN | apply gain_drew) | (refine gain_setCell ?_ (by first | exact Nat.le_refl _ | exact World.size_ext _ _ | (simp; done) | (simp; omega)) _)))) hg1 (fun q e => by cases e; omega))
    have HO1 := Lib.hid (own_cur (own_up HO0.out (by repeat (first | with_reducible (first | exact World.gained_refl _ | exact ⟨_, rfl⟩ | apply gain_ext | apply gain_alloc | apply gain_drewN | apply gain_drew) | (refine gain_setCell ?_ (by first | exact Nat.le_refl _ | exact World.size_ext _ _ | (simp; done) | (simp; omega)) _)))) hglo hg1)
    have HP1 := Lib.hid (own_cur (own_up HP0.out (by repeat (first | with_reducible (first | exact World.gained_refl _ | exact ⟨_, rfl⟩ | apply gain_ext | apply gain_alloc | apply gain_drewN | apply gain_drew) | (refine gain_setCell ?_ (by first | exact Nat.le_refl _ | exact World.size_ext _ _ | (simp; done) | (simp; omega)) _)))) hglo hg1)
    have HC1 := Lib.hid hc1
    clear hc1 hg1
    (try dsimp only)
    refine hK.out _ _ ?_ (fun hHeld => ?_)
    · exact ⟨World.cell_of_heap HB1.out 0, World.cell_of_heap HB1.out 1, World.cell_of_heap HB1.out 2, World.cell_of_heap HB1.out 3⟩
    clear hK K
    try simp only [Act.put, List.setIfInBounds_toArray, List.set_cons_zero, List.set_cons_succ]
    refine wpAnyH_ready (rs := [5]) (by kernel_rfl) (by simp) ?_
    refine AllReadyH.cons rfl (fun K hK => ?_) (AllReadyH.nil)
    go_simp
    have HL1l := Lib.hid (own_lit' (w := ww1) (e := 3) (base := lo) (C := #[.int .i64 0, .int .i64 1, .int .i64 2, .int .i64 4, .int .i64 8, .int .i64 20, .int .i64 (-1)]) (l := [0, 1, 2, 4, 8, 20, -1]) intC_length rfl rfl (Nat.le_trans hlm (Nat.le_of_lt (by have := (Array.getElem?_eq_some_iff.1 HB1.out).1; omega))))
    refine hK.out _ _ ?_ (fun hHeld => ?_)
    · exact ⟨World.cell_of_heap (row_up HB1.out (by repeat (first | with_reducible (first | exact World.gained_refl _ | exact ⟨_, rfl⟩ | apply gain_ext | apply gain_alloc | apply gain_drewN | apply gain_drew) | (refine gain_setCell ?_ (by first | exact Nat.le_refl _ | exact World.size_ext _ _ | (simp; done) | (simp; omega)) _)))) 0, World.cell_of_heap (row_up HB1.out (by repeat (first | with_reducible (first | exact World.gained_refl _ | exact ⟨_, rfl⟩ | apply gain_ext | apply gain_alloc | apply gain_drewN | apply gain_drew) | (refine gain_setCell ?_ (by first | exact Nat.le_refl _ | exact World.size_ext _ _ | (simp; done) | (simp; omega)) _)))) 1, World.cell_of_heap (row_up HB1.out (by repeat (first | with_reducible (first | exact World.gained_refl _ | exact ⟨_, rfl⟩ | apply gain_ext | apply gain_alloc | apply gain_drewN | apply gain_drew) | (refine gain_setCell ?_ (by first | exact Nat.le_refl _ | exact World.size_ext _ _ | (simp; done) | (simp; omega)) _)))) 2, World.cell_of_heap (row_up HB1.out (by repeat (first | with_reducible (first | exact World.gained_refl _ | exact ⟨_, rfl⟩ | apply gain_ext | apply gain_alloc | apply gain_drewN | apply gain_drew) | (refine gain_setCell ?_ (by first | exact Nat.le_refl _ | exact World.size_ext _ _ | (simp; done) | (simp; omega)) _)))) 3⟩
    clear hK K
    try simp only [Act.put, List.setIfInBounds_toArray, List.set_cons_zero, List.set_cons_succ]
    have HB1l := Lib.hid (row_up HB1.out (w' := ww1.alloc (.cells #[.int .i64 0, .int .i64 1, .int .i64 2, .int .i64 4, .int .i64 8, .int .i64 20, .int .i64 (-1)] 3)) (by repeat (first | with_reducible (first | exact World.gained_refl _ | exact ⟨_, rfl⟩ | apply gain_ext | apply gain_alloc | apply gain_drewN | apply gain_drew) | (refine gain_setCell ?_ (by first | exact Nat.le_refl _ | exact World.size_ext _ _ | (simp; done) | (simp; omega)) _))))
    have HS1l := Lib.hid (row_up HS1.out (w' := ww1.alloc (.cells #[.int .i64 0, .int .i64 1, .int .i64 2, .int .i64 4, .int .i64 8, .int .i64 20, .int .i64 (-1)] 3)) (by repeat (first | with_reducible (first | exact World.gained_refl _ | exact ⟨_, rfl⟩ | apply gain_ext | apply gain_alloc | apply gain_drewN | apply gain_drew) | (refine gain_setCell ?_ (by first | exact Nat.le_refl _ | exact World.size_ext _ _ | (simp; done) | (simp; omega)) _))))
    have HO1l := Lib.hid (own_up HO1.out (w' := ww1.alloc (.cells #[.int .i64 0, .int .i64 1, .int .i64 2, .int .i64 4, .int .i64 8, .int .i64 20, .int .i64 (-1)] 3)) (by repeat (first | with_reducible (first | exact World.gained_refl _ | exact ⟨_, rfl⟩ | apply gain_ext | apply gain_alloc | apply gain_drewN | apply gain_drew) | (refine gain_setCell ?_ (by first | exact Nat.le_refl _ | exact World.size_ext _ _ | (simp; done) | (simp; omega)) _))))
    have HP1l := Lib.hid (own_up HP1.out (w' := ww1.alloc (.cells #[.int .i64 0, .int .i64 1, .int .i64 2, .int .i64 4, .int .i64 8, .int .i64 20, .int .i64 (-1)] 3)) (by repeat (first | with_reducible (first | exact World.gained_refl _ | exact ⟨_, rfl⟩ | apply gain_ext | apply gain_alloc | apply gain_drewN | apply gain_drew) | (refine gain_setCell ?_ (by first | exact Nat.le_refl _ | exact World.size_ext _ _ | (simp; done) | (simp; omega)) _))))
    have HC1l := Lib.hid (HC1.out.gain (w' := ww1.alloc (.cells #[.int .i64 0, .int .i64 1, .int .i64 2, .int .i64 4, .int .i64 8, .int .i64 20, .int .i64 (-1)] 3)) (by repeat (first | with_reducible (first | exact World.gained_refl _ | exact ⟨_, rfl⟩ | apply gain_ext | apply gain_alloc | apply gain_drewN | apply gain_drew) | (refine gain_setCell ?_ (by first | exact Nat.le_refl _ | exact World.size_ext _ _ | (simp; done) | (simp; omega)) _))))
    refine wpAnyH_ready (rs := [6]) (by kernel_rfl) (by simp) ?_
    refine AllReadyH.cons rfl (fun K hK => ?_) (AllReadyH.nil)
    go_simp
    go_wp2_with fail
    refine (among_any _ _ g _ _ [0, 1, 2, 4, 8, 20, -1] lo (HC1l.out.gain (by repeat (first | with_reducible (first | exact World.gained_refl _ | exact ⟨_, rfl⟩ | apply gain_ext | apply gain_alloc | apply gain_drewN | apply gain_drew) | (refine gain_setCell ?_ (by first | exact Nat.le_refl _ | exact World.size_ext _ _ | (simp; done) | (simp; omega)) _)))) (by omega) (own_up HL1l.out (by repeat (first | with_reducible (first | exact World.gained_refl _ | exact ⟨_, rfl⟩ | apply gain_ext | apply gain_alloc | apply gain_drewN | apply gain_drew) | (refine gain_setCell ?_ (by first | exact Nat.le_refl _ | exact World.size_ext _ _ | (simp; done) | (simp; omega)) _)))) hglo (by simp) (by simp)).mono ?_
    rintro e ww2 ⟨x1, rfl, hmm, hc1, hg1⟩
    have hx1 : x1 ≤ 1048576 := by simp at hmm; omega
    clear hmm
    have HB2 := Lib.hid (row_keep (row_up HB1l.out (by repeat (first | with_reducible (first | exact World.gained_refl _ | exact ⟨_, rfl⟩ | apply gain_ext | apply gain_alloc | apply gain_drewN | apply gain_drew) | (refine gain_setCell ?_ (by first | exact Nat.le_refl _ | exact World.size_ext _ _ | (simp; done) | (simp; omega)) _)))) hg1 (fun q e => by cases e; omega))
    have HS2 := Lib.hid (row_keep (row_up HS1l.out (by repeat (first | with_reducible (first | exact World.gained_refl _ | exact ⟨_, rfl⟩ | apply gain_ext | apply gain_alloc | apply gain_drewN | apply gain_drew) | (refine gain_setCell ?_ (by first | exact Nat.le_refl _ | exact World.size_ext _ _ | (simp; done) | (simp; omega)) _)))) hg1 (fun q e => by cases e; omega))
    have HO2 := Lib.hid (own_cur (own_up HO1l.out (by repeat (first | with_reducible (first | exact World.gained_refl _ | exact ⟨_, rfl⟩ | apply gain_ext | apply gain_alloc | apply gain_drewN | apply gain_drew) | (refine gain_setCell ?_ (by first | exact Nat.le_refl _ | exact World.size_ext _ _ | (simp; done) | (simp; omega)) _)))) hglo hg1)
    have HP2 := Lib.hid (own_cur (own_up HP1l.out (by repeat (first | with_reducible (first | exact World.gained_refl _ | exact ⟨_, rfl⟩ | apply gain_ext | apply gain_alloc | apply gain_drewN | apply gain_drew) | (refine gain_setCell ?_ (by first | exact Nat.le_refl _ | exact World.size_ext _ _ | (simp; done) | (simp; omega)) _)))) hglo hg1)
    have HC2 := Lib.hid hc1
    clear hc1 hg1
    (try dsimp only)
    refine hK.out _ _ ?_ (fun hHeld => ?_)
    · exact ⟨World.cell_of_heap HB2.out 0, World.cell_of_heap HB2.out 1, World.cell_of_heap HB2.out 2, World.cell_of_heap HB2.out 3⟩
    clear hK K
    try simp only [Act.put, List.setIfInBounds_toArray, List.set_cons_zero, List.set_cons_succ]
    have ey0 : ww2.cell? ⟨w.heap.size, 0, none⟩ = some (.int .i64 0) := World.cell_of_heap HS2.out 0
    have ez0 : ww2.frozen? ⟨w.heap.size, 0, none⟩ = false := World.free_of_heap HS2.out 0
    have ey1 : ww2.cell? ⟨w.heap.size, 1, none⟩ = some (.int .i64 0) := World.cell_of_heap HS2.out 1
    have ez1 : ww2.frozen? ⟨w.heap.size, 1, none⟩ = false := World.free_of_heap HS2.out 1
    have ey2 : ww2.cell? ⟨w.heap.size, 2, none⟩ = some (.slice none 0 0) := World.cell_of_heap HS2.out 2
    have ez2 : ww2.frozen? ⟨w.heap.size, 2, none⟩ = false := World.free_of_heap HS2.out 2
    have ey3 : ww2.cell? ⟨w.heap.size, 3, none⟩ = some (.slice none 0 0) := World.cell_of_heap HS2.out 3
    have ez3 : ww2.frozen? ⟨w.heap.size, 3, none⟩ = false := World.free_of_heap HS2.out 3
    have eoc := World.oldB_of_cell ey0
    have gw0 := World.heap_setCell_row HS2.out 0 (.int .i64 m.wd)
    have gc0 : (ww2.setCell ⟨w.heap.size, 0, none⟩ (.int .i64 m.wd)).cell? ⟨w.heap.size, 0, none⟩ = some (.int .i64 m.wd) := World.cell_of_heap gw0 0
    have gw1 := World.heap_setCell_row gw0 1 (.int .i64 m.ht)
    have gc1 : ((ww2.setCell ⟨w.heap.size, 0, none⟩ (.int .i64 m.wd)).setCell ⟨w.heap.size, 1, none⟩ (.int .i64 m.ht)).cell? ⟨w.heap.size, 1, none⟩ = some (.int .i64 m.ht) := World.cell_of_heap gw1 1
    have gw2 := World.heap_setCell_row gw1 2 (.slice pr nr kr)
    have gc2 : (((ww2.setCell ⟨w.heap.size, 0, none⟩ (.int .i64 m.wd)).setCell ⟨w.heap.size, 1, none⟩ (.int .i64 m.ht)).setCell ⟨w.heap.size, 2, none⟩ (.slice pr nr kr)).cell? ⟨w.heap.size, 2, none⟩ = some (.slice pr nr kr) := World.cell_of_heap gw2 2
    have gw3 := World.heap_setCell_row gw2 3 (.slice pc nc kc)
    have gc3 : ((((ww2.setCell ⟨w.heap.size, 0, none⟩ (.int .i64 m.wd)).setCell ⟨w.heap.size, 1, none⟩ (.int .i64 m.ht)).setCell ⟨w.heap.size, 2, none⟩ (.slice pr nr kr)).setCell ⟨w.heap.size, 3, none⟩ (.slice pc nc kc)).cell? ⟨w.heap.size, 3, none⟩ = some (.slice pc nc kc) := World.cell_of_heap gw3 3
    clear gw0 gw1 gw2 gw3
    have hon : ww2.grownBy ((((ww2.setCell ⟨w.heap.size, 0, none⟩ (.int .i64 m.wd)).setCell ⟨w.heap.size, 1, none⟩ (.int .i64 m.ht)).setCell ⟨w.heap.size, 2, none⟩ (.slice pr nr kr)).setCell ⟨w.heap.size, 3, none⟩ (.slice pc nc kc)) (some w.heap.size) := by repeat (first | exact only_refl _ _ | refine only_setCell ?_ rfl _)
    have HBF := Lib.hid (row_keep HB2.out hon (fun q e => by cases e; omega))
    have HF1 := Lib.hid (own_not HO2.out (fun q e => by have := (own_lt HO2.out q e).1; omega) hon)
    have HF2 := Lib.hid (own_not HP2.out (fun q e => by have := (own_lt HP2.out q e).1; omega) hon)
    have HFG := Lib.hid (gain_grown (gain_trans HW1.out HC2.out.up) hon (fun q e => by cases e; omega))
    clear hon
    refine wpAnyH_ready (rs := [7]) (by kernel_rfl) (by simp) ?_
    refine AllReadyH.cons rfl (fun K hK => ?_) (AllReadyH.nil)
    go_simp
    refine hK.out _ _ ?_ (fun hHeld => ?_)
    · exact ⟨World.cell_of_heap HBF.out 0, World.cell_of_heap HBF.out 1, World.cell_of_heap HBF.out 2, World.cell_of_heap HBF.out 3⟩
    clear hK K
    try simp only [Act.put, List.setIfInBounds_toArray, List.set_cons_zero, List.set_cons_succ]
    refine wpAnyH_take (i := 8) (oi := ⟨_, _, _, _, _, _⟩) (v := ?_) rfl (by kernel_rfl) (by kernel_rfl) (by kernel_rfl) (fun _ _ _ h => h) (Or.inl ⟨by rfl, ?_⟩) (by assumption) ?_
    rotate_left
    · intro w hSw; (try dsimp only at hSw); go_simp; (try with_reducible rfl)
    try simp only [Act.put, List.setIfInBounds_toArray, List.set_cons_zero, List.set_cons_succ]
    refine wpAnyH_take (i := 9) (oi := ⟨_, _, _, _, _, _⟩) (v := ?_) rfl (by kernel_rfl) (by kernel_rfl) (by kernel_rfl) (fun _ _ _ h => h) (Or.inl ⟨by rfl, ?_⟩) (by assumption) ?_
    rotate_left
    · intro w hSw; (try dsimp only at hSw); go_simp; (try with_reducible rfl)
    try simp only [Act.put, List.setIfInBounds_toArray, List.set_cons_zero, List.set_cons_succ]
    refine wpAnyH_done (by kernel_rfl) ?_ _
    go_wp2
    refine bodyPost_ret (v := .tuple #[.agg #[.int .i64 m.wd, .int .i64 m.ht, .slice pr nr kr, .slice pc nc kc], .int .i64 x0, .int .i64 x1]) (by simp [results, Try.results43, go_sem, gc0, gc1, gc2, gc3]) rfl ?_
    exact ⟨m, _, _, _, _, rfl, HFG.out, ⟨sl_of_own intC_length HF1.out, sl_of_own intC_length HF2.out, hrl, hcl⟩, hx1⟩
  · go_simp
    have HL0l := Lib.hid (own_lit' (w := ww0) (e := 3) (base := lo) (C := #[.int .i64 0, .int .i64 1, .int .i64 2, .int .i64 4, .int .i64 8, .int .i64 20, .int .i64 (-1)]) (l := [0, 1, 2, 4, 8, 20, -1]) intC_length rfl rfl (Nat.le_trans hlm (Nat.le_of_lt (by have := (Array.getElem?_eq_some_iff.1 HB0.out).1; omega))))
    refine hK.out _ _ ?_ (fun hHeld => ?_)
    · exact ⟨World.cell_of_heap (row_up HB0.out (by repeat (first | with_reducible (first | exact World.gained_refl _ | exact ⟨_, rfl⟩ | apply gain_ext | apply gain_alloc | apply gain_drewN | apply gain_drew) | (refine gain_setCell ?_ (by first | exact Nat.le_refl _ | exact World.size_ext _ _ | (simp; done) | (simp; omega)) _)))) 0, World.cell_of_heap (row_up HB0.out (by repeat (first | with_reducible (first | exact World.gained_refl _ | exact ⟨_, rfl⟩ | apply gain_ext | apply gain_alloc | apply gain_drewN | apply gain_drew) | (refine gain_setCell ?_ (by first | exact Nat.le_refl _ | exact World.size_ext _ _ | (simp; done) | (simp; omega)) _)))) 1, World.cell_of_heap (row_up HB0.out (by repeat (first | with_reducible (first | exact World.gained_refl _ | exact ⟨_, rfl⟩ | apply gain_ext | apply gain_alloc | apply gain_drewN | apply gain_drew) | (refine gain_setCell ?_ (by first | exact Nat.le_refl _ | exact World.size_ext _ _ | (simp; done) | (simp; omega)) _)))) 2, World.cell_of_heap (row_up HB0.out (by repeat (first | with_reducible (first | exact World.gained_refl _ | exact ⟨_, rfl⟩ | apply gain_ext | apply gain_alloc | apply gain_drewN | apply gain_drew) | (refine gain_setCell ?_ (by first | exact Nat.le_refl _ | exact World.size_ext _ _ | (simp; done) | (simp; omega)) _)))) 3⟩
    clear hK K
    try simp only [Act.put, List.setIfInBounds_toArray, List.set_cons_zero, List.set_cons_succ]
    have HB0l := Lib.hid (row_up HB0.out (w' := ww0.alloc (.cells #[.int .i64 0, .int .i64 1, .int .i64 2, .int .i64 4, .int .i64 8, .int .i64 20, .int .i64 (-1)] 3)) (by repeat (first | with_reducible (first | exact World.gained_refl _ | exact ⟨_, rfl⟩ | apply gain_ext | apply gain_alloc | apply gain_drewN | apply gain_drew) | (refine gain_setCell ?_ (by first | exact Nat.le_refl _ | exact World.size_ext _ _ | (simp; done) | (simp; omega)) _))))
    have HS0l := Lib.hid (row_up HS0.out (w' := ww0.alloc (.cells #[.int .i64 0, .int .i64 1, .int .i64 2, .int .i64 4, .int .i64 8, .int .i64 20, .int .i64 (-1)] 3)) (by repeat (first | with_reducible (first | exact World.gained_refl _ | exact ⟨_, rfl⟩ | apply gain_ext | apply gain_alloc | apply gain_drewN | apply gain_drew) | (refine gain_setCell ?_ (by first | exact Nat.le_refl _ | exact World.size_ext _ _ | (simp; done) | (simp; omega)) _))))
    have HO0l := Lib.hid (own_up HO0.out (w' := ww0.alloc (.cells #[.int .i64 0, .int .i64 1, .int .i64 2, .int .i64 4, .int .i64 8, .int .i64 20, .int .i64 (-1)] 3)) (by repeat (first | with_reducible (first | exact World.gained_refl _ | exact ⟨_, rfl⟩ | apply gain_ext | apply gain_alloc | apply gain_drewN | apply gain_drew) | (refine gain_setCell ?_ (by first | exact Nat.le_refl _ | exact World.size_ext _ _ | (simp; done) | (simp; omega)) _))))
    have HP0l := Lib.hid (own_up HP0.out (w' := ww0.alloc (.cells #[.int .i64 0, .int .i64 1, .int .i64 2, .int .i64 4, .int .i64 8, .int .i64 20, .int .i64 (-1)] 3)) (by repeat (first | with_reducible (first | exact World.gained_refl _ | exact ⟨_, rfl⟩ | apply gain_ext | apply gain_alloc | apply gain_drewN | apply gain_drew) | (refine gain_setCell ?_ (by first | exact Nat.le_refl _ | exact World.size_ext _ _ | (simp; done) | (simp; omega)) _))))
    have HC0l := Lib.hid (HC0.out.gain (w' := ww0.alloc (.cells #[.int .i64 0, .int .i64 1, .int .i64 2, .int .i64 4, .int .i64 8, .int .i64 20, .int .i64 (-1)] 3)) (by repeat (first | with_reducible (first | exact World.gained_refl _ | exact ⟨_, rfl⟩ | apply gain_ext | apply gain_alloc | apply gain_drewN | apply gain_drew) | (refine gain_setCell ?_ (by first | exact Nat.le_refl _ | exact World.size_ext _ _ | (simp; done) | (simp; omega)) _))))
    refine wpAnyH_ready (rs := [3]) (by kernel_rfl) (by simp) ?_
    refine AllReadyH.cons rfl (fun K hK => ?_) (AllReadyH.nil)
    go_simp
    go_wp2_with fail
    refine (openCell_any _ _ g _ lo m _ _ (HC0l.out.gain (by repeat (first | with_reducible (first | exact World.gained_refl _ | exact ⟨_, rfl⟩ | apply gain_ext | apply gain_alloc | apply gain_drewN | apply gain_drew) | (refine gain_setCell ?_ (by first | exact Nat.le_refl _ | exact World.size_ext _ _ | (simp; done) | (simp; omega)) _)))) (by omega) hglo (own_up HO0l.out (by repeat (first | with_reducible (first | exact World.gained_refl _ | exact ⟨_, rfl⟩ | apply gain_ext | apply gain_alloc | apply gain_drewN | apply gain_drew) | (refine gain_setCell ?_ (by first | exact Nat.le_refl _ | exact World.size_ext _ _ | (simp; done) | (simp; omega)) _)))) (own_up HP0l.out (by repeat (first | with_reducible (first | exact World.gained_refl _ | exact ⟨_, rfl⟩ | apply gain_ext | apply gain_alloc | apply gain_drewN | apply gain_drew) | (refine gain_setCell ?_ (by first | exact Nat.le_refl _ | exact World.size_ext _ _ | (simp; done) | (simp; omega)) _)))) hrl hcl).mono ?_
    rintro e ww1 ⟨x0, rfl, hc1, hg1⟩
    have HL1 := Lib.hid (own_cur (own_up HL0l.out (by repeat (first | with_reducible (first | exact World.gained_refl _ | exact ⟨_, rfl⟩ | apply gain_ext | apply gain_alloc | apply gain_drewN | apply gain_drew) | (refine gain_setCell ?_ (by first | exact Nat.le_refl _ | exact World.size_ext _ _ | (simp; done) | (simp; omega)) _)))) hglo hg1)
    have HB1 := Lib.hid (row_keep (row_up HB0l.out (by repeat (first | with_reducible (first | exact World.gained_refl _ | exact ⟨_, rfl⟩ | apply gain_ext | apply gain_alloc | apply gain_drewN | apply gain_drew) | (refine gain_setCell ?_ (by first | exact Nat.le_refl _ | exact World.size_ext _ _ | (simp; done) | (simp; omega)) _)))) hg1 (fun q e => by cases e; omega))
    have HS1 := Lib.hid (row_keep (row_up HS0l.out (by repeat (first | with_reducible (first | exact World.gained_refl _ | exact ⟨_, rfl⟩ | apply gain_ext | apply gain_alloc | apply gain_drewN | apply gain_drew) | (refine gain_setCell ?_ (by first | exact Nat.le_refl _ | exact World.size_ext _ _ | (simp; done) | (simp; omega)) _)))) hg1 (fun q e => by cases e; omega))
    have HO1 := Lib.hid (own_cur (own_up HO0l.out (by repeat (first | with_reducible (first | exact World.gained_refl _ | exact ⟨_, rfl⟩ | apply gain_ext | apply gain_alloc | apply gain_drewN | apply gain_drew) | (refine gain_setCell ?_ (by first | exact Nat.le_refl _ | exact World.size_ext _ _ | (simp; done) | (simp; omega)) _)))) hglo hg1)
    have HP1 := Lib.hid (own_cur (own_up HP0l.out (by repeat (first | with_reducible (first | exact World.gained_refl _ | exact ⟨_, rfl⟩ | apply gain_ext | apply gain_alloc | apply gain_drewN | apply gain_drew) | (refine gain_setCell ?_ (by first | exact Nat.le_refl _ | exact World.size_ext _ _ | (simp; done) | (simp; omega)) _)))) hglo hg1)
    have HC1 := Lib.hid hc1
    clear hc1 hg1
    (try dsimp only)
    refine hK.out _ _ ?_ (fun hHeld => ?_)
    · exact ⟨World.cell_of_heap HB1.out 0, World.cell_of_heap HB1.out 1, World.cell_of_heap HB1.out 2, World.cell_of_heap HB1.out 3⟩
    clear hK K
    try simp only [Act.put, List.setIfInBounds_toArray, List.set_cons_zero, List.set_cons_succ]
    refine wpAnyH_ready (rs := [6]) (by kernel_rfl) (by simp) ?_
    refine AllReadyH.cons rfl (fun K hK => ?_) (AllReadyH.nil)
    go_simp
    go_wp2_with fail
    refine (among_any _ _ g _ _ [0, 1, 2, 4, 8, 20, -1] lo (HC1.out.gain (by repeat (first | with_reducible (first | exact World.gained_refl _ | exact ⟨_, rfl⟩ | apply gain_ext | apply gain_alloc | apply gain_drewN | apply gain_drew) | (refine gain_setCell ?_ (by first | exact Nat.le_refl _ | exact World.size_ext _ _ | (simp; done) | (simp; omega)) _)))) (by omega) (own_up HL1.out (by repeat (first | with_reducible (first | exact World.gained_refl _ | exact ⟨_, rfl⟩ | apply gain_ext | apply gain_alloc | apply gain_drewN | apply gain_drew) | (refine gain_setCell ?_ (by first | exact Nat.le_refl _ | exact World.size_ext _ _ | (simp; done) | (simp; omega)) _)))) hglo (by simp) (by simp)).mono ?_
    rintro e ww2 ⟨x1, rfl, hmm, hc1, hg1⟩
    have hx1 : x1 ≤ 1048576 := by simp at hmm; omega
    clear hmm
    have HB2 := Lib.hid (row_keep (row_up HB1.out (by repeat (first | with_reducible (first | exact World.gained_refl _ | exact ⟨_, rfl⟩ | apply gain_ext | apply gain_alloc | apply gain_drewN | apply gain_drew) | (refine gain_setCell ?_ (by first | exact Nat.le_refl _ | exact World.size_ext _ _ | (simp; done) | (simp; omega)) _)))) hg1 (fun q e => by cases e; omega))
    have HS2 := Lib.hid (row_keep (row_up HS1.out (by repeat (first | with_reducible (first | exact World.gained_refl _ | exact ⟨_, rfl⟩ | apply gain_ext | apply gain_alloc | apply gain_drewN | apply gain_drew) | (refine gain_setCell ?_ (by first | exact Nat.le_refl _ | exact World.size_ext _ _ | (simp; done) | (simp; omega)) _)))) hg1 (fun q e => by cases e; omega))
    have HO2 := Lib.hid (own_cur (own_up HO1.out (by repeat (first | with_reducible (first | exact World.gained_refl _ | exact ⟨_, rfl⟩ | apply gain_ext | apply gain_alloc | apply gain_drewN | apply gain_drew) | (refine gain_setCell ?_ (by first | exact Nat.le_refl _ | exact World.size_ext _ _ | (simp; done) | (simp; omega)) _)))) hglo hg1)
    have HP2 := Lib.hid (own_cur (own_up HP1.out (by repeat (first | with_reducible (first | exact World.gained_refl _ | exact ⟨_, rfl⟩ | apply gain_ext | apply gain_alloc | apply gain_drewN | apply gain_drew) | (refine gain_setCell ?_ (by first | exact Nat.le_refl _ | exact World.size_ext _ _ | (simp; done) | (simp; omega)) _)))) hglo hg1)
    have HC2 := Lib.hid hc1
    clear hc1 hg1
    (try dsimp only)
    refine hK.out _ _ ?_ (fun hHeld => ?_)
    · exact ⟨World.cell_of_heap HB2.out 0, World.cell_of_heap HB2.out 1, World.cell_of_heap HB2.out 2, World.cell_of_heap HB2.out 3⟩
    clear hK K
    try simp only [Act.put, List.setIfInBounds_toArray, List.set_cons_zero, List.set_cons_succ]
    have ey0 : ww2.cell? ⟨w.heap.size, 0, none⟩ = some (.int .i64 0) := World.cell_of_heap HS2.out 0
    have ez0 : ww2.frozen? ⟨w.heap.size, 0, none⟩ = false := World.free_of_heap HS2.out 0
    have ey1 : ww2.cell? ⟨w.heap.size, 1, none⟩ = some (.int .i64 0) := World.cell_of_heap HS2.out 1
    have ez1 : ww2.frozen? ⟨w.heap.size, 1, none⟩ = false := World.free_of_heap HS2.out 1
    have ey2 : ww2.cell? ⟨w.heap.size, 2, none⟩ = some (.slice none 0 0) := World.cell_of_heap HS2.out 2
    have ez2 : ww2.frozen? ⟨w.heap.size, 2, none⟩ = false := World.free_of_heap HS2.out 2
    have ey3 : ww2.cell? ⟨w.heap.size, 3, none⟩ = some (.slice none 0 0) := World.cell_of_heap HS2.out 3
    have ez3 : ww2.frozen? ⟨w.heap.size, 3, none⟩ = false := World.free_of_heap HS2.out 3
    have eoc := World.oldB_of_cell ey0
    have gw0 := World.heap_setCell_row HS2.out 0 (.int .i64 m.wd)
    have gc0 : (ww2.setCell ⟨w.heap.size, 0, none⟩ (.int .i64 m.wd)).cell? ⟨w.heap.size, 0, none⟩ = some (.int .i64 m.wd) := World.cell_of_heap gw0 0
    have gw1 := World.heap_setCell_row gw0 1 (.int .i64 m.ht)
    have gc1 : ((ww2.setCell ⟨w.heap.size, 0, none⟩ (.int .i64 m.wd)).setCell ⟨w.heap.size, 1, none⟩ (.int .i64 m.ht)).cell? ⟨w.heap.size, 1, none⟩ = some (.int .i64 m.ht) := World.cell_of_heap gw1 1
    have gw2 := World.heap_setCell_row gw1 2 (.slice pr nr kr)
    have gc2 : (((ww2.setCell ⟨w.heap.size, 0, none⟩ (.int .i64 m.wd)).setCell ⟨w.heap.size, 1, none⟩ (.int .i64 m.ht)).setCell ⟨w.heap.size, 2, none⟩ (.slice pr nr kr)).cell? ⟨w.heap.size, 2, none⟩ = some (.slice pr nr kr) := World.cell_of_heap gw2 2
    have gw3 := World.heap_setCell_row gw2 3 (.slice pc nc kc)
    have gc3 : ((((ww2.setCell ⟨w.heap.size, 0, none⟩ (.int .i64 m.wd)).setCell ⟨w.heap.size, 1, none⟩ (.int .i64 m.ht)).setCell ⟨w.heap.size, 2, none⟩ (.slice pr nr kr)).setCell ⟨w.heap.size, 3, none⟩ (.slice pc nc kc)).cell? ⟨w.heap.size, 3, none⟩ = some (.slice pc nc kc) := World.cell_of_heap gw3 3
    clear gw0 gw1 gw2 gw3
    have hon : ww2.grownBy ((((ww2.setCell ⟨w.heap.size, 0, none⟩ (.int .i64 m.wd)).setCell ⟨w.heap.size, 1, none⟩ (.int .i64 m.ht)).setCell ⟨w.heap.size, 2, none⟩ (.slice pr nr kr)).setCell ⟨w.heap.size, 3, none⟩ (.slice pc nc kc)) (some w.heap.size) := by repeat (first | exact only_refl _ _ | refine only_setCell ?_ rfl _)
    have HBF := Lib.hid (row_keep HB2.out hon (fun q e => by cases e; omega))
    have HF1 := Lib.hid (own_not HO2.out (fun q e => by have := (own_lt HO2.out q e).1; omega) hon)
    have HF2 := Lib.hid (own_not HP2.out (fun q e => by have := (own_lt HP2.out q e).1; omega) hon)
    have HFG := Lib.hid (gain_grown (gain_trans HW1.out HC2.out.up) hon (fun q e => by cases e; omega))
    clear hon
    refine wpAnyH_ready (rs := [7]) (by kernel_rfl) (by simp) ?_
    refine AllReadyH.cons rfl (fun K hK => ?_) (AllReadyH.nil)
    go_simp
    refine hK.out _ _ ?_ (fun hHeld => ?_)
    · exact ⟨World.cell_of_heap HBF.out 0, World.cell_of_heap HBF.out 1, World.cell_of_heap HBF.out 2, World.cell_of_heap HBF.out 3⟩
    clear hK K
    try simp only [Act.put, List.setIfInBounds_toArray, List.set_cons_zero, List.set_cons_succ]
    refine wpAnyH_take (i := 8) (oi := ⟨_, _, _, _, _, _⟩) (v := ?_) rfl (by kernel_rfl) (by kernel_rfl) (by kernel_rfl) (fun _ _ _ h => h) (Or.inl ⟨by rfl, ?_⟩) (by assumption) ?_
    rotate_left
    · intro w hSw; (try dsimp only at hSw); go_simp; (try with_reducible rfl)
    try simp only [Act.put, List.setIfInBounds_toArray, List.set_cons_zero, List.set_cons_succ]
    refine wpAnyH_take (i := 9) (oi := ⟨_, _, _, _, _, _⟩) (v := ?_) rfl (by kernel_rfl) (by kernel_rfl) (by kernel_rfl) (fun _ _ _ h => h) (Or.inl ⟨by rfl, ?_⟩) (by assumption) ?_
    rotate_left
    · intro w hSw; (try dsimp only at hSw); go_simp; (try with_reducible rfl)
    try simp only [Act.put, List.setIfInBounds_toArray, List.set_cons_zero, List.set_cons_succ]
    refine wpAnyH_done (by kernel_rfl) ?_ _
    go_wp2
    refine bodyPost_ret (v := .tuple #[.agg #[.int .i64 m.wd, .int .i64 m.ht, .slice pr nr kr, .slice pc nc kc], .int .i64 x0, .int .i64 x1]) (by simp [results, Try.results43, go_sem, gc0, gc1, gc2, gc3]) rfl ?_
    exact ⟨m, _, _, _, _, rfl, HFG.out, ⟨sl_of_own intC_length HF1.out, sl_of_own intC_length HF2.out, hrl, hcl⟩, hx1⟩
end Go.Proofs.Ytddbbbmamoficaa
