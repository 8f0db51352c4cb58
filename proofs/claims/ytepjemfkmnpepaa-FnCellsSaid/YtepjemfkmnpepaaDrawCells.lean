/- The draw of a map and a cell. Condition: at most 1048576 bytes. -/
import Derived.Test.YtepjemfkmnpepaaDrawMap
import Derived.Test.YtepjemfkmnpepaaDrawCell
namespace Go.Proofs.Ytepjemfkmnpepaa
open Go.RowKit Go.Ori
theorem cellOfE_any (W w : World) (g n lo : Nat) (m : Mp) (pr pc : Option Addr) (nr kr nc kc : Nat) (h : Cur 46 W w g n) (hn : n ≤ 10000) (hr : w.own lo 3 intC 1 (.slice pr nr kr) m.rise) (hc : w.own lo 3 intC 1 (.slice pc nc kc) m.cost) (hl : m.cost.length ≤ 1048576) :
    Calls Try.prog 21 #[.pointer (some ⟨g, 0, none⟩), .agg #[.int .i64 m.wd, .int .i64 m.ht, .slice pr nr kr, .slice pc nc kc]] w fun x w' => ∃ r : Int, x = .returned (.int .i64 r) ∧ -1 ≤ r ∧ r ≤ 1048576 ∧ Cur 46 W w' g (n + 4) ∧ w.grownBy w' (some g) := by
  obtain ⟨_, _, e1, _⟩ := sl_of_own intC_length hr
  obtain ⟨_, _, e2, _⟩ := sl_of_own intC_length hc
  cases e1
  cases e2
  exact cellOfD_any W w g n m pr pc kr kc h hn hl
set_option maxHeartbeats 4000000 in
set_option maxRecDepth 100000 in
theorem drawCellsNextTo_any (v : Value) (L : List Int) (w : World) (h : w.sl byteC 1 v L) (hq : ∀ x ∈ L, 0 ≤ x ∧ x ≤ 255) (hl : L.length ≤ 1048576) :
    Calls Try.prog 5 #[v] w fun x w' => ∃ (m : Mp) (rv cv : Value) (x0 : Int), x = .returned (.tuple #[.agg #[.int .i64 m.wd, .int .i64 m.ht, rv, cv], .int .i64 x0]) ∧ (∃ d, w' = w.ext d) ∧ w'.mp rv cv m := by
  have hs := Lib.hid h
  have HQ := Lib.hid hq
  obtain ⟨p, c, rfl, _⟩ := h
  clear hq
  have HW1 := Lib.hid (show ∃ d, w.alloc (.cells #[.int .i64 0, .int .i64 0, .slice none 0 0, .slice none 0 0] 26) = w.ext d from (by repeat (first | with_reducible (first | exact World.gained_refl _ | exact ⟨_, rfl⟩ | apply gain_ext | apply gain_alloc | apply gain_drewN | apply gain_drew) | (refine gain_setCell ?_ (by first | exact Nat.le_refl _ | exact World.size_ext _ _ | (simp; done) | (simp; omega)) _))))
  have hsz : (w.alloc (.cells #[.int .i64 0, .int .i64 0, .slice none 0 0, .slice none 0 0] 26)).heap.size = w.heap.size + 1 := World.size_alloc _ _
  have HRZ := Lib.hid (heap_alloc_new w (.cells #[.int .i64 0, .int .i64 0, .slice none 0 0, .slice none 0 0] 26))
  have HCN := Lib.hid (cur_new (e := 46) (sl_up byteC_length hs.out HW1.out) HQ.out hl)
  go_enter Try.func5, Try.ntmps5
  go_wp2_with fail
  generalize hW1 : w.alloc (.cells #[.int .i64 0, .int .i64 0, .slice none 0 0, .slice none 0 0] 26) = W1 at HW1 HCN HRZ hsz ⊢
  rw [hsz] at HCN
  refine (mapOf_any W1 _ (w.heap.size + 1) 0 HCN.out (by omega)).mono ?_
  rintro e wm ⟨m, rv, cv, rfl, ho1, ho2, -, hrl, hcl, hc1, hg1⟩
  have HRS := Lib.hid (row_keep (row_up HRZ.out (by repeat (first | with_reducible (first | exact World.gained_refl _ | exact ⟨_, rfl⟩ | apply gain_ext | apply gain_alloc | apply gain_drewN | apply gain_drew) | (refine gain_setCell ?_ (by first | exact Nat.le_refl _ | exact World.size_ext _ _ | (simp; done) | (simp; omega)) _)))) hg1 (fun q e => by cases e; omega))
  have hlm := only_size hg1
  have hgm := hc1.lt
  have HCU := Lib.hid hc1
  have HR := Lib.hid ho1
  have HCO := Lib.hid ho2
  have hlo : w.heap.size + 1 < (W1.alloc (.cells #[.slice p L.length c, .int .i64 0, .int .u64 0] 46)).heap.size := by rw [World.size_alloc, hsz]; omega
  generalize (W1.alloc (.cells #[.slice p L.length c, .int .i64 0, .int .u64 0] 46)).heap.size = lo at hlo HR HCO hlm
  obtain ⟨pr, nr, kr, rfl⟩ := own_form ho1
  obtain ⟨pc, nc, kc, rfl⟩ := own_form ho2
  replace hrl : m.rise.length ≤ 1048576 := by omega
  replace hcl : m.cost.length ≤ 1048576 := by omega
  clear hc1 hg1 ho1 ho2 hW1
  have hglo : w.heap.size + 1 < lo := hlo
  generalize hg : w.heap.size + 1 = g at HCU hglo hgm ⊢
  go_upto_region 3 with fail
  have HB0 := Lib.hid (heap_alloc_new wm (.cells #[.int .i64 m.wd, .int .i64 m.ht, .slice pr nr kr, .slice pc nc kc] 26))
  have HS0 := Lib.hid (row_up HRS.out (w' := wm.alloc (.cells #[.int .i64 m.wd, .int .i64 m.ht, .slice pr nr kr, .slice pc nc kc] 26)) (by repeat (first | with_reducible (first | exact World.gained_refl _ | exact ⟨_, rfl⟩ | apply gain_ext | apply gain_alloc | apply gain_drewN | apply gain_drew) | (refine gain_setCell ?_ (by first | exact Nat.le_refl _ | exact World.size_ext _ _ | (simp; done) | (simp; omega)) _))))
  have HC0 := Lib.hid (HCU.out.gain (w' := wm.alloc (.cells #[.int .i64 m.wd, .int .i64 m.ht, .slice pr nr kr, .slice pc nc kc] 26)) (by repeat (first | with_reducible (first | exact World.gained_refl _ | exact ⟨_, rfl⟩ | apply gain_ext | apply gain_alloc | apply gain_drewN | apply gain_drew) | (refine gain_setCell ?_ (by first | exact Nat.le_refl _ | exact World.size_ext _ _ | (simp; done) | (simp; omega)) _))))
  have HO0 := Lib.hid (own_up HR.out (w' := wm.alloc (.cells #[.int .i64 m.wd, .int .i64 m.ht, .slice pr nr kr, .slice pc nc kc] 26)) (by repeat (first | with_reducible (first | exact World.gained_refl _ | exact ⟨_, rfl⟩ | apply gain_ext | apply gain_alloc | apply gain_drewN | apply gain_drew) | (refine gain_setCell ?_ (by first | exact Nat.le_refl _ | exact World.size_ext _ _ | (simp; done) | (simp; omega)) _))))
  have HP0 := Lib.hid (own_up HCO.out (w' := wm.alloc (.cells #[.int .i64 m.wd, .int .i64 m.ht, .slice pr nr kr, .slice pc nc kc] 26)) (by repeat (first | with_reducible (first | exact World.gained_refl _ | exact ⟨_, rfl⟩ | apply gain_ext | apply gain_alloc | apply gain_drewN | apply gain_drew) | (refine gain_setCell ?_ (by first | exact Nat.le_refl _ | exact World.size_ext _ _ | (simp; done) | (simp; omega)) _))))
  generalize wm.alloc (.cells #[.int .i64 m.wd, .int .i64 m.ht, .slice pr nr kr, .slice pc nc kc] 26) = ww0 at HB0 HS0 HC0 HO0 HP0 ⊢
  generalize wm.heap.size = gM at HB0 hgm hlm ⊢
  refine wp_region_held_drew (S := (fun w' => w'.cell? ⟨gM, 0, none⟩ = some (.int .i64 m.wd) ∧ w'.cell? ⟨gM, 1, none⟩ = some (.int .i64 m.ht) ∧ w'.cell? ⟨gM, 2, none⟩ = some (.slice pr nr kr) ∧ w'.cell? ⟨gM, 3, none⟩ = some (.slice pc nc kc))) (by kernel_rfl) ⟨World.cell_of_heap HB0.out 0, World.cell_of_heap HB0.out 1, World.cell_of_heap HB0.out 2, World.cell_of_heap HB0.out 3⟩ (fun hHeld => ?_)
  refine wpAnyH_take (i := 0) (oi := ⟨_, _, _, _, _, _⟩) (v := ?_) rfl (by kernel_rfl) (by kernel_rfl) (by kernel_rfl) (fun _ _ _ h => h) (Or.inl ⟨by rfl, ?_⟩) (by assumption) ?_
  rotate_left
  · intro w hSw; (try dsimp only at hSw); go_simp; (try with_reducible rfl)
  try simp only [Act.put, List.setIfInBounds_toArray, List.set_cons_zero, List.set_cons_succ]
  refine wpAnyH_take (i := 1) (oi := ⟨_, _, _, _, _, _⟩) (v := ?_) rfl (by kernel_rfl) (by kernel_rfl) (by kernel_rfl) (fun _ _ _ h => h) (Or.inl ⟨by rfl, ?_⟩) (by assumption) ?_
  rotate_left
  · intro w hSw; (try dsimp only at hSw); go_simp; (try with_reducible rfl)
  try simp only [Act.put, List.setIfInBounds_toArray, List.set_cons_zero, List.set_cons_succ]
  refine wpAnyH_take (i := 2) (oi := ⟨_, _, _, _, _, _⟩) (v := ?_) rfl (by kernel_rfl) (by kernel_rfl) (by kernel_rfl) (fun _ _ _ h => h) (Or.inl ⟨by rfl, ?_⟩) (by assumption) ?_
  rotate_left
  · intro w hSw; (try dsimp only at hSw); go_simp; (try with_reducible rfl)
  try simp only [Act.put, List.setIfInBounds_toArray, List.set_cons_zero, List.set_cons_succ]
  refine wpAnyH_ready (rs := [3]) (by kernel_rfl) (by simp) ?_
  refine AllReadyH.cons rfl (fun K hK => ?_) (AllReadyH.nil)
  go_simp
  go_wp2_with fail
  refine (cellOfE_any _ _ g _ lo m _ _ _ _ _ _ (HC0.out.gain (by repeat (first | with_reducible (first | exact World.gained_refl _ | exact ⟨_, rfl⟩ | apply gain_ext | apply gain_alloc | apply gain_drewN | apply gain_drew) | (refine gain_setCell ?_ (by first | exact Nat.le_refl _ | exact World.size_ext _ _ | (simp; done) | (simp; omega)) _)))) (by omega) (own_up HO0.out (by repeat (first | with_reducible (first | exact World.gained_refl _ | exact ⟨_, rfl⟩ | apply gain_ext | apply gain_alloc | apply gain_drewN | apply gain_drew) | (refine gain_setCell ?_ (by first | exact Nat.le_refl _ | exact World.size_ext _ _ | (simp; done) | (simp; omega)) _)))) (own_up HP0.out (by repeat (first | with_reducible (first | exact World.gained_refl _ | exact ⟨_, rfl⟩ | apply gain_ext | apply gain_alloc | apply gain_drewN | apply gain_drew) | (refine gain_setCell ?_ (by first | exact Nat.le_refl _ | exact World.size_ext _ _ | (simp; done) | (simp; omega)) _)))) hcl).mono ?_
  rintro e ww1 ⟨x0, rfl, -, -, hc1, hg1⟩
  have HB1 := Lib.hid (row_keep (row_up HB0.out (by repeat (first | with_reducible (first | exact World.gained_refl _ | exact ⟨_, rfl⟩ | apply gain_ext | apply gain_alloc | apply gain_drewN | apply gain_drew) | (refine gain_setCell ?_ (by first | exact Nat.le_refl _ | exact World.size_ext _ _ | (simp; done) | (simp; omega)) _)))) hg1 (fun q e => by cases e; omega))
  have HS1 := Lib.hid (row_keep (row_up HS0.out (by repeat (first | with_reducible (first | exact World.gained_refl _ | exact ⟨_, rfl⟩ | apply gain_ext | apply gain_alloc | apply gain_drewN | apply gain_drew) | (refine gain_setCell ?_ (by first | exact Nat.le_refl _ | exact World.size_ext _ _ | (simp; done) | (simp; omega)) _)))) hg1 (fun q e => by cases e; omega))
  have HO1 := Lib.hid (own_cur (own_up HO0.out (by repeat (first | with_reducible (first | exact World.gained_refl _ | exact ⟨_, rfl⟩ | apply gain_ext | apply gain_alloc | apply gain_drewN | apply gain_drew) | (refine gain_setCell ?_ (by first | exact Nat.le_refl _ | exact World.size_ext _ _ | (simp; done) | (simp; omega)) _)))) hglo hg1)
  have HP1 := Lib.hid (own_cur (own_up HP0.out (by repeat (first | with_reducible (first | exact World.gained_refl _ | exact ⟨_, rfl⟩ | apply gain_ext | apply gain_alloc | apply gain_drewN | apply gain_drew) | (refine gain_setCell ?_ (by first | exact Nat.le_refl _ | exact World.size_ext _ _ | (simp; done) | (simp; omega)) _)))) hglo hg1)
  have HC1 := Lib.hid hc1
  clear hc1 hg1
  (try dsimp only)
  refine hK.out _ _ ?_ (fun hHeld => ?_)
  · exact ⟨World.cell_of_heap HB1.out 0, World.cell_of_heap HB1.out 1, World.cell_of_heap HB1.out 2, World.cell_of_heap HB1.out 3⟩
  clear hK K
  try simp only [Act.put, List.setIfInBounds_toArray, List.set_cons_zero, List.set_cons_succ]
  have ey0 : ww1.cell? ⟨w.heap.size, 0, none⟩ = some (.int .i64 0) := World.cell_of_heap HS1.out 0
  have ez0 : ww1.frozen? ⟨w.heap.size, 0, none⟩ = false := World.free_of_heap HS1.out 0
  have ey1 : ww1.cell? ⟨w.heap.size, 1, none⟩ = some (.int .i64 0) := World.cell_of_heap HS1.out 1
  have ez1 : ww1.frozen? ⟨w.heap.size, 1, none⟩ = false := World.free_of_heap HS1.out 1
  have ey2 : ww1.cell? ⟨w.heap.size, 2, none⟩ = some (.slice none 0 0) := World.cell_of_heap HS1.out 2
  have ez2 : ww1.frozen? ⟨w.heap.size, 2, none⟩ = false := World.free_of_heap HS1.out 2
  have ey3 : ww1.cell? ⟨w.heap.size, 3, none⟩ = some (.slice none 0 0) := World.cell_of_heap HS1.out 3
  have ez3 : ww1.frozen? ⟨w.heap.size, 3, none⟩ = false := World.free_of_heap HS1.out 3
  have eoc := World.oldB_of_cell ey0
  have gw0 := World.heap_setCell_row HS1.out 0 (.int .i64 m.wd)
  have gc0 : (ww1.setCell ⟨w.heap.size, 0, none⟩ (.int .i64 m.wd)).cell? ⟨w.heap.size, 0, none⟩ = some (.int .i64 m.wd) := World.cell_of_heap gw0 0
  have gw1 := World.heap_setCell_row gw0 1 (.int .i64 m.ht)
  have gc1 : ((ww1.setCell ⟨w.heap.size, 0, none⟩ (.int .i64 m.wd)).setCell ⟨w.heap.size, 1, none⟩ (.int .i64 m.ht)).cell? ⟨w.heap.size, 1, none⟩ = some (.int .i64 m.ht) := World.cell_of_heap gw1 1
  have gw2 := World.heap_setCell_row gw1 2 (.slice pr nr kr)
  have gc2 : (((ww1.setCell ⟨w.heap.size, 0, none⟩ (.int .i64 m.wd)).setCell ⟨w.heap.size, 1, none⟩ (.int .i64 m.ht)).setCell ⟨w.heap.size, 2, none⟩ (.slice pr nr kr)).cell? ⟨w.heap.size, 2, none⟩ = some (.slice pr nr kr) := World.cell_of_heap gw2 2
  have gw3 := World.heap_setCell_row gw2 3 (.slice pc nc kc)
  have gc3 : ((((ww1.setCell ⟨w.heap.size, 0, none⟩ (.int .i64 m.wd)).setCell ⟨w.heap.size, 1, none⟩ (.int .i64 m.ht)).setCell ⟨w.heap.size, 2, none⟩ (.slice pr nr kr)).setCell ⟨w.heap.size, 3, none⟩ (.slice pc nc kc)).cell? ⟨w.heap.size, 3, none⟩ = some (.slice pc nc kc) := World.cell_of_heap gw3 3
  clear gw0 gw1 gw2 gw3
  have hon : ww1.grownBy ((((ww1.setCell ⟨w.heap.size, 0, none⟩ (.int .i64 m.wd)).setCell ⟨w.heap.size, 1, none⟩ (.int .i64 m.ht)).setCell ⟨w.heap.size, 2, none⟩ (.slice pr nr kr)).setCell ⟨w.heap.size, 3, none⟩ (.slice pc nc kc)) (some w.heap.size) := by repeat (first | exact only_refl _ _ | refine only_setCell ?_ rfl _)
  have HBF := Lib.hid (row_keep HB1.out hon (fun q e => by cases e; omega))
  have HF1 := Lib.hid (own_not HO1.out (fun q e => by have := (own_lt HO1.out q e).1; omega) hon)
  have HF2 := Lib.hid (own_not HP1.out (fun q e => by have := (own_lt HP1.out q e).1; omega) hon)
  have HFG := Lib.hid (gain_grown (gain_trans HW1.out HC1.out.up) hon (fun q e => by cases e; omega))
  clear hon
  refine wpAnyH_ready (rs := [4]) (by kernel_rfl) (by simp) ?_
  refine AllReadyH.cons rfl (fun K hK => ?_) (AllReadyH.nil)
  go_simp
  refine hK.out _ _ ?_ (fun hHeld => ?_)
  · exact ⟨World.cell_of_heap HBF.out 0, World.cell_of_heap HBF.out 1, World.cell_of_heap HBF.out 2, World.cell_of_heap HBF.out 3⟩
  clear hK K
  try simp only [Act.put, List.setIfInBounds_toArray, List.set_cons_zero, List.set_cons_succ]
  refine wpAnyH_take (i := 5) (oi := ⟨_, _, _, _, _, _⟩) (v := ?_) rfl (by kernel_rfl) (by kernel_rfl) (by kernel_rfl) (fun _ _ _ h => h) (Or.inl ⟨by rfl, ?_⟩) (by assumption) ?_
  rotate_left
  · intro w hSw; (try dsimp only at hSw); go_simp; (try with_reducible rfl)
  try simp only [Act.put, List.setIfInBounds_toArray, List.set_cons_zero, List.set_cons_succ]
  refine wpAnyH_done (by kernel_rfl) ?_ _
  go_wp2
  refine bodyPost_ret (v := .tuple #[.agg #[.int .i64 m.wd, .int .i64 m.ht, .slice pr nr kr, .slice pc nc kc], .int .i64 x0]) (by simp [results, Try.results5, go_sem, gc0, gc1, gc2, gc3]) rfl ?_
  exact ⟨m, _, _, _, rfl, HFG.out, ⟨sl_of_own intC_length HF1.out, sl_of_own intC_length HF2.out, hrl, hcl⟩⟩
end Go.Proofs.Ytepjemfkmnpepaa
