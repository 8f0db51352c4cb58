/- spec.DrawCodeAt. Condition: at most 1048576 bytes. -/
import Derived.Test.YtedpckkoaioooaaDrawQ
import Derived.Test.YtedpckkoaioooaaCurN
namespace Go.Proofs.Ytedpckkoaioooaa
open Go.RowKit Go.Ori
set_option maxHeartbeats 4000000 in
set_option maxRecDepth 100000 in
theorem drawCodeAt_any (v : Value) (L : List Int) (w : World) (h : w.sl byteC 1 v L) (hq : ∀ x ∈ L, 0 ≤ x ∧ x ≤ 255) (hl : L.length ≤ 1048576) :
    Calls Try.prog 22 #[v] w fun x w' => ∃ (m : Mp) (rv cv lv : Value) (l : List Ctl) (x0 : Int), x = .returned (.tuple #[.agg #[.int .i64 m.wd, .int .i64 m.ht, rv, cv], lv, .int .i64 x0]) ∧ (∃ d, w' = w.ext d) ∧ w'.own w.heap.size 3 intC 1 rv m.rise ∧ w'.own w.heap.size 3 intC 1 cv m.cost ∧ m.rise.length ≤ 21 ∧ m.cost.length ≤ 21 ∧ w'.own w.heap.size 46 Ctl.cells 2 lv l ∧ l.length ≤ 11 := by
  have hs := Lib.hid h
  have HQ := Lib.hid hq
  obtain ⟨p, c, rfl, _⟩ := h
  clear hq
  have HW1 := Lib.hid (show ∃ d, w.alloc (.cells #[.int .i64 0, .int .i64 0, .slice none 0 0, .slice none 0 0] 26) = w.ext d from (by repeat (first | with_reducible (first | exact World.gained_refl _ | exact ⟨_, rfl⟩ | apply gain_ext | apply gain_alloc | apply gain_drewN | apply gain_drew) | (refine gain_setCell ?_ (by first | exact Nat.le_refl _ | exact World.size_ext _ _ | (simp; done) | (simp; omega)) _))))
  have hsz : (w.alloc (.cells #[.int .i64 0, .int .i64 0, .slice none 0 0, .slice none 0 0] 26)).heap.size = w.heap.size + 1 := World.size_alloc _ _
  have HRZ := Lib.hid (heap_alloc_new w (.cells #[.int .i64 0, .int .i64 0, .slice none 0 0, .slice none 0 0] 26))
  have HCN := Lib.hid (cur_new (e := 82) (sl_up byteC_length hs.out HW1.out) HQ.out hl)
  go_enter Try.func22, Try.ntmps22
  go_wp2_with fail
  generalize hW1 : w.alloc (.cells #[.int .i64 0, .int .i64 0, .slice none 0 0, .slice none 0 0] 26) = W1 at HW1 HCN HRZ hsz ⊢
  rw [hsz] at HCN
  refine (site_any W1 _ (w.heap.size + 1) 0 HCN.out (by omega)).mono ?_
  rintro e wm ⟨m, rv, cv, lv, l, rfl, ho1, ho2, -, hrl, hcl, ho3, hll, hc1, hg1⟩
  have hW0 : (W1.alloc (.cells #[.slice p L.length c, .int .i64 0, .int .u64 0] 82)).heap.size = w.heap.size + 2 := by rw [World.size_alloc, hsz]
  have hlm := only_size hg1
  rw [hW0] at hlm ho1 ho2 ho3
  have hQ : QSt 82 26 3 46 W1 (wm.alloc (.cells #[.int .i64 m.wd, .int .i64 m.ht, rv, cv] 26)) (w.heap.size + 1) w.heap.size wm.heap.size (w.heap.size + 2) 600 m rv cv lv l :=
    ⟨(hc1.le (by omega)).gain (by repeat (first | with_reducible (first | exact World.gained_refl _ | exact ⟨_, rfl⟩ | apply gain_ext | apply gain_alloc | apply gain_drewN | apply gain_drew) | (refine gain_setCell ?_ (by first | exact Nat.le_refl _ | exact World.size_ext _ _ | (simp; done) | (simp; omega)) _))), row_up (row_keep (row_up HRZ.out (by repeat (first | with_reducible (first | exact World.gained_refl _ | exact ⟨_, rfl⟩ | apply gain_ext | apply gain_alloc | apply gain_drewN | apply gain_drew) | (refine gain_setCell ?_ (by first | exact Nat.le_refl _ | exact World.size_ext _ _ | (simp; done) | (simp; omega)) _)))) hg1 (fun q e => by cases e; omega)) (by repeat (first | with_reducible (first | exact World.gained_refl _ | exact ⟨_, rfl⟩ | apply gain_ext | apply gain_alloc | apply gain_drewN | apply gain_drew) | (refine gain_setCell ?_ (by first | exact Nat.le_refl _ | exact World.size_ext _ _ | (simp; done) | (simp; omega)) _))), heap_alloc_new wm _, own_up ho1 (by repeat (first | with_reducible (first | exact World.gained_refl _ | exact ⟨_, rfl⟩ | apply gain_ext | apply gain_alloc | apply gain_drewN | apply gain_drew) | (refine gain_setCell ?_ (by first | exact Nat.le_refl _ | exact World.size_ext _ _ | (simp; done) | (simp; omega)) _))), own_up ho2 (by repeat (first | with_reducible (first | exact World.gained_refl _ | exact ⟨_, rfl⟩ | apply gain_ext | apply gain_alloc | apply gain_drewN | apply gain_drew) | (refine gain_setCell ?_ (by first | exact Nat.le_refl _ | exact World.size_ext _ _ | (simp; done) | (simp; omega)) _))), own_up ho3 (by repeat (first | with_reducible (first | exact World.gained_refl _ | exact ⟨_, rfl⟩ | apply gain_ext | apply gain_alloc | apply gain_drewN | apply gain_drew) | (refine gain_setCell ?_ (by first | exact Nat.le_refl _ | exact World.size_ext _ _ | (simp; done) | (simp; omega)) _))), by omega, by omega, by omega⟩
  have HQ0 := Lib.hid hQ
  skip
  obtain ⟨pr, kr, rfl, _⟩ := sl_of_own intC_length ho1
  obtain ⟨pc, kc, rfl, _⟩ := sl_of_own intC_length ho2
  obtain ⟨pl, kl, rfl, _⟩ := sl_of_own Ctl.cells_length ho3
  clear hc1 hg1 ho1 ho2 ho3 hQ hW1 HRZ HCN
  generalize hg : w.heap.size + 1 = g at HQ0 ⊢
  generalize hlo : w.heap.size + 2 = lo at HQ0 hlm  ⊢
  go_upto_region 3 with fail
  generalize wm.alloc (.cells #[.int .i64 m.wd, .int .i64 m.ht, .slice pr m.rise.length kr, .slice pc m.cost.length kc] 26) = ww at HQ0 ⊢
  generalize wm.heap.size = gM at HQ0 hlm ⊢
  by_cases hl0 : l.length = 0
  · have hld : decide (0 < (l.length : Int)) = false := decide_eq_false (by omega)
    have hld2 : decide (0 < l.length) = false := decide_eq_false (by omega)
    clear hl0
    go_upto_region 5 with fail
    refine wp_region_held_drew (S := (fun w' => w'.cell? ⟨gM, 0, none⟩ = some (.int .i64 m.wd) ∧ w'.cell? ⟨gM, 1, none⟩ = some (.int .i64 m.ht) ∧ w'.cell? ⟨gM, 2, none⟩ = some (.slice pr m.rise.length kr) ∧ w'.cell? ⟨gM, 3, none⟩ = some (.slice pc m.cost.length kc))) (by kernel_rfl) ⟨World.cell_of_heap HQ0.out.box 0, World.cell_of_heap HQ0.out.box 1, World.cell_of_heap HQ0.out.box 2, World.cell_of_heap HQ0.out.box 3⟩ (fun hHeld => ?_)
    refine wpAnyH_take (i := 0) (oi := ⟨_, _, _, _, _, _⟩) (v := ?_) rfl (by kernel_rfl) (by kernel_rfl) (by kernel_rfl) (fun _ _ _ h => h) (Or.inl ⟨by rfl, ?_⟩) (by assumption) ?_
    rotate_left
    · intro w hSw; (try dsimp only at hSw); go_simp; (try with_reducible rfl)
    try simp only [Act.put, List.setIfInBounds_toArray, List.set_cons_zero, List.set_cons_succ]
    refine wpAnyH_take (i := 1) (oi := ⟨_, _, _, _, _, _⟩) (v := ?_) rfl (by kernel_rfl) (by kernel_rfl) (by kernel_rfl) (fun _ _ _ h => h) (Or.inl ⟨by rfl, ?_⟩) (by assumption) ?_
    rotate_left
    · intro w hSw; (try dsimp only at hSw); go_simp; (try with_reducible rfl)
    try simp only [Act.put, List.setIfInBounds_toArray, List.set_cons_zero, List.set_cons_succ]
    refine wpAnyH_take (i := 2) (oi := ⟨_, _, _, _, _, _⟩) (v := ?_) rfl (by kernel_rfl) (by kernel_rfl) (by kernel_rfl) (fun _ _ _ h => h) (Or.inl ⟨by rfl, ?_⟩) (by assumption) ?_
    rotate_left
    · intro w hSw; (try dsimp only at hSw); go_simp; (try with_reducible rfl)
    try simp only [Act.put, List.setIfInBounds_toArray, List.set_cons_zero, List.set_cons_succ]
    refine wpAnyH_take (i := 3) (oi := ⟨_, _, _, _, _, _⟩) (v := ?_) rfl (by kernel_rfl) (by kernel_rfl) (by kernel_rfl) (fun _ _ _ h => h) (Or.inl ⟨by rfl, ?_⟩) (by assumption) ?_
    rotate_left
    · intro w hSw; (try dsimp only at hSw); go_simp; (try with_reducible rfl)
    try simp only [Act.put, List.setIfInBounds_toArray, List.set_cons_zero, List.set_cons_succ]
    refine wpAnyH_ready (rs := [4]) (by kernel_rfl) (by simp) ?_
    refine AllReadyH.cons rfl (fun K hK => ?_) (AllReadyH.nil)
    go_simp
    go_wp2_with fail
    refine (cellOfD_any _ _ g _ m pr pc kr kc (HQ0.out.cur.gain (by repeat (first | with_reducible (first | exact World.gained_refl _ | exact ⟨_, rfl⟩ | apply gain_ext | apply gain_alloc | apply gain_drewN | apply gain_drew) | (refine gain_setCell ?_ (by first | exact Nat.le_refl _ | exact World.size_ext _ _ | (simp; done) | (simp; omega)) _)))) (by omega) (by omega)).mono ?_
    rintro e wq ⟨x0, rfl, -, -, hcq, hgq⟩
    have HQ00 := Lib.hid ((HQ0.out.up (by repeat (first | with_reducible (first | exact World.gained_refl _ | exact ⟨_, rfl⟩ | apply gain_ext | apply gain_alloc | apply gain_drewN | apply gain_drew) | (refine gain_setCell ?_ (by first | exact Nat.le_refl _ | exact World.size_ext _ _ | (simp; done) | (simp; omega)) _)))).on hcq hgq)
    clear hcq hgq
    (try dsimp only)
    refine hK.out _ _ ?_ (fun hHeld => ?_)
    · exact ⟨World.cell_of_heap HQ00.out.box 0, World.cell_of_heap HQ00.out.box 1, World.cell_of_heap HQ00.out.box 2, World.cell_of_heap HQ00.out.box 3⟩
    clear hK K
    try simp only [Act.put, List.setIfInBounds_toArray, List.set_cons_zero, List.set_cons_succ]
    have ey0 : wq.cell? ⟨w.heap.size, 0, none⟩ = some (.int .i64 0) := World.cell_of_heap HQ00.out.res 0
    have ez0 : wq.frozen? ⟨w.heap.size, 0, none⟩ = false := World.free_of_heap HQ00.out.res 0
    have ey1 : wq.cell? ⟨w.heap.size, 1, none⟩ = some (.int .i64 0) := World.cell_of_heap HQ00.out.res 1
    have ez1 : wq.frozen? ⟨w.heap.size, 1, none⟩ = false := World.free_of_heap HQ00.out.res 1
    have ey2 : wq.cell? ⟨w.heap.size, 2, none⟩ = some (.slice none 0 0) := World.cell_of_heap HQ00.out.res 2
    have ez2 : wq.frozen? ⟨w.heap.size, 2, none⟩ = false := World.free_of_heap HQ00.out.res 2
    have ey3 : wq.cell? ⟨w.heap.size, 3, none⟩ = some (.slice none 0 0) := World.cell_of_heap HQ00.out.res 3
    have ez3 : wq.frozen? ⟨w.heap.size, 3, none⟩ = false := World.free_of_heap HQ00.out.res 3
    have ex0 : wq.cell? ⟨gM, 0, none⟩ = some (.int .i64 m.wd) := World.cell_of_heap HQ00.out.box 0
    have ex1 : wq.cell? ⟨gM, 1, none⟩ = some (.int .i64 m.ht) := World.cell_of_heap HQ00.out.box 1
    have ex2 : wq.cell? ⟨gM, 2, none⟩ = some (.slice pr m.rise.length kr) := World.cell_of_heap HQ00.out.box 2
    have ex3 : wq.cell? ⟨gM, 3, none⟩ = some (.slice pc m.cost.length kc) := World.cell_of_heap HQ00.out.box 3
    have eoc := World.oldB_of_cell ey0
    have eob := World.oldB_of_cell ex0
    have gw0 := World.heap_setCell_row HQ00.out.res 0 (.int .i64 m.wd)
    have gc0 : (wq.setCell ⟨w.heap.size, 0, none⟩ (.int .i64 m.wd)).cell? ⟨w.heap.size, 0, none⟩ = some (.int .i64 m.wd) := World.cell_of_heap gw0 0
    have gw1 := World.heap_setCell_row gw0 1 (.int .i64 m.ht)
    have gc1 : ((wq.setCell ⟨w.heap.size, 0, none⟩ (.int .i64 m.wd)).setCell ⟨w.heap.size, 1, none⟩ (.int .i64 m.ht)).cell? ⟨w.heap.size, 1, none⟩ = some (.int .i64 m.ht) := World.cell_of_heap gw1 1
    have gw2 := World.heap_setCell_row gw1 2 (.slice pr m.rise.length kr)
    have gc2 : (((wq.setCell ⟨w.heap.size, 0, none⟩ (.int .i64 m.wd)).setCell ⟨w.heap.size, 1, none⟩ (.int .i64 m.ht)).setCell ⟨w.heap.size, 2, none⟩ (.slice pr m.rise.length kr)).cell? ⟨w.heap.size, 2, none⟩ = some (.slice pr m.rise.length kr) := World.cell_of_heap gw2 2
    have gw3 := World.heap_setCell_row gw2 3 (.slice pc m.cost.length kc)
    have gc3 : ((((wq.setCell ⟨w.heap.size, 0, none⟩ (.int .i64 m.wd)).setCell ⟨w.heap.size, 1, none⟩ (.int .i64 m.ht)).setCell ⟨w.heap.size, 2, none⟩ (.slice pr m.rise.length kr)).setCell ⟨w.heap.size, 3, none⟩ (.slice pc m.cost.length kc)).cell? ⟨w.heap.size, 3, none⟩ = some (.slice pc m.cost.length kc) := World.cell_of_heap gw3 3
    clear gw0 gw1 gw2 gw3
    have hon : World.grownBy wq ((((wq.setCell ⟨w.heap.size, 0, none⟩ (.int .i64 m.wd)).setCell ⟨w.heap.size, 1, none⟩ (.int .i64 m.ht)).setCell ⟨w.heap.size, 2, none⟩ (.slice pr m.rise.length kr)).setCell ⟨w.heap.size, 3, none⟩ (.slice pc m.cost.length kc)) (some w.heap.size) := by repeat (first | exact only_refl _ _ | refine only_setCell ?_ rfl _)
    have HF := Lib.hid (HQ00.out.fin hon HW1.out (Nat.le_refl _))
    have hbl : w.heap.size ≤ lo := by omega
    clear hon
    refine wpAnyH_ready (rs := [5]) (by kernel_rfl) (by simp) ?_
    refine AllReadyH.cons rfl (fun K hK => ?_) (AllReadyH.nil)
    go_simp
    refine hK.out _ _ ?_ (fun hHeld => ?_)
    · exact ⟨World.cell_of_heap HF.out.2.2.2.2 0, World.cell_of_heap HF.out.2.2.2.2 1, World.cell_of_heap HF.out.2.2.2.2 2, World.cell_of_heap HF.out.2.2.2.2 3⟩
    clear hK K
    try simp only [Act.put, List.setIfInBounds_toArray, List.set_cons_zero, List.set_cons_succ]
    refine wpAnyH_take (i := 6) (oi := ⟨_, _, _, _, _, _⟩) (v := ?_) rfl (by kernel_rfl) (by kernel_rfl) (by kernel_rfl) (fun _ _ _ h => h) (Or.inl ⟨by rfl, ?_⟩) (by assumption) ?_
    rotate_left
    · intro w hSw; (try dsimp only at hSw); go_simp; (try with_reducible rfl)
    try simp only [Act.put, List.setIfInBounds_toArray, List.set_cons_zero, List.set_cons_succ]
    refine wpAnyH_take (i := 7) (oi := ⟨_, _, _, _, _, _⟩) (v := ?_) rfl (by kernel_rfl) (by kernel_rfl) (by kernel_rfl) (fun _ _ _ h => h) (Or.inl ⟨by rfl, ?_⟩) (by assumption) ?_
    rotate_left
    · intro w hSw; (try dsimp only at hSw); go_simp; (try with_reducible rfl)
    try simp only [Act.put, List.setIfInBounds_toArray, List.set_cons_zero, List.set_cons_succ]
    refine wpAnyH_done (by kernel_rfl) ?_ _
    go_wp2
    refine bodyPost_ret (v := .tuple #[.agg #[.int .i64 m.wd, .int .i64 m.ht, .slice pr m.rise.length kr, .slice pc m.cost.length kc], .slice pl l.length kl, .int .i64 x0]) (by simp [results, Try.results22, go_sem, gc0, gc1, gc2, gc3]) rfl ?_
    exact ⟨m, _, _, _, l, _, rfl, HF.out.1, own_base HF.out.2.1 hbl, own_base HF.out.2.2.1 hbl, hrl, hcl, own_base HF.out.2.2.2.1 hbl, hll⟩
  · have hld : decide (0 < (l.length : Int)) = true := decide_eq_true (by omega)
    have hld2 : decide (0 < l.length) = true := decide_eq_true (by omega)
    go_wp2_with fail
    refine (one_any _ _ g _ _ (HQ0.out.cur.gain (by repeat (first | with_reducible (first | exact World.gained_refl _ | exact ⟨_, rfl⟩ | apply gain_ext | apply gain_alloc | apply gain_drewN | apply gain_drew) | (refine gain_setCell ?_ (by first | exact Nat.le_refl _ | exact World.size_ext _ _ | (simp; done) | (simp; omega)) _)))) (by omega)).mono ?_
    rintro e wo ⟨r, rfl, hcq, hgq⟩
    have HQ1 := Lib.hid (((HQ0.out.up (by repeat (first | with_reducible (first | exact World.gained_refl _ | exact ⟨_, rfl⟩ | apply gain_ext | apply gain_alloc | apply gain_drewN | apply gain_drew) | (refine gain_setCell ?_ (by first | exact Nat.le_refl _ | exact World.size_ext _ _ | (simp; done) | (simp; omega)) _)))).on hcq hgq).le (show _ ≤ 700 by omega))
    clear hcq hgq HQ0
    cases r with
    | false =>
      go_upto_region 5 with fail
      refine wp_region_held_drew (S := (fun w' => w'.cell? ⟨gM, 0, none⟩ = some (.int .i64 m.wd) ∧ w'.cell? ⟨gM, 1, none⟩ = some (.int .i64 m.ht) ∧ w'.cell? ⟨gM, 2, none⟩ = some (.slice pr m.rise.length kr) ∧ w'.cell? ⟨gM, 3, none⟩ = some (.slice pc m.cost.length kc))) (by kernel_rfl) ⟨World.cell_of_heap HQ1.out.box 0, World.cell_of_heap HQ1.out.box 1, World.cell_of_heap HQ1.out.box 2, World.cell_of_heap HQ1.out.box 3⟩ (fun hHeld => ?_)
      refine wpAnyH_take (i := 0) (oi := ⟨_, _, _, _, _, _⟩) (v := ?_) rfl (by kernel_rfl) (by kernel_rfl) (by kernel_rfl) (fun _ _ _ h => h) (Or.inl ⟨by rfl, ?_⟩) (by assumption) ?_
      rotate_left
      · intro w hSw; (try dsimp only at hSw); go_simp; (try with_reducible rfl)
      try simp only [Act.put, List.setIfInBounds_toArray, List.set_cons_zero, List.set_cons_succ]
      refine wpAnyH_take (i := 1) (oi := ⟨_, _, _, _, _, _⟩) (v := ?_) rfl (by kernel_rfl) (by kernel_rfl) (by kernel_rfl) (fun _ _ _ h => h) (Or.inl ⟨by rfl, ?_⟩) (by assumption) ?_
      rotate_left
      · intro w hSw; (try dsimp only at hSw); go_simp; (try with_reducible rfl)
      try simp only [Act.put, List.setIfInBounds_toArray, List.set_cons_zero, List.set_cons_succ]
      refine wpAnyH_take (i := 2) (oi := ⟨_, _, _, _, _, _⟩) (v := ?_) rfl (by kernel_rfl) (by kernel_rfl) (by kernel_rfl) (fun _ _ _ h => h) (Or.inl ⟨by rfl, ?_⟩) (by assumption) ?_
      rotate_left
      · intro w hSw; (try dsimp only at hSw); go_simp; (try with_reducible rfl)
      try simp only [Act.put, List.setIfInBounds_toArray, List.set_cons_zero, List.set_cons_succ]
      refine wpAnyH_take (i := 3) (oi := ⟨_, _, _, _, _, _⟩) (v := ?_) rfl (by kernel_rfl) (by kernel_rfl) (by kernel_rfl) (fun _ _ _ h => h) (Or.inl ⟨by rfl, ?_⟩) (by assumption) ?_
      rotate_left
      · intro w hSw; (try dsimp only at hSw); go_simp; (try with_reducible rfl)
      try simp only [Act.put, List.setIfInBounds_toArray, List.set_cons_zero, List.set_cons_succ]
      refine wpAnyH_ready (rs := [4]) (by kernel_rfl) (by simp) ?_
      refine AllReadyH.cons rfl (fun K hK => ?_) (AllReadyH.nil)
      go_simp
      go_wp2_with fail
      refine (cellOfD_any _ _ g _ m pr pc kr kc (HQ1.out.cur.gain (by repeat (first | with_reducible (first | exact World.gained_refl _ | exact ⟨_, rfl⟩ | apply gain_ext | apply gain_alloc | apply gain_drewN | apply gain_drew) | (refine gain_setCell ?_ (by first | exact Nat.le_refl _ | exact World.size_ext _ _ | (simp; done) | (simp; omega)) _)))) (by omega) (by omega)).mono ?_
      rintro e wq ⟨x0, rfl, -, -, hcq, hgq⟩
      have HQ10 := Lib.hid ((HQ1.out.up (by repeat (first | with_reducible (first | exact World.gained_refl _ | exact ⟨_, rfl⟩ | apply gain_ext | apply gain_alloc | apply gain_drewN | apply gain_drew) | (refine gain_setCell ?_ (by first | exact Nat.le_refl _ | exact World.size_ext _ _ | (simp; done) | (simp; omega)) _)))).on hcq hgq)
      clear hcq hgq
      (try dsimp only)
      refine hK.out _ _ ?_ (fun hHeld => ?_)
      · exact ⟨World.cell_of_heap HQ10.out.box 0, World.cell_of_heap HQ10.out.box 1, World.cell_of_heap HQ10.out.box 2, World.cell_of_heap HQ10.out.box 3⟩
      clear hK K
      try simp only [Act.put, List.setIfInBounds_toArray, List.set_cons_zero, List.set_cons_succ]
      have ey0 : wq.cell? ⟨w.heap.size, 0, none⟩ = some (.int .i64 0) := World.cell_of_heap HQ10.out.res 0
      have ez0 : wq.frozen? ⟨w.heap.size, 0, none⟩ = false := World.free_of_heap HQ10.out.res 0
      have ey1 : wq.cell? ⟨w.heap.size, 1, none⟩ = some (.int .i64 0) := World.cell_of_heap HQ10.out.res 1
      have ez1 : wq.frozen? ⟨w.heap.size, 1, none⟩ = false := World.free_of_heap HQ10.out.res 1
      have ey2 : wq.cell? ⟨w.heap.size, 2, none⟩ = some (.slice none 0 0) := World.cell_of_heap HQ10.out.res 2
      have ez2 : wq.frozen? ⟨w.heap.size, 2, none⟩ = false := World.free_of_heap HQ10.out.res 2
      have ey3 : wq.cell? ⟨w.heap.size, 3, none⟩ = some (.slice none 0 0) := World.cell_of_heap HQ10.out.res 3
      have ez3 : wq.frozen? ⟨w.heap.size, 3, none⟩ = false := World.free_of_heap HQ10.out.res 3
      have ex0 : wq.cell? ⟨gM, 0, none⟩ = some (.int .i64 m.wd) := World.cell_of_heap HQ10.out.box 0
      have ex1 : wq.cell? ⟨gM, 1, none⟩ = some (.int .i64 m.ht) := World.cell_of_heap HQ10.out.box 1
      have ex2 : wq.cell? ⟨gM, 2, none⟩ = some (.slice pr m.rise.length kr) := World.cell_of_heap HQ10.out.box 2
      have ex3 : wq.cell? ⟨gM, 3, none⟩ = some (.slice pc m.cost.length kc) := World.cell_of_heap HQ10.out.box 3
      have eoc := World.oldB_of_cell ey0
      have eob := World.oldB_of_cell ex0
      have gw0 := World.heap_setCell_row HQ10.out.res 0 (.int .i64 m.wd)
      have gc0 : (wq.setCell ⟨w.heap.size, 0, none⟩ (.int .i64 m.wd)).cell? ⟨w.heap.size, 0, none⟩ = some (.int .i64 m.wd) := World.cell_of_heap gw0 0
      have gw1 := World.heap_setCell_row gw0 1 (.int .i64 m.ht)
      have gc1 : ((wq.setCell ⟨w.heap.size, 0, none⟩ (.int .i64 m.wd)).setCell ⟨w.heap.size, 1, none⟩ (.int .i64 m.ht)).cell? ⟨w.heap.size, 1, none⟩ = some (.int .i64 m.ht) := World.cell_of_heap gw1 1
      have gw2 := World.heap_setCell_row gw1 2 (.slice pr m.rise.length kr)
      have gc2 : (((wq.setCell ⟨w.heap.size, 0, none⟩ (.int .i64 m.wd)).setCell ⟨w.heap.size, 1, none⟩ (.int .i64 m.ht)).setCell ⟨w.heap.size, 2, none⟩ (.slice pr m.rise.length kr)).cell? ⟨w.heap.size, 2, none⟩ = some (.slice pr m.rise.length kr) := World.cell_of_heap gw2 2
      have gw3 := World.heap_setCell_row gw2 3 (.slice pc m.cost.length kc)
      have gc3 : ((((wq.setCell ⟨w.heap.size, 0, none⟩ (.int .i64 m.wd)).setCell ⟨w.heap.size, 1, none⟩ (.int .i64 m.ht)).setCell ⟨w.heap.size, 2, none⟩ (.slice pr m.rise.length kr)).setCell ⟨w.heap.size, 3, none⟩ (.slice pc m.cost.length kc)).cell? ⟨w.heap.size, 3, none⟩ = some (.slice pc m.cost.length kc) := World.cell_of_heap gw3 3
      clear gw0 gw1 gw2 gw3
      have hon : World.grownBy wq ((((wq.setCell ⟨w.heap.size, 0, none⟩ (.int .i64 m.wd)).setCell ⟨w.heap.size, 1, none⟩ (.int .i64 m.ht)).setCell ⟨w.heap.size, 2, none⟩ (.slice pr m.rise.length kr)).setCell ⟨w.heap.size, 3, none⟩ (.slice pc m.cost.length kc)) (some w.heap.size) := by repeat (first | exact only_refl _ _ | refine only_setCell ?_ rfl _)
      have HF := Lib.hid (HQ10.out.fin hon HW1.out (Nat.le_refl _))
      have hbl : w.heap.size ≤ lo := by omega
      clear hon
      refine wpAnyH_ready (rs := [5]) (by kernel_rfl) (by simp) ?_
      refine AllReadyH.cons rfl (fun K hK => ?_) (AllReadyH.nil)
      go_simp
      refine hK.out _ _ ?_ (fun hHeld => ?_)
      · exact ⟨World.cell_of_heap HF.out.2.2.2.2 0, World.cell_of_heap HF.out.2.2.2.2 1, World.cell_of_heap HF.out.2.2.2.2 2, World.cell_of_heap HF.out.2.2.2.2 3⟩
      clear hK K
      try simp only [Act.put, List.setIfInBounds_toArray, List.set_cons_zero, List.set_cons_succ]
      refine wpAnyH_take (i := 6) (oi := ⟨_, _, _, _, _, _⟩) (v := ?_) rfl (by kernel_rfl) (by kernel_rfl) (by kernel_rfl) (fun _ _ _ h => h) (Or.inl ⟨by rfl, ?_⟩) (by assumption) ?_
      rotate_left
      · intro w hSw; (try dsimp only at hSw); go_simp; (try with_reducible rfl)
      try simp only [Act.put, List.setIfInBounds_toArray, List.set_cons_zero, List.set_cons_succ]
      refine wpAnyH_take (i := 7) (oi := ⟨_, _, _, _, _, _⟩) (v := ?_) rfl (by kernel_rfl) (by kernel_rfl) (by kernel_rfl) (fun _ _ _ h => h) (Or.inl ⟨by rfl, ?_⟩) (by assumption) ?_
      rotate_left
      · intro w hSw; (try dsimp only at hSw); go_simp; (try with_reducible rfl)
      try simp only [Act.put, List.setIfInBounds_toArray, List.set_cons_zero, List.set_cons_succ]
      refine wpAnyH_done (by kernel_rfl) ?_ _
      go_wp2
      refine bodyPost_ret (v := .tuple #[.agg #[.int .i64 m.wd, .int .i64 m.ht, .slice pr m.rise.length kr, .slice pc m.cost.length kc], .slice pl l.length kl, .int .i64 x0]) (by simp [results, Try.results22, go_sem, gc0, gc1, gc2, gc3]) rfl ?_
      exact ⟨m, _, _, _, l, _, rfl, HF.out.1, own_base HF.out.2.1 hbl, own_base HF.out.2.2.1 hbl, hrl, hcl, own_base HF.out.2.2.2.1 hbl, hll⟩
    | true =>
      go_upto_region 4 with fail
      obtain ⟨b, o, rfl⟩ := sl_some (sl_of_own Ctl.cells_length HQ1.out.ls) (by omega)
      refine wp_region_held_drew (S := (fun w' => w'.cell? ⟨gM, 0, none⟩ = some (.int .i64 m.wd) ∧ w'.cell? ⟨gM, 1, none⟩ = some (.int .i64 m.ht) ∧ w'.cell? ⟨gM, 2, none⟩ = some (.slice pr m.rise.length kr) ∧ w'.cell? ⟨gM, 3, none⟩ = some (.slice pc m.cost.length kc) ∧ w'.sl Ctl.cells 2 (.slice (some ⟨b, o, none⟩) l.length kl) l)) (by kernel_rfl) ⟨World.cell_of_heap HQ1.out.box 0, World.cell_of_heap HQ1.out.box 1, World.cell_of_heap HQ1.out.box 2, World.cell_of_heap HQ1.out.box 3, sl_of_own Ctl.cells_length HQ1.out.ls⟩ (fun hHeld => ?_)
      refine wpAnyH_take (i := 0) (oi := ⟨_, _, _, _, _, _⟩) (v := ?_) rfl (by kernel_rfl) (by kernel_rfl) (by kernel_rfl) (fun _ _ _ h => h) (Or.inl ⟨by rfl, ?_⟩) (by assumption) ?_
      rotate_left
      · intro w hSw; (try dsimp only at hSw); go_simp; (try with_reducible rfl)
      try simp only [Act.put, List.setIfInBounds_toArray, List.set_cons_zero, List.set_cons_succ]
      refine wpAnyH_take (i := 1) (oi := ⟨_, _, _, _, _, _⟩) (v := ?_) rfl (by kernel_rfl) (by kernel_rfl) (by kernel_rfl) (fun _ _ _ h => h) (Or.inl ⟨by rfl, ?_⟩) (by assumption) ?_
      rotate_left
      · intro w hSw; (try dsimp only at hSw); go_simp; (try with_reducible rfl)
      try simp only [Act.put, List.setIfInBounds_toArray, List.set_cons_zero, List.set_cons_succ]
      refine wpAnyH_take (i := 2) (oi := ⟨_, _, _, _, _, _⟩) (v := ?_) rfl (by kernel_rfl) (by kernel_rfl) (by kernel_rfl) (fun _ _ _ h => h) (Or.inl ⟨by rfl, ?_⟩) (by assumption) ?_
      rotate_left
      · intro w hSw; (try dsimp only at hSw); go_simp; (try with_reducible rfl)
      try simp only [Act.put, List.setIfInBounds_toArray, List.set_cons_zero, List.set_cons_succ]
      refine wpAnyH_take (i := 3) (oi := ⟨_, _, _, _, _, _⟩) (v := ?_) rfl (by kernel_rfl) (by kernel_rfl) (by kernel_rfl) (fun _ _ _ h => h) (Or.inl ⟨by rfl, ?_⟩) (by assumption) ?_
      rotate_left
      · intro w hSw; (try dsimp only at hSw); go_simp; (try with_reducible rfl)
      try simp only [Act.put, List.setIfInBounds_toArray, List.set_cons_zero, List.set_cons_succ]
      refine wpAnyH_take (i := 4) (oi := ⟨_, _, _, _, _, _⟩) (v := ?_) rfl (by kernel_rfl) (by kernel_rfl) (by kernel_rfl) (fun _ _ _ h => h) (Or.inl ⟨by rfl, ?_⟩) (by assumption) ?_
      rotate_left
      · intro w hSw; (try dsimp only at hSw); go_simp; (try with_reducible rfl)
      try simp only [Act.put, List.setIfInBounds_toArray, List.set_cons_zero, List.set_cons_succ]
      refine wpAnyH_take (i := 5) (oi := ⟨_, _, _, _, _, _⟩) (v := ?_) rfl (by kernel_rfl) (by kernel_rfl) (by kernel_rfl) (fun _ _ _ h => h) (Or.inl ⟨by rfl, ?_⟩) (by assumption) ?_
      rotate_left
      · intro w hSw; (try dsimp only at hSw); go_simp; (try with_reducible rfl)
      try simp only [Act.put, List.setIfInBounds_toArray, List.set_cons_zero, List.set_cons_succ]
      refine wpAnyH_ready (rs := [6]) (by kernel_rfl) (by simp) ?_
      refine AllReadyH.cons rfl (fun K hK => ?_) (AllReadyH.nil)
      go_simp
      go_wp2_with fail
      refine (pick_any _ _ g _ _ (HQ1.out.cur.gain (by repeat (first | with_reducible (first | exact World.gained_refl _ | exact ⟨_, rfl⟩ | apply gain_ext | apply gain_alloc | apply gain_drewN | apply gain_drew) | (refine gain_setCell ?_ (by first | exact Nat.le_refl _ | exact World.size_ext _ _ | (simp; done) | (simp; omega)) _)))) (by omega)).mono ?_
      rintro e wq ⟨r, rfl, q1, q2, hcq, hgq⟩
      obtain ⟨k, rfl⟩ : ∃ k : Nat, r = (k : Int) := ⟨r.toNat, by omega⟩
      have hk : k < l.length := by omega
      have HQ2 := Lib.hid ((HQ1.out.up (by repeat (first | with_reducible (first | exact World.gained_refl _ | exact ⟨_, rfl⟩ | apply gain_ext | apply gain_alloc | apply gain_drewN | apply gain_drew) | (refine gain_setCell ?_ (by first | exact Nat.le_refl _ | exact World.size_ext _ _ | (simp; done) | (simp; omega)) _)))).on hcq hgq)
      clear hcq hgq q1 q2 HQ1
      (try dsimp only)
      refine hK.out _ _ ?_ (fun hHeld => ?_)
      · exact ⟨World.cell_of_heap HQ2.out.box 0, World.cell_of_heap HQ2.out.box 1, World.cell_of_heap HQ2.out.box 2, World.cell_of_heap HQ2.out.box 3, sl_of_own Ctl.cells_length HQ2.out.ls⟩
      clear hK K
      try simp only [Act.put, List.setIfInBounds_toArray, List.set_cons_zero, List.set_cons_succ]
      have hk0 : (0 : Int) ≤ (k : Int) := by omega
      have hk1 : (k : Int) < (l.length : Int) := by omega
      obtain ⟨y, hy⟩ : ∃ y, l[k].cell = y := ⟨_, rfl⟩
      refine wpAnyH_take (i := 7) (oi := ⟨_, _, _, _, _, _⟩) (v := ?_) rfl (by kernel_rfl) (by kernel_rfl) (by kernel_rfl) (fun _ _ _ h => h) (Or.inl ⟨by rfl, ?_⟩) (by assumption) ?_
      rotate_left
      · intro w hSw; (try dsimp only at hSw); go_simp; (try with_reducible rfl)
      try simp only [Act.put, List.setIfInBounds_toArray, List.set_cons_zero, List.set_cons_succ]
      refine wpAnyH_take (i := 8) (oi := ⟨_, _, _, _, _, _⟩) (v := ?_) rfl (by kernel_rfl) (by kernel_rfl) (by kernel_rfl) (fun _ _ _ h => h) (Or.inl ⟨by rfl, ?_⟩) (by assumption) ?_
      rotate_left
      · intro w hSw; (try dsimp only at hSw); go_simp; (try with_reducible rfl)
      try simp only [Act.put, List.setIfInBounds_toArray, List.set_cons_zero, List.set_cons_succ]
      refine wpAnyH_take (i := 9) (oi := ⟨_, _, _, _, _, _⟩) (v := .int .i64 y) rfl (by kernel_rfl) (by kernel_rfl) (by kernel_rfl) (fun _ _ _ h => h) (Or.inl ⟨by rfl, ?_⟩) (by assumption) ?_
      · intro w hSw
        (try dsimp only at hSw)
        have ck := sl_cells hSw.2.2.2.2 hk (j := 1) (by omega)
        simp only [Ctl.cells, List.getElem?_cons_zero, List.getElem?_cons_succ, hy] at ck
        have ob := World.oldB_of_cell ck
        clear hSw
        go_simp
        (try with_reducible rfl)
      try simp only [Act.put, List.setIfInBounds_toArray, List.set_cons_zero, List.set_cons_succ]
      have ey0 : wq.cell? ⟨w.heap.size, 0, none⟩ = some (.int .i64 0) := World.cell_of_heap HQ2.out.res 0
      have ez0 : wq.frozen? ⟨w.heap.size, 0, none⟩ = false := World.free_of_heap HQ2.out.res 0
      have ey1 : wq.cell? ⟨w.heap.size, 1, none⟩ = some (.int .i64 0) := World.cell_of_heap HQ2.out.res 1
      have ez1 : wq.frozen? ⟨w.heap.size, 1, none⟩ = false := World.free_of_heap HQ2.out.res 1
      have ey2 : wq.cell? ⟨w.heap.size, 2, none⟩ = some (.slice none 0 0) := World.cell_of_heap HQ2.out.res 2
      have ez2 : wq.frozen? ⟨w.heap.size, 2, none⟩ = false := World.free_of_heap HQ2.out.res 2
      have ey3 : wq.cell? ⟨w.heap.size, 3, none⟩ = some (.slice none 0 0) := World.cell_of_heap HQ2.out.res 3
      have ez3 : wq.frozen? ⟨w.heap.size, 3, none⟩ = false := World.free_of_heap HQ2.out.res 3
      have ex0 : wq.cell? ⟨gM, 0, none⟩ = some (.int .i64 m.wd) := World.cell_of_heap HQ2.out.box 0
      have ex1 : wq.cell? ⟨gM, 1, none⟩ = some (.int .i64 m.ht) := World.cell_of_heap HQ2.out.box 1
      have ex2 : wq.cell? ⟨gM, 2, none⟩ = some (.slice pr m.rise.length kr) := World.cell_of_heap HQ2.out.box 2
      have ex3 : wq.cell? ⟨gM, 3, none⟩ = some (.slice pc m.cost.length kc) := World.cell_of_heap HQ2.out.box 3
      have eoc := World.oldB_of_cell ey0
      have eob := World.oldB_of_cell ex0
      have gw0 := World.heap_setCell_row HQ2.out.res 0 (.int .i64 m.wd)
      have gc0 : (wq.setCell ⟨w.heap.size, 0, none⟩ (.int .i64 m.wd)).cell? ⟨w.heap.size, 0, none⟩ = some (.int .i64 m.wd) := World.cell_of_heap gw0 0
      have gw1 := World.heap_setCell_row gw0 1 (.int .i64 m.ht)
      have gc1 : ((wq.setCell ⟨w.heap.size, 0, none⟩ (.int .i64 m.wd)).setCell ⟨w.heap.size, 1, none⟩ (.int .i64 m.ht)).cell? ⟨w.heap.size, 1, none⟩ = some (.int .i64 m.ht) := World.cell_of_heap gw1 1
      have gw2 := World.heap_setCell_row gw1 2 (.slice pr m.rise.length kr)
      have gc2 : (((wq.setCell ⟨w.heap.size, 0, none⟩ (.int .i64 m.wd)).setCell ⟨w.heap.size, 1, none⟩ (.int .i64 m.ht)).setCell ⟨w.heap.size, 2, none⟩ (.slice pr m.rise.length kr)).cell? ⟨w.heap.size, 2, none⟩ = some (.slice pr m.rise.length kr) := World.cell_of_heap gw2 2
      have gw3 := World.heap_setCell_row gw2 3 (.slice pc m.cost.length kc)
      have gc3 : ((((wq.setCell ⟨w.heap.size, 0, none⟩ (.int .i64 m.wd)).setCell ⟨w.heap.size, 1, none⟩ (.int .i64 m.ht)).setCell ⟨w.heap.size, 2, none⟩ (.slice pr m.rise.length kr)).setCell ⟨w.heap.size, 3, none⟩ (.slice pc m.cost.length kc)).cell? ⟨w.heap.size, 3, none⟩ = some (.slice pc m.cost.length kc) := World.cell_of_heap gw3 3
      clear gw0 gw1 gw2 gw3
      have hon : World.grownBy wq ((((wq.setCell ⟨w.heap.size, 0, none⟩ (.int .i64 m.wd)).setCell ⟨w.heap.size, 1, none⟩ (.int .i64 m.ht)).setCell ⟨w.heap.size, 2, none⟩ (.slice pr m.rise.length kr)).setCell ⟨w.heap.size, 3, none⟩ (.slice pc m.cost.length kc)) (some w.heap.size) := by repeat (first | exact only_refl _ _ | refine only_setCell ?_ rfl _)
      have HF := Lib.hid (HQ2.out.fin hon HW1.out (Nat.le_refl _))
      have hbl : w.heap.size ≤ lo := by omega
      clear hon
      refine wpAnyH_ready (rs := [10]) (by kernel_rfl) (by simp) ?_
      refine AllReadyH.cons rfl (fun K hK => ?_) (AllReadyH.nil)
      go_simp
      refine hK.out _ _ ?_ (fun hHeld => ?_)
      · exact ⟨World.cell_of_heap HF.out.2.2.2.2 0, World.cell_of_heap HF.out.2.2.2.2 1, World.cell_of_heap HF.out.2.2.2.2 2, World.cell_of_heap HF.out.2.2.2.2 3, sl_of_own Ctl.cells_length HF.out.2.2.2.1⟩
      clear hK K
      try simp only [Act.put, List.setIfInBounds_toArray, List.set_cons_zero, List.set_cons_succ]
      refine wpAnyH_take (i := 11) (oi := ⟨_, _, _, _, _, _⟩) (v := ?_) rfl (by kernel_rfl) (by kernel_rfl) (by kernel_rfl) (fun _ _ _ h => h) (Or.inl ⟨by rfl, ?_⟩) (by assumption) ?_
      rotate_left
      · intro w hSw; (try dsimp only at hSw); go_simp; (try with_reducible rfl)
      try simp only [Act.put, List.setIfInBounds_toArray, List.set_cons_zero, List.set_cons_succ]
      refine wpAnyH_take (i := 12) (oi := ⟨_, _, _, _, _, _⟩) (v := ?_) rfl (by kernel_rfl) (by kernel_rfl) (by kernel_rfl) (fun _ _ _ h => h) (Or.inl ⟨by rfl, ?_⟩) (by assumption) ?_
      rotate_left
      · intro w hSw; (try dsimp only at hSw); go_simp; (try with_reducible rfl)
      try simp only [Act.put, List.setIfInBounds_toArray, List.set_cons_zero, List.set_cons_succ]
      refine wpAnyH_done (by kernel_rfl) ?_ _
      go_wp2
      refine bodyPost_ret (v := .tuple #[.agg #[.int .i64 m.wd, .int .i64 m.ht, .slice pr m.rise.length kr, .slice pc m.cost.length kc], .slice (some ⟨b, o, none⟩) l.length kl, .int .i64 y]) (by simp [results, Try.results22, go_sem, gc0, gc1, gc2, gc3]) rfl ?_
      exact ⟨m, _, _, _, l, _, rfl, HF.out.1, own_base HF.out.2.1 hbl, own_base HF.out.2.2.1 hbl, hrl, hcl, own_base HF.out.2.2.2.1 hbl, hll⟩
end Go.Proofs.Ytedpckkoaioooaa
