/- The draw of a map and two cells that are often next to each other. Condition: at most 1048576 bytes. -/
import Derived.Test.YtepjemfkmnpepaaDrawMap
import Derived.Test.YtepjemfkmnpepaaDrawCell
import Derived.Test.YtepjemfkmnpepaaStepC
namespace Go
open RowKit Go.Ori
/-- A map at hand in a box, the result's cell, the reader. -/
structure SSt (T tM tI : TypeId) (W wr : World) (gR g gM lo n : Nat) (m : Mp) (rv cv : Value) : Prop where
  cur : Cur T W wr g n
  res : wr.heap[gR]? = some (.cells #[.int .i64 0, .int .i64 0, .slice none 0 0, .slice none 0 0] tM (0, 0))
  box : wr.heap[gM]? = some (.cells #[.int .i64 m.wd, .int .i64 m.ht, rv, cv] tM (0, 0))
  r : wr.own lo tI intC 1 rv m.rise
  c : wr.own lo tI intC 1 cv m.cost
  g1 : g < lo
  gr : gR < g
  gm : g < gM
section
variable {T tM tI : TypeId} {W wr wr' : World} {gR g gM lo n n' : Nat} {m : Mp} {rv cv : Value}
theorem SSt.up (h : SSt T tM tI W wr gR g gM lo n m rv cv) (hg : ∃ d, wr' = wr.ext d) : SSt T tM tI W wr' gR g gM lo n m rv cv :=
  ⟨h.cur.gain hg, row_up h.res hg, row_up h.box hg, own_up h.r hg, own_up h.c hg, h.g1, h.gr, h.gm⟩
theorem SSt.on (h : SSt T tM tI W wr gR g gM lo n m rv cv) (hc : Cur T W wr' g n') (hg : wr.grownBy wr' (some g)) : SSt T tM tI W wr' gR g gM lo n' m rv cv :=
  ⟨hc, row_keep h.res hg (fun q e => by have := h.gr; cases e; omega), row_keep h.box hg (fun q e => by have := h.gm; cases e; omega), own_cur h.r h.g1 hg, own_cur h.c h.g1 hg, h.g1, h.gr, h.gm⟩
theorem SSt.fin {w : World} (h : SSt T tM tI W wr gR g gM lo n m rv cv) (hW : ∃ d, W = w.ext d) (hR : w.heap.size ≤ gR) (hg : wr.grownBy wr' (some gR)) :
    (∃ d, wr' = w.ext d) ∧ wr'.own lo tI intC 1 rv m.rise ∧ wr'.own lo tI intC 1 cv m.cost ∧ wr'.heap[gM]? = some (.cells #[.int .i64 m.wd, .int .i64 m.ht, rv, cv] tM (0, 0)) :=
  ⟨gain_grown (gain_trans hW h.cur.up) hg (fun q e => by cases e; exact hR),
    own_not h.r (fun q e => by have := (own_lt h.r q e).1; have := h.gr; have := h.g1; omega) hg,
    own_not h.c (fun q e => by have := (own_lt h.c q e).1; have := h.gr; have := h.g1; omega) hg,
    row_keep h.box hg (fun q e => by have := h.gm; have := h.gr; cases e; omega)⟩
theorem SSt.mp (h : SSt T tM tI W wr gR g gM lo n m rv cv) (hrl : m.rise.length ≤ 1048576) (hcl : m.cost.length ≤ 1048576) : wr.mp rv cv m := ⟨sl_of_own intC_length h.r, sl_of_own intC_length h.c, hrl, hcl⟩
end
end Go
namespace Go.Proofs.Ytepjemfkmnpepaa
open Go.RowKit Go.Ori
set_option maxHeartbeats 8000000 in
set_option maxRecDepth 100000 in
theorem drawStepTime_any (v : Value) (L : List Int) (w : World) (h : w.sl byteC 1 v L) (hq : ∀ x ∈ L, 0 ≤ x ∧ x ≤ 255) (hl : L.length ≤ 1048576) :
    Calls Try.prog 15 #[v] w fun x w' => ∃ (m : Mp) (rv cv : Value) (x0 x1 : Int), x = .returned (.tuple #[.agg #[.int .i64 m.wd, .int .i64 m.ht, rv, cv], .int .i64 x0, .int .i64 x1]) ∧ (∃ d, w' = w.ext d) ∧ w'.mp rv cv m := by
  have hs := Lib.hid h
  have HQ := Lib.hid hq
  obtain ⟨p, c, rfl, _⟩ := h
  clear hq
  have HW1 := Lib.hid (show ∃ d, w.alloc (.cells #[.int .i64 0, .int .i64 0, .slice none 0 0, .slice none 0 0] 26) = w.ext d from (by repeat (first | with_reducible (first | exact World.gained_refl _ | exact ⟨_, rfl⟩ | apply gain_ext | apply gain_alloc | apply gain_drewN | apply gain_drew) | (refine gain_setCell ?_ (by first | exact Nat.le_refl _ | exact World.size_ext _ _ | (simp; done) | (simp; omega)) _))))
  have hsz : (w.alloc (.cells #[.int .i64 0, .int .i64 0, .slice none 0 0, .slice none 0 0] 26)).heap.size = w.heap.size + 1 := World.size_alloc _ _
  have HRZ := Lib.hid (heap_alloc_new w (.cells #[.int .i64 0, .int .i64 0, .slice none 0 0, .slice none 0 0] 26))
  have HCN := Lib.hid (cur_new (e := 46) (sl_up byteC_length hs.out HW1.out) HQ.out hl)
  go_enter Try.func15, Try.ntmps15
  go_wp2_with fail
  generalize hW1 : w.alloc (.cells #[.int .i64 0, .int .i64 0, .slice none 0 0, .slice none 0 0] 26) = W1 at HW1 HCN HRZ hsz ⊢
  rw [hsz] at HCN
  refine (mapOf_any W1 _ (w.heap.size + 1) 0 HCN.out (by omega)).mono ?_
  rintro e wm ⟨m, rv, cv, rfl, ho1, ho2, -, hrl, hcl, hc1, hg1⟩
  have HRS := Lib.hid (row_keep (row_up HRZ.out (by repeat (first | with_reducible (first | exact World.gained_refl _ | exact ⟨_, rfl⟩ | apply gain_ext | apply gain_alloc | apply gain_drewN | apply gain_drew) | (refine gain_setCell ?_ (by first | exact Nat.le_refl _ | exact World.size_ext _ _ | (simp; done) | (simp; omega)) _)))) hg1 (fun q e => by cases e; omega))
  have hlm := only_size hg1
  have hgm := hc1.lt
  have HCU := Lib.hid hc1
  have hlo : w.heap.size + 1 < (W1.alloc (.cells #[.slice p L.length c, .int .i64 0, .int .u64 0] 46)).heap.size := by rw [World.size_alloc, hsz]; omega
  generalize (W1.alloc (.cells #[.slice p L.length c, .int .i64 0, .int .u64 0] 46)).heap.size = lo at hlo ho1 ho2 hlm
  obtain ⟨pr, kr, rfl, _⟩ := sl_of_own intC_length ho1
  obtain ⟨pc, kc, rfl, _⟩ := sl_of_own intC_length ho2
  have HR := Lib.hid ho1
  have HCO := Lib.hid ho2
  replace hrl : m.rise.length ≤ 1048576 := by omega
  replace hcl : m.cost.length ≤ 1048576 := by omega
  clear hc1 hg1 ho1 ho2 hW1
  go_upto_region 3 with fail
  have HQ0 : Hid (SSt 46 26 3 W1 (wm.alloc (.cells #[.int .i64 m.wd, .int .i64 m.ht, .slice pr m.rise.length kr, .slice pc m.cost.length kc] 26)) w.heap.size (w.heap.size + 1) wm.heap.size lo 700 m (.slice pr m.rise.length kr) (.slice pc m.cost.length kc)) := Lib.hid ⟨(HCU.out.gain (by repeat (first | with_reducible (first | exact World.gained_refl _ | exact ⟨_, rfl⟩ | apply gain_ext | apply gain_alloc | apply gain_drewN | apply gain_drew) | (refine gain_setCell ?_ (by first | exact Nat.le_refl _ | exact World.size_ext _ _ | (simp; done) | (simp; omega)) _)))).le (by omega), row_up HRS.out (by repeat (first | with_reducible (first | exact World.gained_refl _ | exact ⟨_, rfl⟩ | apply gain_ext | apply gain_alloc | apply gain_drewN | apply gain_drew) | (refine gain_setCell ?_ (by first | exact Nat.le_refl _ | exact World.size_ext _ _ | (simp; done) | (simp; omega)) _))), heap_alloc_new wm _, own_up HR.out (by repeat (first | with_reducible (first | exact World.gained_refl _ | exact ⟨_, rfl⟩ | apply gain_ext | apply gain_alloc | apply gain_drewN | apply gain_drew) | (refine gain_setCell ?_ (by first | exact Nat.le_refl _ | exact World.size_ext _ _ | (simp; done) | (simp; omega)) _))), own_up HCO.out (by repeat (first | with_reducible (first | exact World.gained_refl _ | exact ⟨_, rfl⟩ | apply gain_ext | apply gain_alloc | apply gain_drewN | apply gain_drew) | (refine gain_setCell ?_ (by first | exact Nat.le_refl _ | exact World.size_ext _ _ | (simp; done) | (simp; omega)) _))), hlo, by omega, hgm⟩
  generalize wm.alloc (.cells #[.int .i64 m.wd, .int .i64 m.ht, .slice pr m.rise.length kr, .slice pc m.cost.length kc] 26) = ww0 at HQ0 ⊢
  generalize wm.heap.size = gM at HQ0 ⊢
  generalize w.heap.size + 1 = g at HQ0 ⊢
  clear HCU HRS HR HCO hlm hgm hlo HRZ HCN
  have bx0 := World.cell_of_heap HQ0.out.box 0
  have bx1 := World.cell_of_heap HQ0.out.box 1
  have bx2 := World.cell_of_heap HQ0.out.box 2
  have bx3 := World.cell_of_heap HQ0.out.box 3
  simp only [List.getElem?_toArray, List.getElem?_cons_zero, List.getElem?_cons_succ] at bx0 bx1 bx2 bx3
  have obx := World.oldB_of_cell bx0
  go_wp2_with fail
  refine (cellOfD_any _ _ g _ m pr pc kr kc (HQ0.out.cur.gain (by repeat (first | with_reducible (first | exact World.gained_refl _ | exact ⟨_, rfl⟩ | apply gain_ext | apply gain_alloc | apply gain_drewN | apply gain_drew) | (refine gain_setCell ?_ (by first | exact Nat.le_refl _ | exact World.size_ext _ _ | (simp; done) | (simp; omega)) _)))) (by omega) hcl).mono ?_
  rintro e wo ⟨x0, rfl, -, -, hcq, hgq⟩
  have HQ1 := Lib.hid ((HQ0.out.up (by repeat (first | with_reducible (first | exact World.gained_refl _ | exact ⟨_, rfl⟩ | apply gain_ext | apply gain_alloc | apply gain_drewN | apply gain_drew) | (refine gain_setCell ?_ (by first | exact Nat.le_refl _ | exact World.size_ext _ _ | (simp; done) | (simp; omega)) _)))).on hcq hgq)
  clear hcq hgq HQ0 bx0 bx1 bx2 bx3 obx
  have bx0 := World.cell_of_heap HQ1.out.box 0
  have bx1 := World.cell_of_heap HQ1.out.box 1
  have bx2 := World.cell_of_heap HQ1.out.box 2
  have bx3 := World.cell_of_heap HQ1.out.box 3
  simp only [List.getElem?_toArray, List.getElem?_cons_zero, List.getElem?_cons_succ] at bx0 bx1 bx2 bx3
  have obx := World.oldB_of_cell bx0
  cases hB : mapB m with
  | false =>
    go_upto_region 8 with (go_at_call 24; refine (l2Map_any m _ _ _ (mp_up (HQ1.out.mp hrl hcl) (by repeat (first | with_reducible (first | exact World.gained_refl _ | exact ⟨_, rfl⟩ | apply gain_ext | apply gain_alloc | apply gain_drewN | apply gain_drew) | (refine gain_setCell ?_ (by first | exact Nat.le_refl _ | exact World.size_ext _ _ | (simp; done) | (simp; omega)) _))))).mono ?_; rw [hB]; rintro e w1 ⟨rfl, d1, rfl⟩)
    have HQN := Lib.hid (HQ1.out.up (wr' := wo.ext d1) (by repeat (first | with_reducible (first | exact World.gained_refl _ | exact ⟨_, rfl⟩ | apply gain_ext | apply gain_alloc | apply gain_drewN | apply gain_drew) | (refine gain_setCell ?_ (by first | exact Nat.le_refl _ | exact World.size_ext _ _ | (simp; done) | (simp; omega)) _))))
    clear HQ1 bx0 bx1 bx2 bx3 obx
    go_upto_region 8 with fail
    refine wp_region_held_drew (S := (fun w' => w'.cell? ⟨gM, 0, none⟩ = some (.int .i64 m.wd) ∧ w'.cell? ⟨gM, 1, none⟩ = some (.int .i64 m.ht) ∧ w'.cell? ⟨gM, 2, none⟩ = some (.slice pr m.rise.length kr) ∧ w'.cell? ⟨gM, 3, none⟩ = some (.slice pc m.cost.length kc))) (by kernel_rfl) ⟨World.cell_of_heap HQN.out.box 0, World.cell_of_heap HQN.out.box 1, World.cell_of_heap HQN.out.box 2, World.cell_of_heap HQN.out.box 3⟩ (fun hHeld => ?_)
    refine wpAnyH_take (i := 0) (oi := ⟨_, _, _, _, _, _⟩) (v := ?_) rfl (by kernel_rfl) (by kernel_rfl) (by kernel_rfl) (fun _ _ _ h => h) (Or.inl ⟨by rfl, ?_⟩) (by assumption) ?_
    rotate_left
    · intro w hSw; (try dsimp only at hSw); go_simp; (try with_reducible rfl)
    try simp only [Act.put, List.setIfInBounds_toArray, List.set_cons_zero, List.set_cons_succ]
    refine wpAnyH_take (i := 1) (oi := ⟨_, _, _, _, _, _⟩) (v := ?_) rfl (by kernel_rfl) (by kernel_rfl) (by kernel_rfl) (fun _ _ _ h => h) (Or.inl ⟨by rfl, ?_⟩) (by assumption) ?_
    rotate_left
    · intro w hSw; (try dsimp only at hSw); go_simp; (try with_reducible rfl)
    try simp only [Act.put, List.setIfInBounds_toArray, List.set_cons_zero, List.set_cons_succ]
    refine wpAnyH_take (i := 2) (oi := ⟨_, _, _, _, _, _⟩) (v := ?_) rfl (by kernel_rfl) (by kernel_rfl) (by kernel_rfl) (fun _ _ _ h => h) (Or.inl ⟨by rfl, ?_⟩) (by assumption) ?_
    rotate_left
    · intro w hSw; (try dsimp only at hSw); go_simp; (try with_reducible rfl)
    try simp only [Act.put, List.setIfInBounds_toArray, List.set_cons_zero, List.set_cons_succ]
    refine wpAnyH_take (i := 3) (oi := ⟨_, _, _, _, _, _⟩) (v := ?_) rfl (by kernel_rfl) (by kernel_rfl) (by kernel_rfl) (fun _ _ _ h => h) (Or.inl ⟨by rfl, ?_⟩) (by assumption) ?_
    rotate_left
    · intro w hSw; (try dsimp only at hSw); go_simp; (try with_reducible rfl)
    try simp only [Act.put, List.setIfInBounds_toArray, List.set_cons_zero, List.set_cons_succ]
    refine wpAnyH_ready (rs := [4]) (by kernel_rfl) (by simp) ?_
    refine AllReadyH.cons rfl (fun K hK => ?_) (AllReadyH.nil)
    go_simp
    go_wp2_with fail
    refine (cellOfD_any _ _ g _ m pr pc kr kc (HQN.out.cur.gain (by repeat (first | with_reducible (first | exact World.gained_refl _ | exact ⟨_, rfl⟩ | apply gain_ext | apply gain_alloc | apply gain_drewN | apply gain_drew) | (refine gain_setCell ?_ (by first | exact Nat.le_refl _ | exact World.size_ext _ _ | (simp; done) | (simp; omega)) _)))) (by omega) hcl).mono ?_
    rintro e wq ⟨x1, rfl, -, -, hcq, hgq⟩
    have HQZ := Lib.hid ((HQN.out.up (by repeat (first | with_reducible (first | exact World.gained_refl _ | exact ⟨_, rfl⟩ | apply gain_ext | apply gain_alloc | apply gain_drewN | apply gain_drew) | (refine gain_setCell ?_ (by first | exact Nat.le_refl _ | exact World.size_ext _ _ | (simp; done) | (simp; omega)) _)))).on hcq hgq)
    clear hcq hgq
    (try dsimp only)
    refine hK.out _ _ ?_ (fun hHeld => ?_)
    · exact ⟨World.cell_of_heap HQZ.out.box 0, World.cell_of_heap HQZ.out.box 1, World.cell_of_heap HQZ.out.box 2, World.cell_of_heap HQZ.out.box 3⟩
    clear hK K
    try simp only [Act.put, List.setIfInBounds_toArray, List.set_cons_zero, List.set_cons_succ]
    have ey0 : wq.cell? ⟨w.heap.size, 0, none⟩ = some (.int .i64 0) := World.cell_of_heap HQZ.out.res 0
    have ez0 : wq.frozen? ⟨w.heap.size, 0, none⟩ = false := World.free_of_heap HQZ.out.res 0
    have ey1 : wq.cell? ⟨w.heap.size, 1, none⟩ = some (.int .i64 0) := World.cell_of_heap HQZ.out.res 1
    have ez1 : wq.frozen? ⟨w.heap.size, 1, none⟩ = false := World.free_of_heap HQZ.out.res 1
    have ey2 : wq.cell? ⟨w.heap.size, 2, none⟩ = some (.slice none 0 0) := World.cell_of_heap HQZ.out.res 2
    have ez2 : wq.frozen? ⟨w.heap.size, 2, none⟩ = false := World.free_of_heap HQZ.out.res 2
    have ey3 : wq.cell? ⟨w.heap.size, 3, none⟩ = some (.slice none 0 0) := World.cell_of_heap HQZ.out.res 3
    have ez3 : wq.frozen? ⟨w.heap.size, 3, none⟩ = false := World.free_of_heap HQZ.out.res 3
    have eoc := World.oldB_of_cell ey0
    have gw0 := World.heap_setCell_row HQZ.out.res 0 (.int .i64 m.wd)
    have gc0 : (wq.setCell ⟨w.heap.size, 0, none⟩ (.int .i64 m.wd)).cell? ⟨w.heap.size, 0, none⟩ = some (.int .i64 m.wd) := World.cell_of_heap gw0 0
    have gw1 := World.heap_setCell_row gw0 1 (.int .i64 m.ht)
    have gc1 : ((wq.setCell ⟨w.heap.size, 0, none⟩ (.int .i64 m.wd)).setCell ⟨w.heap.size, 1, none⟩ (.int .i64 m.ht)).cell? ⟨w.heap.size, 1, none⟩ = some (.int .i64 m.ht) := World.cell_of_heap gw1 1
    have gw2 := World.heap_setCell_row gw1 2 (.slice pr m.rise.length kr)
    have gc2 : (((wq.setCell ⟨w.heap.size, 0, none⟩ (.int .i64 m.wd)).setCell ⟨w.heap.size, 1, none⟩ (.int .i64 m.ht)).setCell ⟨w.heap.size, 2, none⟩ (.slice pr m.rise.length kr)).cell? ⟨w.heap.size, 2, none⟩ = some (.slice pr m.rise.length kr) := World.cell_of_heap gw2 2
    have gw3 := World.heap_setCell_row gw2 3 (.slice pc m.cost.length kc)
    have gc3 : ((((wq.setCell ⟨w.heap.size, 0, none⟩ (.int .i64 m.wd)).setCell ⟨w.heap.size, 1, none⟩ (.int .i64 m.ht)).setCell ⟨w.heap.size, 2, none⟩ (.slice pr m.rise.length kr)).setCell ⟨w.heap.size, 3, none⟩ (.slice pc m.cost.length kc)).cell? ⟨w.heap.size, 3, none⟩ = some (.slice pc m.cost.length kc) := World.cell_of_heap gw3 3
    clear gw0 gw1 gw2 gw3
    have hon : World.grownBy wq ((((wq.setCell ⟨w.heap.size, 0, none⟩ (.int .i64 m.wd)).setCell ⟨w.heap.size, 1, none⟩ (.int .i64 m.ht)).setCell ⟨w.heap.size, 2, none⟩ (.slice pr m.rise.length kr)).setCell ⟨w.heap.size, 3, none⟩ (.slice pc m.cost.length kc)) (some w.heap.size) := by repeat (first | exact only_refl _ _ | refine only_setCell ?_ rfl _)
    have HF := Lib.hid (HQZ.out.fin HW1.out (Nat.le_refl _) hon)
    clear hon
    refine wpAnyH_ready (rs := [5]) (by kernel_rfl) (by simp) ?_
    refine AllReadyH.cons rfl (fun K hK => ?_) (AllReadyH.nil)
    go_simp
    refine hK.out _ _ ?_ (fun hHeld => ?_)
    · exact ⟨World.cell_of_heap HF.out.2.2.2 0, World.cell_of_heap HF.out.2.2.2 1, World.cell_of_heap HF.out.2.2.2 2, World.cell_of_heap HF.out.2.2.2 3⟩
    clear hK K
    try simp only [Act.put, List.setIfInBounds_toArray, List.set_cons_zero, List.set_cons_succ]
    refine wpAnyH_take (i := 6) (oi := ⟨_, _, _, _, _, _⟩) (v := ?_) rfl (by kernel_rfl) (by kernel_rfl) (by kernel_rfl) (fun _ _ _ h => h) (Or.inl ⟨by rfl, ?_⟩) (by assumption) ?_
    rotate_left
    · intro w hSw; (try dsimp only at hSw); go_simp; (try with_reducible rfl)
    try simp only [Act.put, List.setIfInBounds_toArray, List.set_cons_zero, List.set_cons_succ]
    refine wpAnyH_take (i := 7) (oi := ⟨_, _, _, _, _, _⟩) (v := ?_) rfl (by kernel_rfl) (by kernel_rfl) (by kernel_rfl) (fun _ _ _ h => h) (Or.inl ⟨by rfl, ?_⟩) (by assumption) ?_
    rotate_left
    · intro w hSw; (try dsimp only at hSw); go_simp; (try with_reducible rfl)
    try simp only [Act.put, List.setIfInBounds_toArray, List.set_cons_zero, List.set_cons_succ]
    refine wpAnyH_done (by kernel_rfl) ?_ _
    go_wp2
    refine bodyPost_ret (v := .tuple #[.agg #[.int .i64 m.wd, .int .i64 m.ht, .slice pr m.rise.length kr, .slice pc m.cost.length kc], .int .i64 x0, .int .i64 x1]) (by simp [results, Try.results15, go_sem, gc0, gc1, gc2, gc3]) rfl ?_
    exact ⟨m, _, _, _, _, rfl, HF.out.1, ⟨sl_of_own intC_length HF.out.2.1, sl_of_own intC_length HF.out.2.2.1, hrl, hcl⟩⟩
  | true =>
  have HOP := Lib.hid (fun W hW => l2Open_any m (.slice pr m.rise.length kr) (.slice pc m.cost.length kc) x0 W hW hB)
  cases hO : openB m x0 with
  | false =>
    rw [hO] at HOP
    go_upto_region 8 with (first | (go_at_call 24; refine (l2Map_any m _ _ _ (mp_up (HQ1.out.mp hrl hcl) (by repeat (first | with_reducible (first | exact World.gained_refl _ | exact ⟨_, rfl⟩ | apply gain_ext | apply gain_alloc | apply gain_drewN | apply gain_drew) | (refine gain_setCell ?_ (by first | exact Nat.le_refl _ | exact World.size_ext _ _ | (simp; done) | (simp; omega)) _))))).mono ?_; rw [hB]; rintro e w1 ⟨rfl, d1, rfl⟩) | (go_at_call 31; refine (HOP.out _ (mp_up (HQ1.out.mp hrl hcl) (by repeat (first | with_reducible (first | exact World.gained_refl _ | exact ⟨_, rfl⟩ | apply gain_ext | apply gain_alloc | apply gain_drewN | apply gain_drew) | (refine gain_setCell ?_ (by first | exact Nat.le_refl _ | exact World.size_ext _ _ | (simp; done) | (simp; omega)) _))))).mono ?_; rintro e w1 ⟨rfl, d2, rfl⟩))
    have HQN := Lib.hid (HQ1.out.up (wr' := (wo.ext d1).ext d2) (by repeat (first | with_reducible (first | exact World.gained_refl _ | exact ⟨_, rfl⟩ | apply gain_ext | apply gain_alloc | apply gain_drewN | apply gain_drew) | (refine gain_setCell ?_ (by first | exact Nat.le_refl _ | exact World.size_ext _ _ | (simp; done) | (simp; omega)) _))))
    clear HQ1 bx0 bx1 bx2 bx3 obx
    go_upto_region 8 with fail
    refine wp_region_held_drew (S := (fun w' => w'.cell? ⟨gM, 0, none⟩ = some (.int .i64 m.wd) ∧ w'.cell? ⟨gM, 1, none⟩ = some (.int .i64 m.ht) ∧ w'.cell? ⟨gM, 2, none⟩ = some (.slice pr m.rise.length kr) ∧ w'.cell? ⟨gM, 3, none⟩ = some (.slice pc m.cost.length kc))) (by kernel_rfl) ⟨World.cell_of_heap HQN.out.box 0, World.cell_of_heap HQN.out.box 1, World.cell_of_heap HQN.out.box 2, World.cell_of_heap HQN.out.box 3⟩ (fun hHeld => ?_)
    refine wpAnyH_take (i := 0) (oi := ⟨_, _, _, _, _, _⟩) (v := ?_) rfl (by kernel_rfl) (by kernel_rfl) (by kernel_rfl) (fun _ _ _ h => h) (Or.inl ⟨by rfl, ?_⟩) (by assumption) ?_
    rotate_left
    · intro w hSw; (try dsimp only at hSw); go_simp; (try with_reducible rfl)
    try simp only [Act.put, List.setIfInBounds_toArray, List.set_cons_zero, List.set_cons_succ]
    refine wpAnyH_take (i := 1) (oi := ⟨_, _, _, _, _, _⟩) (v := ?_) rfl (by kernel_rfl) (by kernel_rfl) (by kernel_rfl) (fun _ _ _ h => h) (Or.inl ⟨by rfl, ?_⟩) (by assumption) ?_
    rotate_left
    · intro w hSw; (try dsimp only at hSw); go_simp; (try with_reducible rfl)
    try simp only [Act.put, List.setIfInBounds_toArray, List.set_cons_zero, List.set_cons_succ]
    refine wpAnyH_take (i := 2) (oi := ⟨_, _, _, _, _, _⟩) (v := ?_) rfl (by kernel_rfl) (by kernel_rfl) (by kernel_rfl) (fun _ _ _ h => h) (Or.inl ⟨by rfl, ?_⟩) (by assumption) ?_
    rotate_left
    · intro w hSw; (try dsimp only at hSw); go_simp; (try with_reducible rfl)
    try simp only [Act.put, List.setIfInBounds_toArray, List.set_cons_zero, List.set_cons_succ]
    refine wpAnyH_take (i := 3) (oi := ⟨_, _, _, _, _, _⟩) (v := ?_) rfl (by kernel_rfl) (by kernel_rfl) (by kernel_rfl) (fun _ _ _ h => h) (Or.inl ⟨by rfl, ?_⟩) (by assumption) ?_
    rotate_left
    · intro w hSw; (try dsimp only at hSw); go_simp; (try with_reducible rfl)
    try simp only [Act.put, List.setIfInBounds_toArray, List.set_cons_zero, List.set_cons_succ]
    refine wpAnyH_ready (rs := [4]) (by kernel_rfl) (by simp) ?_
    refine AllReadyH.cons rfl (fun K hK => ?_) (AllReadyH.nil)
    go_simp
    go_wp2_with fail
    refine (cellOfD_any _ _ g _ m pr pc kr kc (HQN.out.cur.gain (by repeat (first | with_reducible (first | exact World.gained_refl _ | exact ⟨_, rfl⟩ | apply gain_ext | apply gain_alloc | apply gain_drewN | apply gain_drew) | (refine gain_setCell ?_ (by first | exact Nat.le_refl _ | exact World.size_ext _ _ | (simp; done) | (simp; omega)) _)))) (by omega) hcl).mono ?_
    rintro e wq ⟨x1, rfl, -, -, hcq, hgq⟩
    have HQZ := Lib.hid ((HQN.out.up (by repeat (first | with_reducible (first | exact World.gained_refl _ | exact ⟨_, rfl⟩ | apply gain_ext | apply gain_alloc | apply gain_drewN | apply gain_drew) | (refine gain_setCell ?_ (by first | exact Nat.le_refl _ | exact World.size_ext _ _ | (simp; done) | (simp; omega)) _)))).on hcq hgq)
    clear hcq hgq
    (try dsimp only)
    refine hK.out _ _ ?_ (fun hHeld => ?_)
    · exact ⟨World.cell_of_heap HQZ.out.box 0, World.cell_of_heap HQZ.out.box 1, World.cell_of_heap HQZ.out.box 2, World.cell_of_heap HQZ.out.box 3⟩
    clear hK K
    try simp only [Act.put, List.setIfInBounds_toArray, List.set_cons_zero, List.set_cons_succ]
    have ey0 : wq.cell? ⟨w.heap.size, 0, none⟩ = some (.int .i64 0) := World.cell_of_heap HQZ.out.res 0
    have ez0 : wq.frozen? ⟨w.heap.size, 0, none⟩ = false := World.free_of_heap HQZ.out.res 0
    have ey1 : wq.cell? ⟨w.heap.size, 1, none⟩ = some (.int .i64 0) := World.cell_of_heap HQZ.out.res 1
    have ez1 : wq.frozen? ⟨w.heap.size, 1, none⟩ = false := World.free_of_heap HQZ.out.res 1
    have ey2 : wq.cell? ⟨w.heap.size, 2, none⟩ = some (.slice none 0 0) := World.cell_of_heap HQZ.out.res 2
    have ez2 : wq.frozen? ⟨w.heap.size, 2, none⟩ = false := World.free_of_heap HQZ.out.res 2
    have ey3 : wq.cell? ⟨w.heap.size, 3, none⟩ = some (.slice none 0 0) := World.cell_of_heap HQZ.out.res 3
    have ez3 : wq.frozen? ⟨w.heap.size, 3, none⟩ = false := World.free_of_heap HQZ.out.res 3
    have eoc := World.oldB_of_cell ey0
    have gw0 := World.heap_setCell_row HQZ.out.res 0 (.int .i64 m.wd)
    have gc0 : (wq.setCell ⟨w.heap.size, 0, none⟩ (.int .i64 m.wd)).cell? ⟨w.heap.size, 0, none⟩ = some (.int .i64 m.wd) := World.cell_of_heap gw0 0
    have gw1 := World.heap_setCell_row gw0 1 (.int .i64 m.ht)
    have gc1 : ((wq.setCell ⟨w.heap.size, 0, none⟩ (.int .i64 m.wd)).setCell ⟨w.heap.size, 1, none⟩ (.int .i64 m.ht)).cell? ⟨w.heap.size, 1, none⟩ = some (.int .i64 m.ht) := World.cell_of_heap gw1 1
    have gw2 := World.heap_setCell_row gw1 2 (.slice pr m.rise.length kr)
    have gc2 : (((wq.setCell ⟨w.heap.size, 0, none⟩ (.int .i64 m.wd)).setCell ⟨w.heap.size, 1, none⟩ (.int .i64 m.ht)).setCell ⟨w.heap.size, 2, none⟩ (.slice pr m.rise.length kr)).cell? ⟨w.heap.size, 2, none⟩ = some (.slice pr m.rise.length kr) := World.cell_of_heap gw2 2
    have gw3 := World.heap_setCell_row gw2 3 (.slice pc m.cost.length kc)
    have gc3 : ((((wq.setCell ⟨w.heap.size, 0, none⟩ (.int .i64 m.wd)).setCell ⟨w.heap.size, 1, none⟩ (.int .i64 m.ht)).setCell ⟨w.heap.size, 2, none⟩ (.slice pr m.rise.length kr)).setCell ⟨w.heap.size, 3, none⟩ (.slice pc m.cost.length kc)).cell? ⟨w.heap.size, 3, none⟩ = some (.slice pc m.cost.length kc) := World.cell_of_heap gw3 3
    clear gw0 gw1 gw2 gw3
    have hon : World.grownBy wq ((((wq.setCell ⟨w.heap.size, 0, none⟩ (.int .i64 m.wd)).setCell ⟨w.heap.size, 1, none⟩ (.int .i64 m.ht)).setCell ⟨w.heap.size, 2, none⟩ (.slice pr m.rise.length kr)).setCell ⟨w.heap.size, 3, none⟩ (.slice pc m.cost.length kc)) (some w.heap.size) := by repeat (first | exact only_refl _ _ | refine only_setCell ?_ rfl _)
    have HF := Lib.hid (HQZ.out.fin HW1.out (Nat.le_refl _) hon)
    clear hon
    refine wpAnyH_ready (rs := [5]) (by kernel_rfl) (by simp) ?_
    refine AllReadyH.cons rfl (fun K hK => ?_) (AllReadyH.nil)
    go_simp
    refine hK.out _ _ ?_ (fun hHeld => ?_)
    · exact ⟨World.cell_of_heap HF.out.2.2.2 0, World.cell_of_heap HF.out.2.2.2 1, World.cell_of_heap HF.out.2.2.2 2, World.cell_of_heap HF.out.2.2.2 3⟩
    clear hK K
    try simp only [Act.put, List.setIfInBounds_toArray, List.set_cons_zero, List.set_cons_succ]
    refine wpAnyH_take (i := 6) (oi := ⟨_, _, _, _, _, _⟩) (v := ?_) rfl (by kernel_rfl) (by kernel_rfl) (by kernel_rfl) (fun _ _ _ h => h) (Or.inl ⟨by rfl, ?_⟩) (by assumption) ?_
    rotate_left
    · intro w hSw; (try dsimp only at hSw); go_simp; (try with_reducible rfl)
    try simp only [Act.put, List.setIfInBounds_toArray, List.set_cons_zero, List.set_cons_succ]
    refine wpAnyH_take (i := 7) (oi := ⟨_, _, _, _, _, _⟩) (v := ?_) rfl (by kernel_rfl) (by kernel_rfl) (by kernel_rfl) (fun _ _ _ h => h) (Or.inl ⟨by rfl, ?_⟩) (by assumption) ?_
    rotate_left
    · intro w hSw; (try dsimp only at hSw); go_simp; (try with_reducible rfl)
    try simp only [Act.put, List.setIfInBounds_toArray, List.set_cons_zero, List.set_cons_succ]
    refine wpAnyH_done (by kernel_rfl) ?_ _
    go_wp2
    refine bodyPost_ret (v := .tuple #[.agg #[.int .i64 m.wd, .int .i64 m.ht, .slice pr m.rise.length kr, .slice pc m.cost.length kc], .int .i64 x0, .int .i64 x1]) (by simp [results, Try.results15, go_sem, gc0, gc1, gc2, gc3]) rfl ?_
    exact ⟨m, _, _, _, _, rfl, HF.out.1, ⟨sl_of_own intC_length HF.out.2.1, sl_of_own intC_length HF.out.2.2.1, hrl, hcl⟩⟩
  | true =>
  rw [hO] at HOP
  obtain ⟨x, rfl, hx, hx0⟩ := openB_true hO
  obtain ⟨MW, MH, hok⟩ := mapB_ok hB
  have HNX := Lib.hid (fun W hW => l2Next_any m (.slice pr m.rise.length kr) (.slice pc m.cost.length kc) MW MH x W hok hW hx)
  have hnl := next_len m x
  clear hok hx hx0 hO
  go_wp2_with (first | (go_at_call 24; refine (l2Map_any m _ _ _ (mp_up (HQ1.out.mp hrl hcl) (by repeat (first | with_reducible (first | exact World.gained_refl _ | exact ⟨_, rfl⟩ | apply gain_ext | apply gain_alloc | apply gain_drewN | apply gain_drew) | (refine gain_setCell ?_ (by first | exact Nat.le_refl _ | exact World.size_ext _ _ | (simp; done) | (simp; omega)) _))))).mono ?_; rw [hB]; rintro e w1 ⟨rfl, d1, rfl⟩) | (go_at_call 31; refine (HOP.out _ (mp_up (HQ1.out.mp hrl hcl) (by repeat (first | with_reducible (first | exact World.gained_refl _ | exact ⟨_, rfl⟩ | apply gain_ext | apply gain_alloc | apply gain_drewN | apply gain_drew) | (refine gain_setCell ?_ (by first | exact Nat.le_refl _ | exact World.size_ext _ _ | (simp; done) | (simp; omega)) _))))).mono ?_; rintro e w1 ⟨rfl, d2, rfl⟩))
  refine (one_any _ _ g _ _ (HQ1.out.cur.gain (by repeat (first | with_reducible (first | exact World.gained_refl _ | exact ⟨_, rfl⟩ | apply gain_ext | apply gain_alloc | apply gain_drewN | apply gain_drew) | (refine gain_setCell ?_ (by first | exact Nat.le_refl _ | exact World.size_ext _ _ | (simp; done) | (simp; omega)) _)))) (by omega)).mono ?_
  rintro e wo2 ⟨r, rfl, hcq, hgq⟩
  have HQ2 := Lib.hid ((HQ1.out.up (wr' := (wo.ext d1).ext d2) (by repeat (first | with_reducible (first | exact World.gained_refl _ | exact ⟨_, rfl⟩ | apply gain_ext | apply gain_alloc | apply gain_drewN | apply gain_drew) | (refine gain_setCell ?_ (by first | exact Nat.le_refl _ | exact World.size_ext _ _ | (simp; done) | (simp; omega)) _)))).on hcq hgq)
  clear hcq hgq HQ1 bx0 bx1 bx2 bx3 obx
  generalize (x : Int) = x0 at HNX ⊢
  cases r with
  | true =>
    go_upto_region 8 with fail
    have HQN := Lib.hid HQ2.out
    clear HQ2
    go_upto_region 8 with fail
    refine wp_region_held_drew (S := (fun w' => w'.cell? ⟨gM, 0, none⟩ = some (.int .i64 m.wd) ∧ w'.cell? ⟨gM, 1, none⟩ = some (.int .i64 m.ht) ∧ w'.cell? ⟨gM, 2, none⟩ = some (.slice pr m.rise.length kr) ∧ w'.cell? ⟨gM, 3, none⟩ = some (.slice pc m.cost.length kc))) (by kernel_rfl) ⟨World.cell_of_heap HQN.out.box 0, World.cell_of_heap HQN.out.box 1, World.cell_of_heap HQN.out.box 2, World.cell_of_heap HQN.out.box 3⟩ (fun hHeld => ?_)
    refine wpAnyH_take (i := 0) (oi := ⟨_, _, _, _, _, _⟩) (v := ?_) rfl (by kernel_rfl) (by kernel_rfl) (by kernel_rfl) (fun _ _ _ h => h) (Or.inl ⟨by rfl, ?_⟩) (by assumption) ?_
    rotate_left
    · intro w hSw; (try dsimp only at hSw); go_simp; (try with_reducible rfl)
    try simp only [Act.put, List.setIfInBounds_toArray, List.set_cons_zero, List.set_cons_succ]
    refine wpAnyH_take (i := 1) (oi := ⟨_, _, _, _, _, _⟩) (v := ?_) rfl (by kernel_rfl) (by kernel_rfl) (by kernel_rfl) (fun _ _ _ h => h) (Or.inl ⟨by rfl, ?_⟩) (by assumption) ?_
    rotate_left
    · intro w hSw; (try dsimp only at hSw); go_simp; (try with_reducible rfl)
    try simp only [Act.put, List.setIfInBounds_toArray, List.set_cons_zero, List.set_cons_succ]
    refine wpAnyH_take (i := 2) (oi := ⟨_, _, _, _, _, _⟩) (v := ?_) rfl (by kernel_rfl) (by kernel_rfl) (by kernel_rfl) (fun _ _ _ h => h) (Or.inl ⟨by rfl, ?_⟩) (by assumption) ?_
    rotate_left
    · intro w hSw; (try dsimp only at hSw); go_simp; (try with_reducible rfl)
    try simp only [Act.put, List.setIfInBounds_toArray, List.set_cons_zero, List.set_cons_succ]
    refine wpAnyH_take (i := 3) (oi := ⟨_, _, _, _, _, _⟩) (v := ?_) rfl (by kernel_rfl) (by kernel_rfl) (by kernel_rfl) (fun _ _ _ h => h) (Or.inl ⟨by rfl, ?_⟩) (by assumption) ?_
    rotate_left
    · intro w hSw; (try dsimp only at hSw); go_simp; (try with_reducible rfl)
    try simp only [Act.put, List.setIfInBounds_toArray, List.set_cons_zero, List.set_cons_succ]
    refine wpAnyH_ready (rs := [4]) (by kernel_rfl) (by simp) ?_
    refine AllReadyH.cons rfl (fun K hK => ?_) (AllReadyH.nil)
    go_simp
    go_wp2_with fail
    refine (cellOfD_any _ _ g _ m pr pc kr kc (HQN.out.cur.gain (by repeat (first | with_reducible (first | exact World.gained_refl _ | exact ⟨_, rfl⟩ | apply gain_ext | apply gain_alloc | apply gain_drewN | apply gain_drew) | (refine gain_setCell ?_ (by first | exact Nat.le_refl _ | exact World.size_ext _ _ | (simp; done) | (simp; omega)) _)))) (by omega) hcl).mono ?_
    rintro e wq ⟨x1, rfl, -, -, hcq, hgq⟩
    have HQZ := Lib.hid ((HQN.out.up (by repeat (first | with_reducible (first | exact World.gained_refl _ | exact ⟨_, rfl⟩ | apply gain_ext | apply gain_alloc | apply gain_drewN | apply gain_drew) | (refine gain_setCell ?_ (by first | exact Nat.le_refl _ | exact World.size_ext _ _ | (simp; done) | (simp; omega)) _)))).on hcq hgq)
    clear hcq hgq
    (try dsimp only)
    refine hK.out _ _ ?_ (fun hHeld => ?_)
    · exact ⟨World.cell_of_heap HQZ.out.box 0, World.cell_of_heap HQZ.out.box 1, World.cell_of_heap HQZ.out.box 2, World.cell_of_heap HQZ.out.box 3⟩
    clear hK K
    try simp only [Act.put, List.setIfInBounds_toArray, List.set_cons_zero, List.set_cons_succ]
    have ey0 : wq.cell? ⟨w.heap.size, 0, none⟩ = some (.int .i64 0) := World.cell_of_heap HQZ.out.res 0
    have ez0 : wq.frozen? ⟨w.heap.size, 0, none⟩ = false := World.free_of_heap HQZ.out.res 0
    have ey1 : wq.cell? ⟨w.heap.size, 1, none⟩ = some (.int .i64 0) := World.cell_of_heap HQZ.out.res 1
    have ez1 : wq.frozen? ⟨w.heap.size, 1, none⟩ = false := World.free_of_heap HQZ.out.res 1
    have ey2 : wq.cell? ⟨w.heap.size, 2, none⟩ = some (.slice none 0 0) := World.cell_of_heap HQZ.out.res 2
    have ez2 : wq.frozen? ⟨w.heap.size, 2, none⟩ = false := World.free_of_heap HQZ.out.res 2
    have ey3 : wq.cell? ⟨w.heap.size, 3, none⟩ = some (.slice none 0 0) := World.cell_of_heap HQZ.out.res 3
    have ez3 : wq.frozen? ⟨w.heap.size, 3, none⟩ = false := World.free_of_heap HQZ.out.res 3
    have eoc := World.oldB_of_cell ey0
    have gw0 := World.heap_setCell_row HQZ.out.res 0 (.int .i64 m.wd)
    have gc0 : (wq.setCell ⟨w.heap.size, 0, none⟩ (.int .i64 m.wd)).cell? ⟨w.heap.size, 0, none⟩ = some (.int .i64 m.wd) := World.cell_of_heap gw0 0
    have gw1 := World.heap_setCell_row gw0 1 (.int .i64 m.ht)
    have gc1 : ((wq.setCell ⟨w.heap.size, 0, none⟩ (.int .i64 m.wd)).setCell ⟨w.heap.size, 1, none⟩ (.int .i64 m.ht)).cell? ⟨w.heap.size, 1, none⟩ = some (.int .i64 m.ht) := World.cell_of_heap gw1 1
    have gw2 := World.heap_setCell_row gw1 2 (.slice pr m.rise.length kr)
    have gc2 : (((wq.setCell ⟨w.heap.size, 0, none⟩ (.int .i64 m.wd)).setCell ⟨w.heap.size, 1, none⟩ (.int .i64 m.ht)).setCell ⟨w.heap.size, 2, none⟩ (.slice pr m.rise.length kr)).cell? ⟨w.heap.size, 2, none⟩ = some (.slice pr m.rise.length kr) := World.cell_of_heap gw2 2
    have gw3 := World.heap_setCell_row gw2 3 (.slice pc m.cost.length kc)
    have gc3 : ((((wq.setCell ⟨w.heap.size, 0, none⟩ (.int .i64 m.wd)).setCell ⟨w.heap.size, 1, none⟩ (.int .i64 m.ht)).setCell ⟨w.heap.size, 2, none⟩ (.slice pr m.rise.length kr)).setCell ⟨w.heap.size, 3, none⟩ (.slice pc m.cost.length kc)).cell? ⟨w.heap.size, 3, none⟩ = some (.slice pc m.cost.length kc) := World.cell_of_heap gw3 3
    clear gw0 gw1 gw2 gw3
    have hon : World.grownBy wq ((((wq.setCell ⟨w.heap.size, 0, none⟩ (.int .i64 m.wd)).setCell ⟨w.heap.size, 1, none⟩ (.int .i64 m.ht)).setCell ⟨w.heap.size, 2, none⟩ (.slice pr m.rise.length kr)).setCell ⟨w.heap.size, 3, none⟩ (.slice pc m.cost.length kc)) (some w.heap.size) := by repeat (first | exact only_refl _ _ | refine only_setCell ?_ rfl _)
    have HF := Lib.hid (HQZ.out.fin HW1.out (Nat.le_refl _) hon)
    clear hon
    refine wpAnyH_ready (rs := [5]) (by kernel_rfl) (by simp) ?_
    refine AllReadyH.cons rfl (fun K hK => ?_) (AllReadyH.nil)
    go_simp
    refine hK.out _ _ ?_ (fun hHeld => ?_)
    · exact ⟨World.cell_of_heap HF.out.2.2.2 0, World.cell_of_heap HF.out.2.2.2 1, World.cell_of_heap HF.out.2.2.2 2, World.cell_of_heap HF.out.2.2.2 3⟩
    clear hK K
    try simp only [Act.put, List.setIfInBounds_toArray, List.set_cons_zero, List.set_cons_succ]
    refine wpAnyH_take (i := 6) (oi := ⟨_, _, _, _, _, _⟩) (v := ?_) rfl (by kernel_rfl) (by kernel_rfl) (by kernel_rfl) (fun _ _ _ h => h) (Or.inl ⟨by rfl, ?_⟩) (by assumption) ?_
    rotate_left
    · intro w hSw; (try dsimp only at hSw); go_simp; (try with_reducible rfl)
    try simp only [Act.put, List.setIfInBounds_toArray, List.set_cons_zero, List.set_cons_succ]
    refine wpAnyH_take (i := 7) (oi := ⟨_, _, _, _, _, _⟩) (v := ?_) rfl (by kernel_rfl) (by kernel_rfl) (by kernel_rfl) (fun _ _ _ h => h) (Or.inl ⟨by rfl, ?_⟩) (by assumption) ?_
    rotate_left
    · intro w hSw; (try dsimp only at hSw); go_simp; (try with_reducible rfl)
    try simp only [Act.put, List.setIfInBounds_toArray, List.set_cons_zero, List.set_cons_succ]
    refine wpAnyH_done (by kernel_rfl) ?_ _
    go_wp2
    refine bodyPost_ret (v := .tuple #[.agg #[.int .i64 m.wd, .int .i64 m.ht, .slice pr m.rise.length kr, .slice pc m.cost.length kc], .int .i64 x0, .int .i64 x1]) (by simp [results, Try.results15, go_sem, gc0, gc1, gc2, gc3]) rfl ?_
    exact ⟨m, _, _, _, _, rfl, HF.out.1, ⟨sl_of_own intC_length HF.out.2.1, sl_of_own intC_length HF.out.2.2.1, hrl, hcl⟩⟩
  | false =>
  have bx0 := World.cell_of_heap HQ2.out.box 0
  have bx1 := World.cell_of_heap HQ2.out.box 1
  have bx2 := World.cell_of_heap HQ2.out.box 2
  have bx3 := World.cell_of_heap HQ2.out.box 3
  simp only [List.getElem?_toArray, List.getElem?_cons_zero, List.getElem?_cons_succ] at bx0 bx1 bx2 bx3
  have obx := World.oldB_of_cell bx0
  go_wp2_with fail
  refine (HNX.out _ (mp_up (HQ2.out.mp hrl hcl) (by repeat (first | with_reducible (first | exact World.gained_refl _ | exact ⟨_, rfl⟩ | apply gain_ext | apply gain_alloc | apply gain_drewN | apply gain_drew) | (refine gain_setCell ?_ (by first | exact Nat.le_refl _ | exact World.size_ext _ _ | (simp; done) | (simp; omega)) _))))).mono ?_
  rintro e w1 ⟨v', rfl, ⟨d3, rfl⟩, hn'⟩
  have HN := Lib.hid hn'
  clear hn' HNX HOP
  generalize natL (nextL m x) = Q at HN hnl
  have HQ3 := Lib.hid (HQ2.out.up (wr' := wo2.ext d3) (by repeat (first | with_reducible (first | exact World.gained_refl _ | exact ⟨_, rfl⟩ | apply gain_ext | apply gain_alloc | apply gain_drewN | apply gain_drew) | (refine gain_setCell ?_ (by first | exact Nat.le_refl _ | exact World.size_ext _ _ | (simp; done) | (simp; omega)) _))))
  have HLT := Lib.hid HQ2.out.cur.lt
  clear HQ2 bx0 bx1 bx2 bx3 obx
  obtain ⟨pq, kq, rfl, _⟩ := sl_of_own intC_length HN.out
  by_cases h0 : Q.length = 0
  · have hz : decide (0 < (Q.length : Int)) = false := decide_eq_false (by omega)
    have hz2 : decide (0 < Q.length) = false := decide_eq_false (by omega)
    go_upto_region 8 with fail
    have HQN := Lib.hid HQ3.out
    clear HQ3 HN
    go_upto_region 8 with fail
    refine wp_region_held_drew (S := (fun w' => w'.cell? ⟨gM, 0, none⟩ = some (.int .i64 m.wd) ∧ w'.cell? ⟨gM, 1, none⟩ = some (.int .i64 m.ht) ∧ w'.cell? ⟨gM, 2, none⟩ = some (.slice pr m.rise.length kr) ∧ w'.cell? ⟨gM, 3, none⟩ = some (.slice pc m.cost.length kc))) (by kernel_rfl) ⟨World.cell_of_heap HQN.out.box 0, World.cell_of_heap HQN.out.box 1, World.cell_of_heap HQN.out.box 2, World.cell_of_heap HQN.out.box 3⟩ (fun hHeld => ?_)
    refine wpAnyH_take (i := 0) (oi := ⟨_, _, _, _, _, _⟩) (v := ?_) rfl (by kernel_rfl) (by kernel_rfl) (by kernel_rfl) (fun _ _ _ h => h) (Or.inl ⟨by rfl, ?_⟩) (by assumption) ?_
    rotate_left
    · intro w hSw; (try dsimp only at hSw); go_simp; (try with_reducible rfl)
    try simp only [Act.put, List.setIfInBounds_toArray, List.set_cons_zero, List.set_cons_succ]
    refine wpAnyH_take (i := 1) (oi := ⟨_, _, _, _, _, _⟩) (v := ?_) rfl (by kernel_rfl) (by kernel_rfl) (by kernel_rfl) (fun _ _ _ h => h) (Or.inl ⟨by rfl, ?_⟩) (by assumption) ?_
    rotate_left
    · intro w hSw; (try dsimp only at hSw); go_simp; (try with_reducible rfl)
    try simp only [Act.put, List.setIfInBounds_toArray, List.set_cons_zero, List.set_cons_succ]
    refine wpAnyH_take (i := 2) (oi := ⟨_, _, _, _, _, _⟩) (v := ?_) rfl (by kernel_rfl) (by kernel_rfl) (by kernel_rfl) (fun _ _ _ h => h) (Or.inl ⟨by rfl, ?_⟩) (by assumption) ?_
    rotate_left
    · intro w hSw; (try dsimp only at hSw); go_simp; (try with_reducible rfl)
    try simp only [Act.put, List.setIfInBounds_toArray, List.set_cons_zero, List.set_cons_succ]
    refine wpAnyH_take (i := 3) (oi := ⟨_, _, _, _, _, _⟩) (v := ?_) rfl (by kernel_rfl) (by kernel_rfl) (by kernel_rfl) (fun _ _ _ h => h) (Or.inl ⟨by rfl, ?_⟩) (by assumption) ?_
    rotate_left
    · intro w hSw; (try dsimp only at hSw); go_simp; (try with_reducible rfl)
    try simp only [Act.put, List.setIfInBounds_toArray, List.set_cons_zero, List.set_cons_succ]
    refine wpAnyH_ready (rs := [4]) (by kernel_rfl) (by simp) ?_
    refine AllReadyH.cons rfl (fun K hK => ?_) (AllReadyH.nil)
    go_simp
    go_wp2_with fail
    refine (cellOfD_any _ _ g _ m pr pc kr kc (HQN.out.cur.gain (by repeat (first | with_reducible (first | exact World.gained_refl _ | exact ⟨_, rfl⟩ | apply gain_ext | apply gain_alloc | apply gain_drewN | apply gain_drew) | (refine gain_setCell ?_ (by first | exact Nat.le_refl _ | exact World.size_ext _ _ | (simp; done) | (simp; omega)) _)))) (by omega) hcl).mono ?_
    rintro e wq ⟨x1, rfl, -, -, hcq, hgq⟩
    have HQZ := Lib.hid ((HQN.out.up (by repeat (first | with_reducible (first | exact World.gained_refl _ | exact ⟨_, rfl⟩ | apply gain_ext | apply gain_alloc | apply gain_drewN | apply gain_drew) | (refine gain_setCell ?_ (by first | exact Nat.le_refl _ | exact World.size_ext _ _ | (simp; done) | (simp; omega)) _)))).on hcq hgq)
    clear hcq hgq
    (try dsimp only)
    refine hK.out _ _ ?_ (fun hHeld => ?_)
    · exact ⟨World.cell_of_heap HQZ.out.box 0, World.cell_of_heap HQZ.out.box 1, World.cell_of_heap HQZ.out.box 2, World.cell_of_heap HQZ.out.box 3⟩
    clear hK K
    try simp only [Act.put, List.setIfInBounds_toArray, List.set_cons_zero, List.set_cons_succ]
    have ey0 : wq.cell? ⟨w.heap.size, 0, none⟩ = some (.int .i64 0) := World.cell_of_heap HQZ.out.res 0
    have ez0 : wq.frozen? ⟨w.heap.size, 0, none⟩ = false := World.free_of_heap HQZ.out.res 0
    have ey1 : wq.cell? ⟨w.heap.size, 1, none⟩ = some (.int .i64 0) := World.cell_of_heap HQZ.out.res 1
    have ez1 : wq.frozen? ⟨w.heap.size, 1, none⟩ = false := World.free_of_heap HQZ.out.res 1
    have ey2 : wq.cell? ⟨w.heap.size, 2, none⟩ = some (.slice none 0 0) := World.cell_of_heap HQZ.out.res 2
    have ez2 : wq.frozen? ⟨w.heap.size, 2, none⟩ = false := World.free_of_heap HQZ.out.res 2
    have ey3 : wq.cell? ⟨w.heap.size, 3, none⟩ = some (.slice none 0 0) := World.cell_of_heap HQZ.out.res 3
    have ez3 : wq.frozen? ⟨w.heap.size, 3, none⟩ = false := World.free_of_heap HQZ.out.res 3
    have eoc := World.oldB_of_cell ey0
    have gw0 := World.heap_setCell_row HQZ.out.res 0 (.int .i64 m.wd)
    have gc0 : (wq.setCell ⟨w.heap.size, 0, none⟩ (.int .i64 m.wd)).cell? ⟨w.heap.size, 0, none⟩ = some (.int .i64 m.wd) := World.cell_of_heap gw0 0
    have gw1 := World.heap_setCell_row gw0 1 (.int .i64 m.ht)
    have gc1 : ((wq.setCell ⟨w.heap.size, 0, none⟩ (.int .i64 m.wd)).setCell ⟨w.heap.size, 1, none⟩ (.int .i64 m.ht)).cell? ⟨w.heap.size, 1, none⟩ = some (.int .i64 m.ht) := World.cell_of_heap gw1 1
    have gw2 := World.heap_setCell_row gw1 2 (.slice pr m.rise.length kr)
    have gc2 : (((wq.setCell ⟨w.heap.size, 0, none⟩ (.int .i64 m.wd)).setCell ⟨w.heap.size, 1, none⟩ (.int .i64 m.ht)).setCell ⟨w.heap.size, 2, none⟩ (.slice pr m.rise.length kr)).cell? ⟨w.heap.size, 2, none⟩ = some (.slice pr m.rise.length kr) := World.cell_of_heap gw2 2
    have gw3 := World.heap_setCell_row gw2 3 (.slice pc m.cost.length kc)
    have gc3 : ((((wq.setCell ⟨w.heap.size, 0, none⟩ (.int .i64 m.wd)).setCell ⟨w.heap.size, 1, none⟩ (.int .i64 m.ht)).setCell ⟨w.heap.size, 2, none⟩ (.slice pr m.rise.length kr)).setCell ⟨w.heap.size, 3, none⟩ (.slice pc m.cost.length kc)).cell? ⟨w.heap.size, 3, none⟩ = some (.slice pc m.cost.length kc) := World.cell_of_heap gw3 3
    clear gw0 gw1 gw2 gw3
    have hon : World.grownBy wq ((((wq.setCell ⟨w.heap.size, 0, none⟩ (.int .i64 m.wd)).setCell ⟨w.heap.size, 1, none⟩ (.int .i64 m.ht)).setCell ⟨w.heap.size, 2, none⟩ (.slice pr m.rise.length kr)).setCell ⟨w.heap.size, 3, none⟩ (.slice pc m.cost.length kc)) (some w.heap.size) := by repeat (first | exact only_refl _ _ | refine only_setCell ?_ rfl _)
    have HF := Lib.hid (HQZ.out.fin HW1.out (Nat.le_refl _) hon)
    clear hon
    refine wpAnyH_ready (rs := [5]) (by kernel_rfl) (by simp) ?_
    refine AllReadyH.cons rfl (fun K hK => ?_) (AllReadyH.nil)
    go_simp
    refine hK.out _ _ ?_ (fun hHeld => ?_)
    · exact ⟨World.cell_of_heap HF.out.2.2.2 0, World.cell_of_heap HF.out.2.2.2 1, World.cell_of_heap HF.out.2.2.2 2, World.cell_of_heap HF.out.2.2.2 3⟩
    clear hK K
    try simp only [Act.put, List.setIfInBounds_toArray, List.set_cons_zero, List.set_cons_succ]
    refine wpAnyH_take (i := 6) (oi := ⟨_, _, _, _, _, _⟩) (v := ?_) rfl (by kernel_rfl) (by kernel_rfl) (by kernel_rfl) (fun _ _ _ h => h) (Or.inl ⟨by rfl, ?_⟩) (by assumption) ?_
    rotate_left
    · intro w hSw; (try dsimp only at hSw); go_simp; (try with_reducible rfl)
    try simp only [Act.put, List.setIfInBounds_toArray, List.set_cons_zero, List.set_cons_succ]
    refine wpAnyH_take (i := 7) (oi := ⟨_, _, _, _, _, _⟩) (v := ?_) rfl (by kernel_rfl) (by kernel_rfl) (by kernel_rfl) (fun _ _ _ h => h) (Or.inl ⟨by rfl, ?_⟩) (by assumption) ?_
    rotate_left
    · intro w hSw; (try dsimp only at hSw); go_simp; (try with_reducible rfl)
    try simp only [Act.put, List.setIfInBounds_toArray, List.set_cons_zero, List.set_cons_succ]
    refine wpAnyH_done (by kernel_rfl) ?_ _
    go_wp2
    refine bodyPost_ret (v := .tuple #[.agg #[.int .i64 m.wd, .int .i64 m.ht, .slice pr m.rise.length kr, .slice pc m.cost.length kc], .int .i64 x0, .int .i64 x1]) (by simp [results, Try.results15, go_sem, gc0, gc1, gc2, gc3]) rfl ?_
    exact ⟨m, _, _, _, _, rfl, HF.out.1, ⟨sl_of_own intC_length HF.out.2.1, sl_of_own intC_length HF.out.2.2.1, hrl, hcl⟩⟩
  · have hld : decide (0 < (Q.length : Int)) = true := decide_eq_true (by omega)
    have hld2 : decide (0 < Q.length) = true := decide_eq_true (by omega)
    obtain ⟨b, o, rfl⟩ := sl_some (sl_of_own intC_length HN.out) (by omega)
    go_upto_region 7 with fail
    refine wp_region_held_drew (S := (fun w' => w'.cell? ⟨gM, 0, none⟩ = some (.int .i64 m.wd) ∧ w'.cell? ⟨gM, 1, none⟩ = some (.int .i64 m.ht) ∧ w'.cell? ⟨gM, 2, none⟩ = some (.slice pr m.rise.length kr) ∧ w'.cell? ⟨gM, 3, none⟩ = some (.slice pc m.cost.length kc) ∧ w'.own wo2.heap.size 3 intC 1 (.slice (some ⟨b, o, none⟩) Q.length kq) Q)) (by kernel_rfl) ⟨World.cell_of_heap HQ3.out.box 0, World.cell_of_heap HQ3.out.box 1, World.cell_of_heap HQ3.out.box 2, World.cell_of_heap HQ3.out.box 3, HN.out⟩ (fun hHeld => ?_)
    refine wpAnyH_take (i := 0) (oi := ⟨_, _, _, _, _, _⟩) (v := ?_) rfl (by kernel_rfl) (by kernel_rfl) (by kernel_rfl) (fun _ _ _ h => h) (Or.inl ⟨by rfl, ?_⟩) (by assumption) ?_
    rotate_left
    · intro w hSw; (try dsimp only at hSw); go_simp; (try with_reducible rfl)
    try simp only [Act.put, List.setIfInBounds_toArray, List.set_cons_zero, List.set_cons_succ]
    refine wpAnyH_take (i := 1) (oi := ⟨_, _, _, _, _, _⟩) (v := ?_) rfl (by kernel_rfl) (by kernel_rfl) (by kernel_rfl) (fun _ _ _ h => h) (Or.inl ⟨by rfl, ?_⟩) (by assumption) ?_
    rotate_left
    · intro w hSw; (try dsimp only at hSw); go_simp; (try with_reducible rfl)
    try simp only [Act.put, List.setIfInBounds_toArray, List.set_cons_zero, List.set_cons_succ]
    refine wpAnyH_take (i := 2) (oi := ⟨_, _, _, _, _, _⟩) (v := ?_) rfl (by kernel_rfl) (by kernel_rfl) (by kernel_rfl) (fun _ _ _ h => h) (Or.inl ⟨by rfl, ?_⟩) (by assumption) ?_
    rotate_left
    · intro w hSw; (try dsimp only at hSw); go_simp; (try with_reducible rfl)
    try simp only [Act.put, List.setIfInBounds_toArray, List.set_cons_zero, List.set_cons_succ]
    refine wpAnyH_take (i := 3) (oi := ⟨_, _, _, _, _, _⟩) (v := ?_) rfl (by kernel_rfl) (by kernel_rfl) (by kernel_rfl) (fun _ _ _ h => h) (Or.inl ⟨by rfl, ?_⟩) (by assumption) ?_
    rotate_left
    · intro w hSw; (try dsimp only at hSw); go_simp; (try with_reducible rfl)
    try simp only [Act.put, List.setIfInBounds_toArray, List.set_cons_zero, List.set_cons_succ]
    refine wpAnyH_take (i := 4) (oi := ⟨_, _, _, _, _, _⟩) (v := ?_) rfl (by kernel_rfl) (by kernel_rfl) (by kernel_rfl) (fun _ _ _ h => h) (Or.inl ⟨by rfl, ?_⟩) (by assumption) ?_
    rotate_left
    · intro w hSw; (try dsimp only at hSw); go_simp; (try with_reducible rfl)
    try simp only [Act.put, List.setIfInBounds_toArray, List.set_cons_zero, List.set_cons_succ]
    refine wpAnyH_take (i := 5) (oi := ⟨_, _, _, _, _, _⟩) (v := ?_) rfl (by kernel_rfl) (by kernel_rfl) (by kernel_rfl) (fun _ _ _ h => h) (Or.inl ⟨by rfl, ?_⟩) (by assumption) ?_
    rotate_left
    · intro w hSw; (try dsimp only at hSw); go_simp; (try with_reducible rfl)
    try simp only [Act.put, List.setIfInBounds_toArray, List.set_cons_zero, List.set_cons_succ]
    refine wpAnyH_ready (rs := [6]) (by kernel_rfl) (by simp) ?_
    refine AllReadyH.cons rfl (fun K hK => ?_) (AllReadyH.nil)
    go_simp
    go_wp2_with fail
    refine (pick_any _ _ g _ _ (HQ3.out.cur.gain (by repeat (first | with_reducible (first | exact World.gained_refl _ | exact ⟨_, rfl⟩ | apply gain_ext | apply gain_alloc | apply gain_drewN | apply gain_drew) | (refine gain_setCell ?_ (by first | exact Nat.le_refl _ | exact World.size_ext _ _ | (simp; done) | (simp; omega)) _)))) (by omega)).mono ?_
    rintro e wq ⟨r, rfl, q1, q2, hcq, hgq⟩
    obtain ⟨k, rfl⟩ : ∃ k : Nat, r = (k : Int) := ⟨r.toNat, by omega⟩
    have hk : k < Q.length := by omega
    have HQ4 := Lib.hid ((HQ3.out.up (by repeat (first | with_reducible (first | exact World.gained_refl _ | exact ⟨_, rfl⟩ | apply gain_ext | apply gain_alloc | apply gain_drewN | apply gain_drew) | (refine gain_setCell ?_ (by first | exact Nat.le_refl _ | exact World.size_ext _ _ | (simp; done) | (simp; omega)) _)))).on hcq hgq)
    have HN4 := Lib.hid (own_cur (own_up HN.out (by repeat (first | with_reducible (first | exact World.gained_refl _ | exact ⟨_, rfl⟩ | apply gain_ext | apply gain_alloc | apply gain_drewN | apply gain_drew) | (refine gain_setCell ?_ (by first | exact Nat.le_refl _ | exact World.size_ext _ _ | (simp; done) | (simp; omega)) _)))) HLT.out hgq)
    clear hcq hgq q1 q2 HQ3 HN
    (try dsimp only)
    refine hK.out _ _ ?_ (fun hHeld => ?_)
    · exact ⟨World.cell_of_heap HQ4.out.box 0, World.cell_of_heap HQ4.out.box 1, World.cell_of_heap HQ4.out.box 2, World.cell_of_heap HQ4.out.box 3, HN4.out⟩
    clear hK K
    try simp only [Act.put, List.setIfInBounds_toArray, List.set_cons_zero, List.set_cons_succ]
    have hk0 : (0 : Int) ≤ (k : Int) := by omega
    have hk1 : (k : Int) < (Q.length : Int) := by omega
    obtain ⟨y, hy⟩ : ∃ y, Q[k] = y := ⟨_, rfl⟩
    refine wpAnyH_take (i := 7) (oi := ⟨_, _, _, _, _, _⟩) (v := ?_) rfl (by kernel_rfl) (by kernel_rfl) (by kernel_rfl) (fun _ _ _ h => h) (Or.inl ⟨by rfl, ?_⟩) (by assumption) ?_
    rotate_left
    · intro w hSw; (try dsimp only at hSw); go_simp; (try with_reducible rfl)
    try simp only [Act.put, List.setIfInBounds_toArray, List.set_cons_zero, List.set_cons_succ]
    refine wpAnyH_take (i := 8) (oi := ⟨_, _, _, _, _, _⟩) (v := .int .i64 y) rfl (by kernel_rfl) (by kernel_rfl) (by kernel_rfl) (fun _ _ _ h => h) (Or.inl ⟨by rfl, ?_⟩) (by assumption) ?_
    · intro w hSw
      (try dsimp only at hSw)
      have ck := sl_int (sl_of_own intC_length hSw.2.2.2.2) hk
      rw [hy] at ck
      have ob := World.oldB_of_cell ck
      clear hSw
      go_simp
      (try with_reducible rfl)
    try simp only [Act.put, List.setIfInBounds_toArray, List.set_cons_zero, List.set_cons_succ]
    have ey0 : wq.cell? ⟨w.heap.size, 0, none⟩ = some (.int .i64 0) := World.cell_of_heap HQ4.out.res 0
    have ez0 : wq.frozen? ⟨w.heap.size, 0, none⟩ = false := World.free_of_heap HQ4.out.res 0
    have ey1 : wq.cell? ⟨w.heap.size, 1, none⟩ = some (.int .i64 0) := World.cell_of_heap HQ4.out.res 1
    have ez1 : wq.frozen? ⟨w.heap.size, 1, none⟩ = false := World.free_of_heap HQ4.out.res 1
    have ey2 : wq.cell? ⟨w.heap.size, 2, none⟩ = some (.slice none 0 0) := World.cell_of_heap HQ4.out.res 2
    have ez2 : wq.frozen? ⟨w.heap.size, 2, none⟩ = false := World.free_of_heap HQ4.out.res 2
    have ey3 : wq.cell? ⟨w.heap.size, 3, none⟩ = some (.slice none 0 0) := World.cell_of_heap HQ4.out.res 3
    have ez3 : wq.frozen? ⟨w.heap.size, 3, none⟩ = false := World.free_of_heap HQ4.out.res 3
    have eoc := World.oldB_of_cell ey0
    have gw0 := World.heap_setCell_row HQ4.out.res 0 (.int .i64 m.wd)
    have gc0 : (wq.setCell ⟨w.heap.size, 0, none⟩ (.int .i64 m.wd)).cell? ⟨w.heap.size, 0, none⟩ = some (.int .i64 m.wd) := World.cell_of_heap gw0 0
    have gw1 := World.heap_setCell_row gw0 1 (.int .i64 m.ht)
    have gc1 : ((wq.setCell ⟨w.heap.size, 0, none⟩ (.int .i64 m.wd)).setCell ⟨w.heap.size, 1, none⟩ (.int .i64 m.ht)).cell? ⟨w.heap.size, 1, none⟩ = some (.int .i64 m.ht) := World.cell_of_heap gw1 1
    have gw2 := World.heap_setCell_row gw1 2 (.slice pr m.rise.length kr)
    have gc2 : (((wq.setCell ⟨w.heap.size, 0, none⟩ (.int .i64 m.wd)).setCell ⟨w.heap.size, 1, none⟩ (.int .i64 m.ht)).setCell ⟨w.heap.size, 2, none⟩ (.slice pr m.rise.length kr)).cell? ⟨w.heap.size, 2, none⟩ = some (.slice pr m.rise.length kr) := World.cell_of_heap gw2 2
    have gw3 := World.heap_setCell_row gw2 3 (.slice pc m.cost.length kc)
    have gc3 : ((((wq.setCell ⟨w.heap.size, 0, none⟩ (.int .i64 m.wd)).setCell ⟨w.heap.size, 1, none⟩ (.int .i64 m.ht)).setCell ⟨w.heap.size, 2, none⟩ (.slice pr m.rise.length kr)).setCell ⟨w.heap.size, 3, none⟩ (.slice pc m.cost.length kc)).cell? ⟨w.heap.size, 3, none⟩ = some (.slice pc m.cost.length kc) := World.cell_of_heap gw3 3
    clear gw0 gw1 gw2 gw3
    have hon : World.grownBy wq ((((wq.setCell ⟨w.heap.size, 0, none⟩ (.int .i64 m.wd)).setCell ⟨w.heap.size, 1, none⟩ (.int .i64 m.ht)).setCell ⟨w.heap.size, 2, none⟩ (.slice pr m.rise.length kr)).setCell ⟨w.heap.size, 3, none⟩ (.slice pc m.cost.length kc)) (some w.heap.size) := by repeat (first | exact only_refl _ _ | refine only_setCell ?_ rfl _)
    have HF := Lib.hid (HQ4.out.fin HW1.out (Nat.le_refl _) hon)
    have HX := Lib.hid (own_not HN4.out (fun q e => by have := (own_lt HN4.out q e).1; have := HQ4.out.gr; have := HLT.out; omega) hon)
    clear hon
    refine wpAnyH_ready (rs := [9]) (by kernel_rfl) (by simp) ?_
    refine AllReadyH.cons rfl (fun K hK => ?_) (AllReadyH.nil)
    go_simp
    refine hK.out _ _ ?_ (fun hHeld => ?_)
    · exact ⟨World.cell_of_heap HF.out.2.2.2 0, World.cell_of_heap HF.out.2.2.2 1, World.cell_of_heap HF.out.2.2.2 2, World.cell_of_heap HF.out.2.2.2 3, HX.out⟩
    clear hK K
    try simp only [Act.put, List.setIfInBounds_toArray, List.set_cons_zero, List.set_cons_succ]
    refine wpAnyH_take (i := 10) (oi := ⟨_, _, _, _, _, _⟩) (v := ?_) rfl (by kernel_rfl) (by kernel_rfl) (by kernel_rfl) (fun _ _ _ h => h) (Or.inl ⟨by rfl, ?_⟩) (by assumption) ?_
    rotate_left
    · intro w hSw; (try dsimp only at hSw); go_simp; (try with_reducible rfl)
    try simp only [Act.put, List.setIfInBounds_toArray, List.set_cons_zero, List.set_cons_succ]
    refine wpAnyH_take (i := 11) (oi := ⟨_, _, _, _, _, _⟩) (v := ?_) rfl (by kernel_rfl) (by kernel_rfl) (by kernel_rfl) (fun _ _ _ h => h) (Or.inl ⟨by rfl, ?_⟩) (by assumption) ?_
    rotate_left
    · intro w hSw; (try dsimp only at hSw); go_simp; (try with_reducible rfl)
    try simp only [Act.put, List.setIfInBounds_toArray, List.set_cons_zero, List.set_cons_succ]
    refine wpAnyH_done (by kernel_rfl) ?_ _
    go_wp2
    refine bodyPost_ret (v := .tuple #[.agg #[.int .i64 m.wd, .int .i64 m.ht, .slice pr m.rise.length kr, .slice pc m.cost.length kc], .int .i64 x0, .int .i64 y]) (by simp [results, Try.results15, go_sem, gc0, gc1, gc2, gc3]) rfl ?_
    exact ⟨m, _, _, _, _, rfl, HF.out.1, ⟨sl_of_own intC_length HF.out.2.1, sl_of_own intC_length HF.out.2.2.1, hrl, hcl⟩⟩
end Go.Proofs.Ytepjemfkmnpepaa
