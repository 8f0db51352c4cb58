/- spec.l1Cur's track: a map, controls and a course. Condition: the reader has been asked less than a hundred times. -/
import Derived.Test.YtmcimgnobimicaaGreatG12
import Derived.Test.YtmcimgnobimicaaGreatG13
import Derived.Test.YtmcimgnobimicaaGreatG9
import Derived.Test.YtmcimgnobimicaaGreatG17
import Derived.Deep.DeepCutAuto
namespace Go.Proofs.YtmcimgnobimicaaGreat
open Go.RowKit Go.Ori
/-- A map and controls are at hand, the map's costs may be set. -/
structure TSt (T tM tI tC : TypeId) (W w wr : World) (g gM n : Nat) (m : Mp) (rv cv v : Value) (l : List Ctl) : Prop where
  cur : Cur T W wr g n
  res : wr.heap[w.heap.size]? = some (.cells #[.int .i64 0, .int .i64 0, .slice none 0 0, .slice none 0 0] tM (0, 0))
  box : wr.heap[gM]? = some (.cells #[.int .i64 m.wd, .int .i64 m.ht, rv, cv] tM (0, 0))
  r : wr.own (w.heap.size + 1) tI intC 1 rv m.rise
  c : wr.own (w.heap.size + 1) tI intC 1 cv m.cost
  ls : wr.own (w.heap.size + 1) tC Ctl.cells 2 v l
  ap : ∀ q, rv.ownBlock = some q → cv.ownBlock ≠ some q
  gr : w.grownBy wr (some g)
  g1 : g < w.heap.size
  gM1 : w.heap.size < gM
  neI : tI ≠ tM
  neIC : tI ≠ tC
  wW : W.heap.size ≤ w.heap.size
section
variable {T tM tI tC : TypeId} {W w wr wr' : World} {g gM n n' : Nat} {m : Mp} {rv cv v : Value} {l : List Ctl}
theorem TSt.up (h : TSt T tM tI tC W w wr g gM n m rv cv v l) (hg : ∃ d, wr' = wr.ext d) : TSt T tM tI tC W w wr' g gM n m rv cv v l :=
  ⟨h.cur.gain hg, row_up h.res hg, row_up h.box hg, own_up h.r hg, own_up h.c hg, own_up h.ls hg, h.ap, only_gain h.gr hg, h.g1, h.gM1, h.neI, h.neIC, h.wW⟩
theorem TSt.le (h : TSt T tM tI tC W w wr g gM n m rv cv v l) (hn : n ≤ n') : TSt T tM tI tC W w wr g gM n' m rv cv v l :=
  ⟨h.cur.le hn, h.res, h.box, h.r, h.c, h.ls, h.ap, h.gr, h.g1, h.gM1, h.neI, h.neIC, h.wW⟩
theorem TSt.on (h : TSt T tM tI tC W w wr g gM n m rv cv v l) (hc : Cur T W wr' g n') (hg : wr.grownBy wr' (some g)) : TSt T tM tI tC W w wr' g gM n' m rv cv v l := by
  have h1 := h.g1; have h2 := h.gM1
  exact ⟨hc, row_keep h.res hg (fun q e => by cases e; omega), row_keep h.box hg (fun q e => by cases e; omega), own_cur h.r (by omega) hg, own_cur h.c (by omega) hg, own_cur h.ls (by omega) hg, h.ap, only_trans h.gr hg, h.g1, h.gM1, h.neI, h.neIC, h.wW⟩
theorem TSt.size (h : TSt T tM tI tC W w wr g gM n m rv cv v l) : w.heap.size ≤ wr.heap.size := only_size h.gr
theorem TSt.mp (h : TSt T tM tI tC W w wr g gM n m rv cv v l) (hrl : m.rise.length ≤ 1048576) (hcl : m.cost.length ≤ 1048576) : wr.mp rv cv m := ⟨sl_of_own intC_length h.r, sl_of_own intC_length h.c, hrl, hcl⟩
theorem TSt.set {b N cap k : Nat} (h : TSt T tM tI tC W w wr g gM n m rv (.slice (some ⟨b, 0, none⟩) N cap) v l) (hk : k < m.cost.length) (x : Int) :
    TSt T tM tI tC W w (wr.setCell ⟨b, k, none⟩ (.int .i64 x)) g gM n { m with cost := m.cost.set k x } rv (.slice (some ⟨b, 0, none⟩) N cap) v l := by
  have hs : wr.grownBy (wr.setCell ⟨b, k, none⟩ (.int .i64 x)) (some b) := only_setCell (p := ⟨b, k, none⟩) (only_refl _ _) rfl _
  have hb := (own_lt h.c b rfl).1
  have h1 := h.g1; have h4 := h.wW
  have e1 := own_ne h.c h.box h.neI b rfl
  refine ⟨h.cur.grow hs (fun q e => by cases e; omega) (gain_setCell h.cur.up (show W.heap.size ≤ b by omega) _), row_keep h.res hs (fun q e => by cases e; omega), row_keep h.box hs (fun q e => by cases e; exact e1), own_not h.r (fun q hq e => by subst e; exact h.ap q hq rfl) hs, own_set h.c hk x, own_not h.ls (fun q hq e => by subst e; exact own_two h.c h.ls h.neIC rfl hq) hs, h.ap, only_new h.gr hs (fun q e => by cases e; omega), h.g1, h.gM1, h.neI, h.neIC, h.wW⟩
end
set_option maxHeartbeats 8000000 in
set_option maxRecDepth 100000 in
theorem track_any (W w : World) (g n : Nat) (h : Cur 60 W w g n) (hn : n ≤ 100) :
    Calls Tryz.prog 34 #[.pointer (some ⟨g, 0, none⟩)] w fun x w' => ∃ (m : Mp) (rv cv v u : Value) (l : List Ctl) (t : List Int), x = .returned (.tuple #[.agg #[.int .i64 m.wd, .int .i64 m.ht, rv, cv], v, u]) ∧ w'.own w.heap.size 3 intC 1 rv m.rise ∧ w'.own w.heap.size 3 intC 1 cv m.cost ∧ m.rise.length ≤ 21 ∧ m.cost.length ≤ 21 ∧ w'.own w.heap.size 73 Ctl.cells 2 v l ∧ l.length ≤ 11 ∧ w'.own w.heap.size 3 intC 1 u t ∧ t.length ≤ 9 ∧ Cur 60 W w' g (n + 500) ∧ w.grownBy w' (some g) := by
  have HC := Lib.hid h
  have hgw := h.lt
  have hWw : W.heap.size ≤ w.heap.size := Nat.le_trans h.ge (Nat.le_of_lt hgw)
  have HRZ := Lib.hid (heap_alloc_new w (.cells #[.int .i64 0, .int .i64 0, .slice none 0 0, .slice none 0 0] 26))
  have hsz : (w.alloc (.cells #[.int .i64 0, .int .i64 0, .slice none 0 0, .slice none 0 0] 26)).heap.size = w.heap.size + 1 := World.size_alloc _ _
  clear h
  go_enter Tryz.func34, Tryz.ntmps34
  go_wp2_with fail
  refine (site_any W _ g n (HC.out.gain (by repeat (first | with_reducible (first | exact World.gained_refl _ | exact ⟨_, rfl⟩ | apply gain_ext | apply gain_alloc | apply gain_drewN | apply gain_drew) | (refine gain_setCell ?_ (by first | exact Nat.le_refl _ | exact World.size_ext _ _ | (simp; done) | (simp; omega)) _)))) (by omega)).mono ?_
  rintro e wm ⟨m, rv, cv, lv, l, rfl, ho1, ho2, hap, hrl, hcl, ho3, hll, hc1, hg1⟩
  rw [hsz] at ho1 ho2 ho3
  have hlm := only_size hg1
  rw [hsz] at hlm
  have hT : TSt 60 26 3 73 W w (wm.alloc (.cells #[.int .i64 m.wd, .int .i64 m.ht, rv, cv] 26)) g wm.heap.size (n + 260) m rv cv lv l :=
    ⟨hc1.gain (by repeat (first | with_reducible (first | exact World.gained_refl _ | exact ⟨_, rfl⟩ | apply gain_ext | apply gain_alloc | apply gain_drewN | apply gain_drew) | (refine gain_setCell ?_ (by first | exact Nat.le_refl _ | exact World.size_ext _ _ | (simp; done) | (simp; omega)) _))), row_up (row_keep HRZ.out hg1 (fun q e => by cases e; omega)) (by repeat (first | with_reducible (first | exact World.gained_refl _ | exact ⟨_, rfl⟩ | apply gain_ext | apply gain_alloc | apply gain_drewN | apply gain_drew) | (refine gain_setCell ?_ (by first | exact Nat.le_refl _ | exact World.size_ext _ _ | (simp; done) | (simp; omega)) _))), heap_alloc_new wm _, own_up ho1 (by repeat (first | with_reducible (first | exact World.gained_refl _ | exact ⟨_, rfl⟩ | apply gain_ext | apply gain_alloc | apply gain_drewN | apply gain_drew) | (refine gain_setCell ?_ (by first | exact Nat.le_refl _ | exact World.size_ext _ _ | (simp; done) | (simp; omega)) _))), own_up ho2 (by repeat (first | with_reducible (first | exact World.gained_refl _ | exact ⟨_, rfl⟩ | apply gain_ext | apply gain_alloc | apply gain_drewN | apply gain_drew) | (refine gain_setCell ?_ (by first | exact Nat.le_refl _ | exact World.size_ext _ _ | (simp; done) | (simp; omega)) _))), own_up ho3 (by repeat (first | with_reducible (first | exact World.gained_refl _ | exact ⟨_, rfl⟩ | apply gain_ext | apply gain_alloc | apply gain_drewN | apply gain_drew) | (refine gain_setCell ?_ (by first | exact Nat.le_refl _ | exact World.size_ext _ _ | (simp; done) | (simp; omega)) _))), hap, only_gain (only_trans (only_gain (only_refl w (some g)) (by repeat (first | with_reducible (first | exact World.gained_refl _ | exact ⟨_, rfl⟩ | apply gain_ext | apply gain_alloc | apply gain_drewN | apply gain_drew) | (refine gain_setCell ?_ (by first | exact Nat.le_refl _ | exact World.size_ext _ _ | (simp; done) | (simp; omega)) _)))) hg1) (by repeat (first | with_reducible (first | exact World.gained_refl _ | exact ⟨_, rfl⟩ | apply gain_ext | apply gain_alloc | apply gain_drewN | apply gain_drew) | (refine gain_setCell ?_ (by first | exact Nat.le_refl _ | exact World.size_ext _ _ | (simp; done) | (simp; omega)) _))), hgw, by omega, by decide, by decide, hWw⟩
  have HS0 := Lib.hid hT
  obtain ⟨pr, kr, rfl, _⟩ := sl_of_own intC_length ho1
  obtain ⟨pc, kc, rfl, _⟩ := sl_of_own intC_length ho2
  obtain ⟨pl, kl, rfl, _⟩ := sl_of_own Ctl.cells_length ho3
  clear hc1 hg1 ho1 ho2 ho3 hT hap HC HRZ hsz
  go_upto_region 2 with fail
  generalize wm.alloc (.cells #[.int .i64 m.wd, .int .i64 m.ht, .slice pr m.rise.length kr, .slice pc m.cost.length kc] 26) = B0 at HS0 ⊢
  go_cut [21] (fun t wx => ∃ z : Int, t = .bool (decide (z < 1)) ∧ TSt 60 26 3 73 W w wx g wm.heap.size (n + 262) m (.slice pr m.rise.length kr) (.slice pc m.cost.length kc) (.slice pl l.length kl) l)
  case first =>
    go_wp2_with fail
    refine (one_any W _ g _ _ HS0.out.cur (by omega)).mono ?_
    rintro e wa ⟨b1, rfl, hca, hga⟩
    have HSA := Lib.hid (HS0.out.on hca hga)
    clear hca hga HS0
    cases b1 with
    | false =>
      go_wp2_with fail
      go_meet
      exact ⟨1, by simp, HSA.out.le (by omega)⟩
    | true =>
      have bx0 : wa.cell? ⟨wm.heap.size, 0, none⟩ = some (.int .i64 m.wd) := World.cell_of_heap HSA.out.box 0
      have bx1 : wa.cell? ⟨wm.heap.size, 1, none⟩ = some (.int .i64 m.ht) := World.cell_of_heap HSA.out.box 1
      have bx2 : wa.cell? ⟨wm.heap.size, 2, none⟩ = some (.slice pr m.rise.length kr) := World.cell_of_heap HSA.out.box 2
      have bx3 : wa.cell? ⟨wm.heap.size, 3, none⟩ = some (.slice pc m.cost.length kc) := World.cell_of_heap HSA.out.box 3
      have obx := World.oldB_of_cell bx0
      go_wp2_with (go_at_call 58; refine (l2Map_any m _ _ _ (HSA.out.mp (by omega) (by omega))).mono ?_; rintro e w1 ⟨rfl, d1, rfl⟩)
      go_meet
      exact ⟨if mapB m then 0 else 1, by cases mapB m <;> simp, (HSA.out.up ⟨_, rfl⟩).le (by omega)⟩
  obtain ⟨z0, rfl, hT1⟩ := hcut
  have HS1 := Lib.hid hT1
  clear hT1 HS0
  rename_i wx
  go_upto_if 21 with fail
  go_cut [7] (fun _ wx => ∃ c' : List Int, c'.length = m.cost.length ∧ TSt 60 26 3 73 W w wx g wm.heap.size (n + 262) { m with cost := c' } (.slice pr m.rise.length kr) (.slice pc m.cost.length kc) (.slice pl l.length kl) l)
  case first =>
    by_cases hz : z0 < 1
    · have hzd : decide (z0 < 1) = true := decide_eq_true hz
      go_wp2_with fail
      generalize decide (z0 < 1) = bz at *
      clear hz hzd
      go_loopw [7] (fun i wr => ∃ (k : Nat) (c' : List Int), k ≤ m.cost.length ∧ i = .int .i64 k ∧ c'.length = m.cost.length ∧ TSt 60 26 3 73 W w wr g wm.heap.size (n + 262) { m with cost := c' } (.slice pr m.rise.length kr) (.slice pc m.cost.length kc) (.slice pl l.length kl) l) (fun i _ => m.cost.length - (intOf i).toNat)
      case atStart => exact ⟨0, m.cost, by omega, rfl, rfl, HS1.out⟩
      case round =>
        obtain ⟨k, c', hk, rfl, hcl', hT⟩ := hrel
        have HT := Lib.hid hT
        clear hT
        have bx3 : wr.cell? ⟨wm.heap.size, 3, none⟩ = some (.slice pc m.cost.length kc) := World.cell_of_heap HT.out.box 3
        have obx := World.oldB_of_cell bx3
        by_cases hlt : k < m.cost.length
        · obtain ⟨gl, cap, hv, hgl, -⟩ := own_addr HT.out.c (by simp only; omega)
          injection hv with ev1 ev2 ev3
          subst ev1
          clear ev2 ev3
          have hkc : k < ({ m with cost := c' } : Mp).cost.length := by simp only; omega
          obtain ⟨t0, y0⟩ := own_at HT.out.c (k := k) hkc
          have obr := World.oldB_of_cell t0
          generalize hy : ({ m with cost := c' } : Mp).cost.getD k 0 = y at t0
          have HE := Lib.hid (HT.out.set hkc (max 1 y))
          have ck6 : (wr.setCell ⟨gl, k, none⟩ (.int .i64 (max 1 y))).cell? ⟨wm.heap.size, 3, none⟩ = some (.slice (some ⟨gl, 0, none⟩) m.cost.length kc) := World.cell_of_heap HE.out.box 3
          clear hy
          go_upto_region 6 with fail
          refine wp_region_held_drew (S := (fun w' => w'.cell? ⟨wm.heap.size, 3, none⟩ = some (.slice (some ⟨gl, 0, none⟩) m.cost.length kc))) (by kernel_rfl) (by (try dsimp only); (with_reducible (repeat (first | assumption | refine cell_ext ?_ _ | refine cell_drew ?_ | refine cell_alloc ?_ _)))) (fun hHeld => ?_)
          refine wpAnyH_take (i := 0) (oi := ⟨_, _, _, _, _, _⟩) (v := ?_) rfl (by kernel_rfl) (by kernel_rfl) (by kernel_rfl) (fun _ _ _ h => h) (Or.inl ⟨by rfl, ?_⟩) (by assumption) ?_
          rotate_left
          · intro w hSw; (try dsimp only at hSw); go_simp; (try with_reducible rfl)
          try simp only [Act.put, List.setIfInBounds_toArray, List.set_cons_zero, List.set_cons_succ]
          refine wpAnyH_take (i := 1) (oi := ⟨_, _, _, _, _, _⟩) (v := ?_) rfl (by kernel_rfl) (by kernel_rfl) (by kernel_rfl) (fun _ _ _ h => h) (Or.inl ⟨by rfl, ?_⟩) (by assumption) ?_
          rotate_left
          · intro w hSw; (try dsimp only at hSw); go_simp; (try with_reducible rfl)
          try simp only [Act.put, List.setIfInBounds_toArray, List.set_cons_zero, List.set_cons_succ]
          refine wpAnyH_take (i := 2) (oi := ⟨_, _, _, _, _, _⟩) (v := ?_) rfl (by kernel_rfl) (by kernel_rfl) (by kernel_rfl) (fun _ _ _ h => h) (Or.inl ⟨by rfl, ?_⟩) (by assumption) ?_
          rotate_left
          · intro w hSw; (try dsimp only at hSw); go_simp; (try with_reducible rfl)
          try simp only [Act.put, List.setIfInBounds_toArray, List.set_cons_zero, List.set_cons_succ]
          refine wpAnyH_take (i := 3) (oi := ⟨_, _, _, _, _, _⟩) (v := ?_) rfl (by kernel_rfl) (by kernel_rfl) (by kernel_rfl) (fun _ _ _ h => h) (Or.inl ⟨by rfl, ?_⟩) (by assumption) ?_
          rotate_left
          · intro w hSw; (try dsimp only at hSw); go_simp; (try with_reducible rfl)
          try simp only [Act.put, List.setIfInBounds_toArray, List.set_cons_zero, List.set_cons_succ]
          refine wpAnyH_take (i := 4) (oi := ⟨_, _, _, _, _, _⟩) (v := ?_) rfl (by kernel_rfl) (by kernel_rfl) (by kernel_rfl) (fun _ _ _ h => h) (Or.inl ⟨by rfl, ?_⟩) (by assumption) ?_
          rotate_left
          · intro w hSw; (try dsimp only at hSw); go_simp; (try with_reducible rfl)
          try simp only [Act.put, List.setIfInBounds_toArray, List.set_cons_zero, List.set_cons_succ]
          refine wpAnyH_take (i := 5) (oi := ⟨_, _, _, _, _, _⟩) (v := ?_) rfl (by kernel_rfl) (by kernel_rfl) (by kernel_rfl) (fun _ _ _ h => h) (Or.inl ⟨by rfl, ?_⟩) (by assumption) ?_
          rotate_left
          · intro w hSw; (try dsimp only at hSw); go_simp; (try with_reducible rfl)
          try simp only [Act.put, List.setIfInBounds_toArray, List.set_cons_zero, List.set_cons_succ]
          refine wpAnyH_take (i := 6) (oi := ⟨_, _, _, _, _, _⟩) (v := ?_) rfl (by kernel_rfl) (by kernel_rfl) (by kernel_rfl) (fun _ _ _ h => h) (Or.inl ⟨by rfl, ?_⟩) (by assumption) ?_
          rotate_left
          · intro w hSw; (try dsimp only at hSw); go_simp; (try with_reducible rfl)
          try simp only [Act.put, List.setIfInBounds_toArray, List.set_cons_zero, List.set_cons_succ]
          refine wpAnyH_ready (rs := [7]) (by kernel_rfl) (by simp) ?_
          refine AllReadyH.cons rfl (fun K hK => ?_) AllReadyH.nil
          go_simp
          refine hK.out _ _ ?_ (fun hHeld => ?_)
          · (try dsimp only); (with_reducible (repeat (first | assumption | refine cell_ext ?_ _ | refine cell_drew ?_ | refine cell_alloc ?_ _)))
          clear hK K
          try simp only [Act.put, List.setIfInBounds_toArray, List.set_cons_zero, List.set_cons_succ]
          refine wpAnyH_ready (rs := [8]) (by kernel_rfl) (by simp) ?_
          refine AllReadyH.cons rfl (fun K hK => ?_) AllReadyH.nil
          go_simp
          go_wp2_with ((go_at_call 59; refine (l1Most_any _ _ _).mono ?_; rintro e w1 ⟨rfl, rfl⟩))
          refine hK.out _ _ ?_ (fun hHeld => ?_)
          · (try dsimp only); (with_reducible (repeat (first | assumption | refine cell_ext ?_ _ | refine cell_drew ?_ | refine cell_alloc ?_ _)))
          clear hK K
          try simp only [Act.put, List.setIfInBounds_toArray, List.set_cons_zero, List.set_cons_succ]
          refine wpAnyH_take (i := 9) (oi := ⟨_, _, _, _, _, _⟩) (v := ?_) rfl (by kernel_rfl) (by kernel_rfl) (by kernel_rfl) (fun _ _ _ h => h) (Or.inl ⟨by rfl, ?_⟩) (by assumption) ?_
          rotate_left
          · intro w hSw; (try dsimp only at hSw); go_simp; (try with_reducible rfl)
          try simp only [Act.put, List.setIfInBounds_toArray, List.set_cons_zero, List.set_cons_succ]
          refine wpAnyH_ready (rs := [10]) (by kernel_rfl) (by simp) ?_
          refine AllReadyH.cons rfl (fun K hK => ?_) AllReadyH.nil
          go_simp
          refine hK.out _ _ ?_ (fun hHeld => ?_)
          · (try dsimp only); (with_reducible (repeat (first | assumption | refine cell_ext ?_ _ | refine cell_drew ?_ | refine cell_alloc ?_ _)))
          clear hK K
          try simp only [Act.put, List.setIfInBounds_toArray, List.set_cons_zero, List.set_cons_succ]
          refine wpAnyH_done (by kernel_rfl) ?_ _
          go_wp2
          go_roundw
          case rel => exact ⟨k + 1, _, by omega, by go_num, by simp only [List.length_set]; exact hcl', HE.out.up (by repeat (first | with_reducible (first | exact World.gained_refl _ | exact ⟨_, rfl⟩ | apply gain_ext | apply gain_alloc | apply gain_drewN | apply gain_drew) | (refine gain_setCell ?_ (by first | exact Nat.le_refl _ | exact World.size_ext _ _ | (simp; done) | (simp; omega)) _)))⟩
          case measure => simp [intOf]; omega
        · go_wp2
          go_meet
          exact ⟨c', hcl', HT.out⟩
    · have hzd : decide (z0 < 1) = false := decide_eq_false hz
      go_wp2_with fail
      go_meet
      exact ⟨m.cost, rfl, HS1.out⟩
  obtain ⟨c', hcl', hT2⟩ := hcut
  have HS2 : Hid (TSt 60 26 3 73 W w wc g wm.heap.size (n + 262) { m with cost := c' } (.slice pr ({ m with cost := c' } : Mp).rise.length kr) (.slice pc ({ m with cost := c' } : Mp).cost.length kc) (.slice pl l.length kl) l) := Lib.hid (by rw [← hcl'] at hT2; exact hT2)
  have hrl2 : ({ m with cost := c' } : Mp).rise.length ≤ 21 := hrl
  have hcl2 : ({ m with cost := c' } : Mp).cost.length ≤ 21 := by simp only; omega
  clear hT2 HS1 hcl' hrl hcl
  generalize ({ m with cost := c' } : Mp) = m at HS2 hrl2 hcl2
  have hrl := hrl2
  have hcl := hcl2
  clear hrl2 hcl2
  go_wp2_with fail
  refine (one_any W _ g _ _ HS2.out.cur (by omega)).mono ?_
  rintro e wd ⟨b2, rfl, hcd, hgd⟩
  have HS3 := Lib.hid (HS2.out.on hcd hgd)
  clear hcd hgd HS2
  cases b2 with
  | false =>
    have HUPW := Lib.hid HS3.out.cur.up
    go_upto_region 15 with fail
    refine wp_region_held_drew (S := (fun w' => w'.cell? ⟨wm.heap.size, 0, none⟩ = some (.int .i64 m.wd) ∧ w'.cell? ⟨wm.heap.size, 1, none⟩ = some (.int .i64 m.ht) ∧ w'.cell? ⟨wm.heap.size, 2, none⟩ = some (.slice pr m.rise.length kr) ∧ w'.cell? ⟨wm.heap.size, 3, none⟩ = some (.slice pc m.cost.length kc))) (by kernel_rfl) ⟨World.cell_of_heap HS3.out.box 0, World.cell_of_heap HS3.out.box 1, World.cell_of_heap HS3.out.box 2, World.cell_of_heap HS3.out.box 3⟩ (fun hHeld => ?_)
    refine wpAnyH_take (i := 0) (oi := ⟨_, _, _, _, _, _⟩) (v := ?_) rfl (by kernel_rfl) (by kernel_rfl) (by kernel_rfl) (fun _ _ _ h => h) (Or.inl ⟨by rfl, ?_⟩) (by assumption) ?_
    rotate_left
    · intro w hSw; (try dsimp only at hSw); go_simp; (try with_reducible rfl)
    try simp only [Act.put, List.setIfInBounds_toArray, List.set_cons_zero, List.set_cons_succ]
    refine wpAnyH_take (i := 1) (oi := ⟨_, _, _, _, _, _⟩) (v := ?_) rfl (by kernel_rfl) (by kernel_rfl) (by kernel_rfl) (fun _ _ _ h => h) (Or.inl ⟨by rfl, ?_⟩) (by assumption) ?_
    rotate_left
    · intro w hSw; (try dsimp only at hSw); go_simp; (try with_reducible rfl)
    try simp only [Act.put, List.setIfInBounds_toArray, List.set_cons_zero, List.set_cons_succ]
    refine wpAnyH_take (i := 2) (oi := ⟨_, _, _, _, _, _⟩) (v := ?_) rfl (by kernel_rfl) (by kernel_rfl) (by kernel_rfl) (fun _ _ _ h => h) (Or.inl ⟨by rfl, ?_⟩) (by assumption) ?_
    rotate_left
    · intro w hSw; (try dsimp only at hSw); go_simp; (try with_reducible rfl)
    try simp only [Act.put, List.setIfInBounds_toArray, List.set_cons_zero, List.set_cons_succ]
    refine wpAnyH_take (i := 3) (oi := ⟨_, _, _, _, _, _⟩) (v := ?_) rfl (by kernel_rfl) (by kernel_rfl) (by kernel_rfl) (fun _ _ _ h => h) (Or.inl ⟨by rfl, ?_⟩) (by assumption) ?_
    rotate_left
    · intro w hSw; (try dsimp only at hSw); go_simp; (try with_reducible rfl)
    try simp only [Act.put, List.setIfInBounds_toArray, List.set_cons_zero, List.set_cons_succ]
    refine wpAnyH_ready (rs := [4]) (by kernel_rfl) (by simp) ?_
    refine AllReadyH.cons rfl (fun K hK => ?_) AllReadyH.nil
    go_simp
    go_wp2_with fail
    refine (course_any W _ g _ (w.heap.size + 1) _ l (HS3.out.cur.gain (by repeat (first | with_reducible (first | exact World.gained_refl _ | exact ⟨_, rfl⟩ | apply gain_ext | apply gain_alloc | apply gain_drewN | apply gain_drew) | (refine gain_setCell ?_ (by first | exact Nat.le_refl _ | exact World.size_ext _ _ | (simp; done) | (simp; omega)) _)))) (by omega) (by omega) (own_up HS3.out.ls (by repeat (first | with_reducible (first | exact World.gained_refl _ | exact ⟨_, rfl⟩ | apply gain_ext | apply gain_alloc | apply gain_drewN | apply gain_drew) | (refine gain_setCell ?_ (by first | exact Nat.le_refl _ | exact World.size_ext _ _ | (simp; done) | (simp; omega)) _)))) (by omega)).mono ?_
    rintro e wv ⟨u, rl, rfl, hou, hrl9, hcv, hgv⟩
    have HSV := Lib.hid ((HS3.out.up (by repeat (first | with_reducible (first | exact World.gained_refl _ | exact ⟨_, rfl⟩ | apply gain_ext | apply gain_alloc | apply gain_drewN | apply gain_drew) | (refine gain_setCell ?_ (by first | exact Nat.le_refl _ | exact World.size_ext _ _ | (simp; done) | (simp; omega)) _)))).on hcv hgv)
    have hpsz := HS3.out.size
    have hlb := (Array.getElem?_eq_some_iff.1 HS3.out.box).1
    have HOU := Lib.hid (own_base hou (show w.heap.size + 1 ≤ wd.drew.heap.size from (by show _ ≤ wd.heap.size; omega)))
    clear hcv hgv hou
    (try dsimp only)
    refine hK.out _ _ ?_ (fun hHeld => ?_)
    · exact ⟨World.cell_of_heap HSV.out.box 0, World.cell_of_heap HSV.out.box 1, World.cell_of_heap HSV.out.box 2, World.cell_of_heap HSV.out.box 3⟩
    clear hK K
    try simp only [Act.put, List.setIfInBounds_toArray, List.set_cons_zero, List.set_cons_succ]
    have ex0 : wv.cell? ⟨wm.heap.size, 0, none⟩ = some (.int .i64 m.wd) := World.cell_of_heap HSV.out.box 0
    have ex1 : wv.cell? ⟨wm.heap.size, 1, none⟩ = some (.int .i64 m.ht) := World.cell_of_heap HSV.out.box 1
    have ex2 : wv.cell? ⟨wm.heap.size, 2, none⟩ = some (.slice pr m.rise.length kr) := World.cell_of_heap HSV.out.box 2
    have ex3 : wv.cell? ⟨wm.heap.size, 3, none⟩ = some (.slice pc m.cost.length kc) := World.cell_of_heap HSV.out.box 3
    have ey0 : wv.cell? ⟨w.heap.size, 0, none⟩ = some (.int .i64 0) := World.cell_of_heap HSV.out.res 0
    have ez0 : wv.frozen? ⟨w.heap.size, 0, none⟩ = false := World.free_of_heap HSV.out.res 0
    have ey1 : wv.cell? ⟨w.heap.size, 1, none⟩ = some (.int .i64 0) := World.cell_of_heap HSV.out.res 1
    have ez1 : wv.frozen? ⟨w.heap.size, 1, none⟩ = false := World.free_of_heap HSV.out.res 1
    have ey2 : wv.cell? ⟨w.heap.size, 2, none⟩ = some (.slice none 0 0) := World.cell_of_heap HSV.out.res 2
    have ez2 : wv.frozen? ⟨w.heap.size, 2, none⟩ = false := World.free_of_heap HSV.out.res 2
    have ey3 : wv.cell? ⟨w.heap.size, 3, none⟩ = some (.slice none 0 0) := World.cell_of_heap HSV.out.res 3
    have ez3 : wv.frozen? ⟨w.heap.size, 3, none⟩ = false := World.free_of_heap HSV.out.res 3
    have eob := World.oldB_of_cell ex0
    have eoc := World.oldB_of_cell ey0
    have gw0 := World.heap_setCell_row HSV.out.res 0 (.int .i64 m.wd)
    have gc0 : (wv.setCell ⟨w.heap.size, 0, none⟩ (.int .i64 m.wd)).cell? ⟨w.heap.size, 0, none⟩ = some (.int .i64 m.wd) := World.cell_of_heap gw0 0
    have gw1 := World.heap_setCell_row gw0 1 (.int .i64 m.ht)
    have gc1 : ((wv.setCell ⟨w.heap.size, 0, none⟩ (.int .i64 m.wd)).setCell ⟨w.heap.size, 1, none⟩ (.int .i64 m.ht)).cell? ⟨w.heap.size, 1, none⟩ = some (.int .i64 m.ht) := World.cell_of_heap gw1 1
    have gw2 := World.heap_setCell_row gw1 2 (.slice pr m.rise.length kr)
    have gc2 : (((wv.setCell ⟨w.heap.size, 0, none⟩ (.int .i64 m.wd)).setCell ⟨w.heap.size, 1, none⟩ (.int .i64 m.ht)).setCell ⟨w.heap.size, 2, none⟩ (.slice pr m.rise.length kr)).cell? ⟨w.heap.size, 2, none⟩ = some (.slice pr m.rise.length kr) := World.cell_of_heap gw2 2
    have gw3 := World.heap_setCell_row gw2 3 (.slice pc m.cost.length kc)
    have gc3 : ((((wv.setCell ⟨w.heap.size, 0, none⟩ (.int .i64 m.wd)).setCell ⟨w.heap.size, 1, none⟩ (.int .i64 m.ht)).setCell ⟨w.heap.size, 2, none⟩ (.slice pr m.rise.length kr)).setCell ⟨w.heap.size, 3, none⟩ (.slice pc m.cost.length kc)).cell? ⟨w.heap.size, 3, none⟩ = some (.slice pc m.cost.length kc) := World.cell_of_heap gw3 3
    clear gw0 gw1 gw2 gw3
    have hon : World.grownBy wv ((((wv.setCell ⟨w.heap.size, 0, none⟩ (.int .i64 m.wd)).setCell ⟨w.heap.size, 1, none⟩ (.int .i64 m.ht)).setCell ⟨w.heap.size, 2, none⟩ (.slice pr m.rise.length kr)).setCell ⟨w.heap.size, 3, none⟩ (.slice pc m.cost.length kc)) (some w.heap.size) := by repeat (first | exact only_refl _ _ | refine only_setCell ?_ rfl _)
    have HF1 := Lib.hid (own_not HSV.out.r (fun q e => by have := (own_lt HSV.out.r q e).1; omega) hon)
    have HF2 := Lib.hid (own_not HSV.out.c (fun q e => by have := (own_lt HSV.out.c q e).1; omega) hon)
    have HF3 := Lib.hid (own_not HSV.out.ls (fun q e => by have := (own_lt HSV.out.ls q e).1; omega) hon)
    have HF4 := Lib.hid (own_not HOU.out (fun q e => by have := (own_lt HOU.out q e).1; omega) hon)
    have HBF := Lib.hid (row_keep HSV.out.box hon (fun q e => by cases e; omega))
    have HFC := Lib.hid (HSV.out.cur.grow hon (fun q e => by cases e; omega) (gain_grown HSV.out.cur.up hon (fun q e => by cases e; omega)))
    have HFG := Lib.hid (only_new HSV.out.gr hon (fun q e => by cases e; omega))
    clear hon
    refine wpAnyH_ready (rs := [5]) (by kernel_rfl) (by simp) ?_
    refine AllReadyH.cons rfl (fun K hK => ?_) (AllReadyH.nil)
    go_simp
    refine hK.out _ _ ?_ (fun hHeld => ?_)
    · exact ⟨World.cell_of_heap HBF.out 0, World.cell_of_heap HBF.out 1, World.cell_of_heap HBF.out 2, World.cell_of_heap HBF.out 3⟩
    clear hK K
    try simp only [Act.put, List.setIfInBounds_toArray, List.set_cons_zero, List.set_cons_succ]
    refine wpAnyH_take (i := 6) (oi := ⟨_, _, _, _, _, _⟩) (v := ?_) rfl (by kernel_rfl) (by kernel_rfl) (by kernel_rfl) (fun _ _ _ h => h) (Or.inl ⟨by rfl, ?_⟩) (by assumption) ?_
    rotate_left
    · intro w hSw; (try dsimp only at hSw); go_simp; (try with_reducible rfl)
    try simp only [Act.put, List.setIfInBounds_toArray, List.set_cons_zero, List.set_cons_succ]
    refine wpAnyH_take (i := 7) (oi := ⟨_, _, _, _, _, _⟩) (v := ?_) rfl (by kernel_rfl) (by kernel_rfl) (by kernel_rfl) (fun _ _ _ h => h) (Or.inl ⟨by rfl, ?_⟩) (by assumption) ?_
    rotate_left
    · intro w hSw; (try dsimp only at hSw); go_simp; (try with_reducible rfl)
    try simp only [Act.put, List.setIfInBounds_toArray, List.set_cons_zero, List.set_cons_succ]
    refine wpAnyH_done (by kernel_rfl) ?_ _
    go_wp2
    refine bodyPost_ret (v := .tuple #[.agg #[.int .i64 m.wd, .int .i64 m.ht, .slice pr m.rise.length kr, .slice pc m.cost.length kc], .slice pl l.length kl, u]) (by simp [results, Tryz.results34, go_sem, gc0, gc1, gc2, gc3]) rfl ?_
    exact ⟨m, _, _, _, _, _, _, rfl, own_base HF1.out (by omega), own_base HF2.out (by omega), hrl, hcl, own_base HF3.out (by omega), hll, own_base HF4.out (by omega), by omega, HFC.out.le (by omega), HFG.out⟩
  | true =>
    have bx0 : wd.cell? ⟨wm.heap.size, 0, none⟩ = some (.int .i64 m.wd) := World.cell_of_heap HS3.out.box 0
    have bx1 : wd.cell? ⟨wm.heap.size, 1, none⟩ = some (.int .i64 m.ht) := World.cell_of_heap HS3.out.box 1
    have bx2 : wd.cell? ⟨wm.heap.size, 2, none⟩ = some (.slice pr m.rise.length kr) := World.cell_of_heap HS3.out.box 2
    have bx3 : wd.cell? ⟨wm.heap.size, 3, none⟩ = some (.slice pc m.cost.length kc) := World.cell_of_heap HS3.out.box 3
    have obx := World.oldB_of_cell bx0
    cases hG : ctlsB m l with
    | false =>
      go_wp2_with fail
      refine (l6Good_any m _ _ _ l _ (HS3.out.mp (by omega) (by omega)) (sl_of_own Ctl.cells_length HS3.out.ls) (by omega)).mono ?_
      rw [hG]
      rintro e w1 ⟨rfl, d1, rfl⟩
      have HS4 := Lib.hid (HS3.out.up (wr' := wd.ext d1) ⟨_, rfl⟩)
      clear bx0 bx1 bx2 bx3 obx HS3
      generalize wd.ext d1 = wd at HS4 ⊢
      have HUPW := Lib.hid HS4.out.cur.up
      go_upto_region 15 with fail
      refine wp_region_held_drew (S := (fun w' => w'.cell? ⟨wm.heap.size, 0, none⟩ = some (.int .i64 m.wd) ∧ w'.cell? ⟨wm.heap.size, 1, none⟩ = some (.int .i64 m.ht) ∧ w'.cell? ⟨wm.heap.size, 2, none⟩ = some (.slice pr m.rise.length kr) ∧ w'.cell? ⟨wm.heap.size, 3, none⟩ = some (.slice pc m.cost.length kc))) (by kernel_rfl) ⟨World.cell_of_heap HS4.out.box 0, World.cell_of_heap HS4.out.box 1, World.cell_of_heap HS4.out.box 2, World.cell_of_heap HS4.out.box 3⟩ (fun hHeld => ?_)
      refine wpAnyH_take (i := 0) (oi := ⟨_, _, _, _, _, _⟩) (v := ?_) rfl (by kernel_rfl) (by kernel_rfl) (by kernel_rfl) (fun _ _ _ h => h) (Or.inl ⟨by rfl, ?_⟩) (by assumption) ?_
      rotate_left
      · intro w hSw; (try dsimp only at hSw); go_simp; (try with_reducible rfl)
      try simp only [Act.put, List.setIfInBounds_toArray, List.set_cons_zero, List.set_cons_succ]
      refine wpAnyH_take (i := 1) (oi := ⟨_, _, _, _, _, _⟩) (v := ?_) rfl (by kernel_rfl) (by kernel_rfl) (by kernel_rfl) (fun _ _ _ h => h) (Or.inl ⟨by rfl, ?_⟩) (by assumption) ?_
      rotate_left
      · intro w hSw; (try dsimp only at hSw); go_simp; (try with_reducible rfl)
      try simp only [Act.put, List.setIfInBounds_toArray, List.set_cons_zero, List.set_cons_succ]
      refine wpAnyH_take (i := 2) (oi := ⟨_, _, _, _, _, _⟩) (v := ?_) rfl (by kernel_rfl) (by kernel_rfl) (by kernel_rfl) (fun _ _ _ h => h) (Or.inl ⟨by rfl, ?_⟩) (by assumption) ?_
      rotate_left
      · intro w hSw; (try dsimp only at hSw); go_simp; (try with_reducible rfl)
      try simp only [Act.put, List.setIfInBounds_toArray, List.set_cons_zero, List.set_cons_succ]
      refine wpAnyH_take (i := 3) (oi := ⟨_, _, _, _, _, _⟩) (v := ?_) rfl (by kernel_rfl) (by kernel_rfl) (by kernel_rfl) (fun _ _ _ h => h) (Or.inl ⟨by rfl, ?_⟩) (by assumption) ?_
      rotate_left
      · intro w hSw; (try dsimp only at hSw); go_simp; (try with_reducible rfl)
      try simp only [Act.put, List.setIfInBounds_toArray, List.set_cons_zero, List.set_cons_succ]
      refine wpAnyH_ready (rs := [4]) (by kernel_rfl) (by simp) ?_
      refine AllReadyH.cons rfl (fun K hK => ?_) AllReadyH.nil
      go_simp
      go_wp2_with fail
      refine (course_any W _ g _ (w.heap.size + 1) _ l (HS4.out.cur.gain (by repeat (first | with_reducible (first | exact World.gained_refl _ | exact ⟨_, rfl⟩ | apply gain_ext | apply gain_alloc | apply gain_drewN | apply gain_drew) | (refine gain_setCell ?_ (by first | exact Nat.le_refl _ | exact World.size_ext _ _ | (simp; done) | (simp; omega)) _)))) (by omega) (by omega) (own_up HS4.out.ls (by repeat (first | with_reducible (first | exact World.gained_refl _ | exact ⟨_, rfl⟩ | apply gain_ext | apply gain_alloc | apply gain_drewN | apply gain_drew) | (refine gain_setCell ?_ (by first | exact Nat.le_refl _ | exact World.size_ext _ _ | (simp; done) | (simp; omega)) _)))) (by omega)).mono ?_
      rintro e wv ⟨u, rl, rfl, hou, hrl9, hcv, hgv⟩
      have HSV := Lib.hid ((HS4.out.up (by repeat (first | with_reducible (first | exact World.gained_refl _ | exact ⟨_, rfl⟩ | apply gain_ext | apply gain_alloc | apply gain_drewN | apply gain_drew) | (refine gain_setCell ?_ (by first | exact Nat.le_refl _ | exact World.size_ext _ _ | (simp; done) | (simp; omega)) _)))).on hcv hgv)
      have hpsz := HS4.out.size
      have hlb := (Array.getElem?_eq_some_iff.1 HS4.out.box).1
      have HOU := Lib.hid (own_base hou (show w.heap.size + 1 ≤ wd.drew.heap.size from (by show _ ≤ wd.heap.size; omega)))
      clear hcv hgv hou
      (try dsimp only)
      refine hK.out _ _ ?_ (fun hHeld => ?_)
      · exact ⟨World.cell_of_heap HSV.out.box 0, World.cell_of_heap HSV.out.box 1, World.cell_of_heap HSV.out.box 2, World.cell_of_heap HSV.out.box 3⟩
      clear hK K
      try simp only [Act.put, List.setIfInBounds_toArray, List.set_cons_zero, List.set_cons_succ]
      have ex0 : wv.cell? ⟨wm.heap.size, 0, none⟩ = some (.int .i64 m.wd) := World.cell_of_heap HSV.out.box 0
      have ex1 : wv.cell? ⟨wm.heap.size, 1, none⟩ = some (.int .i64 m.ht) := World.cell_of_heap HSV.out.box 1
      have ex2 : wv.cell? ⟨wm.heap.size, 2, none⟩ = some (.slice pr m.rise.length kr) := World.cell_of_heap HSV.out.box 2
      have ex3 : wv.cell? ⟨wm.heap.size, 3, none⟩ = some (.slice pc m.cost.length kc) := World.cell_of_heap HSV.out.box 3
      have ey0 : wv.cell? ⟨w.heap.size, 0, none⟩ = some (.int .i64 0) := World.cell_of_heap HSV.out.res 0
      have ez0 : wv.frozen? ⟨w.heap.size, 0, none⟩ = false := World.free_of_heap HSV.out.res 0
      have ey1 : wv.cell? ⟨w.heap.size, 1, none⟩ = some (.int .i64 0) := World.cell_of_heap HSV.out.res 1
      have ez1 : wv.frozen? ⟨w.heap.size, 1, none⟩ = false := World.free_of_heap HSV.out.res 1
      have ey2 : wv.cell? ⟨w.heap.size, 2, none⟩ = some (.slice none 0 0) := World.cell_of_heap HSV.out.res 2
      have ez2 : wv.frozen? ⟨w.heap.size, 2, none⟩ = false := World.free_of_heap HSV.out.res 2
      have ey3 : wv.cell? ⟨w.heap.size, 3, none⟩ = some (.slice none 0 0) := World.cell_of_heap HSV.out.res 3
      have ez3 : wv.frozen? ⟨w.heap.size, 3, none⟩ = false := World.free_of_heap HSV.out.res 3
      have eob := World.oldB_of_cell ex0
      have eoc := World.oldB_of_cell ey0
      have gw0 := World.heap_setCell_row HSV.out.res 0 (.int .i64 m.wd)
      have gc0 : (wv.setCell ⟨w.heap.size, 0, none⟩ (.int .i64 m.wd)).cell? ⟨w.heap.size, 0, none⟩ = some (.int .i64 m.wd) := World.cell_of_heap gw0 0
      have gw1 := World.heap_setCell_row gw0 1 (.int .i64 m.ht)
      have gc1 : ((wv.setCell ⟨w.heap.size, 0, none⟩ (.int .i64 m.wd)).setCell ⟨w.heap.size, 1, none⟩ (.int .i64 m.ht)).cell? ⟨w.heap.size, 1, none⟩ = some (.int .i64 m.ht) := World.cell_of_heap gw1 1
      have gw2 := World.heap_setCell_row gw1 2 (.slice pr m.rise.length kr)
      have gc2 : (((wv.setCell ⟨w.heap.size, 0, none⟩ (.int .i64 m.wd)).setCell ⟨w.heap.size, 1, none⟩ (.int .i64 m.ht)).setCell ⟨w.heap.size, 2, none⟩ (.slice pr m.rise.length kr)).cell? ⟨w.heap.size, 2, none⟩ = some (.slice pr m.rise.length kr) := World.cell_of_heap gw2 2
      have gw3 := World.heap_setCell_row gw2 3 (.slice pc m.cost.length kc)
      have gc3 : ((((wv.setCell ⟨w.heap.size, 0, none⟩ (.int .i64 m.wd)).setCell ⟨w.heap.size, 1, none⟩ (.int .i64 m.ht)).setCell ⟨w.heap.size, 2, none⟩ (.slice pr m.rise.length kr)).setCell ⟨w.heap.size, 3, none⟩ (.slice pc m.cost.length kc)).cell? ⟨w.heap.size, 3, none⟩ = some (.slice pc m.cost.length kc) := World.cell_of_heap gw3 3
      clear gw0 gw1 gw2 gw3
      have hon : World.grownBy wv ((((wv.setCell ⟨w.heap.size, 0, none⟩ (.int .i64 m.wd)).setCell ⟨w.heap.size, 1, none⟩ (.int .i64 m.ht)).setCell ⟨w.heap.size, 2, none⟩ (.slice pr m.rise.length kr)).setCell ⟨w.heap.size, 3, none⟩ (.slice pc m.cost.length kc)) (some w.heap.size) := by repeat (first | exact only_refl _ _ | refine only_setCell ?_ rfl _)
      have HF1 := Lib.hid (own_not HSV.out.r (fun q e => by have := (own_lt HSV.out.r q e).1; omega) hon)
      have HF2 := Lib.hid (own_not HSV.out.c (fun q e => by have := (own_lt HSV.out.c q e).1; omega) hon)
      have HF3 := Lib.hid (own_not HSV.out.ls (fun q e => by have := (own_lt HSV.out.ls q e).1; omega) hon)
      have HF4 := Lib.hid (own_not HOU.out (fun q e => by have := (own_lt HOU.out q e).1; omega) hon)
      have HBF := Lib.hid (row_keep HSV.out.box hon (fun q e => by cases e; omega))
      have HFC := Lib.hid (HSV.out.cur.grow hon (fun q e => by cases e; omega) (gain_grown HSV.out.cur.up hon (fun q e => by cases e; omega)))
      have HFG := Lib.hid (only_new HSV.out.gr hon (fun q e => by cases e; omega))
      clear hon
      refine wpAnyH_ready (rs := [5]) (by kernel_rfl) (by simp) ?_
      refine AllReadyH.cons rfl (fun K hK => ?_) (AllReadyH.nil)
      go_simp
      refine hK.out _ _ ?_ (fun hHeld => ?_)
      · exact ⟨World.cell_of_heap HBF.out 0, World.cell_of_heap HBF.out 1, World.cell_of_heap HBF.out 2, World.cell_of_heap HBF.out 3⟩
      clear hK K
      try simp only [Act.put, List.setIfInBounds_toArray, List.set_cons_zero, List.set_cons_succ]
      refine wpAnyH_take (i := 6) (oi := ⟨_, _, _, _, _, _⟩) (v := ?_) rfl (by kernel_rfl) (by kernel_rfl) (by kernel_rfl) (fun _ _ _ h => h) (Or.inl ⟨by rfl, ?_⟩) (by assumption) ?_
      rotate_left
      · intro w hSw; (try dsimp only at hSw); go_simp; (try with_reducible rfl)
      try simp only [Act.put, List.setIfInBounds_toArray, List.set_cons_zero, List.set_cons_succ]
      refine wpAnyH_take (i := 7) (oi := ⟨_, _, _, _, _, _⟩) (v := ?_) rfl (by kernel_rfl) (by kernel_rfl) (by kernel_rfl) (fun _ _ _ h => h) (Or.inl ⟨by rfl, ?_⟩) (by assumption) ?_
      rotate_left
      · intro w hSw; (try dsimp only at hSw); go_simp; (try with_reducible rfl)
      try simp only [Act.put, List.setIfInBounds_toArray, List.set_cons_zero, List.set_cons_succ]
      refine wpAnyH_done (by kernel_rfl) ?_ _
      go_wp2
      refine bodyPost_ret (v := .tuple #[.agg #[.int .i64 m.wd, .int .i64 m.ht, .slice pr m.rise.length kr, .slice pc m.cost.length kc], .slice pl l.length kl, u]) (by simp [results, Tryz.results34, go_sem, gc0, gc1, gc2, gc3]) rfl ?_
      exact ⟨m, _, _, _, _, _, _, rfl, own_base HF1.out (by omega), own_base HF2.out (by omega), hrl, hcl, own_base HF3.out (by omega), hll, own_base HF4.out (by omega), by omega, HFC.out.le (by omega), HFG.out⟩
    | true =>
      go_wp2_with fail
      refine (l6Good_any m _ _ _ l _ (HS3.out.mp (by omega) (by omega)) (sl_of_own Ctl.cells_length HS3.out.ls) (by omega)).mono ?_
      rw [hG]
      rintro e w1 ⟨rfl, d1, rfl⟩
      have HS4 := Lib.hid (HS3.out.up (wr' := wd.ext d1) ⟨_, rfl⟩)
      clear bx0 bx1 bx2 bx3 obx HS3
      generalize wd.ext d1 = we at HS4 ⊢
      have hpsz := HS4.out.size
      have hlb := (Array.getElem?_eq_some_iff.1 HS4.out.box).1
      go_wp2_with fail
      go_loopw [8, 9] (fun ov i wr => ∃ (k gq cq : Nat) (q : List Int), k ≤ l.length ∧ i = .int .i64 k ∧ q.length ≤ 7 ∧ ov = .slice (some ⟨gq, 0, none⟩) q.length cq ∧ wr.own (w.heap.size + 1) 3 intC 1 ov q ∧ TSt 60 26 3 73 W w wr g wm.heap.size (n + 264 + 2 * k) m (.slice pr m.rise.length kr) (.slice pc m.cost.length kc) (.slice pl l.length kl) l) (fun _ i _ => l.length - (intOf i).toNat)
      case atStart => exact ⟨0, _, _, [], by omega, rfl, by simp, rfl, own_lit' (l := ([] : List Int)) intC_length rfl rfl (by omega), (HS4.out.up (by repeat (first | with_reducible (first | exact World.gained_refl _ | exact ⟨_, rfl⟩ | apply gain_ext | apply gain_alloc | apply gain_drewN | apply gain_drew) | (refine gain_setCell ?_ (by first | exact Nat.le_refl _ | exact World.size_ext _ _ | (simp; done) | (simp; omega)) _)))).le (by omega)⟩
      case round =>
        obtain ⟨k, gq, cq, q, hk, rfl, hq7, rfl, ho, hT⟩ := hrel
        have HT := Lib.hid hT
        have HO := Lib.hid ho
        clear hT ho
        by_cases hgo : k < l.length ∧ q.length < 7
        · obtain ⟨hlt, h7⟩ := hgo
          have hkd : decide ((k : Int) < (l.length : Int)) = true := decide_eq_true (by omega)
          have h7d : decide ((q.length : Int) < 7) = true := decide_eq_true (by omega)
          obtain ⟨bl, ol, rfl⟩ := sl_some (sl_of_own Ctl.cells_length HT.out.ls) (by omega)
          go_wp2_with fail
          refine (pick_any W _ g _ _ HT.out.cur (by omega)).mono ?_
          rintro e w2 ⟨r, rfl, q1, q2, hc2, hg2⟩
          obtain ⟨t, rfl⟩ : ∃ t : Nat, r = (t : Int) := ⟨r.toNat, by omega⟩
          have ht : t ≤ q.length := by omega
          have HT2 := Lib.hid (HT.out.on hc2 hg2)
          have HO2 := Lib.hid (own_cur HO.out (by omega) hg2)
          have hsz2 : w.heap.size + 1 ≤ w2.heap.size := by have := (Array.getElem?_eq_some_iff.1 HT2.out.box).1; omega
          have c0 := sl_cells (sl_of_own Ctl.cells_length HT2.out.ls) hlt (j := 0) (by omega)
          simp only [Ctl.cells, List.getElem?_cons_zero, Nat.add_zero] at c0
          generalize l[k].code = y at c0
          have obl := World.oldB_of_cell c0
          have hs2 := Lib.hid (sl_of_own intC_length HO2.out)
          have hcp := sl_cap hs2.out
          have hqc : t ≤ cq := by omega
          have hk0 : (0 : Int) ≤ (t : Int) := by omega
          have hk1 : (t : Int) ≤ (cq : Int) := by omega
          have hk2 : (t : Int) ≤ (q.length : Int) := by omega
          obtain ⟨A, hA⟩ : ∃ A : Addr, (if cq = t then some (⟨gq, 0, none⟩ : Addr) else some ⟨gq, t, none⟩) = some A := by split <;> exact ⟨_, rfl⟩
          clear hc2 hg2 q2 q1 HT HO
          go_wp2_with fail
          have HLC := Lib.hid (show ((q.take t ++ [y]) ++ q.drop t).length = q.length + 1 by simp; omega)
          go_region_law (first | (refine step_append_gain (W := w2) (base := w2.heap.size) (m := q.take t) (u := .slice (some ⟨gq, 0, none⟩) t cq) rfl (.tmp 63) (.tmp 66) rfl Tryz.underlying24 info_int (by rfl) (by omega) intC_length intC_one (by omega) (by repeat (first | with_reducible (first | exact World.gained_refl _ | exact ⟨_, rfl⟩ | apply gain_ext | apply gain_alloc | apply gain_drewN | apply gain_drew) | (refine gain_setCell ?_ (by first | exact Nat.le_refl _ | exact World.size_ext _ _ | (simp; done) | (simp; omega)) _))) (Nat.le_refl _) (gain_size (by repeat (first | with_reducible (first | exact World.gained_refl _ | exact ⟨_, rfl⟩ | apply gain_ext | apply gain_alloc | apply gain_drewN | apply gain_drew) | (refine gain_setCell ?_ (by first | exact Nat.le_refl _ | exact World.size_ext _ _ | (simp; done) | (simp; omega)) _)))) (by simp [Act.eval, Act.put]) (by simp [Act.eval, Act.put]) (own_lit' (l := ([] : List Int)) intC_length rfl rfl (gain_size (by repeat (first | with_reducible (first | exact World.gained_refl _ | exact ⟨_, rfl⟩ | apply gain_ext | apply gain_alloc | apply gain_drewN | apply gain_drew) | (refine gain_setCell ?_ (by first | exact Nat.le_refl _ | exact World.size_ext _ _ | (simp; done) | (simp; omega)) _))))) (sl_take (by with_reducible (repeat (first | exact hs2.out | refine World.sl_ext intC_length ?_ _ | refine sl_alloc intC_length ?_ _ | refine sl_drew ?_))) (by omega)) (by simp; omega) ?_; intro vA dA hoA hgA; have hln := sl_mark intC_length (sl_drew (sl_alloc intC_length (sl_lit (l := [y]) (C := #[.int .i64 (y)]) (g := (w2).heap.size) intC_length rfl rfl) _)) hgA (apart_ne (by first | omega | (simp [World.size_alloc]; done) | (simp [World.size_alloc]; omega)))) | (refine step_append_gain (W := w2) (base := w2.heap.size) (m := q.take t) (u := .slice (some ⟨gq, 0, none⟩) t cq) rfl (.tmp 63) (.tmp 66) rfl Tryz.underlying24 info_int (by rfl) (by omega) intC_length intC_one (by omega) (by repeat (first | with_reducible (first | exact World.gained_refl _ | exact ⟨_, rfl⟩ | apply gain_ext | apply gain_alloc | apply gain_drewN | apply gain_drew) | (refine gain_setCell ?_ (by first | exact Nat.le_refl _ | exact World.size_ext _ _ | (simp; done) | (simp; omega)) _))) (Nat.le_refl _) (gain_size (by repeat (first | with_reducible (first | exact World.gained_refl _ | exact ⟨_, rfl⟩ | apply gain_ext | apply gain_alloc | apply gain_drewN | apply gain_drew) | (refine gain_setCell ?_ (by first | exact Nat.le_refl _ | exact World.size_ext _ _ | (simp; done) | (simp; omega)) _)))) (by simp [Act.eval, Act.put]) (by simp [Act.eval, Act.put]) (own_lit' (l := ([] : List Int)) intC_length rfl rfl (gain_size (by repeat (first | with_reducible (first | exact World.gained_refl _ | exact ⟨_, rfl⟩ | apply gain_ext | apply gain_alloc | apply gain_drewN | apply gain_drew) | (refine gain_setCell ?_ (by first | exact Nat.le_refl _ | exact World.size_ext _ _ | (simp; done) | (simp; omega)) _))))) (sl_take (by with_reducible (repeat (first | exact hs2.out | refine World.sl_ext intC_length ?_ _ | refine sl_alloc intC_length ?_ _ | refine sl_drew ?_))) (by omega)) (by simp; omega) ?_; intro vA dA hoA hgA) | (refine step_append_gain (W := w2) (base := w2.heap.size) (m := q.take t) (u := .slice (some ⟨gq, 0, none⟩) t cq) rfl (.tmp 63) (.tmp 66) rfl Tryz.underlying24 info_int (by rfl) (by omega) intC_length intC_one (by omega) (by repeat (first | with_reducible (first | exact World.gained_refl _ | exact ⟨_, rfl⟩ | apply gain_ext | apply gain_alloc | apply gain_drewN | apply gain_drew) | (refine gain_setCell ?_ (by first | exact Nat.le_refl _ | exact World.size_ext _ _ | (simp; done) | (simp; omega)) _))) (Nat.le_refl _) (gain_size (by repeat (first | with_reducible (first | exact World.gained_refl _ | exact ⟨_, rfl⟩ | apply gain_ext | apply gain_alloc | apply gain_drewN | apply gain_drew) | (refine gain_setCell ?_ (by first | exact Nat.le_refl _ | exact World.size_ext _ _ | (simp; done) | (simp; omega)) _)))) (by simp [Act.eval, Act.put]) (by simp [Act.eval, Act.put]) (own_alloc (own_lit' (l := ([] : List Int)) intC_length rfl rfl (gain_size (by repeat (first | with_reducible (first | exact World.gained_refl _ | exact ⟨_, rfl⟩ | apply gain_ext | apply gain_alloc | apply gain_drewN | apply gain_drew) | (refine gain_setCell ?_ (by first | exact Nat.le_refl _ | exact World.size_ext _ _ | (simp; done) | (simp; omega)) _))))) _) (sl_take (by with_reducible (repeat (first | exact hs2.out | refine World.sl_ext intC_length ?_ _ | refine sl_alloc intC_length ?_ _ | refine sl_drew ?_))) (by omega)) (by simp; omega) ?_; intro vA dA hoA hgA; have hln := sl_mark intC_length (sl_drew (sl_lit (l := [y]) (C := #[.int .i64 (y)]) (g := (w2).heap.size + 1) intC_length rfl (by simp [World.size_alloc]))) hgA (apart_ne (by omega))) | (refine step_append_gain (W := w2) (base := w2.heap.size) (m := [y]) rfl (.tmp 67) (.tmp 73) rfl Tryz.underlying24 info_int (by rfl) (by omega) intC_length intC_one (by omega) (by repeat (first | with_reducible (first | exact World.gained_refl _ | exact ⟨_, rfl⟩ | apply gain_ext | apply gain_alloc | apply gain_drewN | apply gain_drew) | (refine gain_setCell ?_ (by first | exact Nat.le_refl _ | exact World.size_ext _ _ | (simp; done) | (simp; omega)) _))) (Nat.le_refl _) (gain_size (by repeat (first | with_reducible (first | exact World.gained_refl _ | exact ⟨_, rfl⟩ | apply gain_ext | apply gain_alloc | apply gain_drewN | apply gain_drew) | (refine gain_setCell ?_ (by first | exact Nat.le_refl _ | exact World.size_ext _ _ | (simp; done) | (simp; omega)) _)))) (by simp [Act.eval, Act.put]) rfl (own_up (hoA) (by repeat (first | with_reducible (first | exact World.gained_refl _ | exact ⟨_, rfl⟩ | apply gain_ext | apply gain_alloc | apply gain_drewN | apply gain_drew) | (refine gain_setCell ?_ (by first | exact Nat.le_refl _ | exact World.size_ext _ _ | (simp; done) | (simp; omega)) _)))) (sl_lit (l := [y]) intC_length rfl (by simp)) (by simp; omega) ?_; intro vB dB hoB hgB) | (refine step_append_gain (W := w2) (base := w2.heap.size) (m := [y]) rfl (.tmp 67) (.tmp 73) rfl Tryz.underlying24 info_int (by rfl) (by omega) intC_length intC_one (by omega) (by repeat (first | with_reducible (first | exact World.gained_refl _ | exact ⟨_, rfl⟩ | apply gain_ext | apply gain_alloc | apply gain_drewN | apply gain_drew) | (refine gain_setCell ?_ (by first | exact Nat.le_refl _ | exact World.size_ext _ _ | (simp; done) | (simp; omega)) _))) (Nat.le_refl _) (gain_size (by repeat (first | with_reducible (first | exact World.gained_refl _ | exact ⟨_, rfl⟩ | apply gain_ext | apply gain_alloc | apply gain_drewN | apply gain_drew) | (refine gain_setCell ?_ (by first | exact Nat.le_refl _ | exact World.size_ext _ _ | (simp; done) | (simp; omega)) _)))) (by simp [Act.eval, Act.put]) rfl (own_up (hoA) (by repeat (first | with_reducible (first | exact World.gained_refl _ | exact ⟨_, rfl⟩ | apply gain_ext | apply gain_alloc | apply gain_drewN | apply gain_drew) | (refine gain_setCell ?_ (by first | exact Nat.le_refl _ | exact World.size_ext _ _ | (simp; done) | (simp; omega)) _)))) (hln) (by simp; omega) ?_; intro vB dB hoB hgB) | (refine step_append_gain (W := w2) (base := w2.heap.size) (m := q.drop t) (u := .slice (some A) (q.length - t) (cq - t)) rfl (.tmp 74) (.tmp 77) rfl Tryz.underlying24 info_int (by rfl) (by omega) intC_length intC_one (by omega) (by repeat (first | with_reducible (first | exact World.gained_refl _ | exact ⟨_, rfl⟩ | apply gain_ext | apply gain_alloc | apply gain_drewN | apply gain_drew) | (refine gain_setCell ?_ (by first | exact Nat.le_refl _ | exact World.size_ext _ _ | (simp; done) | (simp; omega)) _))) (Nat.le_refl _) (gain_size (by repeat (first | with_reducible (first | exact World.gained_refl _ | exact ⟨_, rfl⟩ | apply gain_ext | apply gain_alloc | apply gain_drewN | apply gain_drew) | (refine gain_setCell ?_ (by first | exact Nat.le_refl _ | exact World.size_ext _ _ | (simp; done) | (simp; omega)) _)))) (by simp [Act.eval, Act.put]) (by simp [Act.eval, Act.put]) (own_up (hoB) (by repeat (first | with_reducible (first | exact World.gained_refl _ | exact ⟨_, rfl⟩ | apply gain_ext | apply gain_alloc | apply gain_drewN | apply gain_drew) | (refine gain_setCell ?_ (by first | exact Nat.le_refl _ | exact World.size_ext _ _ | (simp; done) | (simp; omega)) _)))) (sl_drop_any (by with_reducible (repeat (first | exact hs2.out | refine World.sl_ext intC_length ?_ _ | refine sl_alloc intC_length ?_ _ | refine sl_drew ?_))) (by omega) (by rw [Nat.mul_one, Nat.zero_add]; exact hA)) (by simp; omega) ?_; intro vC dC hoC hgC))
          all_goals (
            rw [List.nil_append] at hoC
            go_wp2_with fail
            obtain ⟨gC, capC, rfl, -, -⟩ := own_addr hoC (by rw [HLC.out]; omega)
            go_roundw
            case rel => exact ⟨k + 1, gC, capC, _, by omega, by go_num, by rw [HLC.out]; omega, rfl, own_base hoC hsz2, (HT2.out.up (by repeat (first | with_reducible (first | exact World.gained_refl _ | exact ⟨_, rfl⟩ | apply gain_ext | apply gain_alloc | apply gain_drewN | apply gain_drew) | (refine gain_setCell ?_ (by first | exact Nat.le_refl _ | exact World.size_ext _ _ | (simp; done) | (simp; omega)) _)))).le (by omega)⟩
            case measure => simp [intOf]; omega)
        · skip
          have ex0 : wr.cell? ⟨wm.heap.size, 0, none⟩ = some (.int .i64 m.wd) := World.cell_of_heap HT.out.box 0
          have ex1 : wr.cell? ⟨wm.heap.size, 1, none⟩ = some (.int .i64 m.ht) := World.cell_of_heap HT.out.box 1
          have ex2 : wr.cell? ⟨wm.heap.size, 2, none⟩ = some (.slice pr m.rise.length kr) := World.cell_of_heap HT.out.box 2
          have ex3 : wr.cell? ⟨wm.heap.size, 3, none⟩ = some (.slice pc m.cost.length kc) := World.cell_of_heap HT.out.box 3
          have ey0 : wr.cell? ⟨w.heap.size, 0, none⟩ = some (.int .i64 0) := World.cell_of_heap HT.out.res 0
          have ez0 : wr.frozen? ⟨w.heap.size, 0, none⟩ = false := World.free_of_heap HT.out.res 0
          have ey1 : wr.cell? ⟨w.heap.size, 1, none⟩ = some (.int .i64 0) := World.cell_of_heap HT.out.res 1
          have ez1 : wr.frozen? ⟨w.heap.size, 1, none⟩ = false := World.free_of_heap HT.out.res 1
          have ey2 : wr.cell? ⟨w.heap.size, 2, none⟩ = some (.slice none 0 0) := World.cell_of_heap HT.out.res 2
          have ez2 : wr.frozen? ⟨w.heap.size, 2, none⟩ = false := World.free_of_heap HT.out.res 2
          have ey3 : wr.cell? ⟨w.heap.size, 3, none⟩ = some (.slice none 0 0) := World.cell_of_heap HT.out.res 3
          have ez3 : wr.frozen? ⟨w.heap.size, 3, none⟩ = false := World.free_of_heap HT.out.res 3
          have eob := World.oldB_of_cell ex0
          have eoc := World.oldB_of_cell ey0
          have gw0 := World.heap_setCell_row HT.out.res 0 (.int .i64 m.wd)
          have gc0 : (wr.setCell ⟨w.heap.size, 0, none⟩ (.int .i64 m.wd)).cell? ⟨w.heap.size, 0, none⟩ = some (.int .i64 m.wd) := World.cell_of_heap gw0 0
          have gw1 := World.heap_setCell_row gw0 1 (.int .i64 m.ht)
          have gc1 : ((wr.setCell ⟨w.heap.size, 0, none⟩ (.int .i64 m.wd)).setCell ⟨w.heap.size, 1, none⟩ (.int .i64 m.ht)).cell? ⟨w.heap.size, 1, none⟩ = some (.int .i64 m.ht) := World.cell_of_heap gw1 1
          have gw2 := World.heap_setCell_row gw1 2 (.slice pr m.rise.length kr)
          have gc2 : (((wr.setCell ⟨w.heap.size, 0, none⟩ (.int .i64 m.wd)).setCell ⟨w.heap.size, 1, none⟩ (.int .i64 m.ht)).setCell ⟨w.heap.size, 2, none⟩ (.slice pr m.rise.length kr)).cell? ⟨w.heap.size, 2, none⟩ = some (.slice pr m.rise.length kr) := World.cell_of_heap gw2 2
          have gw3 := World.heap_setCell_row gw2 3 (.slice pc m.cost.length kc)
          have gc3 : ((((wr.setCell ⟨w.heap.size, 0, none⟩ (.int .i64 m.wd)).setCell ⟨w.heap.size, 1, none⟩ (.int .i64 m.ht)).setCell ⟨w.heap.size, 2, none⟩ (.slice pr m.rise.length kr)).setCell ⟨w.heap.size, 3, none⟩ (.slice pc m.cost.length kc)).cell? ⟨w.heap.size, 3, none⟩ = some (.slice pc m.cost.length kc) := World.cell_of_heap gw3 3
          clear gw0 gw1 gw2 gw3
          have hon : World.grownBy wr ((((wr.setCell ⟨w.heap.size, 0, none⟩ (.int .i64 m.wd)).setCell ⟨w.heap.size, 1, none⟩ (.int .i64 m.ht)).setCell ⟨w.heap.size, 2, none⟩ (.slice pr m.rise.length kr)).setCell ⟨w.heap.size, 3, none⟩ (.slice pc m.cost.length kc)) (some w.heap.size) := by repeat (first | exact only_refl _ _ | refine only_setCell ?_ rfl _)
          have HF1 := Lib.hid (own_not HT.out.r (fun q e => by have := (own_lt HT.out.r q e).1; omega) hon)
          have HF2 := Lib.hid (own_not HT.out.c (fun q e => by have := (own_lt HT.out.c q e).1; omega) hon)
          have HF3 := Lib.hid (own_not HT.out.ls (fun q e => by have := (own_lt HT.out.ls q e).1; omega) hon)
          have HF4 := Lib.hid (own_not HO.out (fun q e => by have := (own_lt HO.out q e).1; omega) hon)
          have HBF := Lib.hid (row_keep HT.out.box hon (fun q e => by cases e; omega))
          have HFC := Lib.hid (HT.out.cur.grow hon (fun q e => by cases e; omega) (gain_grown HT.out.cur.up hon (fun q e => by cases e; omega)))
          have HFG := Lib.hid (only_new HT.out.gr hon (fun q e => by cases e; omega))
          clear hon
          by_cases hlt : k < l.length
          · have hkd : decide ((k : Int) < (l.length : Int)) = true := decide_eq_true (by omega)
            have h7d : decide ((q.length : Int) < 7) = false := decide_eq_false (by omega)
            go_wp2
            refine bodyPost_ret (v := .tuple #[.agg #[.int .i64 m.wd, .int .i64 m.ht, .slice pr m.rise.length kr, .slice pc m.cost.length kc], .slice pl l.length kl, .slice (some ⟨gq, 0, none⟩) q.length cq]) (by simp [results, Tryz.results34, go_sem, gc0, gc1, gc2, gc3]) rfl ?_
            exact ⟨m, _, _, _, _, _, _, rfl, own_base HF1.out (by omega), own_base HF2.out (by omega), hrl, hcl, own_base HF3.out (by omega), hll, own_base HF4.out (by omega), by omega, HFC.out.le (by omega), HFG.out⟩
          · have hkd : decide ((k : Int) < (l.length : Int)) = false := decide_eq_false (by omega)
            go_wp2
            refine bodyPost_ret (v := .tuple #[.agg #[.int .i64 m.wd, .int .i64 m.ht, .slice pr m.rise.length kr, .slice pc m.cost.length kc], .slice pl l.length kl, .slice (some ⟨gq, 0, none⟩) q.length cq]) (by simp [results, Tryz.results34, go_sem, gc0, gc1, gc2, gc3]) rfl ?_
            exact ⟨m, _, _, _, _, _, _, rfl, own_base HF1.out (by omega), own_base HF2.out (by omega), hrl, hcl, own_base HF3.out (by omega), hll, own_base HF4.out (by omega), by omega, HFC.out.le (by omega), HFG.out⟩
end Go.Proofs.YtmcimgnobimicaaGreat
