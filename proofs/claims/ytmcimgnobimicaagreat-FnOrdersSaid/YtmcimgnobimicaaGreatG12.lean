/- spec.l1Cur's site: a map and controls on it. Condition: the reader has been asked less than five hundred times. -/
import Derived.Test.YtmcimgnobimicaaGreatG11
namespace Go.Proofs.YtmcimgnobimicaaGreat
open Go.RowKit Go.Ori
theorem own_two {α β : Type} {w : World} {enc : α → List Value} {enc' : β → List Value} {sz sz' base base' : Nat} {e e' : TypeId} {u v : Value} {l : List α} {m : List β} (h : w.own base e enc sz u l) (h' : w.own base' e' enc' sz' v m) (hne : e ≠ e') {b : Nat} (hu : u.ownBlock = some b) (hv : v.ownBlock = some b) : False := by
  obtain ⟨_, ⟨rfl, _⟩ | ⟨g, cap, cur, rfl, _, hh, _⟩⟩ := h
  · simp [Value.ownBlock] at hu
  · obtain ⟨_, ⟨rfl, _⟩ | ⟨g', cap', cur', rfl, _, hh', _⟩⟩ := h'
    · simp [Value.ownBlock] at hv
    · simp only [Value.ownBlock, Option.some.injEq] at hu hv
      subst hu hv
      rw [hh] at hh'
      injection hh' with q
      injection q with _ q _
      exact hne q
set_option maxHeartbeats 8000000 in
set_option maxRecDepth 100000 in
theorem site_any (W w : World) (g n : Nat) (h : Cur 60 W w g n) (hn : n ≤ 500) :
    Calls Tryz.prog 57 #[.pointer (some ⟨g, 0, none⟩)] w fun x w' => ∃ (m : Mp) (rv cv v : Value) (l : List Ctl), x = .returned (.tuple #[.agg #[.int .i64 m.wd, .int .i64 m.ht, rv, cv], v]) ∧ w'.own w.heap.size 3 intC 1 rv m.rise ∧ w'.own w.heap.size 3 intC 1 cv m.cost ∧ (∀ q, rv.ownBlock = some q → cv.ownBlock ≠ some q) ∧ m.rise.length ≤ 21 ∧ m.cost.length ≤ 21 ∧ w'.own w.heap.size 73 Ctl.cells 2 v l ∧ l.length ≤ 11 ∧ Cur 60 W w' g (n + 260) ∧ w.grownBy w' (some g) := by
  have HC := Lib.hid h
  have hgw := h.lt
  have hWw : W.heap.size ≤ w.heap.size := Nat.le_trans h.ge (Nat.le_of_lt hgw)
  have HRZ := Lib.hid (heap_alloc_new w (.cells #[.int .i64 0, .int .i64 0, .slice none 0 0, .slice none 0 0] 26))
  clear h
  go_enter Tryz.func57, Tryz.ntmps57
  go_wp2_with fail
  refine (mapOf_any W _ g n (HC.out.gain (by repeat (first | with_reducible (first | exact World.gained_refl _ | exact ⟨_, rfl⟩ | apply gain_ext | apply gain_alloc | apply gain_drewN | apply gain_drew) | (refine gain_setCell ?_ (by first | exact Nat.le_refl _ | exact World.size_ext _ _ | (simp; done) | (simp; omega)) _)))) (by omega)).mono ?_
  rintro e wm ⟨m, rv, cv, rfl, ho1, ho2, hap, hrl, hcl, hc1, hg1⟩
  have HRS := Lib.hid (row_keep HRZ.out hg1 (fun q e => by cases e; omega))
  have hsz : (w.alloc (.cells #[.int .i64 0, .int .i64 0, .slice none 0 0, .slice none 0 0] 26)).heap.size = w.heap.size + 1 := World.size_alloc _ _
  rw [hsz] at ho1 ho2
  have HGM := Lib.hid (only_trans (only_gain (only_refl w (some g)) (by repeat (first | with_reducible (first | exact World.gained_refl _ | exact ⟨_, rfl⟩ | apply gain_ext | apply gain_alloc | apply gain_drewN | apply gain_drew) | (refine gain_setCell ?_ (by first | exact Nat.le_refl _ | exact World.size_ext _ _ | (simp; done) | (simp; omega)) _)))) hg1)
  have hlm := only_size hg1
  rw [hsz] at hlm
  have hWm : W.heap.size ≤ wm.heap.size := by omega
  have hgm : g < wm.heap.size := by omega
  have HS0 := Lib.hid (RSt.start (tM := 26) (m := m) hc1 (show g < w.heap.size + 1 by omega) ho1 ho2 (by decide))
  obtain ⟨pr, kr, rfl, _⟩ := sl_of_own intC_length ho1
  obtain ⟨pc, kc, rfl, _⟩ := sl_of_own intC_length ho2
  clear hc1 hg1 ho1 ho2
  go_wp2_with fail
  have hszB : (wm.alloc (.cells #[.int .i64 m.wd, .int .i64 m.ht, .slice pr m.rise.length kr, .slice pc m.cost.length kc] 26)).heap.size = wm.heap.size + 1 := World.size_alloc _ _
  generalize wm.alloc (.cells #[.int .i64 m.wd, .int .i64 m.ht, .slice pr m.rise.length kr, .slice pc m.cost.length kc] 26) = B0 at HS0 hszB ⊢
  have hszC : (B0.alloc (.cells #[.int .i64 31, .int .i64 32, .int .i64 34, .int .i64 41, .int .i64 43, .int .i64 45, .int .i64 54, .int .i64 60, .int .i64 77, .int .i64 99] 3)).heap.size = wm.heap.size + 1 + 1 := by rw [World.size_alloc, hszB]
  have HCD := Lib.hid (own_lit' (w := B0) (base := wm.heap.size) (e := 3) (C := #[.int .i64 31, .int .i64 32, .int .i64 34, .int .i64 41, .int .i64 43, .int .i64 45, .int .i64 54, .int .i64 60, .int .i64 77, .int .i64 99]) (l := [31, 32, 34, 41, 43, 45, 54, 60, 77, 99]) intC_length rfl hszB.symm (by omega))
  have HLD := Lib.hid (own_lit' (w := B0.alloc (.cells #[.int .i64 31, .int .i64 32, .int .i64 34, .int .i64 41, .int .i64 43, .int .i64 45, .int .i64 54, .int .i64 60, .int .i64 77, .int .i64 99] 3)) (base := wm.heap.size) (e := 73) (C := #[]) (l := ([] : List Ctl)) Ctl.cells_length rfl hszC.symm (by omega))
  go_loopw [6, 7] (fun ov i wr => ∃ (k : Nat) (l : List Ctl), k ≤ 10 ∧ i = .int .i64 k ∧ l.length ≤ k ∧ wr.own wm.heap.size 73 Ctl.cells 2 ov l ∧ wr.own wm.heap.size 3 intC 1 (.slice (some ⟨wm.heap.size + 1, 0, none⟩) 10 10) [31, 32, 34, 41, 43, 45, 54, 60, 77, 99] ∧ RSt 60 26 3 W wm wr g (w.heap.size + 1) wm.heap.size (n + 140 + 10 * k) m (.slice pr m.rise.length kr) (.slice pc m.cost.length kc)) (fun _ i _ => 10 - (intOf i).toNat)
  case atStart => exact ⟨0, [], by omega, rfl, by simp, HLD.out, own_up HCD.out (by repeat (first | with_reducible (first | exact World.gained_refl _ | exact ⟨_, rfl⟩ | apply gain_ext | apply gain_alloc | apply gain_drewN | apply gain_drew) | (refine gain_setCell ?_ (by first | exact Nat.le_refl _ | exact World.size_ext _ _ | (simp; done) | (simp; omega)) _))), (HS0.out.up (by repeat (first | with_reducible (first | exact World.gained_refl _ | exact ⟨_, rfl⟩ | apply gain_ext | apply gain_alloc | apply gain_drewN | apply gain_drew) | (refine gain_setCell ?_ (by first | exact Nat.le_refl _ | exact World.size_ext _ _ | (simp; done) | (simp; omega)) _)))).le (by omega)⟩
  case round =>
    obtain ⟨k, l, hk, rfl, hlk, hol, hoc, hst⟩ := hrel
    have HS := Lib.hid hst
    have HOL := Lib.hid hol
    have HOC := Lib.hid hoc
    obtain ⟨pl, cl, rfl, _⟩ := sl_of_own Ctl.cells_length hol
    clear hst hol hoc
    by_cases hlt : k < 10
    · have hkd : decide ((k : Int) < 10) = true := decide_eq_true (by omega)
      go_wp2_with fail
      refine (one_any W _ g _ _ HS.out.cur (by omega)).mono ?_
      rintro e wa ⟨b1, rfl, hca, hga⟩
      have HSA := Lib.hid (HS.out.on hca hga)
      have HLA := Lib.hid (own_cur HOL.out hgm hga)
      have HCA := Lib.hid (own_cur HOC.out hgm hga)
      clear hca hga
      cases b1 with
      | true =>
        go_wp2
        go_roundw
        case rel => exact ⟨k + 1, l, by omega, by go_num, by omega, HLA.out, HCA.out, HSA.out.le (by omega)⟩
        case measure => simp [intOf]; omega
      | false =>
        have bx0 : wa.cell? ⟨wm.heap.size, 0, none⟩ = some (.int .i64 m.wd) := World.cell_of_heap HSA.out.box 0
        have bx1 : wa.cell? ⟨wm.heap.size, 1, none⟩ = some (.int .i64 m.ht) := World.cell_of_heap HSA.out.box 1
        have bx2 : wa.cell? ⟨wm.heap.size, 2, none⟩ = some (.slice pr m.rise.length kr) := World.cell_of_heap HSA.out.box 2
        have bx3 : wa.cell? ⟨wm.heap.size, 3, none⟩ = some (.slice pc m.cost.length kc) := World.cell_of_heap HSA.out.box 3
        have obx := World.oldB_of_cell bx0
        go_wp2_with fail
        refine (openCell_any W _ g _ (w.heap.size + 1) m _ _ HSA.out.cur (by omega) (by omega) HSA.out.r HSA.out.c (by omega) (by omega)).mono ?_
        rintro e wb ⟨x, rfl, hcb, hgb⟩
        have HSB := Lib.hid (HSA.out.on hcb hgb)
        have HLB := Lib.hid (own_cur HLA.out hgm hgb)
        have HCB := Lib.hid (own_cur HCA.out hgm hgb)
        clear hcb hgb bx0 bx1 bx2 bx3 obx
        go_wp2_with fail
        go_loopw [9, 10] (fun tv j wr => ∃ (q : Nat) (tb : Bool), q ≤ l.length ∧ j = .int .i64 q ∧ tv = .bool tb ∧ ∃ d, wr = wb.ext d) (fun _ j _ => l.length - (intOf j).toNat)
        case atStart => exact ⟨0, false, by omega, rfl, rfl, World.gained_refl _⟩
        case round =>
          obtain ⟨q, tb, hq, rfl, rfl, d, rfl⟩ := hrel
          by_cases hql : q < l.length
          · obtain ⟨b, o, rfl⟩ := sl_some (sl_of_own Ctl.cells_length HLB.out) (by omega)
            have c1 := sl_cells (sl_of_own Ctl.cells_length HLB.out) hql (j := 1) (by omega)
            simp only [Ctl.cells, List.getElem?_cons_zero, List.getElem?_cons_succ] at c1
            have ob := World.oldB_of_cell c1
            generalize l[q].cell = y at c1
            cases tb with
            | true =>
              go_wp2
              go_roundw
              case rel => exact ⟨q + 1, true, by omega, by go_num, rfl, (by repeat (first | with_reducible (first | exact World.gained_refl _ | exact ⟨_, rfl⟩ | apply gain_ext | apply gain_alloc | apply gain_drewN | apply gain_drew) | (refine gain_setCell ?_ (by first | exact Nat.le_refl _ | exact World.size_ext _ _ | (simp; done) | (simp; omega)) _)))⟩
              case measure => simp [intOf]; omega
            | false =>
              go_wp2
              go_roundw
              case rel => exact ⟨q + 1, y == x, by omega, by go_num, rfl, (by repeat (first | with_reducible (first | exact World.gained_refl _ | exact ⟨_, rfl⟩ | apply gain_ext | apply gain_alloc | apply gain_drewN | apply gain_drew) | (refine gain_setCell ?_ (by first | exact Nat.le_refl _ | exact World.size_ext _ _ | (simp; done) | (simp; omega)) _)))⟩
              case measure => simp [intOf]; omega
          · obtain rfl : q = l.length := by omega
            have HSD := Lib.hid (HSB.out.up (wr' := wb.ext d) ⟨_, rfl⟩)
            have HLD2 := Lib.hid (own_up HLB.out (w' := wb.ext d) ⟨_, rfl⟩)
            have HCD2 := Lib.hid (own_up HCB.out (w' := wb.ext d) ⟨_, rfl⟩)
            generalize wb.ext d = wx at HSD HLD2 HCD2 ⊢
            cases tb with
            | false =>
              have HUP := Lib.hid HSD.out.cur.up
              have hck := sl_int (sl_of_own intC_length HCD2.out) (k := k) (by simp; omega)
              rw [Nat.zero_add] at hck
              have obk := World.oldB_of_cell hck
              generalize ([31, 32, 34, 41, 43, 45, 54, 60, 77, 99] : List Int)[k]'(by simp; omega) = cd at hck
              go_wp2_with (at_builtin; go_must (refine wpList_append_gain (W := W) (base := wm.heap.size) (m := [(⟨cd, x⟩ : Ctl)]) rfl (.tmp 48) (.tmp 55) rfl Tryz.underlying27 info_Ctl (by rfl) (by omega) Ctl.cells_length Ctl.cells_one (by omega) (gain_trans HUP.out (by repeat (first | with_reducible (first | exact World.gained_refl _ | exact ⟨_, rfl⟩ | apply gain_ext | apply gain_alloc | apply gain_drewN | apply gain_drew) | (refine gain_setCell ?_ (by first | exact Nat.le_refl _ | exact World.size_ext _ _ | (simp; done) | (simp; omega)) _)))) hWm (Nat.le_trans HSD.out.size (gain_size (by repeat (first | with_reducible (first | exact World.gained_refl _ | exact ⟨_, rfl⟩ | apply gain_ext | apply gain_alloc | apply gain_drewN | apply gain_drew) | (refine gain_setCell ?_ (by first | exact Nat.le_refl _ | exact World.size_ext _ _ | (simp; done) | (simp; omega)) _))))) rfl rfl (own_up (HLD2.out) (by repeat (first | with_reducible (first | exact World.gained_refl _ | exact ⟨_, rfl⟩ | apply gain_ext | apply gain_alloc | apply gain_drewN | apply gain_drew) | (refine gain_setCell ?_ (by first | exact Nat.le_refl _ | exact World.size_ext _ _ | (simp; done) | (simp; omega)) _)))) (sl_lit (l := [(⟨cd, x⟩ : Ctl)]) Ctl.cells_length rfl (by simp)) (by have : ([(⟨cd, x⟩ : Ctl)] : List Ctl).length = 1 := rfl; omega) ?_); intro v' d' ho hg)
              have HSX := Lib.hid ((HSD.out.up (by repeat (first | with_reducible (first | exact World.gained_refl _ | exact ⟨_, rfl⟩ | apply gain_ext | apply gain_alloc | apply gain_drewN | apply gain_drew) | (refine gain_setCell ?_ (by first | exact Nat.le_refl _ | exact World.size_ext _ _ | (simp; done) | (simp; omega)) _)))).grown (own_up HLD2.out (by repeat (first | with_reducible (first | exact World.gained_refl _ | exact ⟨_, rfl⟩ | apply gain_ext | apply gain_alloc | apply gain_drewN | apply gain_drew) | (refine gain_setCell ?_ (by first | exact Nat.le_refl _ | exact World.size_ext _ _ | (simp; done) | (simp; omega)) _)))) (by decide) hg ⟨_, rfl⟩)
              have HCX := Lib.hid (own_mark (own_up HCD2.out (by repeat (first | with_reducible (first | exact World.gained_refl _ | exact ⟨_, rfl⟩ | apply gain_ext | apply gain_alloc | apply gain_drewN | apply gain_drew) | (refine gain_setCell ?_ (by first | exact Nat.le_refl _ | exact World.size_ext _ _ | (simp; done) | (simp; omega)) _)))) hg (fun b hb e => by cases hb; exact own_two HCD2.out HLD2.out (by decide) rfl e))
              go_roundw
              case rel => exact ⟨k + 1, _, by omega, by go_num, by simp; omega, ho, HCX.out, HSX.out.le (by omega)⟩
              case measure => simp [intOf]; omega
            | true =>
              go_wp2_with fail
              refine (one_any W _ g _ _ HSD.out.cur (by omega)).mono ?_
              rintro e wy ⟨b4, rfl, hcy, hgy⟩
              have HSY := Lib.hid (HSD.out.on hcy hgy)
              have HLY := Lib.hid (own_cur HLD2.out hgm hgy)
              have HCY := Lib.hid (own_cur HCD2.out hgm hgy)
              clear hcy hgy
              cases b4 with
              | true =>
                have HUP := Lib.hid HSY.out.cur.up
                have hck := sl_int (sl_of_own intC_length HCY.out) (k := k) (by simp; omega)
                rw [Nat.zero_add] at hck
                have obk := World.oldB_of_cell hck
                generalize ([31, 32, 34, 41, 43, 45, 54, 60, 77, 99] : List Int)[k]'(by simp; omega) = cd at hck
                go_wp2_with (at_builtin; go_must (refine wpList_append_gain (W := W) (base := wm.heap.size) (m := [(⟨cd, x⟩ : Ctl)]) rfl (.tmp 48) (.tmp 55) rfl Tryz.underlying27 info_Ctl (by rfl) (by omega) Ctl.cells_length Ctl.cells_one (by omega) (gain_trans HUP.out (by repeat (first | with_reducible (first | exact World.gained_refl _ | exact ⟨_, rfl⟩ | apply gain_ext | apply gain_alloc | apply gain_drewN | apply gain_drew) | (refine gain_setCell ?_ (by first | exact Nat.le_refl _ | exact World.size_ext _ _ | (simp; done) | (simp; omega)) _)))) hWm (Nat.le_trans HSY.out.size (gain_size (by repeat (first | with_reducible (first | exact World.gained_refl _ | exact ⟨_, rfl⟩ | apply gain_ext | apply gain_alloc | apply gain_drewN | apply gain_drew) | (refine gain_setCell ?_ (by first | exact Nat.le_refl _ | exact World.size_ext _ _ | (simp; done) | (simp; omega)) _))))) rfl rfl (own_up (HLY.out) (by repeat (first | with_reducible (first | exact World.gained_refl _ | exact ⟨_, rfl⟩ | apply gain_ext | apply gain_alloc | apply gain_drewN | apply gain_drew) | (refine gain_setCell ?_ (by first | exact Nat.le_refl _ | exact World.size_ext _ _ | (simp; done) | (simp; omega)) _)))) (sl_lit (l := [(⟨cd, x⟩ : Ctl)]) Ctl.cells_length rfl (by simp)) (by have : ([(⟨cd, x⟩ : Ctl)] : List Ctl).length = 1 := rfl; omega) ?_); intro v' d' ho hg)
                have HSX := Lib.hid ((HSY.out.up (by repeat (first | with_reducible (first | exact World.gained_refl _ | exact ⟨_, rfl⟩ | apply gain_ext | apply gain_alloc | apply gain_drewN | apply gain_drew) | (refine gain_setCell ?_ (by first | exact Nat.le_refl _ | exact World.size_ext _ _ | (simp; done) | (simp; omega)) _)))).grown (own_up HLY.out (by repeat (first | with_reducible (first | exact World.gained_refl _ | exact ⟨_, rfl⟩ | apply gain_ext | apply gain_alloc | apply gain_drewN | apply gain_drew) | (refine gain_setCell ?_ (by first | exact Nat.le_refl _ | exact World.size_ext _ _ | (simp; done) | (simp; omega)) _)))) (by decide) hg ⟨_, rfl⟩)
                have HCX := Lib.hid (own_mark (own_up HCY.out (by repeat (first | with_reducible (first | exact World.gained_refl _ | exact ⟨_, rfl⟩ | apply gain_ext | apply gain_alloc | apply gain_drewN | apply gain_drew) | (refine gain_setCell ?_ (by first | exact Nat.le_refl _ | exact World.size_ext _ _ | (simp; done) | (simp; omega)) _)))) hg (fun b hb e => by cases hb; exact own_two HCY.out HLY.out (by decide) rfl e))
                go_roundw
                case rel => exact ⟨k + 1, _, by omega, by go_num, by simp; omega, ho, HCX.out, HSX.out.le (by omega)⟩
                case measure => simp [intOf]; omega
              | false =>
                go_wp2
                go_roundw
                case rel => exact ⟨k + 1, l, by omega, by go_num, by omega, HLY.out, HCY.out, HSY.out.le (by omega)⟩
                case measure => simp [intOf]; omega
    · obtain rfl : k = 10 := by omega
      go_wp2_with fail
      refine (one_any W _ g _ _ HS.out.cur (by omega)).mono ?_
      rintro e wz ⟨bz, rfl, hcz, hgz⟩
      have HSZ := Lib.hid (HS.out.on hcz hgz)
      have HLZ := Lib.hid (own_cur HOL.out hgm hgz)
      clear hcz hgz
      cases bz with
      | false =>
        have HRX := Lib.hid (row_keep HRS.out HSZ.out.gr (fun q e => by cases e; omega))
        have ex0 : wz.cell? ⟨wm.heap.size, 0, none⟩ = some (.int .i64 m.wd) := World.cell_of_heap HSZ.out.box 0
        have ex1 : wz.cell? ⟨wm.heap.size, 1, none⟩ = some (.int .i64 m.ht) := World.cell_of_heap HSZ.out.box 1
        have ex2 : wz.cell? ⟨wm.heap.size, 2, none⟩ = some (.slice pr m.rise.length kr) := World.cell_of_heap HSZ.out.box 2
        have ex3 : wz.cell? ⟨wm.heap.size, 3, none⟩ = some (.slice pc m.cost.length kc) := World.cell_of_heap HSZ.out.box 3
        have ey0 : wz.cell? ⟨w.heap.size, 0, none⟩ = some (.int .i64 0) := World.cell_of_heap HRX.out 0
        have ez0 : wz.frozen? ⟨w.heap.size, 0, none⟩ = false := World.free_of_heap HRX.out 0
        have ey1 : wz.cell? ⟨w.heap.size, 1, none⟩ = some (.int .i64 0) := World.cell_of_heap HRX.out 1
        have ez1 : wz.frozen? ⟨w.heap.size, 1, none⟩ = false := World.free_of_heap HRX.out 1
        have ey2 : wz.cell? ⟨w.heap.size, 2, none⟩ = some (.slice none 0 0) := World.cell_of_heap HRX.out 2
        have ez2 : wz.frozen? ⟨w.heap.size, 2, none⟩ = false := World.free_of_heap HRX.out 2
        have ey3 : wz.cell? ⟨w.heap.size, 3, none⟩ = some (.slice none 0 0) := World.cell_of_heap HRX.out 3
        have ez3 : wz.frozen? ⟨w.heap.size, 3, none⟩ = false := World.free_of_heap HRX.out 3
        have eob := World.oldB_of_cell ex0
        have eoc := World.oldB_of_cell ey0
        have gw0 := World.heap_setCell_row HRX.out 0 (.int .i64 m.wd)
        have gc0 : (wz.setCell ⟨w.heap.size, 0, none⟩ (.int .i64 m.wd)).cell? ⟨w.heap.size, 0, none⟩ = some (.int .i64 m.wd) := World.cell_of_heap gw0 0
        have gw1 := World.heap_setCell_row gw0 1 (.int .i64 m.ht)
        have gc1 : ((wz.setCell ⟨w.heap.size, 0, none⟩ (.int .i64 m.wd)).setCell ⟨w.heap.size, 1, none⟩ (.int .i64 m.ht)).cell? ⟨w.heap.size, 1, none⟩ = some (.int .i64 m.ht) := World.cell_of_heap gw1 1
        have gw2 := World.heap_setCell_row gw1 2 (.slice pr m.rise.length kr)
        have gc2 : (((wz.setCell ⟨w.heap.size, 0, none⟩ (.int .i64 m.wd)).setCell ⟨w.heap.size, 1, none⟩ (.int .i64 m.ht)).setCell ⟨w.heap.size, 2, none⟩ (.slice pr m.rise.length kr)).cell? ⟨w.heap.size, 2, none⟩ = some (.slice pr m.rise.length kr) := World.cell_of_heap gw2 2
        have gw3 := World.heap_setCell_row gw2 3 (.slice pc m.cost.length kc)
        have gc3 : ((((wz.setCell ⟨w.heap.size, 0, none⟩ (.int .i64 m.wd)).setCell ⟨w.heap.size, 1, none⟩ (.int .i64 m.ht)).setCell ⟨w.heap.size, 2, none⟩ (.slice pr m.rise.length kr)).setCell ⟨w.heap.size, 3, none⟩ (.slice pc m.cost.length kc)).cell? ⟨w.heap.size, 3, none⟩ = some (.slice pc m.cost.length kc) := World.cell_of_heap gw3 3
        clear gw0 gw1 gw2 gw3
        have hon : World.grownBy wz ((((wz.setCell ⟨w.heap.size, 0, none⟩ (.int .i64 m.wd)).setCell ⟨w.heap.size, 1, none⟩ (.int .i64 m.ht)).setCell ⟨w.heap.size, 2, none⟩ (.slice pr m.rise.length kr)).setCell ⟨w.heap.size, 3, none⟩ (.slice pc m.cost.length kc)) (some w.heap.size) := by repeat (first | exact only_refl _ _ | refine only_setCell ?_ rfl _)
        have HF1 := Lib.hid (own_not HSZ.out.r (fun q e => by have := (own_lt HSZ.out.r q e).1; omega) hon)
        have HF2 := Lib.hid (own_not HSZ.out.c (fun q e => by have := (own_lt HSZ.out.c q e).1; omega) hon)
        have HF3 := Lib.hid (own_not HLZ.out (fun q e => by have := (own_lt HLZ.out q e).1; omega) hon)
        have HFC := Lib.hid (HSZ.out.cur.grow hon (fun q e => by cases e; omega) (gain_grown HSZ.out.cur.up hon (fun q e => by cases e; omega)))
        have HFG := Lib.hid (only_new (only_trans HGM.out HSZ.out.gr) hon (fun q e => by cases e; omega))
        clear hon
        go_wp2
        refine bodyPost_ret (v := .tuple #[.agg #[.int .i64 m.wd, .int .i64 m.ht, .slice pr m.rise.length kr, .slice pc m.cost.length kc], _]) (by simp [results, Tryz.results57, go_sem, gc0, gc1, gc2, gc3]; rfl) rfl ?_
        exact ⟨m, _, _, _, _, rfl, own_base HF1.out (by omega), own_base HF2.out (by omega), hap, hrl, hcl, own_base HF3.out (by omega), by omega, HFC.out.le (by omega), HFG.out⟩
      | true =>
        go_upto_region 17 with fail
        refine wp_region_held_drew (S := (fun w' => w'.cell? ⟨wm.heap.size, 0, none⟩ = some (.int .i64 m.wd) ∧ w'.cell? ⟨wm.heap.size, 1, none⟩ = some (.int .i64 m.ht) ∧ w'.cell? ⟨wm.heap.size, 2, none⟩ = some (.slice pr m.rise.length kr) ∧ w'.cell? ⟨wm.heap.size, 3, none⟩ = some (.slice pc m.cost.length kc))) (by kernel_rfl) ⟨World.cell_of_heap HSZ.out.box 0, World.cell_of_heap HSZ.out.box 1, World.cell_of_heap HSZ.out.box 2, World.cell_of_heap HSZ.out.box 3⟩ (fun hHeld => ?_)
        refine wpAnyH_take (i := 0) (oi := ⟨_, _, _, _, _, _⟩) (v := ?_) rfl (by kernel_rfl) (by kernel_rfl) (by kernel_rfl) (fun _ _ _ h => h) (Or.inl ⟨by rfl, ?_⟩) (by assumption) ?_
        rotate_left
        · intro w hSw; (try dsimp only at hSw); go_simp; (try with_reducible rfl)
        try simp only [Act.put, List.setIfInBounds_toArray, List.set_cons_zero, List.set_cons_succ]
        refine wpAnyH_take (i := 1) (oi := ⟨_, _, _, _, _, _⟩) (v := ?_) rfl (by kernel_rfl) (by kernel_rfl) (by kernel_rfl) (fun _ _ _ h => h) (Or.inl ⟨by rfl, ?_⟩) (by assumption) ?_
        rotate_left
        · intro w hSw; (try dsimp only at hSw); go_simp; (try with_reducible rfl)
        try simp only [Act.put, List.setIfInBounds_toArray, List.set_cons_zero, List.set_cons_succ]
        refine wpAnyH_take (i := 3) (oi := ⟨_, _, _, _, _, _⟩) (v := ?_) rfl (by kernel_rfl) (by kernel_rfl) (by kernel_rfl) (fun _ _ _ h => h) (Or.inl ⟨by rfl, ?_⟩) (by assumption) ?_
        rotate_left
        · intro w hSw; (try dsimp only at hSw); go_simp; (try with_reducible rfl)
        try simp only [Act.put, List.setIfInBounds_toArray, List.set_cons_zero, List.set_cons_succ]
        refine wpAnyH_take (i := 4) (oi := ⟨_, _, _, _, _, _⟩) (v := ?_) rfl (by kernel_rfl) (by kernel_rfl) (by kernel_rfl) (fun _ _ _ h => h) (Or.inl ⟨by rfl, ?_⟩) (by assumption) ?_
        rotate_left
        · intro w hSw; (try dsimp only at hSw); go_simp; (try with_reducible rfl)
        try simp only [Act.put, List.setIfInBounds_toArray, List.set_cons_zero, List.set_cons_succ]
        refine wpAnyH_ready (rs := [2]) (by kernel_rfl) (by simp) ?_
        refine AllReadyH.cons rfl (fun K hK => ?_) AllReadyH.nil
        go_simp
        go_wp2_with fail
        refine (code6_any W _ g _ (HSZ.out.cur.gain (by repeat (first | with_reducible (first | exact World.gained_refl _ | exact ⟨_, rfl⟩ | apply gain_ext | apply gain_alloc | apply gain_drewN | apply gain_drew) | (refine gain_setCell ?_ (by first | exact Nat.le_refl _ | exact World.size_ext _ _ | (simp; done) | (simp; omega)) _)))) (by omega)).mono ?_
        rintro e wc ⟨y, rfl, hcc, hgc⟩
        have HSC := Lib.hid ((HSZ.out.up (by repeat (first | with_reducible (first | exact World.gained_refl _ | exact ⟨_, rfl⟩ | apply gain_ext | apply gain_alloc | apply gain_drewN | apply gain_drew) | (refine gain_setCell ?_ (by first | exact Nat.le_refl _ | exact World.size_ext _ _ | (simp; done) | (simp; omega)) _)))).on hcc hgc)
        have HLC := Lib.hid (own_cur (own_up HLZ.out (by repeat (first | with_reducible (first | exact World.gained_refl _ | exact ⟨_, rfl⟩ | apply gain_ext | apply gain_alloc | apply gain_drewN | apply gain_drew) | (refine gain_setCell ?_ (by first | exact Nat.le_refl _ | exact World.size_ext _ _ | (simp; done) | (simp; omega)) _)))) hgm hgc)
        clear hcc hgc
        (try dsimp only)
        refine hK.out _ _ ?_ (fun hHeld => ?_)
        · exact ⟨World.cell_of_heap HSC.out.box 0, World.cell_of_heap HSC.out.box 1, World.cell_of_heap HSC.out.box 2, World.cell_of_heap HSC.out.box 3⟩
        clear hK K
        try simp only [Act.put, List.setIfInBounds_toArray, List.set_cons_zero, List.set_cons_succ]
        refine wpAnyH_ready (rs := [5]) (by kernel_rfl) (by simp) ?_
        refine AllReadyH.cons rfl (fun K hK => ?_) AllReadyH.nil
        go_simp
        go_wp2_with fail
        refine (cellOfD_any W _ g _ m pr pc kr kc (HSC.out.cur.gain (by repeat (first | with_reducible (first | exact World.gained_refl _ | exact ⟨_, rfl⟩ | apply gain_ext | apply gain_alloc | apply gain_drewN | apply gain_drew) | (refine gain_setCell ?_ (by first | exact Nat.le_refl _ | exact World.size_ext _ _ | (simp; done) | (simp; omega)) _)))) (by omega) (by omega)).mono ?_
        rintro e wd ⟨z, rfl, -, -, hcd, hgd⟩
        have HSD := Lib.hid ((HSC.out.up (by repeat (first | with_reducible (first | exact World.gained_refl _ | exact ⟨_, rfl⟩ | apply gain_ext | apply gain_alloc | apply gain_drewN | apply gain_drew) | (refine gain_setCell ?_ (by first | exact Nat.le_refl _ | exact World.size_ext _ _ | (simp; done) | (simp; omega)) _)))).on hcd hgd)
        have HLD3 := Lib.hid (own_cur (own_up HLC.out (by repeat (first | with_reducible (first | exact World.gained_refl _ | exact ⟨_, rfl⟩ | apply gain_ext | apply gain_alloc | apply gain_drewN | apply gain_drew) | (refine gain_setCell ?_ (by first | exact Nat.le_refl _ | exact World.size_ext _ _ | (simp; done) | (simp; omega)) _)))) hgm hgd)
        have HUP := Lib.hid hcd.up
        clear hcd hgd
        (try dsimp only)
        refine hK.out _ _ ?_ (fun hHeld => ?_)
        · exact ⟨World.cell_of_heap HSD.out.box 0, World.cell_of_heap HSD.out.box 1, World.cell_of_heap HSD.out.box 2, World.cell_of_heap HSD.out.box 3⟩
        clear hK K
        try simp only [Act.put, List.setIfInBounds_toArray, List.set_cons_zero, List.set_cons_succ]
        refine wpAnyH_take (i := 6) (oi := ⟨_, _, _, _, _, _⟩) (v := ?_) rfl (by kernel_rfl) (by kernel_rfl) (by kernel_rfl) (fun _ _ _ h => h) (Or.inl ⟨by rfl, ?_⟩) (by assumption) ?_
        rotate_left
        · intro w hSw; (try dsimp only at hSw); go_simp; (try with_reducible rfl)
        try simp only [Act.put, List.setIfInBounds_toArray, List.set_cons_zero, List.set_cons_succ]
        refine wpAnyH_ready (rs := [7]) (by kernel_rfl) (by simp) ?_
        refine AllReadyH.cons rfl (fun K hK => ?_) AllReadyH.nil
        go_simp
        have HSD2 := Lib.hid (HSD.out.up (wr' := wd.alloc (.cells #[.int .i64 y, .int .i64 z] 73)) (by repeat (first | with_reducible (first | exact World.gained_refl _ | exact ⟨_, rfl⟩ | apply gain_ext | apply gain_alloc | apply gain_drewN | apply gain_drew) | (refine gain_setCell ?_ (by first | exact Nat.le_refl _ | exact World.size_ext _ _ | (simp; done) | (simp; omega)) _))))
        have HLD4 := Lib.hid (own_up HLD3.out (w' := wd.alloc (.cells #[.int .i64 y, .int .i64 z] 73)) (by repeat (first | with_reducible (first | exact World.gained_refl _ | exact ⟨_, rfl⟩ | apply gain_ext | apply gain_alloc | apply gain_drewN | apply gain_drew) | (refine gain_setCell ?_ (by first | exact Nat.le_refl _ | exact World.size_ext _ _ | (simp; done) | (simp; omega)) _))))
        have hsl : (wd.alloc (.cells #[.int .i64 y, .int .i64 z] 73)).sl Ctl.cells 2 (.slice (some ⟨wd.heap.size, 0, none⟩) 1 1) [(⟨y, z⟩ : Ctl)] := sl_lit (l := [(⟨y, z⟩ : Ctl)]) Ctl.cells_length rfl (by simp)
        have HUP2 := Lib.hid (show ∃ d, wd.alloc (.cells #[.int .i64 y, .int .i64 z] 73) = W.ext d from gain_trans HUP.out (by repeat (first | with_reducible (first | exact World.gained_refl _ | exact ⟨_, rfl⟩ | apply gain_ext | apply gain_alloc | apply gain_drewN | apply gain_drew) | (refine gain_setCell ?_ (by first | exact Nat.le_refl _ | exact World.size_ext _ _ | (simp; done) | (simp; omega)) _))))
        (try dsimp only)
        refine hK.out _ _ ?_ (fun hHeld => ?_)
        · exact ⟨World.cell_of_heap HSD2.out.box 0, World.cell_of_heap HSD2.out.box 1, World.cell_of_heap HSD2.out.box 2, World.cell_of_heap HSD2.out.box 3⟩
        clear hK K
        try simp only [Act.put, List.setIfInBounds_toArray, List.set_cons_zero, List.set_cons_succ]
        refine wpAnyH_ready (rs := [8]) (by kernel_rfl) (by simp) ?_
        refine AllReadyH.cons rfl (fun K hK => ?_) AllReadyH.nil
        refine step_append_gain (W := W) (base := wm.heap.size) (l := l) (m := [(⟨y, z⟩ : Ctl)]) rfl (.tmp 59) (.tmp 66) rfl Tryz.underlying27 info_Ctl (by rfl) (by omega) Ctl.cells_length Ctl.cells_one (by omega) HUP2.out hWm HSD2.out.size rfl rfl HLD4.out hsl (by have : ([(⟨y, z⟩ : Ctl)] : List Ctl).length = 1 := rfl; omega) ?_
        intro v9 d9 ho hg
        have HSE := Lib.hid (HSD2.out.grown HLD4.out (by decide) hg ⟨_, rfl⟩)
        have HLE := Lib.hid ho
        have hll : (l ++ [(⟨y, z⟩ : Ctl)]).length ≤ 11 := by simp; omega
        (try dsimp only)
        refine hK.out _ _ ?_ (fun hHeld => ?_)
        · exact ⟨World.cell_of_heap HSE.out.box 0, World.cell_of_heap HSE.out.box 1, World.cell_of_heap HSE.out.box 2, World.cell_of_heap HSE.out.box 3⟩
        clear hK K ho hg
        try simp only [Act.put, List.setIfInBounds_toArray, List.set_cons_zero, List.set_cons_succ]
        refine wpAnyH_take (i := 9) (oi := ⟨_, _, _, _, _, _⟩) (v := ?_) rfl (by kernel_rfl) (by kernel_rfl) (by kernel_rfl) (fun _ _ _ h => h) (Or.inl ⟨by rfl, ?_⟩) (by assumption) ?_
        rotate_left
        · intro w hSw; (try dsimp only at hSw); go_simp; (try with_reducible rfl)
        try simp only [Act.put, List.setIfInBounds_toArray, List.set_cons_zero, List.set_cons_succ]
        refine wpAnyH_done (by kernel_rfl) ?_ _
        generalize W.ext d9 = we at HSE HLE ⊢
        have HRX := Lib.hid (row_keep HRS.out HSE.out.gr (fun q e => by cases e; omega))
        have ex0 : we.cell? ⟨wm.heap.size, 0, none⟩ = some (.int .i64 m.wd) := World.cell_of_heap HSE.out.box 0
        have ex1 : we.cell? ⟨wm.heap.size, 1, none⟩ = some (.int .i64 m.ht) := World.cell_of_heap HSE.out.box 1
        have ex2 : we.cell? ⟨wm.heap.size, 2, none⟩ = some (.slice pr m.rise.length kr) := World.cell_of_heap HSE.out.box 2
        have ex3 : we.cell? ⟨wm.heap.size, 3, none⟩ = some (.slice pc m.cost.length kc) := World.cell_of_heap HSE.out.box 3
        have ey0 : we.cell? ⟨w.heap.size, 0, none⟩ = some (.int .i64 0) := World.cell_of_heap HRX.out 0
        have ez0 : we.frozen? ⟨w.heap.size, 0, none⟩ = false := World.free_of_heap HRX.out 0
        have ey1 : we.cell? ⟨w.heap.size, 1, none⟩ = some (.int .i64 0) := World.cell_of_heap HRX.out 1
        have ez1 : we.frozen? ⟨w.heap.size, 1, none⟩ = false := World.free_of_heap HRX.out 1
        have ey2 : we.cell? ⟨w.heap.size, 2, none⟩ = some (.slice none 0 0) := World.cell_of_heap HRX.out 2
        have ez2 : we.frozen? ⟨w.heap.size, 2, none⟩ = false := World.free_of_heap HRX.out 2
        have ey3 : we.cell? ⟨w.heap.size, 3, none⟩ = some (.slice none 0 0) := World.cell_of_heap HRX.out 3
        have ez3 : we.frozen? ⟨w.heap.size, 3, none⟩ = false := World.free_of_heap HRX.out 3
        have eob := World.oldB_of_cell ex0
        have eoc := World.oldB_of_cell ey0
        have gw0 := World.heap_setCell_row HRX.out 0 (.int .i64 m.wd)
        have gc0 : (we.setCell ⟨w.heap.size, 0, none⟩ (.int .i64 m.wd)).cell? ⟨w.heap.size, 0, none⟩ = some (.int .i64 m.wd) := World.cell_of_heap gw0 0
        have gw1 := World.heap_setCell_row gw0 1 (.int .i64 m.ht)
        have gc1 : ((we.setCell ⟨w.heap.size, 0, none⟩ (.int .i64 m.wd)).setCell ⟨w.heap.size, 1, none⟩ (.int .i64 m.ht)).cell? ⟨w.heap.size, 1, none⟩ = some (.int .i64 m.ht) := World.cell_of_heap gw1 1
        have gw2 := World.heap_setCell_row gw1 2 (.slice pr m.rise.length kr)
        have gc2 : (((we.setCell ⟨w.heap.size, 0, none⟩ (.int .i64 m.wd)).setCell ⟨w.heap.size, 1, none⟩ (.int .i64 m.ht)).setCell ⟨w.heap.size, 2, none⟩ (.slice pr m.rise.length kr)).cell? ⟨w.heap.size, 2, none⟩ = some (.slice pr m.rise.length kr) := World.cell_of_heap gw2 2
        have gw3 := World.heap_setCell_row gw2 3 (.slice pc m.cost.length kc)
        have gc3 : ((((we.setCell ⟨w.heap.size, 0, none⟩ (.int .i64 m.wd)).setCell ⟨w.heap.size, 1, none⟩ (.int .i64 m.ht)).setCell ⟨w.heap.size, 2, none⟩ (.slice pr m.rise.length kr)).setCell ⟨w.heap.size, 3, none⟩ (.slice pc m.cost.length kc)).cell? ⟨w.heap.size, 3, none⟩ = some (.slice pc m.cost.length kc) := World.cell_of_heap gw3 3
        clear gw0 gw1 gw2 gw3
        have hon : World.grownBy we ((((we.setCell ⟨w.heap.size, 0, none⟩ (.int .i64 m.wd)).setCell ⟨w.heap.size, 1, none⟩ (.int .i64 m.ht)).setCell ⟨w.heap.size, 2, none⟩ (.slice pr m.rise.length kr)).setCell ⟨w.heap.size, 3, none⟩ (.slice pc m.cost.length kc)) (some w.heap.size) := by repeat (first | exact only_refl _ _ | refine only_setCell ?_ rfl _)
        have HF1 := Lib.hid (own_not HSE.out.r (fun q e => by have := (own_lt HSE.out.r q e).1; omega) hon)
        have HF2 := Lib.hid (own_not HSE.out.c (fun q e => by have := (own_lt HSE.out.c q e).1; omega) hon)
        have HF3 := Lib.hid (own_not HLE.out (fun q e => by have := (own_lt HLE.out q e).1; omega) hon)
        have HFC := Lib.hid (HSE.out.cur.grow hon (fun q e => by cases e; omega) (gain_grown HSE.out.cur.up hon (fun q e => by cases e; omega)))
        have HFG := Lib.hid (only_new (only_trans HGM.out HSE.out.gr) hon (fun q e => by cases e; omega))
        clear hon
        go_wp2
        refine bodyPost_ret (v := .tuple #[.agg #[.int .i64 m.wd, .int .i64 m.ht, .slice pr m.rise.length kr, .slice pc m.cost.length kc], _]) (by simp [results, Tryz.results57, go_sem, gc0, gc1, gc2, gc3]; rfl) rfl ?_
        exact ⟨m, _, _, _, _, rfl, own_base HF1.out (by omega), own_base HF2.out (by omega), hap, hrl, hcl, own_base HF3.out (by omega), by omega, HFC.out.le (by omega), HFG.out⟩
end Go.Proofs.YtmcimgnobimicaaGreat
