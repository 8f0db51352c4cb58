/- laws.markClassS writes numbers and texts into a slice of classes. Conditions: a slice of the caller's own, at most 1048576 elements, small numbers. -/
import Derived.Test.YtoodomaecgankaaMarkText
namespace Go.Proofs.Ytoodomaecgankaa
open Go.RowKit Go.Ori
def markCls (k : Int) : Cls := ⟨k, markStr (k + 1), k + 1 + 1, k + 1 + 1 + 1, (k + 1 + 1 + 1 + 1) % 3 == 0, (k + 1 + 1 + 1 + 1 + 1) % 3 == 0, k + 1 + 1 + 1 + 1 + 1 + 1, k + 1 + 1 + 1 + 1 + 1 + 1 + 1⟩
def markClss (k : Int) (n : Nat) : List Cls := (List.range n).map fun i : Nat => markCls (k + 8 * (i : Int))
theorem markClss_length (k : Int) (n : Nat) : (markClss k n).length = n := by simp [markClss]
theorem markClss_get (k : Int) (n i : Nat) (h : i < (markClss k n).length) : (markClss k n)[i] = markCls (k + 8 * (i : Int)) := by simp [markClss]
set_option maxHeartbeats 2000000 in
theorem markClassS_any (W : World) (v : Value) (n : Nat) (l : List Cls) (w : World) (B : Nat) (k0 : Int) (h0 : 0 ≤ k0) (h1 : k0 ≤ 16777216) (hl : l.length ≤ 1048576) (hn : l.length = n)
    (h : w.own B 41 Cls.cells 8 v l) (hW : ∃ d, w = W.ext d) (hB : W.heap.size ≤ B) :
    Calls Try.prog 11 #[v, .int .i64 k0] w fun x w' => x = .returned (.int .i64 (k0 + 8 * (n : Int))) ∧ w'.own B 41 Cls.cells 8 v (markClss k0 n) ∧ w.grownBy w' v.ownBlock ∧ ∃ d, w' = W.ext d := by
  subst hn
  obtain ⟨_, ⟨rfl, hn0⟩ | ⟨g, cap, C0, rfl, hg, hh, hle, hcap, hs, _⟩⟩ := h
  · have hl0 : l = [] := List.eq_nil_of_length_eq_zero hn0
    subst hl0
    go_enter Try.func11, Try.ntmps11
    go_wp2
    go_loop [1, 5] (fun t i => t = .int .i64 k0 ∧ i = .int .i64 0) (fun _ _ => 0)
    case atStart => exact ⟨rfl, rfl⟩
    case round =>
      obtain ⟨rfl, rfl⟩ := hrel
      go_wp2
      go_ret
      exact ⟨by simp, own_nil _ _ _ _ _, only_refl _ _, hW⟩
  · have HS := Lib.hid hs
    have HM := Lib.hid hcap
    have HW := Lib.hid hW
    clear hs hcap hW
    go_enter Try.func11, Try.ntmps11
    go_wp2
    go_loopw [1, 5] (fun t i wr => ∃ k : Nat, k ≤ l.length ∧ i = .int .i64 k ∧ t = .int .i64 (k0 + 8 * (k : Int)) ∧ w.grownBy wr (some g) ∧ (∃ d, wr = W.ext d) ∧ ∃ C, wr.heap[g]? = some (.cells C 41 (0, 0)) ∧ C.size = cap * 8 ∧ ∀ j, j < k * 8 → C[j]? = ((markClss k0 l.length).flatMap Cls.cells)[j]?) (fun _ i _ => l.length - (intOf i).toNat)
    case atStart => exact ⟨0, by omega, rfl, by simp, only_refl _ _, HW.out, C0, hh, HS.out, by simp⟩
    case round =>
      obtain ⟨k, hk, rfl, rfl, hgr, hwr, C, hC, hCs, hCk⟩ := hrel
      have HGR := Lib.hid hgr
      have HWR := Lib.hid hwr
      have HLEN := Lib.hid (markClss_length k0 l.length)
      by_cases hlt : k < l.length
      · have hfl := flat_get Cls.cells_length (markClss k0 l.length) k (by rw [HLEN.out]; exact hlt)
        rw [markClss_get] at hfl
        obtain ⟨x0, hx0⟩ : ∃ x, C[k * 8]? = some x := ⟨C[k * 8]'(by omega), by rw [Array.getElem?_eq_getElem]⟩
        have t0 : wr.cell? ⟨g, k * 8, none⟩ = some x0 := by rw [World.cell_of_heap hC]; exact hx0
        have z0 : wr.frozen? ⟨g, k * 8, none⟩ = false := World.free_of_heap hC _
        obtain ⟨x1, hx1⟩ : ∃ x, C[k * 8 + 1]? = some x := ⟨C[k * 8 + 1]'(by omega), by rw [Array.getElem?_eq_getElem]⟩
        have t1 : wr.cell? ⟨g, k * 8 + 1, none⟩ = some x1 := by rw [World.cell_of_heap hC]; exact hx1
        have z1 : wr.frozen? ⟨g, k * 8 + 1, none⟩ = false := World.free_of_heap hC _
        obtain ⟨x2, hx2⟩ : ∃ x, C[k * 8 + 2]? = some x := ⟨C[k * 8 + 2]'(by omega), by rw [Array.getElem?_eq_getElem]⟩
        have t2 : wr.cell? ⟨g, k * 8 + 2, none⟩ = some x2 := by rw [World.cell_of_heap hC]; exact hx2
        have z2 : wr.frozen? ⟨g, k * 8 + 2, none⟩ = false := World.free_of_heap hC _
        obtain ⟨x3, hx3⟩ : ∃ x, C[k * 8 + 3]? = some x := ⟨C[k * 8 + 3]'(by omega), by rw [Array.getElem?_eq_getElem]⟩
        have t3 : wr.cell? ⟨g, k * 8 + 3, none⟩ = some x3 := by rw [World.cell_of_heap hC]; exact hx3
        have z3 : wr.frozen? ⟨g, k * 8 + 3, none⟩ = false := World.free_of_heap hC _
        obtain ⟨x4, hx4⟩ : ∃ x, C[k * 8 + 4]? = some x := ⟨C[k * 8 + 4]'(by omega), by rw [Array.getElem?_eq_getElem]⟩
        have t4 : wr.cell? ⟨g, k * 8 + 4, none⟩ = some x4 := by rw [World.cell_of_heap hC]; exact hx4
        have z4 : wr.frozen? ⟨g, k * 8 + 4, none⟩ = false := World.free_of_heap hC _
        obtain ⟨x5, hx5⟩ : ∃ x, C[k * 8 + 5]? = some x := ⟨C[k * 8 + 5]'(by omega), by rw [Array.getElem?_eq_getElem]⟩
        have t5 : wr.cell? ⟨g, k * 8 + 5, none⟩ = some x5 := by rw [World.cell_of_heap hC]; exact hx5
        have z5 : wr.frozen? ⟨g, k * 8 + 5, none⟩ = false := World.free_of_heap hC _
        obtain ⟨x6, hx6⟩ : ∃ x, C[k * 8 + 6]? = some x := ⟨C[k * 8 + 6]'(by omega), by rw [Array.getElem?_eq_getElem]⟩
        have t6 : wr.cell? ⟨g, k * 8 + 6, none⟩ = some x6 := by rw [World.cell_of_heap hC]; exact hx6
        have z6 : wr.frozen? ⟨g, k * 8 + 6, none⟩ = false := World.free_of_heap hC _
        obtain ⟨x7, hx7⟩ : ∃ x, C[k * 8 + 7]? = some x := ⟨C[k * 8 + 7]'(by omega), by rw [Array.getElem?_eq_getElem]⟩
        have t7 : wr.cell? ⟨g, k * 8 + 7, none⟩ = some x7 := by rw [World.cell_of_heap hC]; exact hx7
        have z7 : wr.frozen? ⟨g, k * 8 + 7, none⟩ = false := World.free_of_heap hC _
        have HC := Lib.hid hC
        have HCS := Lib.hid hCs
        have HCK := Lib.hid hCk
        have HF := Lib.hid hfl
        have HH := Lib.hid hh
        clear hC hCs hCk hgr hwr hh hfl hx0 hx1 hx2 hx3 hx4 hx5 hx6 hx7
        have obg := World.oldB_of_heap HC.out
        go_wp2_with (go_at_call 37; refine (markText_any _ _ (by omega) (by omega)).mono ?_; rintro e w1 ⟨rfl, d1, rfl⟩)
        go_roundw
        case rel =>
          refine ⟨k + 1, by omega, by go_num, by go_num, (only_setCell (only_setCell (only_setCell (only_setCell (only_setCell (only_setCell (only_setCell (only_ext (only_setCell HGR.out rfl _) _) rfl _) rfl _) rfl _) rfl _) rfl _) rfl _) rfl _), (gain_setCell (gain_setCell (gain_setCell (gain_setCell (gain_setCell (gain_setCell (gain_setCell (gain_ext (gain_setCell HWR.out (Nat.le_trans hB hg) _) _) (Nat.le_trans hB hg) _) (Nat.le_trans hB hg) _) (Nat.le_trans hB hg) _) (Nat.le_trans hB hg) _) (Nat.le_trans hB hg) _) (Nat.le_trans hB hg) _) (Nat.le_trans hB hg) _), _, (World.heap_setCell_row (World.heap_setCell_row (World.heap_setCell_row (World.heap_setCell_row (World.heap_setCell_row (World.heap_setCell_row (World.heap_setCell_row (World.heap_ext_old _ (World.heap_setCell_row HC.out _ _)) _ _) _ _) _ _) _ _) _ _) _ _) _ _), by simp [HCS.out], fun j hj => ?_⟩
          rcases (by omega : j < k * 8 ∨ j = k * 8 + 0 ∨ j = k * 8 + 1 ∨ j = k * 8 + 2 ∨ j = k * 8 + 3 ∨ j = k * 8 + 4 ∨ j = k * 8 + 5 ∨ j = k * 8 + 6 ∨ j = k * 8 + 7) with hj | rfl | rfl | rfl | rfl | rfl | rfl | rfl | rfl
          · have hq := HCK.out j hj
            simp only [Array.getElem?_setIfInBounds, Array.size_setIfInBounds]
            rw [← hq]; repeat rw [if_neg (by omega)]
          · rw [HF.out 0 (by omega)]
            have hs := HCS.out
            simp only [Array.getElem?_setIfInBounds, Array.size_setIfInBounds, Nat.add_zero, Cls.cells, markCls, List.getElem?_cons_zero, List.getElem?_cons_succ]
            repeat first | rw [if_pos trivial] | rw [if_neg (by omega)] | rw [if_pos (by omega)]
            try first | rfl | (congr 2; omega) | (simp; done)
          · rw [HF.out 1 (by omega)]
            have hs := HCS.out
            simp only [Array.getElem?_setIfInBounds, Array.size_setIfInBounds, Nat.add_zero, Cls.cells, markCls, List.getElem?_cons_zero, List.getElem?_cons_succ]
            repeat first | rw [if_pos trivial] | rw [if_neg (by omega)] | rw [if_pos (by omega)]
            try first | rfl | (congr 2; omega) | (simp; done)
          · rw [HF.out 2 (by omega)]
            have hs := HCS.out
            simp only [Array.getElem?_setIfInBounds, Array.size_setIfInBounds, Nat.add_zero, Cls.cells, markCls, List.getElem?_cons_zero, List.getElem?_cons_succ]
            repeat first | rw [if_pos trivial] | rw [if_neg (by omega)] | rw [if_pos (by omega)]
            try first | rfl | (congr 2; omega) | (simp; done)
          · rw [HF.out 3 (by omega)]
            have hs := HCS.out
            simp only [Array.getElem?_setIfInBounds, Array.size_setIfInBounds, Nat.add_zero, Cls.cells, markCls, List.getElem?_cons_zero, List.getElem?_cons_succ]
            repeat first | rw [if_pos trivial] | rw [if_neg (by omega)] | rw [if_pos (by omega)]
            try first | rfl | (congr 2; omega) | (simp; done)
          · rw [HF.out 4 (by omega)]
            have hs := HCS.out
            simp only [Array.getElem?_setIfInBounds, Array.size_setIfInBounds, Nat.add_zero, Cls.cells, markCls, List.getElem?_cons_zero, List.getElem?_cons_succ]
            repeat first | rw [if_pos trivial] | rw [if_neg (by omega)] | rw [if_pos (by omega)]
            try first | rfl | (congr 2; omega) | (simp; done)
          · rw [HF.out 5 (by omega)]
            have hs := HCS.out
            simp only [Array.getElem?_setIfInBounds, Array.size_setIfInBounds, Nat.add_zero, Cls.cells, markCls, List.getElem?_cons_zero, List.getElem?_cons_succ]
            repeat first | rw [if_pos trivial] | rw [if_neg (by omega)] | rw [if_pos (by omega)]
            try first | rfl | (congr 2; omega) | (simp; done)
          · rw [HF.out 6 (by omega)]
            have hs := HCS.out
            simp only [Array.getElem?_setIfInBounds, Array.size_setIfInBounds, Nat.add_zero, Cls.cells, markCls, List.getElem?_cons_zero, List.getElem?_cons_succ]
            repeat first | rw [if_pos trivial] | rw [if_neg (by omega)] | rw [if_pos (by omega)]
            try first | rfl | (congr 2; omega) | (simp; done)
          · rw [HF.out 7 (by omega)]
            have hs := HCS.out
            simp only [Array.getElem?_setIfInBounds, Array.size_setIfInBounds, Nat.add_zero, Cls.cells, markCls, List.getElem?_cons_zero, List.getElem?_cons_succ]
            repeat first | rw [if_pos trivial] | rw [if_neg (by omega)] | rw [if_pos (by omega)]
            try first | rfl | (congr 2; omega) | (simp; done)
        case measure => simp [intOf]; omega
      · clear hgr hwr hh
        have HC := Lib.hid hC
        have HCS := Lib.hid hCs
        have HCK := Lib.hid hCk
        clear hC hCs hCk
        go_wp2
        go_ret
        obtain rfl : k = l.length := by omega
        refine ⟨rfl, ?_, HGR.out, HWR.out⟩
        have ho := owns_of_row (base := B) (enc := Cls.cells) (sz := 8) (l := markClss k0 l.length) (cap := cap) Cls.cells_length HC.out hg HCS.out (by rw [HLEN.out]; exact hle) HM.out (fun j hj => by
          rw [HLEN.out] at hj
          exact HCK.out j hj)
        rw [HLEN.out] at ho
        unfold World.own
        rw [HLEN.out]
        exact ho
end Go.Proofs.Ytoodomaecgankaa
