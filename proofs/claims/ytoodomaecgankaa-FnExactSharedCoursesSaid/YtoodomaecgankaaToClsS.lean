/- laws.toClassS: a copy in new memory. Condition: at most 1048576 elements. -/
import Derived.Test.YtoodomaecgankaaToCls
namespace Go.Proofs.Ytoodomaecgankaa
open Go.RowKit Go.Ori
theorem info_toClassS_any : (Try.prog.info? 41).map (fun i => (i.zero, i.size, i.bytes)) = some (some (.agg #[.int .i64 0, .string ByteArray.empty, .int .i64 0, .int .i64 0, .bool false, .bool false, .int .i64 0, .int .i64 0]), 8, 64) := by kernel_rfl
set_option maxHeartbeats 1000000 in
theorem toClassS_any (v : Value) (l : List Cls) (w : World) (h : w.sl Cls.cells 8 v l) (hl : l.length ≤ 1048576) :
    Calls Try.prog 7 #[v] w fun x w' => ∃ v', x = .returned v' ∧ (∃ d, w' = w.ext d) ∧ w'.own w.heap.size 41 Cls.cells 8 v' l := by
  obtain ⟨p, c, rfl, hp, hcap⟩ := h
  have hmk := fun w => run_make_rows (P := Try.prog) Try.underlying27 info_toClassS_any l.length hl (by omega) w
  go_enter Try.func7, Try.ntmps7
  go_wp2
  clear hmk
  go_loopw [4] (fun i wr => ∃ k : Nat, k ≤ l.length ∧ i = .int .i64 k ∧ (∃ d, wr = w.ext d) ∧ ∃ C, wr.heap[w.heap.size]? = some (.cells C 41 (0, 0)) ∧ C.size = l.length * 8 ∧ ∀ j, j < k * 8 → C[j]? = (l.flatMap Cls.cells)[j]?) (fun i _ => l.length - (intOf i).toNat)
  case atStart => exact ⟨0, by omega, rfl, gain_alloc w.gained_refl _, _, heap_alloc_new w _, (size_madeCells _ _), by simp⟩
  case round =>
    obtain ⟨k, hk, rfl, ⟨d, rfl⟩, C, hC, hCs, hCk⟩ := hrel
    have hn := World.newB_of_heap hC
    by_cases hlt : k < l.length
    · obtain ⟨b, o, rfl, hc⟩ := hp (by omega)
      have hck := hc k hlt
      have hfl := flat_get Cls.cells_length l k hlt
      have c0 := hck 0 (by omega)
      have c1 := hck 1 (by omega)
      have c2 := hck 2 (by omega)
      have c3 := hck 3 (by omega)
      have c4 := hck 4 (by omega)
      have c5 := hck 5 (by omega)
      have c6 := hck 6 (by omega)
      have c7 := hck 7 (by omega)
      generalize l[k] = e at c0 c1 c2 c3 c4 c5 c6 c7 hfl hck
      simp only [Cls.cells, List.getElem?_cons_zero, List.getElem?_cons_succ, Nat.add_zero] at c0 c1 c2 c3 c4 c5 c6 c7
      have ob := World.oldB_of_cell c0
      obtain ⟨x0, hx0⟩ : ∃ x, C[k * 8]? = some x := ⟨C[k * 8]'(by omega), by rw [Array.getElem?_eq_getElem]⟩
      have t0 : (w.ext d).cell? ⟨w.heap.size, k * 8, none⟩ = some x0 := by rw [World.cell_of_heap hC]; exact hx0
      have z0 : (w.ext d).frozen? ⟨w.heap.size, k * 8, none⟩ = false := World.free_of_heap hC _
      obtain ⟨x1, hx1⟩ : ∃ x, C[k * 8 + 1]? = some x := ⟨C[k * 8 + 1]'(by omega), by rw [Array.getElem?_eq_getElem]⟩
      have t1 : (w.ext d).cell? ⟨w.heap.size, k * 8 + 1, none⟩ = some x1 := by rw [World.cell_of_heap hC]; exact hx1
      have z1 : (w.ext d).frozen? ⟨w.heap.size, k * 8 + 1, none⟩ = false := World.free_of_heap hC _
      obtain ⟨x2, hx2⟩ : ∃ x, C[k * 8 + 2]? = some x := ⟨C[k * 8 + 2]'(by omega), by rw [Array.getElem?_eq_getElem]⟩
      have t2 : (w.ext d).cell? ⟨w.heap.size, k * 8 + 2, none⟩ = some x2 := by rw [World.cell_of_heap hC]; exact hx2
      have z2 : (w.ext d).frozen? ⟨w.heap.size, k * 8 + 2, none⟩ = false := World.free_of_heap hC _
      obtain ⟨x3, hx3⟩ : ∃ x, C[k * 8 + 3]? = some x := ⟨C[k * 8 + 3]'(by omega), by rw [Array.getElem?_eq_getElem]⟩
      have t3 : (w.ext d).cell? ⟨w.heap.size, k * 8 + 3, none⟩ = some x3 := by rw [World.cell_of_heap hC]; exact hx3
      have z3 : (w.ext d).frozen? ⟨w.heap.size, k * 8 + 3, none⟩ = false := World.free_of_heap hC _
      obtain ⟨x4, hx4⟩ : ∃ x, C[k * 8 + 4]? = some x := ⟨C[k * 8 + 4]'(by omega), by rw [Array.getElem?_eq_getElem]⟩
      have t4 : (w.ext d).cell? ⟨w.heap.size, k * 8 + 4, none⟩ = some x4 := by rw [World.cell_of_heap hC]; exact hx4
      have z4 : (w.ext d).frozen? ⟨w.heap.size, k * 8 + 4, none⟩ = false := World.free_of_heap hC _
      obtain ⟨x5, hx5⟩ : ∃ x, C[k * 8 + 5]? = some x := ⟨C[k * 8 + 5]'(by omega), by rw [Array.getElem?_eq_getElem]⟩
      have t5 : (w.ext d).cell? ⟨w.heap.size, k * 8 + 5, none⟩ = some x5 := by rw [World.cell_of_heap hC]; exact hx5
      have z5 : (w.ext d).frozen? ⟨w.heap.size, k * 8 + 5, none⟩ = false := World.free_of_heap hC _
      obtain ⟨x6, hx6⟩ : ∃ x, C[k * 8 + 6]? = some x := ⟨C[k * 8 + 6]'(by omega), by rw [Array.getElem?_eq_getElem]⟩
      have t6 : (w.ext d).cell? ⟨w.heap.size, k * 8 + 6, none⟩ = some x6 := by rw [World.cell_of_heap hC]; exact hx6
      have z6 : (w.ext d).frozen? ⟨w.heap.size, k * 8 + 6, none⟩ = false := World.free_of_heap hC _
      obtain ⟨x7, hx7⟩ : ∃ x, C[k * 8 + 7]? = some x := ⟨C[k * 8 + 7]'(by omega), by rw [Array.getElem?_eq_getElem]⟩
      have t7 : (w.ext d).cell? ⟨w.heap.size, k * 8 + 7, none⟩ = some x7 := by rw [World.cell_of_heap hC]; exact hx7
      have z7 : (w.ext d).frozen? ⟨w.heap.size, k * 8 + 7, none⟩ = false := World.free_of_heap hC _
      have HC := Lib.hid hC
      have HK := Lib.hid hCk
      have HCS := Lib.hid hCs
      have HF := Lib.hid hfl
      clear hC hCk hCs hp hc hck hfl hx0 hx1 hx2 hx3 hx4 hx5 hx6 hx7
      go_wp2_with (go_at_call 31; refine (toClass_any _ _).mono ?_; rintro e w1 ⟨rfl, d1, rfl⟩)
      go_roundw
      case rel =>
        have HR := World.heap_ext_old d1 HC.out
        refine ⟨k + 1, by omega, by go_num, gain_setCell (gain_setCell (gain_setCell (gain_setCell (gain_setCell (gain_setCell (gain_setCell (gain_setCell (gain_ext ⟨_, rfl⟩ _) (Nat.le_refl _) _) (Nat.le_refl _) _) (Nat.le_refl _) _) (Nat.le_refl _) _) (Nat.le_refl _) _) (Nat.le_refl _) _) (Nat.le_refl _) _) (Nat.le_refl _) _, _, (World.heap_setCell_row (World.heap_setCell_row (World.heap_setCell_row (World.heap_setCell_row (World.heap_setCell_row (World.heap_setCell_row (World.heap_setCell_row (World.heap_setCell_row HR _ _) _ _) _ _) _ _) _ _) _ _) _ _) _ _), by simp [HCS.out], fun j hj => ?_⟩
        rcases (by omega : j < k * 8 ∨ j = k * 8 + 0 ∨ j = k * 8 + 1 ∨ j = k * 8 + 2 ∨ j = k * 8 + 3 ∨ j = k * 8 + 4 ∨ j = k * 8 + 5 ∨ j = k * 8 + 6 ∨ j = k * 8 + 7) with hj | rfl | rfl | rfl | rfl | rfl | rfl | rfl | rfl
        · have hq := HK.out j hj
          simp only [Array.getElem?_setIfInBounds, Array.size_setIfInBounds]
          rw [← hq]; repeat rw [if_neg (by omega)]
        · rw [HF.out 0 (by omega)]
          have hs := HCS.out
          simp only [Array.getElem?_setIfInBounds, Array.size_setIfInBounds, Nat.add_zero, Cls.cells, List.getElem?_cons_zero, List.getElem?_cons_succ]
          repeat first | rw [if_pos trivial] | rw [if_neg (by omega)] | rw [if_pos (by omega)]
        · rw [HF.out 1 (by omega)]
          have hs := HCS.out
          simp only [Array.getElem?_setIfInBounds, Array.size_setIfInBounds, Nat.add_zero, Cls.cells, List.getElem?_cons_zero, List.getElem?_cons_succ]
          repeat first | rw [if_pos trivial] | rw [if_neg (by omega)] | rw [if_pos (by omega)]
        · rw [HF.out 2 (by omega)]
          have hs := HCS.out
          simp only [Array.getElem?_setIfInBounds, Array.size_setIfInBounds, Nat.add_zero, Cls.cells, List.getElem?_cons_zero, List.getElem?_cons_succ]
          repeat first | rw [if_pos trivial] | rw [if_neg (by omega)] | rw [if_pos (by omega)]
        · rw [HF.out 3 (by omega)]
          have hs := HCS.out
          simp only [Array.getElem?_setIfInBounds, Array.size_setIfInBounds, Nat.add_zero, Cls.cells, List.getElem?_cons_zero, List.getElem?_cons_succ]
          repeat first | rw [if_pos trivial] | rw [if_neg (by omega)] | rw [if_pos (by omega)]
        · rw [HF.out 4 (by omega)]
          have hs := HCS.out
          simp only [Array.getElem?_setIfInBounds, Array.size_setIfInBounds, Nat.add_zero, Cls.cells, List.getElem?_cons_zero, List.getElem?_cons_succ]
          repeat first | rw [if_pos trivial] | rw [if_neg (by omega)] | rw [if_pos (by omega)]
        · rw [HF.out 5 (by omega)]
          have hs := HCS.out
          simp only [Array.getElem?_setIfInBounds, Array.size_setIfInBounds, Nat.add_zero, Cls.cells, List.getElem?_cons_zero, List.getElem?_cons_succ]
          repeat first | rw [if_pos trivial] | rw [if_neg (by omega)] | rw [if_pos (by omega)]
        · rw [HF.out 6 (by omega)]
          have hs := HCS.out
          simp only [Array.getElem?_setIfInBounds, Array.size_setIfInBounds, Nat.add_zero, Cls.cells, List.getElem?_cons_zero, List.getElem?_cons_succ]
          repeat first | rw [if_pos trivial] | rw [if_neg (by omega)] | rw [if_pos (by omega)]
        · rw [HF.out 7 (by omega)]
          have hs := HCS.out
          simp only [Array.getElem?_setIfInBounds, Array.size_setIfInBounds, Nat.add_zero, Cls.cells, List.getElem?_cons_zero, List.getElem?_cons_succ]
          repeat first | rw [if_pos trivial] | rw [if_neg (by omega)] | rw [if_pos (by omega)]
      case measure => simp [intOf]; omega
    · go_wp2
      go_ret
      obtain rfl : k = l.length := by omega
      exact ⟨_, rfl, ⟨_, rfl⟩, owns_of_row Cls.cells_length hC (Nat.le_refl _) hCs (Nat.le_refl _) (le_maxLen hl) hCk⟩
end Go.Proofs.Ytoodomaecgankaa
