/- laws.toEntryS: a copy of entries in new memory. Condition: at most 1048576 elements. -/
import Derived.Test.YtnpfghpjlbjpnaaRows
import Derived.Test.YtnpfghpjlbjpnaaPlain
namespace Go.Proofs.Ytnpfghpjlbjpnaa
open Go.RowKit Go.Ori
set_option maxHeartbeats 400000 in
theorem toEntry_any (e : Ent) (w : World) :
    Calls Try.prog 7 #[.agg #[.int .i64 e.runner, .int .i64 e.cls, .int .i64 e.day, .bool e.rent, .int .i64 e.paid]] w fun x w1 => x = .returned (.agg #[.int .i64 e.runner, .int .i64 e.cls, .int .i64 e.day, .bool e.rent, .int .i64 e.paid]) ∧ ∃ d, w1 = w.ext d := by
  go_enter Try.func7, Try.ntmps7
  go_wp2
  refine bodyPost_ret (v := .agg #[.int .i64 e.runner, .int .i64 e.cls, .int .i64 e.day, .bool e.rent, .int .i64 e.paid]) (by simp [results, Try.results7, go_sem]) rfl ?_
  refine ⟨rfl, ?_⟩
  (repeat (first | exact World.gained_refl _ | exact ⟨_, rfl⟩ | apply gain_ext | apply gain_alloc | apply gain_drewN | apply gain_drew | (refine gain_setCell ?_ (by first | exact Nat.le_refl _ | exact World.size_ext _ _ | (simp; done) | (simp; omega)) _)))
theorem info_toEntryS_any : (Try.prog.info? 30).map (fun i => (i.zero, i.size, i.bytes)) = some (some (.agg #[.int .i64 0, .int .i64 0, .int .i64 0, .bool false, .int .i64 0]), 5, 40) := by kernel_rfl
set_option maxHeartbeats 1000000 in
theorem toEntryS_any (v : Value) (l : List Ent) (w : World) (h : w.sl Ent.cells 5 v l) (hl : l.length ≤ 1048576) :
    Calls Try.prog 6 #[v] w fun x w' => ∃ v', x = .returned v' ∧ (∃ d, w' = w.ext d) ∧ w'.own w.heap.size 30 Ent.cells 5 v' l := by
  obtain ⟨p, c, rfl, hp, hcap⟩ := h
  have hmk := fun w => run_make_rows (P := Try.prog) Try.underlying26 info_toEntryS_any l.length hl (by omega) w
  go_enter Try.func6, Try.ntmps6
  go_wp2
  clear hmk
  go_loopw [4] (fun i wr => ∃ k : Nat, k ≤ l.length ∧ i = .int .i64 k ∧ (∃ d, wr = w.ext d) ∧ ∃ C, wr.heap[w.heap.size]? = some (.cells C 30 (0, 0)) ∧ C.size = l.length * 5 ∧ ∀ j, j < k * 5 → C[j]? = (l.flatMap Ent.cells)[j]?) (fun i _ => l.length - (intOf i).toNat)
  case atStart => exact ⟨0, by omega, rfl, gain_alloc w.gained_refl _, _, heap_alloc_new w _, (size_madeCells _ _), by simp⟩
  case round =>
    obtain ⟨k, hk, rfl, ⟨d, rfl⟩, C, hC, hCs, hCk⟩ := hrel
    have hn := World.newB_of_heap hC
    by_cases hlt : k < l.length
    · obtain ⟨b, o, rfl, hc⟩ := hp (by omega)
      have hck := hc k hlt
      have hfl := flat_get Ent.cells_length l k hlt
      have c0 := hck 0 (by omega)
      have c1 := hck 1 (by omega)
      have c2 := hck 2 (by omega)
      have c3 := hck 3 (by omega)
      have c4 := hck 4 (by omega)
      generalize l[k] = e at c0 c1 c2 c3 c4 hfl hck
      simp only [Ent.cells, List.getElem?_cons_zero, List.getElem?_cons_succ, Nat.add_zero] at c0 c1 c2 c3 c4
      have ob := World.oldB_of_cell c0
      obtain ⟨x0, hx0⟩ : ∃ x, C[k * 5]? = some x := ⟨C[k * 5]'(by omega), by rw [Array.getElem?_eq_getElem]⟩
      have t0 : (w.ext d).cell? ⟨w.heap.size, k * 5, none⟩ = some x0 := by rw [World.cell_of_heap hC]; exact hx0
      have z0 : (w.ext d).frozen? ⟨w.heap.size, k * 5, none⟩ = false := World.free_of_heap hC _
      obtain ⟨x1, hx1⟩ : ∃ x, C[k * 5 + 1]? = some x := ⟨C[k * 5 + 1]'(by omega), by rw [Array.getElem?_eq_getElem]⟩
      have t1 : (w.ext d).cell? ⟨w.heap.size, k * 5 + 1, none⟩ = some x1 := by rw [World.cell_of_heap hC]; exact hx1
      have z1 : (w.ext d).frozen? ⟨w.heap.size, k * 5 + 1, none⟩ = false := World.free_of_heap hC _
      obtain ⟨x2, hx2⟩ : ∃ x, C[k * 5 + 2]? = some x := ⟨C[k * 5 + 2]'(by omega), by rw [Array.getElem?_eq_getElem]⟩
      have t2 : (w.ext d).cell? ⟨w.heap.size, k * 5 + 2, none⟩ = some x2 := by rw [World.cell_of_heap hC]; exact hx2
      have z2 : (w.ext d).frozen? ⟨w.heap.size, k * 5 + 2, none⟩ = false := World.free_of_heap hC _
      obtain ⟨x3, hx3⟩ : ∃ x, C[k * 5 + 3]? = some x := ⟨C[k * 5 + 3]'(by omega), by rw [Array.getElem?_eq_getElem]⟩
      have t3 : (w.ext d).cell? ⟨w.heap.size, k * 5 + 3, none⟩ = some x3 := by rw [World.cell_of_heap hC]; exact hx3
      have z3 : (w.ext d).frozen? ⟨w.heap.size, k * 5 + 3, none⟩ = false := World.free_of_heap hC _
      obtain ⟨x4, hx4⟩ : ∃ x, C[k * 5 + 4]? = some x := ⟨C[k * 5 + 4]'(by omega), by rw [Array.getElem?_eq_getElem]⟩
      have t4 : (w.ext d).cell? ⟨w.heap.size, k * 5 + 4, none⟩ = some x4 := by rw [World.cell_of_heap hC]; exact hx4
      have z4 : (w.ext d).frozen? ⟨w.heap.size, k * 5 + 4, none⟩ = false := World.free_of_heap hC _
      have HC := Lib.hid hC
      have HK := Lib.hid hCk
      have HCS := Lib.hid hCs
      have HF := Lib.hid hfl
      clear hC hCk hCs hp hc hck hfl hx0 hx1 hx2 hx3 hx4
      go_wp2_with (go_at_call 7; refine (toEntry_any _ _).mono ?_; rintro e w1 ⟨rfl, d1, rfl⟩)
      go_roundw
      case rel =>
        have HR := World.heap_ext_old d1 HC.out
        refine ⟨k + 1, by omega, by go_num, gain_setCell (gain_setCell (gain_setCell (gain_setCell (gain_setCell (gain_ext ⟨_, rfl⟩ _) (Nat.le_refl _) _) (Nat.le_refl _) _) (Nat.le_refl _) _) (Nat.le_refl _) _) (Nat.le_refl _) _, _, (World.heap_setCell_row (World.heap_setCell_row (World.heap_setCell_row (World.heap_setCell_row (World.heap_setCell_row HR _ _) _ _) _ _) _ _) _ _), by simp [HCS.out], fun j hj => ?_⟩
        rcases (by omega : j < k * 5 ∨ j = k * 5 + 0 ∨ j = k * 5 + 1 ∨ j = k * 5 + 2 ∨ j = k * 5 + 3 ∨ j = k * 5 + 4) with hj | rfl | rfl | rfl | rfl | rfl
        · have hq := HK.out j hj
          simp only [Array.getElem?_setIfInBounds, Array.size_setIfInBounds]
          rw [← hq]; repeat rw [if_neg (by omega)]
        · rw [HF.out 0 (by omega)]
          have hs := HCS.out
          simp only [Array.getElem?_setIfInBounds, Array.size_setIfInBounds, Nat.add_zero, Ent.cells, List.getElem?_cons_zero, List.getElem?_cons_succ]
          repeat first | rw [if_pos trivial] | rw [if_neg (by omega)] | rw [if_pos (by omega)]
        · rw [HF.out 1 (by omega)]
          have hs := HCS.out
          simp only [Array.getElem?_setIfInBounds, Array.size_setIfInBounds, Nat.add_zero, Ent.cells, List.getElem?_cons_zero, List.getElem?_cons_succ]
          repeat first | rw [if_pos trivial] | rw [if_neg (by omega)] | rw [if_pos (by omega)]
        · rw [HF.out 2 (by omega)]
          have hs := HCS.out
          simp only [Array.getElem?_setIfInBounds, Array.size_setIfInBounds, Nat.add_zero, Ent.cells, List.getElem?_cons_zero, List.getElem?_cons_succ]
          repeat first | rw [if_pos trivial] | rw [if_neg (by omega)] | rw [if_pos (by omega)]
        · rw [HF.out 3 (by omega)]
          have hs := HCS.out
          simp only [Array.getElem?_setIfInBounds, Array.size_setIfInBounds, Nat.add_zero, Ent.cells, List.getElem?_cons_zero, List.getElem?_cons_succ]
          repeat first | rw [if_pos trivial] | rw [if_neg (by omega)] | rw [if_pos (by omega)]
        · rw [HF.out 4 (by omega)]
          have hs := HCS.out
          simp only [Array.getElem?_setIfInBounds, Array.size_setIfInBounds, Nat.add_zero, Ent.cells, List.getElem?_cons_zero, List.getElem?_cons_succ]
          repeat first | rw [if_pos trivial] | rw [if_neg (by omega)] | rw [if_pos (by omega)]
      case measure => simp [intOf]; omega
    · go_wp2
      go_ret
      obtain rfl : k = l.length := by omega
      exact ⟨_, rfl, ⟨_, rfl⟩, owns_of_row Ent.cells_length hC (Nat.le_refl _) hCs (Nat.le_refl _) (le_maxLen hl) hCk⟩
end Go.Proofs.Ytnpfghpjlbjpnaa
