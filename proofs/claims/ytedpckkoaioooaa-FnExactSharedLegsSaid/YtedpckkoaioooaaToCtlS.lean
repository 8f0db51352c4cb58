/- laws.toControlS: a copy of controls in new memory. Condition: at most 1048576 elements. -/
import Derived.Test.YtedpckkoaioooaaRows
import Derived.Test.YtedpckkoaioooaaPlain
namespace Go.Proofs.Ytedpckkoaioooaa
open Go.RowKit Go.Ori
set_option maxHeartbeats 400000 in
theorem toControl_any (e : Ctl) (w : World) :
    Calls Try.prog 112 #[.agg #[.int .i64 e.code, .int .i64 e.cell]] w fun x w1 => x = .returned (.agg #[.int .i64 e.code, .int .i64 e.cell]) ∧ ∃ d, w1 = w.ext d := by
  go_enter Try.func112, Try.ntmps112
  go_wp2
  refine bodyPost_ret (v := .agg #[.int .i64 e.code, .int .i64 e.cell]) (by simp [results, Try.results112, go_sem]) rfl ?_
  refine ⟨rfl, ?_⟩
  (repeat (first | exact World.gained_refl _ | exact ⟨_, rfl⟩ | apply gain_ext | apply gain_alloc | apply gain_drewN | apply gain_drew | (refine gain_setCell ?_ (by first | exact Nat.le_refl _ | exact World.size_ext _ _ | (simp; done) | (simp; omega)) _)))
theorem info_toControlS_any : (Try.prog.info? 46).map (fun i => (i.zero, i.size, i.bytes)) = some (some (.agg #[.int .i64 0, .int .i64 0]), 2, 16) := by kernel_rfl
set_option maxHeartbeats 1000000 in
theorem toControlS_any (v : Value) (l : List Ctl) (w : World) (h : w.sl Ctl.cells 2 v l) (hl : l.length ≤ 1048576) :
    Calls Try.prog 55 #[v] w fun x w' => ∃ v', x = .returned v' ∧ (∃ d, w' = w.ext d) ∧ w'.own w.heap.size 46 Ctl.cells 2 v' l := by
  obtain ⟨p, c, rfl, hp, hcap⟩ := h
  have hmk := fun w => run_make_rows (P := Try.prog) Try.underlying27 info_toControlS_any l.length hl (by omega) w
  go_enter Try.func55, Try.ntmps55
  go_wp2
  clear hmk
  go_loopw [4] (fun i wr => ∃ k : Nat, k ≤ l.length ∧ i = .int .i64 k ∧ (∃ d, wr = w.ext d) ∧ ∃ C, wr.heap[w.heap.size]? = some (.cells C 46 (0, 0)) ∧ C.size = l.length * 2 ∧ ∀ j, j < k * 2 → C[j]? = (l.flatMap Ctl.cells)[j]?) (fun i _ => l.length - (intOf i).toNat)
  case atStart => exact ⟨0, by omega, rfl, gain_alloc w.gained_refl _, _, heap_alloc_new w _, (size_madeCells _ _), by simp⟩
  case round =>
    obtain ⟨k, hk, rfl, ⟨d, rfl⟩, C, hC, hCs, hCk⟩ := hrel
    have hn := World.newB_of_heap hC
    by_cases hlt : k < l.length
    · obtain ⟨b, o, rfl, hc⟩ := hp (by omega)
      have hck := hc k hlt
      have hfl := flat_get Ctl.cells_length l k hlt
      have c0 := hck 0 (by omega)
      have c1 := hck 1 (by omega)
      generalize l[k] = e at c0 c1 hfl hck
      simp only [Ctl.cells, List.getElem?_cons_zero, List.getElem?_cons_succ, Nat.add_zero] at c0 c1
      have ob := World.oldB_of_cell c0
      obtain ⟨x0, hx0⟩ : ∃ x, C[k * 2]? = some x := ⟨C[k * 2]'(by omega), by rw [Array.getElem?_eq_getElem]⟩
      have t0 : (w.ext d).cell? ⟨w.heap.size, k * 2, none⟩ = some x0 := by rw [World.cell_of_heap hC]; exact hx0
      have z0 : (w.ext d).frozen? ⟨w.heap.size, k * 2, none⟩ = false := World.free_of_heap hC _
      obtain ⟨x1, hx1⟩ : ∃ x, C[k * 2 + 1]? = some x := ⟨C[k * 2 + 1]'(by omega), by rw [Array.getElem?_eq_getElem]⟩
      have t1 : (w.ext d).cell? ⟨w.heap.size, k * 2 + 1, none⟩ = some x1 := by rw [World.cell_of_heap hC]; exact hx1
      have z1 : (w.ext d).frozen? ⟨w.heap.size, k * 2 + 1, none⟩ = false := World.free_of_heap hC _
      have HC := Lib.hid hC
      have HK := Lib.hid hCk
      have HCS := Lib.hid hCs
      have HF := Lib.hid hfl
      clear hC hCk hCs hp hc hck hfl hx0 hx1
      go_wp2_with (go_at_call 112; refine (toControl_any _ _).mono ?_; rintro e w1 ⟨rfl, d1, rfl⟩)
      go_roundw
      case rel =>
        have HR := World.heap_ext_old d1 HC.out
        refine ⟨k + 1, by omega, by go_num, gain_setCell (gain_setCell (gain_ext ⟨_, rfl⟩ _) (Nat.le_refl _) _) (Nat.le_refl _) _, _, (World.heap_setCell_row (World.heap_setCell_row HR _ _) _ _), by simp [HCS.out], fun j hj => ?_⟩
        rcases (by omega : j < k * 2 ∨ j = k * 2 + 0 ∨ j = k * 2 + 1) with hj | rfl | rfl
        · have hq := HK.out j hj
          simp only [Array.getElem?_setIfInBounds, Array.size_setIfInBounds]
          rw [← hq]; repeat rw [if_neg (by omega)]
        · rw [HF.out 0 (by omega)]
          have hs := HCS.out
          simp only [Array.getElem?_setIfInBounds, Array.size_setIfInBounds, Nat.add_zero, Ctl.cells, List.getElem?_cons_zero, List.getElem?_cons_succ]
          repeat first | rw [if_pos trivial] | rw [if_neg (by omega)] | rw [if_pos (by omega)]
        · rw [HF.out 1 (by omega)]
          have hs := HCS.out
          simp only [Array.getElem?_setIfInBounds, Array.size_setIfInBounds, Nat.add_zero, Ctl.cells, List.getElem?_cons_zero, List.getElem?_cons_succ]
          repeat first | rw [if_pos trivial] | rw [if_neg (by omega)] | rw [if_pos (by omega)]
      case measure => simp [intOf]; omega
    · go_wp2
      go_ret
      obtain rfl : k = l.length := by omega
      exact ⟨_, rfl, ⟨_, rfl⟩, owns_of_row Ctl.cells_length hC (Nat.le_refl _) hCs (Nat.le_refl _) (le_maxLen hl) hCk⟩
end Go.Proofs.Ytedpckkoaioooaa
