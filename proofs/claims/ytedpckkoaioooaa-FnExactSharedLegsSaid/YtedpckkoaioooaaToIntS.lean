/- laws.toIntS: a copy in new memory. Condition: at most 1048576 elements. -/
import Derived.Test.YtedpckkoaioooaaRows
import Derived.Test.YtedpckkoaioooaaPlain
import Derived.Test.YtedpckkoaioooaaOwn
import Derived.Test.YtedpckkoaioooaaInfoInt
namespace Go.Proofs.Ytedpckkoaioooaa
open Go.RowKit Go.Ori
set_option maxHeartbeats 400000 in
theorem toIntS_any (v : Value) (l : List Int) (w : World) (h : w.sl intC 1 v l) (hl : l.length ≤ 1048576) :
    Calls Try.prog 56 #[v] w fun x w' => ∃ v', x = .returned v' ∧ (∃ d, w' = w.ext d) ∧ w'.own w.heap.size 3 intC 1 v' l := by
  obtain ⟨p, c, rfl, hp, hcap⟩ := h
  have hmk := fun w => run_make_rows (P := Try.prog) Try.underlying24 info_int l.length hl (by omega) w
  go_enter Try.func56, Try.ntmps56
  go_wp2
  clear hmk
  go_loopw [4] (fun i wr => ∃ k : Nat, k ≤ l.length ∧ i = .int .i64 k ∧ (∃ d, wr = w.ext d) ∧ ∃ C, wr.heap[w.heap.size]? = some (.cells C 3 (0, 0)) ∧ C.size = l.length * 1 ∧ ∀ j, j < k * 1 → C[j]? = (l.flatMap intC)[j]?) (fun i _ => l.length - (intOf i).toNat)
  case atStart => exact ⟨0, by omega, rfl, gain_alloc w.gained_refl _, _, heap_alloc_new w _, (size_madeCells _ _).trans (by omega), by simp⟩
  case round =>
    obtain ⟨k, hk, rfl, ⟨d, rfl⟩, C, hC, hCs, hCk⟩ := hrel
    have hn := World.newB_of_heap hC
    by_cases hlt : k < l.length
    · obtain ⟨b, o, rfl, hc⟩ := hp (by omega)
      have c0 := hc k hlt 0 (by omega)
      simp only [intC, List.getElem?_cons_zero, Nat.add_zero, Nat.mul_one] at c0
      have ob := World.oldB_of_cell c0
      obtain ⟨x0, hx0⟩ : ∃ x, C[k]? = some x := ⟨C[k]'(by omega), by simp [hCs, hlt]⟩
      have t0 : (w.ext d).cell? ⟨w.heap.size, k, none⟩ = some x0 := by rw [World.cell_of_heap hC]; exact hx0
      clear hx0
      have z0 : (w.ext d).frozen? ⟨w.heap.size, k, none⟩ = false := World.free_of_heap hC k
      have HC := Lib.hid hC
      have HK := Lib.hid hCk
      have HCS := Lib.hid hCs
      have HX := Lib.hid hc
      clear hC hCk hCs hp hc
      go_wp2
      go_roundw
      case rel =>
        refine ⟨k + 1, by omega, by go_num, gain_setCell ⟨_, rfl⟩ (Nat.le_refl _) _, _, World.heap_setCell_row HC.out _ _, by simp [HCS.out], fun j hj => ?_⟩
        rw [Array.getElem?_setIfInBounds]
        split
        · rename_i hjk
          subst hjk
          have := flat_get intC_length l k hlt 0 (by omega)
          simp only [Nat.mul_one, Nat.add_zero] at this
          rw [this, if_pos (by rw [HCS.out]; omega)]
          simp [intC]
        · exact HK.out j (by omega)
      case measure => simp [intOf]; omega
    · go_wp2
      go_ret
      obtain rfl : k = l.length := by omega
      exact ⟨_, rfl, ⟨_, rfl⟩, owns_of_row intC_length hC (Nat.le_refl _) hCs (Nat.le_refl _) (le_maxLen hl) hCk⟩
end Go.Proofs.Ytedpckkoaioooaa
