/- laws.markIntS writes numbers into a slice, laws.heldIntS finds them there. Conditions: a slice of the caller's own, at most 1048576 elements, small numbers. -/
import Derived.Test.YtedpckkoaioooaaRows
import Derived.Test.YtedpckkoaioooaaPlain
import Derived.Test.YtedpckkoaioooaaOwn
namespace Go.Proofs.Ytedpckkoaioooaa
open Go.RowKit Go.Ori
def marks (k : Int) (n : Nat) : List Int := (List.range n).map fun i : Nat => k + (i : Int)
theorem marks_length (k : Int) (n : Nat) : (marks k n).length = n := by simp [marks]
theorem marks_get (k : Int) (n i : Nat) (h : i < (marks k n).length) : (marks k n)[i] = k + i := by simp [marks]
set_option maxHeartbeats 400000 in
theorem markIntS_any (W : World) (v : Value) (n : Nat) (l : List Int) (w : World) (B : Nat) (k0 : Int) (h0 : 0 ≤ k0) (h1 : k0 ≤ 16777216) (hl : l.length ≤ 1048576) (hn : l.length = n)
    (h : w.own B 3 intC 1 v l) (hW : ∃ d, w = W.ext d) (hB : W.heap.size ≤ B) :
    Calls Try.prog 64 #[v, .int .i64 k0] w fun x w' => x = .returned (.int .i64 (k0 + (n : Int))) ∧ w'.own B 3 intC 1 v (marks k0 n) ∧ w.grownBy w' v.ownBlock ∧ ∃ d, w' = W.ext d := by
  subst hn
  obtain ⟨_, ⟨rfl, hn0⟩ | ⟨g, cap, C0, rfl, hg, hh, hle, hcap, hs, _⟩⟩ := h
  · have hl0 : l = [] := List.eq_nil_of_length_eq_zero hn0
    subst hl0
    go_enter Try.func64, Try.ntmps64
    go_wp2
    go_loop [1, 5] (fun t i => t = .int .i64 k0 ∧ i = .int .i64 0) (fun _ _ => 0)
    case atStart => exact ⟨rfl, rfl⟩
    case round =>
      obtain ⟨rfl, rfl⟩ := hrel
      go_wp2
      go_ret
      exact ⟨by simp, own_nil _ _ _ _ _, only_refl _ _, hW⟩
  · have HS := Lib.hid hs
    have HM := Lib.hid hcap
    have HW := Lib.hid hW
    clear hs hcap hW
    go_enter Try.func64, Try.ntmps64
    go_wp2
    go_loopw [1, 5] (fun t i wr => ∃ k : Nat, k ≤ l.length ∧ i = .int .i64 k ∧ t = .int .i64 (k0 + k) ∧ w.grownBy wr (some g) ∧ (∃ d, wr = W.ext d) ∧ ∃ C, wr.heap[g]? = some (.cells C 3 (0, 0)) ∧ C.size = cap * 1 ∧ ∀ j, j < k → C[j]? = some (.int .i64 (k0 + (j : Int)))) (fun _ i _ => l.length - (intOf i).toNat)
    case atStart => exact ⟨0, by omega, rfl, by simp, only_refl _ _, HW.out, C0, hh, HS.out, by simp⟩
    case round =>
      obtain ⟨k, hk, rfl, rfl, hgr, hwr, C, hC, hCs, hCk⟩ := hrel
      have HGR := Lib.hid hgr
      have HWR := Lib.hid hwr
      by_cases hlt : k < l.length
      · obtain ⟨x0, hx0⟩ : ∃ x, C[k]? = some x := ⟨C[k]'(by omega), by rw [Array.getElem?_eq_getElem]⟩
        have t0 : wr.cell? ⟨g, k, none⟩ = some x0 := by rw [World.cell_of_heap hC]; exact hx0
        have z0 : wr.frozen? ⟨g, k, none⟩ = false := World.free_of_heap hC k
        have HC := Lib.hid hC
        have HCS := Lib.hid hCs
        have HCK := Lib.hid hCk
        clear hx0 hC hCs hCk hgr hwr hh
        go_wp2
        go_roundw
        case rel =>
          refine ⟨k + 1, by omega, by go_num, by go_num, only_setCell HGR.out rfl _, gain_setCell HWR.out (Nat.le_trans hB hg) _, _, World.heap_setCell_row HC.out _ _, by simp [HCS.out], fun j hj => ?_⟩
          rw [Array.getElem?_setIfInBounds]
          split
          · rename_i hjk
            subst hjk
            rw [if_pos (by rw [HCS.out]; omega)]
          · exact HCK.out j (by omega)
        case measure => simp [intOf]; omega
      · clear hgr hwr hh
        have HC := Lib.hid hC
        have HCS := Lib.hid hCs
        have HCK := Lib.hid hCk
        clear hC hCs hCk
        go_wp2
        go_ret
        obtain rfl : k = l.length := by omega
        refine ⟨rfl, ?_, HGR.out, HWR.out⟩
        have ho := owns_of_row (base := B) (enc := intC) (sz := 1) (l := marks k0 l.length) (cap := cap) intC_length HC.out hg HCS.out (by rw [marks_length]; exact hle) HM.out (fun j hj => by
          rw [marks_length, Nat.mul_one] at hj
          have h2 := flat_get intC_length (marks k0 l.length) j (by rw [marks_length]; exact hj) 0 (by omega)
          rw [Nat.mul_one, Nat.add_zero] at h2
          rw [HCK.out j hj, h2, marks_get]
          rfl)
        rw [marks_length] at ho
        unfold World.own
        rw [marks_length]
        exact ho
end Go.Proofs.Ytedpckkoaioooaa
