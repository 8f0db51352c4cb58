/- laws.markControlS writes numbers into a slice of controls. Conditions: a slice of the caller's own, at most 1048576 elements, small numbers. -/
import Derived.Test.YtedpckkoaioooaaRows
import Derived.Test.YtedpckkoaioooaaPlain
import Derived.Test.YtedpckkoaioooaaOwn
namespace Go.Proofs.Ytedpckkoaioooaa
open Go.RowKit Go.Ori
def markCtl (k : Int) : Ctl := ⟨k, k + 1⟩
def markCtls (k : Int) (n : Nat) : List Ctl := (List.range n).map fun i : Nat => markCtl (k + 2 * (i : Int))
theorem markCtls_length (k : Int) (n : Nat) : (markCtls k n).length = n := by simp [markCtls]
theorem markCtls_get (k : Int) (n i : Nat) (h : i < (markCtls k n).length) : (markCtls k n)[i] = markCtl (k + 2 * (i : Int)) := by simp [markCtls]
set_option maxHeartbeats 2000000 in
theorem markControlS_any (W : World) (v : Value) (n : Nat) (l : List Ctl) (w : World) (B : Nat) (k0 : Int) (h0 : 0 ≤ k0) (h1 : k0 ≤ 16777216) (hl : l.length ≤ 1048576) (hn : l.length = n)
    (h : w.own B 46 Ctl.cells 2 v l) (hW : ∃ d, w = W.ext d) (hB : W.heap.size ≤ B) :
    Calls Try.prog 63 #[v, .int .i64 k0] w fun x w' => x = .returned (.int .i64 (k0 + 2 * (n : Int))) ∧ w'.own B 46 Ctl.cells 2 v (markCtls k0 n) ∧ w.grownBy w' v.ownBlock ∧ ∃ d, w' = W.ext d := by
  subst hn
  obtain ⟨_, ⟨rfl, hn0⟩ | ⟨g, cap, C0, rfl, hg, hh, hle, hcap, hs, _⟩⟩ := h
  · have hl0 : l = [] := List.eq_nil_of_length_eq_zero hn0
    subst hl0
    go_enter Try.func63, Try.ntmps63
    go_wp2
    go_loop [1, 5] (fun t i => t = .int .i64 k0 ∧ i = .int .i64 0) (fun _ _ => 0)
    case atStart => exact ⟨rfl, rfl⟩
    case round =>
      obtain ⟨rfl, rfl⟩ := hrel
      go_wp2
      go_ret
      exact ⟨by simp, own_nil _ _ _ _ _, only_refl _ _, hW⟩
  · have HS := Lib.hid hs
    have HM := Lib.hid hcap
    have HW := Lib.hid hW
    clear hs hcap hW
    go_enter Try.func63, Try.ntmps63
    go_wp2
    go_loopw [1, 5] (fun t i wr => ∃ k : Nat, k ≤ l.length ∧ i = .int .i64 k ∧ t = .int .i64 (k0 + 2 * (k : Int)) ∧ w.grownBy wr (some g) ∧ (∃ d, wr = W.ext d) ∧ ∃ C, wr.heap[g]? = some (.cells C 46 (0, 0)) ∧ C.size = cap * 2 ∧ ∀ j, j < k * 2 → C[j]? = ((markCtls k0 l.length).flatMap Ctl.cells)[j]?) (fun _ i _ => l.length - (intOf i).toNat)
    case atStart => exact ⟨0, by omega, rfl, by simp, only_refl _ _, HW.out, C0, hh, HS.out, by simp⟩
    case round =>
      obtain ⟨k, hk, rfl, rfl, hgr, hwr, C, hC, hCs, hCk⟩ := hrel
      have HGR := Lib.hid hgr
      have HWR := Lib.hid hwr
      have HLEN := Lib.hid (markCtls_length k0 l.length)
      by_cases hlt : k < l.length
      · have hfl := flat_get Ctl.cells_length (markCtls k0 l.length) k (by rw [HLEN.out]; exact hlt)
        rw [markCtls_get] at hfl
        obtain ⟨x0, hx0⟩ : ∃ x, C[k * 2]? = some x := ⟨C[k * 2]'(by omega), by rw [Array.getElem?_eq_getElem]⟩
        have t0 : wr.cell? ⟨g, k * 2, none⟩ = some x0 := by rw [World.cell_of_heap hC]; exact hx0
        have z0 : wr.frozen? ⟨g, k * 2, none⟩ = false := World.free_of_heap hC _
        obtain ⟨x1, hx1⟩ : ∃ x, C[k * 2 + 1]? = some x := ⟨C[k * 2 + 1]'(by omega), by rw [Array.getElem?_eq_getElem]⟩
        have t1 : wr.cell? ⟨g, k * 2 + 1, none⟩ = some x1 := by rw [World.cell_of_heap hC]; exact hx1
        have z1 : wr.frozen? ⟨g, k * 2 + 1, none⟩ = false := World.free_of_heap hC _
        have HC := Lib.hid hC
        have HCS := Lib.hid hCs
        have HCK := Lib.hid hCk
        have HF := Lib.hid hfl
        have HH := Lib.hid hh
        clear hC hCs hCk hgr hwr hh hfl hx0 hx1
        go_wp2
        go_roundw
        case rel =>
          refine ⟨k + 1, by omega, by go_num, by go_num, (only_setCell (only_setCell HGR.out rfl _) rfl _), (gain_setCell (gain_setCell HWR.out (Nat.le_trans hB hg) _) (Nat.le_trans hB hg) _), _, (World.heap_setCell_row (World.heap_setCell_row HC.out _ _) _ _), by simp [HCS.out], fun j hj => ?_⟩
          rcases (by omega : j < k * 2 ∨ j = k * 2 + 0 ∨ j = k * 2 + 1) with hj | rfl | rfl
          · have hq := HCK.out j hj
            simp only [Array.getElem?_setIfInBounds, Array.size_setIfInBounds]
            rw [← hq]; repeat rw [if_neg (by omega)]
          · rw [HF.out 0 (by omega)]
            have hs := HCS.out
            simp only [Array.getElem?_setIfInBounds, Array.size_setIfInBounds, Nat.add_zero, Ctl.cells, markCtl, List.getElem?_cons_zero, List.getElem?_cons_succ]
            repeat first | rw [if_pos trivial] | rw [if_neg (by omega)] | rw [if_pos (by omega)]
            try first | rfl | (congr 2; omega) | (simp; done)
          · rw [HF.out 1 (by omega)]
            have hs := HCS.out
            simp only [Array.getElem?_setIfInBounds, Array.size_setIfInBounds, Nat.add_zero, Ctl.cells, markCtl, List.getElem?_cons_zero, List.getElem?_cons_succ]
            repeat first | rw [if_pos trivial] | rw [if_neg (by omega)] | rw [if_pos (by omega)]
            try first | rfl | (congr 2; omega) | (simp; done)
        case measure => simp [intOf]; omega
      · clear hgr hwr hh
        have HC := Lib.hid hC
        have HCS := Lib.hid hCs
        have HCK := Lib.hid hCk
        clear hC hCs hCk
        go_wp2
        go_ret
        obtain rfl : k = l.length := by omega
        refine ⟨rfl, ?_, HGR.out, HWR.out⟩
        have ho := owns_of_row (base := B) (enc := Ctl.cells) (sz := 2) (l := markCtls k0 l.length) (cap := cap) Ctl.cells_length HC.out hg HCS.out (by rw [HLEN.out]; exact hle) HM.out (fun j hj => by
          rw [HLEN.out] at hj
          exact HCK.out j hj)
        rw [HLEN.out] at ho
        unfold World.own
        rw [HLEN.out]
        exact ho
set_option maxHeartbeats 2000000 in
theorem heldControlS_any (v : Value) (n : Nat) (w : World) (k0 : Int) (h0 : 0 ≤ k0) (h1 : k0 ≤ 16777216) (hl : n ≤ 1048576) (h : w.sl Ctl.cells 2 v (markCtls k0 n)) :
    Calls Try.prog 67 #[v, .int .i64 k0] w fun x w' => x = .returned (.int .i64 (k0 + 2 * (n : Int))) ∧ ∃ d, w' = w.ext d := by
  have hs := Lib.hid h
  have HLEN := Lib.hid (markCtls_length k0 n)
  obtain ⟨p, c, rfl, _⟩ := h
  rw [HLEN.out] at hs ⊢
  go_enter Try.func67, Try.ntmps67
  go_wp2
  go_loopw [1, 5] (fun t i wr => ∃ k : Nat, k ≤ n ∧ i = .int .i64 k ∧ t = .int .i64 (k0 + 2 * (k : Int)) ∧ ∃ d, wr = w.ext d) (fun _ i _ => n - (intOf i).toNat)
  case atStart => exact ⟨0, by omega, rfl, by simp, w.gained_refl⟩
  case round =>
    obtain ⟨k, hk, rfl, rfl, d, rfl⟩ := hrel
    by_cases hlt : k < n
    · obtain ⟨b, o, rfl⟩ := sl_some hs.out (by rw [HLEN.out]; omega)
      have hck := fun j (hj : j < 2) => sl_cells hs.out (k := k) (by rw [HLEN.out]; exact hlt) hj
      rw [markCtls_get] at hck
      have c0 := hck 0 (by omega)
      have c1 := hck 1 (by omega)
      clear hck
      simp only [Ctl.cells, markCtl, List.getElem?_cons_zero, List.getElem?_cons_succ, Nat.add_zero] at c0 c1
      have ob := World.oldB_of_cell c0
      go_wp2
      go_roundw
      case rel => exact ⟨k + 1, by omega, by go_num, by go_num, _, rfl⟩
      case measure => simp [intOf]; omega
    · go_wp2
      go_ret
      obtain rfl : k = n := by omega
      exact ⟨rfl, _, rfl⟩
end Go.Proofs.Ytedpckkoaioooaa
