/- laws.markEntryS writes numbers into a slice of entries, laws.heldEntryS finds them there. Conditions: a slice of the caller's own, at most 1048576 elements, small numbers. -/
import Derived.Test.YtnpfghpjlbjpnaaRows
import Derived.Test.YtnpfghpjlbjpnaaPlain
import Derived.Test.YtnpfghpjlbjpnaaOwn
namespace Go.Proofs.Ytnpfghpjlbjpnaa
open Go.RowKit Go.Ori
def markEnt (k : Int) : Ent := ⟨k, k + 1, k + 1 + 1, (k + 1 + 1 + 1) % 3 == 0, k + 1 + 1 + 1 + 1⟩
def markEnts (k : Int) (n : Nat) : List Ent := (List.range n).map fun i : Nat => markEnt (k + 5 * (i : Int))
theorem markEnts_length (k : Int) (n : Nat) : (markEnts k n).length = n := by simp [markEnts]
theorem markEnts_get (k : Int) (n i : Nat) (h : i < (markEnts k n).length) : (markEnts k n)[i] = markEnt (k + 5 * (i : Int)) := by simp [markEnts]
set_option maxHeartbeats 2000000 in
theorem markEntryS_any (W : World) (v : Value) (n : Nat) (l : List Ent) (w : World) (B : Nat) (k0 : Int) (h0 : 0 ≤ k0) (h1 : k0 ≤ 16777216) (hl : l.length ≤ 1048576) (hn : l.length = n)
    (h : w.own B 30 Ent.cells 5 v l) (hW : ∃ d, w = W.ext d) (hB : W.heap.size ≤ B) :
    Calls Try.prog 10 #[v, .int .i64 k0] w fun x w' => x = .returned (.int .i64 (k0 + 5 * (n : Int))) ∧ w'.own B 30 Ent.cells 5 v (markEnts k0 n) ∧ w.grownBy w' v.ownBlock ∧ ∃ d, w' = W.ext d := by
  subst hn
  obtain ⟨_, ⟨rfl, hn0⟩ | ⟨g, cap, C0, rfl, hg, hh, hle, hcap, hs, _⟩⟩ := h
  · have hl0 : l = [] := List.eq_nil_of_length_eq_zero hn0
    subst hl0
    go_enter Try.func10, Try.ntmps10
    go_wp2
    go_loop [1, 5] (fun t i => t = .int .i64 k0 ∧ i = .int .i64 0) (fun _ _ => 0)
    case atStart => exact ⟨rfl, rfl⟩
    case round =>
      obtain ⟨rfl, rfl⟩ := hrel
      go_wp2
      go_ret
      exact ⟨by simp, own_nil _ _ _ _ _, only_refl _ _, hW⟩
  · have HS := Lib.hid hs
    have HM := Lib.hid hcap
    have HW := Lib.hid hW
    clear hs hcap hW
    go_enter Try.func10, Try.ntmps10
    go_wp2
    go_loopw [1, 5] (fun t i wr => ∃ k : Nat, k ≤ l.length ∧ i = .int .i64 k ∧ t = .int .i64 (k0 + 5 * (k : Int)) ∧ w.grownBy wr (some g) ∧ (∃ d, wr = W.ext d) ∧ ∃ C, wr.heap[g]? = some (.cells C 30 (0, 0)) ∧ C.size = cap * 5 ∧ ∀ j, j < k * 5 → C[j]? = ((markEnts k0 l.length).flatMap Ent.cells)[j]?) (fun _ i _ => l.length - (intOf i).toNat)
    case atStart => exact ⟨0, by omega, rfl, by simp, only_refl _ _, HW.out, C0, hh, HS.out, by simp⟩
    case round =>
      obtain ⟨k, hk, rfl, rfl, hgr, hwr, C, hC, hCs, hCk⟩ := hrel
      have HGR := Lib.hid hgr
      have HWR := Lib.hid hwr
      have HLEN := Lib.hid (markEnts_length k0 l.length)
      by_cases hlt : k < l.length
      · have hfl := flat_get Ent.cells_length (markEnts k0 l.length) k (by rw [HLEN.out]; exact hlt)
        rw [markEnts_get] at hfl
        obtain ⟨x0, hx0⟩ : ∃ x, C[k * 5]? = some x := ⟨C[k * 5]'(by omega), by rw [Array.getElem?_eq_getElem]⟩
        have t0 : wr.cell? ⟨g, k * 5, none⟩ = some x0 := by rw [World.cell_of_heap hC]; exact hx0
        have z0 : wr.frozen? ⟨g, k * 5, none⟩ = false := World.free_of_heap hC _
        obtain ⟨x1, hx1⟩ : ∃ x, C[k * 5 + 1]? = some x := ⟨C[k * 5 + 1]'(by omega), by rw [Array.getElem?_eq_getElem]⟩
        have t1 : wr.cell? ⟨g, k * 5 + 1, none⟩ = some x1 := by rw [World.cell_of_heap hC]; exact hx1
        have z1 : wr.frozen? ⟨g, k * 5 + 1, none⟩ = false := World.free_of_heap hC _
        obtain ⟨x2, hx2⟩ : ∃ x, C[k * 5 + 2]? = some x := ⟨C[k * 5 + 2]'(by omega), by rw [Array.getElem?_eq_getElem]⟩
        have t2 : wr.cell? ⟨g, k * 5 + 2, none⟩ = some x2 := by rw [World.cell_of_heap hC]; exact hx2
        have z2 : wr.frozen? ⟨g, k * 5 + 2, none⟩ = false := World.free_of_heap hC _
        obtain ⟨x3, hx3⟩ : ∃ x, C[k * 5 + 3]? = some x := ⟨C[k * 5 + 3]'(by omega), by rw [Array.getElem?_eq_getElem]⟩
        have t3 : wr.cell? ⟨g, k * 5 + 3, none⟩ = some x3 := by rw [World.cell_of_heap hC]; exact hx3
        have z3 : wr.frozen? ⟨g, k * 5 + 3, none⟩ = false := World.free_of_heap hC _
        obtain ⟨x4, hx4⟩ : ∃ x, C[k * 5 + 4]? = some x := ⟨C[k * 5 + 4]'(by omega), by rw [Array.getElem?_eq_getElem]⟩
        have t4 : wr.cell? ⟨g, k * 5 + 4, none⟩ = some x4 := by rw [World.cell_of_heap hC]; exact hx4
        have z4 : wr.frozen? ⟨g, k * 5 + 4, none⟩ = false := World.free_of_heap hC _
        have HC := Lib.hid hC
        have HCS := Lib.hid hCs
        have HCK := Lib.hid hCk
        have HF := Lib.hid hfl
        have HH := Lib.hid hh
        clear hC hCs hCk hgr hwr hh hfl hx0 hx1 hx2 hx3 hx4
        go_wp2
        go_roundw
        case rel =>
          refine ⟨k + 1, by omega, by go_num, by go_num, (only_setCell (only_setCell (only_setCell (only_setCell (only_setCell HGR.out rfl _) rfl _) rfl _) rfl _) rfl _), (gain_setCell (gain_setCell (gain_setCell (gain_setCell (gain_setCell HWR.out (Nat.le_trans hB hg) _) (Nat.le_trans hB hg) _) (Nat.le_trans hB hg) _) (Nat.le_trans hB hg) _) (Nat.le_trans hB hg) _), _, (World.heap_setCell_row (World.heap_setCell_row (World.heap_setCell_row (World.heap_setCell_row (World.heap_setCell_row HC.out _ _) _ _) _ _) _ _) _ _), by simp [HCS.out], fun j hj => ?_⟩
          rcases (by omega : j < k * 5 ∨ j = k * 5 + 0 ∨ j = k * 5 + 1 ∨ j = k * 5 + 2 ∨ j = k * 5 + 3 ∨ j = k * 5 + 4) with hj | rfl | rfl | rfl | rfl | rfl
          · have hq := HCK.out j hj
            simp only [Array.getElem?_setIfInBounds, Array.size_setIfInBounds]
            rw [← hq]; repeat rw [if_neg (by omega)]
          · rw [HF.out 0 (by omega)]
            have hs := HCS.out
            simp only [Array.getElem?_setIfInBounds, Array.size_setIfInBounds, Nat.add_zero, Ent.cells, markEnt, List.getElem?_cons_zero, List.getElem?_cons_succ]
            repeat first | rw [if_pos trivial] | rw [if_neg (by omega)] | rw [if_pos (by omega)]
            try first | rfl | (congr 2; omega) | (simp; done)
          · rw [HF.out 1 (by omega)]
            have hs := HCS.out
            simp only [Array.getElem?_setIfInBounds, Array.size_setIfInBounds, Nat.add_zero, Ent.cells, markEnt, List.getElem?_cons_zero, List.getElem?_cons_succ]
            repeat first | rw [if_pos trivial] | rw [if_neg (by omega)] | rw [if_pos (by omega)]
            try first | rfl | (congr 2; omega) | (simp; done)
          · rw [HF.out 2 (by omega)]
            have hs := HCS.out
            simp only [Array.getElem?_setIfInBounds, Array.size_setIfInBounds, Nat.add_zero, Ent.cells, markEnt, List.getElem?_cons_zero, List.getElem?_cons_succ]
            repeat first | rw [if_pos trivial] | rw [if_neg (by omega)] | rw [if_pos (by omega)]
            try first | rfl | (congr 2; omega) | (simp; done)
          · rw [HF.out 3 (by omega)]
            have hs := HCS.out
            simp only [Array.getElem?_setIfInBounds, Array.size_setIfInBounds, Nat.add_zero, Ent.cells, markEnt, List.getElem?_cons_zero, List.getElem?_cons_succ]
            repeat first | rw [if_pos trivial] | rw [if_neg (by omega)] | rw [if_pos (by omega)]
            try first | rfl | (congr 2; omega) | (simp; done)
          · rw [HF.out 4 (by omega)]
            have hs := HCS.out
            simp only [Array.getElem?_setIfInBounds, Array.size_setIfInBounds, Nat.add_zero, Ent.cells, markEnt, List.getElem?_cons_zero, List.getElem?_cons_succ]
            repeat first | rw [if_pos trivial] | rw [if_neg (by omega)] | rw [if_pos (by omega)]
            try first | rfl | (congr 2; omega) | (simp; done)
        case measure => simp [intOf]; omega
      · clear hgr hwr hh
        have HC := Lib.hid hC
        have HCS := Lib.hid hCs
        have HCK := Lib.hid hCk
        clear hC hCs hCk
        go_wp2
        go_ret
        obtain rfl : k = l.length := by omega
        refine ⟨rfl, ?_, HGR.out, HWR.out⟩
        have ho := owns_of_row (base := B) (enc := Ent.cells) (sz := 5) (l := markEnts k0 l.length) (cap := cap) Ent.cells_length HC.out hg HCS.out (by rw [HLEN.out]; exact hle) HM.out (fun j hj => by
          rw [HLEN.out] at hj
          exact HCK.out j hj)
        rw [HLEN.out] at ho
        unfold World.own
        rw [HLEN.out]
        exact ho
set_option maxHeartbeats 2000000 in
theorem heldEntryS_any (v : Value) (n : Nat) (w : World) (k0 : Int) (h0 : 0 ≤ k0) (h1 : k0 ≤ 16777216) (hl : n ≤ 1048576) (h : w.sl Ent.cells 5 v (markEnts k0 n)) :
    Calls Try.prog 11 #[v, .int .i64 k0] w fun x w' => x = .returned (.int .i64 (k0 + 5 * (n : Int))) ∧ ∃ d, w' = w.ext d := by
  have hs := Lib.hid h
  have HLEN := Lib.hid (markEnts_length k0 n)
  obtain ⟨p, c, rfl, _⟩ := h
  rw [HLEN.out] at hs ⊢
  go_enter Try.func11, Try.ntmps11
  go_wp2
  go_loopw [1, 5] (fun t i wr => ∃ k : Nat, k ≤ n ∧ i = .int .i64 k ∧ t = .int .i64 (k0 + 5 * (k : Int)) ∧ ∃ d, wr = w.ext d) (fun _ i _ => n - (intOf i).toNat)
  case atStart => exact ⟨0, by omega, rfl, by simp, w.gained_refl⟩
  case round =>
    obtain ⟨k, hk, rfl, rfl, d, rfl⟩ := hrel
    by_cases hlt : k < n
    · obtain ⟨b, o, rfl⟩ := sl_some hs.out (by rw [HLEN.out]; omega)
      have hck := fun j (hj : j < 5) => sl_cells hs.out (k := k) (by rw [HLEN.out]; exact hlt) hj
      rw [markEnts_get] at hck
      have c0 := hck 0 (by omega)
      have c1 := hck 1 (by omega)
      have c2 := hck 2 (by omega)
      have c3 := hck 3 (by omega)
      have c4 := hck 4 (by omega)
      clear hck
      simp only [Ent.cells, markEnt, List.getElem?_cons_zero, List.getElem?_cons_succ, Nat.add_zero] at c0 c1 c2 c3 c4
      have ob := World.oldB_of_cell c0
      go_wp2
      go_roundw
      case rel => exact ⟨k + 1, by omega, by go_num, by go_num, _, rfl⟩
      case measure => simp [intOf]; omega
    · go_wp2
      go_ret
      obtain rfl : k = n := by omega
      exact ⟨rfl, _, rfl⟩
end Go.Proofs.Ytnpfghpjlbjpnaa
