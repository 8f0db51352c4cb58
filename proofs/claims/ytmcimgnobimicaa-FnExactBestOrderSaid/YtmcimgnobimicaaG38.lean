/- Texts laid together: laws.toControlS: a copy of controls in new memory. Condition: at most 1048576 elements.; laws.eqControlS: of two slices that read alike it says true. Condition: at most 1048576 elements.; laws.szControlS: what is left of a size. No condition.; laws.markControlS writes numbers into a slice of controls. Conditions: a slice of the caller's own, at most 1048576 elements, small numbers. -/
import Derived.Test.YtmcimgnobimicaaRows
import Derived.Test.YtmcimgnobimicaaG2
import Derived.Test.YtmcimgnobimicaaG1
/- laws.toControlS: a copy of controls in new memory. Condition: at most 1048576 elements. -/
namespace Go.Proofs.Ytmcimgnobimicaa
open Go.RowKit Go.Ori
set_option maxHeartbeats 400000 in
theorem toControl_any (e : Ctl) (w : World) :
    Calls Try.prog 23 #[.agg #[.int .i64 e.code, .int .i64 e.cell]] w fun x w1 => x = .returned (.agg #[.int .i64 e.code, .int .i64 e.cell]) ∧ ∃ d, w1 = w.ext d := by
  go_enter Try.func23, Try.ntmps23
  go_wp2
  refine bodyPost_ret (v := .agg #[.int .i64 e.code, .int .i64 e.cell]) (by simp [results, Try.results23, go_sem]) rfl ?_
  refine ⟨rfl, ?_⟩
  (repeat (first | exact World.gained_refl _ | exact ⟨_, rfl⟩ | apply gain_ext | apply gain_alloc | apply gain_drewN | apply gain_drew | (refine gain_setCell ?_ (by first | exact Nat.le_refl _ | exact World.size_ext _ _ | (simp; done) | (simp; omega)) _)))
theorem info_toControlS_any : (Try.prog.info? 48).map (fun i => (i.zero, i.size, i.bytes)) = some (some (.agg #[.int .i64 0, .int .i64 0]), 2, 16) := by kernel_rfl
set_option maxHeartbeats 1000000 in
theorem toControlS_any (v : Value) (l : List Ctl) (w : World) (h : w.sl Ctl.cells 2 v l) (hl : l.length ≤ 1048576) :
    Calls Try.prog 8 #[v] w fun x w' => ∃ v', x = .returned v' ∧ (∃ d, w' = w.ext d) ∧ w'.own w.heap.size 48 Ctl.cells 2 v' l := by
  obtain ⟨p, c, rfl, hp, hcap⟩ := h
  have hmk := fun w => run_make_rows (P := Try.prog) Try.underlying32 info_toControlS_any l.length hl (by omega) w
  go_enter Try.func8, Try.ntmps8
  go_wp2
  clear hmk
  go_loopw [4] (fun i wr => ∃ k : Nat, k ≤ l.length ∧ i = .int .i64 k ∧ (∃ d, wr = w.ext d) ∧ ∃ C, wr.heap[w.heap.size]? = some (.cells C 48 (0, 0)) ∧ C.size = l.length * 2 ∧ ∀ j, j < k * 2 → C[j]? = (l.flatMap Ctl.cells)[j]?) (fun i _ => l.length - (intOf i).toNat)
  case atStart => exact ⟨0, by omega, rfl, gain_alloc w.gained_refl _, _, heap_alloc_new w _, (size_madeCells _ _), by simp⟩
  case round =>
    obtain ⟨k, hk, rfl, ⟨d, rfl⟩, C, hC, hCs, hCk⟩ := hrel
    have hn := World.newB_of_heap hC
    by_cases hlt : k < l.length
    · obtain ⟨b, o, rfl, hc⟩ := hp (by omega)
      have hck := hc k hlt
      have hfl := flat_get Ctl.cells_length l k hlt
      have c0 := hck 0 (by omega)
      have c1 := hck 1 (by omega)
      generalize l[k] = e at c0 c1 hfl hck
      simp only [Ctl.cells, List.getElem?_cons_zero, List.getElem?_cons_succ, Nat.add_zero] at c0 c1
      have ob := World.oldB_of_cell c0
      obtain ⟨x0, hx0⟩ : ∃ x, C[k * 2]? = some x := ⟨C[k * 2]'(by omega), by rw [Array.getElem?_eq_getElem]⟩
      have t0 : (w.ext d).cell? ⟨w.heap.size, k * 2, none⟩ = some x0 := by rw [World.cell_of_heap hC]; exact hx0
      have z0 : (w.ext d).frozen? ⟨w.heap.size, k * 2, none⟩ = false := World.free_of_heap hC _
      obtain ⟨x1, hx1⟩ : ∃ x, C[k * 2 + 1]? = some x := ⟨C[k * 2 + 1]'(by omega), by rw [Array.getElem?_eq_getElem]⟩
      have t1 : (w.ext d).cell? ⟨w.heap.size, k * 2 + 1, none⟩ = some x1 := by rw [World.cell_of_heap hC]; exact hx1
      have z1 : (w.ext d).frozen? ⟨w.heap.size, k * 2 + 1, none⟩ = false := World.free_of_heap hC _
      have HC := Lib.hid hC
      have HK := Lib.hid hCk
      have HCS := Lib.hid hCs
      have HF := Lib.hid hfl
      clear hC hCk hCs hp hc hck hfl hx0 hx1
      go_wp2_with (go_at_call 23; refine (toControl_any _ _).mono ?_; rintro e w1 ⟨rfl, d1, rfl⟩)
      go_roundw
      case rel =>
        have HR := World.heap_ext_old d1 HC.out
        refine ⟨k + 1, by omega, by go_num, gain_setCell (gain_setCell (gain_ext ⟨_, rfl⟩ _) (Nat.le_refl _) _) (Nat.le_refl _) _, _, (World.heap_setCell_row (World.heap_setCell_row HR _ _) _ _), by simp [HCS.out], fun j hj => ?_⟩
        rcases (by omega : j < k * 2 ∨ j = k * 2 + 0 ∨ j = k * 2 + 1) with hj | rfl | rfl
        · have hq := HK.out j hj
          simp only [Array.getElem?_setIfInBounds, Array.size_setIfInBounds]
          rw [← hq]; repeat rw [if_neg (by omega)]
        · rw [HF.out 0 (by omega)]
          have hs := HCS.out
          simp only [Array.getElem?_setIfInBounds, Array.size_setIfInBounds, Nat.add_zero, Ctl.cells, List.getElem?_cons_zero, List.getElem?_cons_succ]
          repeat first | rw [if_pos trivial] | rw [if_neg (by omega)] | rw [if_pos (by omega)]
        · rw [HF.out 1 (by omega)]
          have hs := HCS.out
          simp only [Array.getElem?_setIfInBounds, Array.size_setIfInBounds, Nat.add_zero, Ctl.cells, List.getElem?_cons_zero, List.getElem?_cons_succ]
          repeat first | rw [if_pos trivial] | rw [if_neg (by omega)] | rw [if_pos (by omega)]
      case measure => simp [intOf]; omega
    · go_wp2
      go_ret
      obtain rfl : k = l.length := by omega
      exact ⟨_, rfl, ⟨_, rfl⟩, owns_of_row Ctl.cells_length hC (Nat.le_refl _) hCs (Nat.le_refl _) (le_maxLen hl) hCk⟩
end Go.Proofs.Ytmcimgnobimicaa
/- laws.eqControlS: of two slices that read alike it says true. Condition: at most 1048576 elements. -/
namespace Go.Proofs.Ytmcimgnobimicaa
open Go.RowKit Go.Ori
set_option maxHeartbeats 400000 in
theorem eqControl_same (e : Ctl) (w : World) :
    Calls Try.prog 32 #[.agg #[.int .i64 e.code, .int .i64 e.cell], .agg #[.int .i64 e.code, .int .i64 e.cell]] w fun x w1 => x = .returned (.bool true) ∧ ∃ d, w1 = w.ext d := by
  go_enter Try.func32, Try.ntmps32
  go_wp2
  go_ret
  refine ⟨rfl, ?_⟩
  (repeat (first | exact World.gained_refl _ | exact ⟨_, rfl⟩ | apply gain_ext | apply gain_alloc | apply gain_drewN | apply gain_drew | (refine gain_setCell ?_ (by first | exact Nat.le_refl _ | exact World.size_ext _ _ | (simp; done) | (simp; omega)) _)))
set_option maxHeartbeats 1000000 in
theorem eqControlS_same (v v2 : Value) (l : List Ctl) (w : World) (h : w.sl Ctl.cells 2 v l) (h2 : w.sl Ctl.cells 2 v2 l) (hl : l.length ≤ 1048576) :
    Calls Try.prog 13 #[v, v2] w fun x w' => x = .returned (.bool true) ∧ ∃ d, w' = w.ext d := by
  obtain ⟨p, c, rfl, hp, hcap⟩ := h
  obtain ⟨p2, c2, rfl, hp2, _⟩ := h2
  go_enter Try.func13, Try.ntmps13
  go_wp2
  go_loopw [5] (fun i wr => ∃ k : Nat, k ≤ l.length ∧ i = .int .i64 k ∧ ∃ d, wr = w.ext d) (fun i _ => l.length - (intOf i).toNat)
  case atStart => exact ⟨0, by omega, rfl, w.gained_refl⟩
  case round =>
    obtain ⟨k, hk, rfl, d, rfl⟩ := hrel
    by_cases hlt : k < l.length
    · obtain ⟨b, o, rfl, hc⟩ := hp (by omega)
      obtain ⟨b2, o2, rfl, hc2⟩ := hp2 (by omega)
      have hck := hc k hlt
      have hck2 := hc2 k hlt
      clear hc hc2 hp hp2
      have c0 := hck 0 (by omega)
      have e0 := hck2 0 (by omega)
      have c1 := hck 1 (by omega)
      have e1 := hck2 1 (by omega)
      generalize l[k] = e at c0 e0 c1 e1 hck hck2
      clear hck hck2
      simp only [Ctl.cells, List.getElem?_cons_zero, List.getElem?_cons_succ, Nat.add_zero, Nat.mul_one] at c0 e0 c1 e1
      have ob := World.oldB_of_cell c0
      have ob2 := World.oldB_of_cell e0
      go_wp2
      refine wp_region_gain (by kernel_rfl) (by kernel_rfl) ?_
      repeat (first | go_big_quiet_skip | (go_big_quiet_want; go_big_quiet_op; first | go_big_quiet_on | ((apply Exists.intro); (refine ⟨fun _ => ?_, ?_⟩); (· (go_at_call 32; exact Calls.gain (eqControl_same _ _))); (go_big_quiet_on))))
      refine wpQuiet_nil ?_
      rintro _ ⟨d', rfl⟩
      go_wp2
      go_roundw
      case rel => exact ⟨k + 1, by omega, by go_num, gain_ext ⟨_, rfl⟩ _⟩
      case measure => simp [intOf]; omega
    · go_wp2
      go_ret
      exact ⟨rfl, _, rfl⟩
end Go.Proofs.Ytmcimgnobimicaa
/- laws.szControlS: what is left of a size. No condition. -/
namespace Go.Proofs.Ytmcimgnobimicaa
open Go.RowKit Go.Ori
theorem szControlS_yes (p : Option Addr) (n c : Nat) (left : Int) (w : World) (hn : n ≤ 9223372036854775807) (h0 : 0 ≤ left) (h1 : left ≤ 1048576) (h : (n : Int) ≤ left) :
    Calls Try.prog 5 #[.slice p n c, .int .i64 left] w fun x w' => x = .returned (.int .i64 (left - n)) ∧ w = w' := by
  go_enter Try.func5, Try.ntmps5
  go_wp2
  go_ret
  exact ⟨rfl, rfl⟩
theorem szControlS_no (p : Option Addr) (n c : Nat) (left : Int) (w : World) (hn : n ≤ 9223372036854775807) (h0 : 0 ≤ left) (h1 : left ≤ 1048576) (h : ¬ (n : Int) ≤ left) :
    Calls Try.prog 5 #[.slice p n c, .int .i64 left] w fun x w' => x = .returned (.int .i64 (-1)) ∧ w = w' := by
  go_enter Try.func5, Try.ntmps5
  go_wp2
  go_ret
  exact ⟨rfl, rfl⟩
theorem szControlS_any (p : Option Addr) (n c : Nat) (left : Int) (w : World) (hn : n ≤ 9223372036854775807) (h0 : 0 ≤ left) (h1 : left ≤ 1048576) :
    Calls Try.prog 5 #[.slice p n c, .int .i64 left] w fun x w' => ∃ r, x = .returned (.int .i64 r) ∧ w = w' ∧ r ≤ left ∧ (0 ≤ r → (n : Int) ≤ left) := by
  by_cases h : (n : Int) ≤ left
  · exact (szControlS_yes p n c left w hn h0 h1 h).mono fun _ _ ⟨e1, e2⟩ => ⟨_, e1, e2, by omega, fun _ => h⟩
  · exact (szControlS_no p n c left w hn h0 h1 h).mono fun _ _ ⟨e1, e2⟩ => ⟨_, e1, e2, by omega, fun h3 => by omega⟩
end Go.Proofs.Ytmcimgnobimicaa
/- laws.markControlS writes numbers into a slice of controls. Conditions: a slice of the caller's own, at most 1048576 elements, small numbers. -/
namespace Go.Proofs.Ytmcimgnobimicaa
open Go.RowKit Go.Ori
def markCtl (k : Int) : Ctl := ⟨k, k + 1⟩
def markCtls (k : Int) (n : Nat) : List Ctl := (List.range n).map fun i : Nat => markCtl (k + 2 * (i : Int))
theorem markCtls_length (k : Int) (n : Nat) : (markCtls k n).length = n := by simp [markCtls]
theorem markCtls_get (k : Int) (n i : Nat) (h : i < (markCtls k n).length) : (markCtls k n)[i] = markCtl (k + 2 * (i : Int)) := by simp [markCtls]
set_option maxHeartbeats 2000000 in
theorem markControlS_any (W : World) (v : Value) (n : Nat) (l : List Ctl) (w : World) (B : Nat) (k0 : Int) (h0 : 0 ≤ k0) (h1 : k0 ≤ 16777216) (hl : l.length ≤ 1048576) (hn : l.length = n)
    (h : w.own B 48 Ctl.cells 2 v l) (hW : ∃ d, w = W.ext d) (hB : W.heap.size ≤ B) :
    Calls Try.prog 15 #[v, .int .i64 k0] w fun x w' => x = .returned (.int .i64 (k0 + 2 * (n : Int))) ∧ w'.own B 48 Ctl.cells 2 v (markCtls k0 n) ∧ w.grownBy w' v.ownBlock ∧ ∃ d, w' = W.ext d := by
  subst hn
  obtain ⟨_, ⟨rfl, hn0⟩ | ⟨g, cap, C0, rfl, hg, hh, hle, hcap, hs, _⟩⟩ := h
  · have hl0 : l = [] := List.eq_nil_of_length_eq_zero hn0
    subst hl0
    go_enter Try.func15, Try.ntmps15
    go_wp2
    go_loop [1, 5] (fun t i => t = .int .i64 k0 ∧ i = .int .i64 0) (fun _ _ => 0)
    case atStart => exact ⟨rfl, rfl⟩
    case round =>
      obtain ⟨rfl, rfl⟩ := hrel
      go_wp2
      go_ret
      exact ⟨by simp, own_nil _ _ _ _ _, only_refl _ _, hW⟩
  · have HS := Lib.hid hs
    have HM := Lib.hid hcap
    have HW := Lib.hid hW
    clear hs hcap hW
    go_enter Try.func15, Try.ntmps15
    go_wp2
    go_loopw [1, 5] (fun t i wr => ∃ k : Nat, k ≤ l.length ∧ i = .int .i64 k ∧ t = .int .i64 (k0 + 2 * (k : Int)) ∧ w.grownBy wr (some g) ∧ (∃ d, wr = W.ext d) ∧ ∃ C, wr.heap[g]? = some (.cells C 48 (0, 0)) ∧ C.size = cap * 2 ∧ ∀ j, j < k * 2 → C[j]? = ((markCtls k0 l.length).flatMap Ctl.cells)[j]?) (fun _ i _ => l.length - (intOf i).toNat)
    case atStart => exact ⟨0, by omega, rfl, by simp, only_refl _ _, HW.out, C0, hh, HS.out, by simp⟩
    case round =>
      obtain ⟨k, hk, rfl, rfl, hgr, hwr, C, hC, hCs, hCk⟩ := hrel
      have HGR := Lib.hid hgr
      have HWR := Lib.hid hwr
      have HLEN := Lib.hid (markCtls_length k0 l.length)
      by_cases hlt : k < l.length
      · have hfl := flat_get Ctl.cells_length (markCtls k0 l.length) k (by rw [HLEN.out]; exact hlt)
        rw [markCtls_get] at hfl
        obtain ⟨x0, hx0⟩ : ∃ x, C[k * 2]? = some x := ⟨C[k * 2]'(by omega), by rw [Array.getElem?_eq_getElem]⟩
        have t0 : wr.cell? ⟨g, k * 2, none⟩ = some x0 := by rw [World.cell_of_heap hC]; exact hx0
        have z0 : wr.frozen? ⟨g, k * 2, none⟩ = false := World.free_of_heap hC _
        obtain ⟨x1, hx1⟩ : ∃ x, C[k * 2 + 1]? = some x := ⟨C[k * 2 + 1]'(by omega), by rw [Array.getElem?_eq_getElem]⟩
        have t1 : wr.cell? ⟨g, k * 2 + 1, none⟩ = some x1 := by rw [World.cell_of_heap hC]; exact hx1
        have z1 : wr.frozen? ⟨g, k * 2 + 1, none⟩ = false := World.free_of_heap hC _
        have HC := Lib.hid hC
        have HCS := Lib.hid hCs
        have HCK := Lib.hid hCk
        have HF := Lib.hid hfl
        have HH := Lib.hid hh
        clear hC hCs hCk hgr hwr hh hfl hx0 hx1
        go_wp2
        go_roundw
        case rel =>
          refine ⟨k + 1, by omega, by go_num, by go_num, (only_setCell (only_setCell HGR.out rfl _) rfl _), (gain_setCell (gain_setCell HWR.out (Nat.le_trans hB hg) _) (Nat.le_trans hB hg) _), _, (World.heap_setCell_row (World.heap_setCell_row HC.out _ _) _ _), by simp [HCS.out], fun j hj => ?_⟩
          rcases (by omega : j < k * 2 ∨ j = k * 2 + 0 ∨ j = k * 2 + 1) with hj | rfl | rfl
          · have hq := HCK.out j hj
            simp only [Array.getElem?_setIfInBounds, Array.size_setIfInBounds]
            rw [← hq]; repeat rw [if_neg (by omega)]
          · rw [HF.out 0 (by omega)]
            have hs := HCS.out
            simp only [Array.getElem?_setIfInBounds, Array.size_setIfInBounds, Nat.add_zero, Ctl.cells, markCtl, List.getElem?_cons_zero, List.getElem?_cons_succ]
            repeat first | rw [if_pos trivial] | rw [if_neg (by omega)] | rw [if_pos (by omega)]
            try first | rfl | (congr 2; omega) | (simp; done)
          · rw [HF.out 1 (by omega)]
            have hs := HCS.out
            simp only [Array.getElem?_setIfInBounds, Array.size_setIfInBounds, Nat.add_zero, Ctl.cells, markCtl, List.getElem?_cons_zero, List.getElem?_cons_succ]
            repeat first | rw [if_pos trivial] | rw [if_neg (by omega)] | rw [if_pos (by omega)]
            try first | rfl | (congr 2; omega) | (simp; done)
        case measure => simp [intOf]; omega
      · clear hgr hwr hh
        have HC := Lib.hid hC
        have HCS := Lib.hid hCs
        have HCK := Lib.hid hCk
        clear hC hCs hCk
        go_wp2
        go_ret
        obtain rfl : k = l.length := by omega
        refine ⟨rfl, ?_, HGR.out, HWR.out⟩
        have ho := owns_of_row (base := B) (enc := Ctl.cells) (sz := 2) (l := markCtls k0 l.length) (cap := cap) Ctl.cells_length HC.out hg HCS.out (by rw [HLEN.out]; exact hle) HM.out (fun j hj => by
          rw [HLEN.out] at hj
          exact HCK.out j hj)
        rw [HLEN.out] at ho
        unfold World.own
        rw [HLEN.out]
        exact ho
end Go.Proofs.Ytmcimgnobimicaa
