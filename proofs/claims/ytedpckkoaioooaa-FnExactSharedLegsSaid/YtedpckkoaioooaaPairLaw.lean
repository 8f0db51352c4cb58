/- laws.eqIntA2S, markIntA2S, heldIntA2S. Conditions: at most 1048576 pairs; for the marks: of the caller's own, small numbers. -/
import Derived.Test.YtedpckkoaioooaaPairC
import Derived.Test.YtedpckkoaioooaaOwn
import Derived.Test.YtedpckkoaioooaaHeld
namespace Go.Ori
def markPrs (k : Int) (n : Nat) : List (Int × Int) := (List.range n).map fun i : Nat => (k + 2 * (i : Int), k + 2 * (i : Int) + 1)
theorem markPrs_length (k : Int) (n : Nat) : (markPrs k n).length = n := by simp [markPrs]
theorem markPrs_get (k : Int) (n i : Nat) (h : i < (markPrs k n).length) : (markPrs k n)[i] = (k + 2 * (i : Int), k + 2 * (i : Int) + 1) := by simp [markPrs]
theorem markPrs_flat (k : Int) (n j : Nat) (h : j < n * 2) : ((markPrs k n).flatMap prC)[j]? = some (.int .i64 (k + (j : Int))) := by
  have h1 := flat_get prC_length (markPrs k n) (j / 2) (by rw [markPrs_length]; omega) (j % 2) (by omega)
  rw [show j / 2 * 2 + j % 2 = j by omega, markPrs_get] at h1
  rw [h1]
  rcases (by omega : j % 2 = 0 ∨ j % 2 = 1) with e | e
  · rw [e]; simp only [prC, List.getElem?_cons_zero]; congr 2; omega
  · rw [e]; simp only [prC, List.getElem?_cons_succ, List.getElem?_cons_zero]; congr 2; omega
end Go.Ori
namespace Go.Proofs.Ytedpckkoaioooaa
open Go.RowKit Go.Ori
theorem eqIntA2_same (x y : Int) (w : World) : Calls Try.prog 114 #[.agg #[.int .i64 x, .int .i64 y], .agg #[.int .i64 x, .int .i64 y]] w fun r w' => r = .returned (.bool true) ∧ ∃ d, w' = w.ext d := by
  go_enter Try.func114, Try.ntmps114
  go_wp2_with fail
  generalize hW : (w.alloc (.cells #[.int .i64 x, .int .i64 y] 47)).alloc (.cells #[.int .i64 x, .int .i64 y] 47) = W1
  have a0 : W1.cell? ⟨w.heap.size, 0, none⟩ = some (.int .i64 x) := by rw [← hW]; simp [go_sem]
  have a1 : W1.cell? ⟨w.heap.size, 1, none⟩ = some (.int .i64 y) := by rw [← hW]; simp [go_sem]
  have b0 : W1.cell? ⟨w.heap.size + 1, 0, none⟩ = some (.int .i64 x) := by rw [← hW]; simp [go_sem]
  have b1 : W1.cell? ⟨w.heap.size + 1, 1, none⟩ = some (.int .i64 y) := by rw [← hW]; simp [go_sem]
  have HG : Hid (∃ d, W1 = w.ext d) := Lib.hid (by rw [← hW]; exact (by repeat (first | with_reducible (first | exact World.gained_refl _ | exact ⟨_, rfl⟩ | apply gain_ext | apply gain_alloc | apply gain_drewN | apply gain_drew) | (refine gain_setCell ?_ (by first | exact Nat.le_refl _ | exact World.size_ext _ _ | (simp; done) | (simp; omega)) _))))
  have oa := World.oldB_of_cell a0
  have ob := World.oldB_of_cell b0
  clear hW
  generalize w.heap.size + 1 = g2 at b0 b1 ob ⊢
  generalize w.heap.size = g1 at a0 a1 oa ⊢
  go_loopw [5] (fun i wr => ∃ q : Nat, q ≤ 2 ∧ i = .int .i64 q ∧ ∃ d, wr = W1.ext d) (fun i _ => 2 - (intOf i).toNat)
  case atStart => exact ⟨0, by omega, rfl, W1.gained_refl⟩
  case round =>
    obtain ⟨q, hq, rfl, d, rfl⟩ := hrel
    rcases (by omega : q = 0 ∨ q = 1 ∨ q = 2) with rfl | rfl | rfl
    · go_wp2
      refine wp_region_gain (by kernel_rfl) (by kernel_rfl) ?_
      repeat (first | go_big_quiet_skip | (go_big_quiet_want; go_big_quiet_op; first | go_big_quiet_on))
      refine wpQuiet_nil ?_
      rintro _ ⟨d', rfl⟩
      go_wp2
      go_roundw
      case rel => exact ⟨1, by omega, by go_num, (by repeat (first | with_reducible (first | exact World.gained_refl _ | exact ⟨_, rfl⟩ | apply gain_ext | apply gain_alloc | apply gain_drewN | apply gain_drew) | (refine gain_setCell ?_ (by first | exact Nat.le_refl _ | exact World.size_ext _ _ | (simp; done) | (simp; omega)) _)))⟩
      case measure => simp [intOf]
    · go_wp2
      refine wp_region_gain (by kernel_rfl) (by kernel_rfl) ?_
      repeat (first | go_big_quiet_skip | (go_big_quiet_want; go_big_quiet_op; first | go_big_quiet_on))
      refine wpQuiet_nil ?_
      rintro _ ⟨d', rfl⟩
      go_wp2
      go_roundw
      case rel => exact ⟨2, by omega, by go_num, (by repeat (first | with_reducible (first | exact World.gained_refl _ | exact ⟨_, rfl⟩ | apply gain_ext | apply gain_alloc | apply gain_drewN | apply gain_drew) | (refine gain_setCell ?_ (by first | exact Nat.le_refl _ | exact World.size_ext _ _ | (simp; done) | (simp; omega)) _)))⟩
      case measure => simp [intOf]
    · go_wp2
      go_ret
      exact ⟨rfl, gain_trans HG.out (by repeat (first | with_reducible (first | exact World.gained_refl _ | exact ⟨_, rfl⟩ | apply gain_ext | apply gain_alloc | apply gain_drewN | apply gain_drew) | (refine gain_setCell ?_ (by first | exact Nat.le_refl _ | exact World.size_ext _ _ | (simp; done) | (simp; omega)) _)))⟩
set_option maxHeartbeats 1000000 in
theorem eqIntA2S_same (v v2 : Value) (l : List (Int × Int)) (w : World) (h : w.sl prC 2 v l) (h2 : w.sl prC 2 v2 l) (hl : l.length ≤ 1048576) :
    Calls Try.prog 58 #[v, v2] w fun x w' => x = .returned (.bool true) ∧ ∃ d, w' = w.ext d := by
  have hs := Lib.hid h
  have hs2 := Lib.hid h2
  obtain ⟨p, c, rfl, _⟩ := h
  obtain ⟨p2, c2, rfl, _⟩ := h2
  go_enter Try.func58, Try.ntmps58
  go_wp2
  go_loopw [5] (fun i wr => ∃ k : Nat, k ≤ l.length ∧ i = .int .i64 k ∧ ∃ d, wr = w.ext d) (fun i _ => l.length - (intOf i).toNat)
  case atStart => exact ⟨0, by omega, rfl, w.gained_refl⟩
  case round =>
    obtain ⟨k, hk, rfl, d, rfl⟩ := hrel
    by_cases hlt : k < l.length
    · obtain ⟨b, o, rfl⟩ := sl_some hs.out (by omega)
      obtain ⟨b2, o2, rfl⟩ := sl_some hs2.out (by omega)
      have c0 := sl_cells hs.out hlt (j := 0) (by omega)
      have c1 := sl_cells hs.out hlt (j := 1) (by omega)
      have e0 := sl_cells hs2.out hlt (j := 0) (by omega)
      have e1 := sl_cells hs2.out hlt (j := 1) (by omega)
      generalize l[k] = x at c0 c1 e0 e1
      obtain ⟨x, y⟩ := x
      simp only [prC, List.getElem?_cons_zero, List.getElem?_cons_succ, Nat.add_zero] at c0 c1 e0 e1
      have ob := World.oldB_of_cell c0
      have ob2 := World.oldB_of_cell e0
      go_wp2
      refine wp_region_gain (by kernel_rfl) (by kernel_rfl) ?_
      repeat (first | go_big_quiet_skip | (go_big_quiet_want; go_big_quiet_op; first | go_big_quiet_on | ((apply Exists.intro); (refine ⟨fun _ => ?_, ?_⟩); (· (go_at_call 114; exact Calls.gain (eqIntA2_same _ _ _))); (go_big_quiet_on))))
      refine wpQuiet_nil ?_
      rintro _ ⟨d', rfl⟩
      go_wp2
      go_roundw
      case rel => exact ⟨k + 1, by omega, by go_num, (by repeat (first | with_reducible (first | exact World.gained_refl _ | exact ⟨_, rfl⟩ | apply gain_ext | apply gain_alloc | apply gain_drewN | apply gain_drew) | (refine gain_setCell ?_ (by first | exact Nat.le_refl _ | exact World.size_ext _ _ | (simp; done) | (simp; omega)) _)))⟩
      case measure => simp [intOf]; omega
    · go_wp2
      go_ret
      exact ⟨rfl, _, rfl⟩
set_option maxHeartbeats 2000000 in
theorem markIntA2S_any (W : World) (v : Value) (n : Nat) (l : List (Int × Int)) (w : World) (B : Nat) (k0 : Int) (h0 : 0 ≤ k0) (h1 : k0 ≤ 16777216) (hl : l.length ≤ 1048576) (hn : l.length = n)
    (h : w.own B 47 prC 2 v l) (hW : ∃ d, w = W.ext d) (hB : W.heap.size ≤ B) :
    Calls Try.prog 65 #[v, .int .i64 k0] w fun x w' => x = .returned (.int .i64 (k0 + 2 * (n : Int))) ∧ w'.own B 47 prC 2 v (markPrs k0 n) ∧ w.grownBy w' v.ownBlock ∧ ∃ d, w' = W.ext d := by
  subst hn
  obtain ⟨_, ⟨rfl, hn0⟩ | ⟨g, cap, C0, rfl, hg, hh, hle, hcap, hs, _⟩⟩ := h
  · have hl0 : l = [] := List.eq_nil_of_length_eq_zero hn0
    subst hl0
    go_enter Try.func65, Try.ntmps65
    go_wp2
    go_loop [1, 5] (fun t i => t = .int .i64 k0 ∧ i = .int .i64 0) (fun _ _ => 0)
    case atStart => exact ⟨rfl, rfl⟩
    case round =>
      obtain ⟨rfl, rfl⟩ := hrel
      go_wp2
      go_ret
      exact ⟨by simp, own_nil _ _ _ _ _, only_refl _ _, hW⟩
  · have HS := Lib.hid hs
    have HM := Lib.hid hcap
    have HW := Lib.hid hW
    clear hs hcap hW
    go_enter Try.func65, Try.ntmps65
    go_wp2
    go_loopw [1, 5] (fun t i wr => ∃ k : Nat, k ≤ l.length ∧ i = .int .i64 k ∧ t = .int .i64 (k0 + 2 * (k : Int)) ∧ w.grownBy wr (some g) ∧ (∃ d, wr = W.ext d) ∧ ∃ C, wr.heap[g]? = some (.cells C 47 (0, 0)) ∧ C.size = cap * 2 ∧ ∀ j, j < k * 2 → C[j]? = some (.int .i64 (k0 + (j : Int)))) (fun _ i _ => l.length - (intOf i).toNat)
    case atStart => exact ⟨0, by omega, rfl, by simp, only_refl _ _, HW.out, C0, hh, HS.out, by simp⟩
    case round =>
      obtain ⟨k, hk, rfl, rfl, hgr, hwr, C, hC, hCs, hCk⟩ := hrel
      have HGR := Lib.hid hgr
      have HWR := Lib.hid hwr
      have HC := Lib.hid hC
      have HCS := Lib.hid hCs
      have HCK := Lib.hid hCk
      clear hgr hwr hh hC hCs hCk
      by_cases hlt : k < l.length
      · go_wp2_with fail
        go_loopw [1, 6] (fun t i wr => ∃ q : Nat, q ≤ 2 ∧ i = .int .i64 q ∧ t = .int .i64 (k0 + 2 * (k : Int) + (q : Int)) ∧ w.grownBy wr (some g) ∧ (∃ d, wr = W.ext d) ∧ ∃ C, wr.heap[g]? = some (.cells C 47 (0, 0)) ∧ C.size = cap * 2 ∧ ∀ j, j < k * 2 + q → C[j]? = some (.int .i64 (k0 + (j : Int)))) (fun _ i _ => 2 - (intOf i).toNat)
        case atStart => exact ⟨0, by omega, rfl, by simp, HGR.out, HWR.out, C, HC.out, HCS.out, HCK.out⟩
        case round =>
          obtain ⟨q, hq, rfl, rfl, hgr, hwr, C, hC, hCs, hCk⟩ := hrel
          clear HGR HWR HC HCS HCK
          have HGR := Lib.hid hgr
          have HWR := Lib.hid hwr
          by_cases hq2 : q < 2
          · have hqd : decide ((q : Int) < 2) = true := decide_eq_true (by omega)
            obtain ⟨x0, hx0⟩ : ∃ x, C[k * 2 + q]? = some x := ⟨C[k * 2 + q]'(by omega), by rw [Array.getElem?_eq_getElem]⟩
            have t0 := World.cell_of_heap hC (k * 2 + q)
            rw [hx0] at t0
            have z0 : _ := World.free_of_heap hC (k * 2 + q)
            have HC := Lib.hid hC
            have HCS := Lib.hid hCs
            have HCK := Lib.hid hCk
            have hq0 : (0 : Int) ≤ (q : Int) := by omega
            have hq3 : (q : Int) < 2 := by omega
            clear hx0 hC hCs hCk hgr hwr
            go_wp2
            go_roundw
            case rel =>
              refine ⟨q + 1, by omega, by go_num, by go_num, only_setCell HGR.out rfl _, gain_setCell HWR.out (Nat.le_trans hB hg) _, _, World.heap_setCell_row HC.out _ _, by simp [HCS.out], fun j hj => ?_⟩
              rw [Array.getElem?_setIfInBounds]
              split
              · rename_i hjk
                subst hjk
                rw [if_pos (by rw [HCS.out]; omega)]
                congr 2
                simp
                omega
              · exact HCK.out j (by omega)
            case measure => simp [intOf]; omega
          · have hqd : decide ((q : Int) < 2) = false := decide_eq_false (by omega)
            obtain rfl : q = 2 := by omega
            have HC := Lib.hid hC
            have HCS := Lib.hid hCs
            have HCK := Lib.hid hCk
            clear hC hCs hCk hgr hwr
            go_wp2
            go_roundw
            case rel => exact ⟨k + 1, by omega, by go_num, by go_num, HGR.out, HWR.out, C, HC.out, HCS.out, fun j hj => HCK.out j (by omega)⟩
            case measure => simp [intOf]; omega
      · go_wp2
        go_ret
        obtain rfl : k = l.length := by omega
        refine ⟨rfl, ?_, HGR.out, HWR.out⟩
        have ho := owns_of_row (base := B) (enc := prC) (sz := 2) (l := markPrs k0 l.length) (cap := cap) prC_length HC.out hg HCS.out (by rw [markPrs_length]; exact hle) HM.out (fun j hj => by
          rw [markPrs_length] at hj
          rw [HCK.out j hj, markPrs_flat _ _ _ hj])
        rw [markPrs_length] at ho
        unfold World.own
        rw [markPrs_length]
        exact ho
set_option maxHeartbeats 2000000 in
theorem heldIntA2S_any (v : Value) (n : Nat) (w : World) (k0 : Int) (h0 : 0 ≤ k0) (h1 : k0 ≤ 16777216) (hl : n ≤ 1048576) (h : w.sl prC 2 v (markPrs k0 n)) :
    Calls Try.prog 66 #[v, .int .i64 k0] w fun x w' => x = .returned (.int .i64 (k0 + 2 * (n : Int))) ∧ ∃ d, w' = w.ext d := by
  have hs := Lib.hid h
  obtain ⟨p, c, rfl, hp, hcap⟩ := h
  have hc : Hid (∀ k q, k < n → q < 2 → ∃ b o, p = some ⟨b, o, none⟩ ∧ w.cell? ⟨b, o + k * 2 + q, none⟩ = some (.int .i64 (k0 + 2 * (k : Int) + (q : Int)))) := Lib.hid (fun k q hk hq => by
    obtain ⟨b, o, rfl, hc⟩ := hp (by rw [markPrs_length]; omega)
    refine ⟨b, o, rfl, ?_⟩
    have := hc k (by rw [markPrs_length]; omega) q hq
    rw [markPrs_get] at this
    rw [this]
    rcases (by omega : q = 0 ∨ q = 1) with rfl | rfl
    · simp [prC]
    · simp [prC])
  rw [markPrs_length]
  clear hp hs
  go_enter Try.func66, Try.ntmps66
  go_wp2
  go_loopw [1, 5] (fun t i wr => ∃ k : Nat, k ≤ n ∧ i = .int .i64 k ∧ t = .int .i64 (k0 + 2 * (k : Int)) ∧ ∃ d, wr = w.ext d) (fun _ i _ => n - (intOf i).toNat)
  case atStart => exact ⟨0, by omega, rfl, by simp, w.gained_refl⟩
  case round =>
    obtain ⟨k, hk, rfl, rfl, d, rfl⟩ := hrel
    by_cases hlt : k < n
    · go_wp2_with fail
      go_loopw [1, 6] (fun t i wr => ∃ q : Nat, q ≤ 2 ∧ i = .int .i64 q ∧ t = .int .i64 (k0 + 2 * (k : Int) + (q : Int)) ∧ ∃ d, wr = w.ext d) (fun _ i _ => 2 - (intOf i).toNat)
      case atStart => exact ⟨0, by omega, rfl, by simp, _, rfl⟩
      case round =>
        obtain ⟨q, hq, rfl, rfl, d2, rfl⟩ := hrel
        by_cases hq2 : q < 2
        · have hqd : decide ((q : Int) < 2) = true := decide_eq_true (by omega)
          have hq0 : (0 : Int) ≤ (q : Int) := by omega
          have hq3 : (q : Int) < 2 := by omega
          obtain ⟨b, o, rfl, c0⟩ := hc.out k q hlt hq2
          have ob := World.oldB_of_cell c0
          go_wp2
          go_roundw
          case rel => exact ⟨q + 1, by omega, by go_num, by go_num, _, rfl⟩
          case measure => simp [intOf]; omega
        · have hqd : decide ((q : Int) < 2) = false := decide_eq_false (by omega)
          obtain rfl : q = 2 := by omega
          go_wp2
          go_roundw
          case rel => exact ⟨k + 1, by omega, by go_num, by go_num, _, rfl⟩
          case measure => simp [intOf]; omega
    · go_wp2
      go_ret
      obtain rfl : k = n := by omega
      exact ⟨rfl, _, rfl⟩
end Go.Proofs.Ytedpckkoaioooaa
