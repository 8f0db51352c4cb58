/- impl.StartTimes, spec.StartTimes. Condition: at most 1048576 elements. -/
import Derived.Test.YtbghmkjjooiikaaStarts
import Derived.Test.YtbghmkjjooiikaaL10List
import Derived.Test.YtbghmkjjooiikaaInfoInt
namespace Go.Proofs.Ytbghmkjjooiikaa
open Go.RowKit Go.Ori
set_option maxHeartbeats 1000000 in
theorem startTimes_any (v v2 : Value) (l l2 : List Int) (a b : Int) (w : World) (h : w.sl intC 1 v l) (h2 : w.sl intC 1 v2 l2) (hl : l.length ≤ 1048576) (hl2 : l2.length ≤ 1048576) :
    Calls Try.prog 43 #[v, v2, .int .i64 a, .int .i64 b] w fun x w' => ∃ r, x = .returned (.tuple #[r, .bool (timesB l l2 a b)]) ∧ (∃ d, w' = w.ext d) ∧ w'.own w.heap.size 3 intC 1 r (timesL l l2 a b) := by
  have HG := Lib.hid (areStarts_any _ _ l l2 _ h h2 hl hl2)
  have hs2 := Lib.hid h2
  obtain ⟨p, c, rfl, _⟩ := h
  obtain ⟨p2, c2, rfl, _⟩ := h2
  cases hc : startsB l l2 with
  | false =>
    have e0 : timesB l l2 a b = false := by simp [timesB, hc]
    have e1 := Lib.hid e0
    have e2 := Lib.hid (show timesL l l2 a b = [] by simp [timesL, e0])
    rw [hc] at HG
    clear hc e0
    go_enter Try.func43, Try.ntmps43
    go_wp2_with (go_at_call 111; refine HG.out.mono ?_; rintro e w1 ⟨rfl, d1, rfl⟩)
    go_ret2
    rw [e1.out, e2.out]
    exact ⟨_, rfl, ⟨_, rfl⟩, own_nil _ _ _ _ _⟩
  | true =>
    cases hm : minutesB a b with
    | false =>
      have e0 : timesB l l2 a b = false := by simp [timesB, hm]
      have e1 := Lib.hid e0
      have e2 := Lib.hid (show timesL l l2 a b = [] by simp [timesL, e0])
      have HM := Lib.hid hm
      rw [hc] at HG
      clear hc e0
      go_enter Try.func43, Try.ntmps43
      go_wp2_with (first | (go_at_call 111; refine HG.out.mono ?_; rintro e w1 ⟨rfl, d1, rfl⟩) | (go_at_call 112; refine (areMinutes_any _ _ _).mono ?_; rintro e w1 ⟨rfl, rfl⟩))
      go_ret2
      rw [e1.out, e2.out]
      exact ⟨_, rfl, ⟨_, rfl⟩, own_nil _ _ _ _ _⟩
    | true =>
      have e0 : timesB l l2 a b = true := by simp [timesB, hc, hm]
      have e1 := Lib.hid e0
      have e2 := Lib.hid (show timesL l l2 a b = timesN l.length l2 a b l2.length by simp [timesL, e0])
      obtain ⟨⟨ha1, ha2⟩, hb1, hb2⟩ := minutesB_true hm
      have HC := Lib.hid hc
      rw [hc] at HG
      have hn1 := (clubsB_true (startsB_true hc).1).1
      have hn2 := (clubsB_true (startsB_true hc).1).2.1
      have hn3 := (listB_true (startsB_true hc).2).1
      have h2l : l2.length ≤ 8 := by omega
      have HN3 := Lib.hid hn3
      have hmk := fun w => run_make_rows (P := Try.prog) Try.underlying34 info_int l.length (by omega) (by omega) w
      clear hc e0 hn3
      go_enter Try.func43, Try.ntmps43
      go_wp2_with (first | (go_at_call 111; refine HG.out.mono ?_; rintro e w1 ⟨rfl, d1, rfl⟩) | (go_at_call 112; refine (areMinutes_any _ _ _).mono ?_; rintro e w1 ⟨rfl, rfl⟩))
      clear hmk
      go_loopw [28] (fun i wr => ∃ k : Nat, k ≤ l2.length ∧ i = .int .i64 k ∧ (∃ d, wr = w.ext d) ∧ wr.heap[(w.ext d1).heap.size]? = some (.cells ((timesN l.length l2 a b k).map (Value.int .i64)).toArray 3 (0, 0))) (fun i _ => l2.length - (intOf i).toNat)
      case atStart => exact ⟨0, by omega, rfl, gain_alloc ⟨_, rfl⟩ _, by rw [heap_alloc_new, made_ints]; simp [timesN, ]⟩
      case round =>
        obtain ⟨k, hk, rfl, ⟨d, rfl⟩, hC⟩ := hrel
        have hnew := World.newB_of_heap hC
        have HCC := Lib.hid hC
        by_cases hlt : k < l2.length
        · obtain ⟨b2, o2, rfl⟩ := sl_some hs2.out (by omega)
          have c1 := sl_int hs2.out hlt
          obtain ⟨m1, hm1, hm1l⟩ := start_at HC.out hlt
          have HE := Lib.hid (show timesN l.length l2 a b (k + 1) = (timesN l.length l2 a b k).set m1 (a + (k : Int) * b) by rw [timesN, List.getD_eq_getElem?_getD, List.getElem?_eq_getElem hlt, hm1]; rfl)
          rw [hm1] at c1
          clear hm1
          have ob := World.oldB_of_cell c1
          obtain ⟨x0, hx0⟩ : ∃ x, (((timesN l.length l2 a b k).map (Value.int .i64)).toArray)[m1]? = some x := ⟨_, Array.getElem?_eq_getElem (by simp [timesN_length]; exact hm1l)⟩
          have t0 : (w.ext d).cell? ⟨(w.ext d1).heap.size, m1, none⟩ = some x0 := by rw [World.cell_of_heap hC]; exact hx0
          have z0 : (w.ext d).frozen? ⟨(w.ext d1).heap.size, m1, none⟩ = false := World.free_of_heap hC m1
          have hp1 : 0 ≤ (k : Int) * b := Int.mul_nonneg (by omega) (by omega)
          have hp2 : (k : Int) * b ≤ 8 * 10 := Int.mul_le_mul (by omega) hb2 (by omega) (by omega)
          have hkm : m1 < l.length := hm1l
          clear hx0 hC
          go_wp2
          go_roundw
          case rel =>
            refine ⟨k + 1, by omega, by go_num, gain_setCell ⟨_, rfl⟩ (World.size_ext w d1) _, ?_⟩
            rw [World.heap_setCell_row HCC.out, setInts, HE.out]
          case measure => simp [intOf]; omega
        · clear hC
          go_wp2
          go_ret2
          obtain rfl : k = l2.length := by omega
          rw [e1.out, e2.out]
          have hlen := timesN_length l.length l2 a b l2.length
          have ho := own_ints (base := w.heap.size) HCC.out (World.size_ext w d1) (by rw [hlen]; omega)
          rw [hlen] at ho
          exact ⟨_, rfl, ⟨_, rfl⟩, by exact ho⟩
set_option maxHeartbeats 1000000 in
theorem specStartTimes_any (v v2 : Value) (l l2 : List Int) (a b : Int) (w : World) (h : w.sl intC 1 v l) (h2 : w.sl intC 1 v2 l2) (hl : l.length ≤ 1048576) (hl2 : l2.length ≤ 1048576) :
    Calls Try.prog 44 #[v, v2, .int .i64 a, .int .i64 b] w fun x w' => ∃ r, x = .returned (.tuple #[r, .bool (timesB l l2 a b)]) ∧ (∃ d, w' = w.ext d) ∧ w'.own w.heap.size 3 intC 1 r (timesL l l2 a b) := by
  have HG := Lib.hid (l10List_any _ _ l l2 _ h h2 hl hl2)
  have hs2 := Lib.hid h2
  obtain ⟨p, c, rfl, _⟩ := h
  obtain ⟨p2, c2, rfl, _⟩ := h2
  cases hc : startsB l l2 with
  | false =>
    have e0 : timesB l l2 a b = false := by simp [timesB, hc]
    have e1 := Lib.hid e0
    have e2 := Lib.hid (show timesL l l2 a b = [] by simp [timesL, e0])
    rw [hc] at HG
    clear hc e0
    go_enter Try.func44, Try.ntmps44
    go_wp2_with (go_at_call 113; refine HG.out.mono ?_; rintro e w1 ⟨rfl, d1, rfl⟩)
    go_ret2
    rw [e1.out, e2.out]
    exact ⟨_, rfl, gain_alloc ⟨_, rfl⟩ _, own_base (own_lit (l := ([] : List Int)) intC_length rfl (by simp)) (World.size_ext _ _)⟩
  | true =>
    cases hm : minutesB a b with
    | false =>
      have e0 : timesB l l2 a b = false := by simp [timesB, hm]
      have e1 := Lib.hid e0
      have e2 := Lib.hid (show timesL l l2 a b = [] by simp [timesL, e0])
      have HM := Lib.hid hm
      rw [hc] at HG
      clear hc e0
      go_enter Try.func44, Try.ntmps44
      go_wp2_with (first | (go_at_call 113; refine HG.out.mono ?_; rintro e w1 ⟨rfl, d1, rfl⟩) | (go_at_call 114; refine (l10Minutes_any _ _ _).mono ?_; rintro e w1 ⟨rfl, rfl⟩))
      go_ret2
      rw [e1.out, e2.out]
      exact ⟨_, rfl, gain_alloc ⟨_, rfl⟩ _, own_base (own_lit (l := ([] : List Int)) intC_length rfl (by simp)) (World.size_ext _ _)⟩
    | true =>
      have e0 : timesB l l2 a b = true := by simp [timesB, hc, hm]
      have e1 := Lib.hid e0
      have e2 := Lib.hid (show timesL l l2 a b = timesN l.length l2 a b l2.length by simp [timesL, e0])
      obtain ⟨⟨ha1, ha2⟩, hb1, hb2⟩ := minutesB_true hm
      have HC := Lib.hid hc
      rw [hc] at HG
      have hn1 := (clubsB_true (startsB_true hc).1).1
      have hn2 := (clubsB_true (startsB_true hc).1).2.1
      have hn3 := (listB_true (startsB_true hc).2).1
      have h2l : l2.length ≤ 8 := by omega
      have HN3 := Lib.hid hn3
      have hmk := fun w => run_make_rows (P := Try.prog) Try.underlying34 info_int l2.length (by omega) (by omega) w
      clear hc e0 hn3
      go_enter Try.func44, Try.ntmps44
      go_wp2_with (first | (go_at_call 113; refine HG.out.mono ?_; rintro e w1 ⟨rfl, d1, rfl⟩) | (go_at_call 114; refine (l10Minutes_any _ _ _).mono ?_; rintro e w1 ⟨rfl, rfl⟩))
      clear hmk
      go_loopw [11] (fun i wr => ∃ k : Nat, k ≤ l2.length ∧ i = .int .i64 k ∧ (∃ d, wr = w.ext d) ∧ wr.heap[(w.ext d1).heap.size]? = some (.cells ((timesN l.length l2 a b k).map (Value.int .i64)).toArray 3 (0, 0))) (fun i _ => l2.length - (intOf i).toNat)
      case atStart => exact ⟨0, by omega, rfl, gain_alloc ⟨_, rfl⟩ _, by rw [heap_alloc_new, made_ints]; simp [timesN, HN3.out]⟩
      case round =>
        obtain ⟨k, hk, rfl, ⟨d, rfl⟩, hC⟩ := hrel
        have hnew := World.newB_of_heap hC
        have HCC := Lib.hid hC
        by_cases hlt : k < l2.length
        · obtain ⟨b2, o2, rfl⟩ := sl_some hs2.out (by omega)
          have c1 := sl_int hs2.out hlt
          obtain ⟨m1, hm1, hm1l⟩ := start_at HC.out hlt
          have HE := Lib.hid (show timesN l.length l2 a b (k + 1) = (timesN l.length l2 a b k).set m1 (a + (k : Int) * b) by rw [timesN, List.getD_eq_getElem?_getD, List.getElem?_eq_getElem hlt, hm1]; rfl)
          rw [hm1] at c1
          clear hm1
          have ob := World.oldB_of_cell c1
          obtain ⟨x0, hx0⟩ : ∃ x, (((timesN l.length l2 a b k).map (Value.int .i64)).toArray)[m1]? = some x := ⟨_, Array.getElem?_eq_getElem (by simp [timesN_length]; exact hm1l)⟩
          have t0 : (w.ext d).cell? ⟨(w.ext d1).heap.size, m1, none⟩ = some x0 := by rw [World.cell_of_heap hC]; exact hx0
          have z0 : (w.ext d).frozen? ⟨(w.ext d1).heap.size, m1, none⟩ = false := World.free_of_heap hC m1
          have hp1 : 0 ≤ (k : Int) * b := Int.mul_nonneg (by omega) (by omega)
          have hp2 : (k : Int) * b ≤ 8 * 10 := Int.mul_le_mul (by omega) hb2 (by omega) (by omega)
          have hkm : m1 < l2.length := by have := HN3.out; omega
          clear hx0 hC
          go_wp2
          go_roundw
          case rel =>
            refine ⟨k + 1, by omega, by go_num, gain_setCell ⟨_, rfl⟩ (World.size_ext w d1) _, ?_⟩
            rw [World.heap_setCell_row HCC.out, setInts, HE.out]
          case measure => simp [intOf]; omega
        · clear hC
          go_wp2
          go_ret2
          obtain rfl : k = l2.length := by omega
          rw [e1.out, e2.out]
          have hlen := timesN_length l.length l2 a b l2.length
          have ho := own_ints (base := w.heap.size) HCC.out (World.size_ext w d1) (by rw [hlen]; omega)
          rw [hlen] at ho
          exact ⟨_, rfl, ⟨_, rfl⟩, by rw [← HN3.out] at ho; rw [← HN3.out]; exact ho⟩
end Go.Proofs.Ytbghmkjjooiikaa
