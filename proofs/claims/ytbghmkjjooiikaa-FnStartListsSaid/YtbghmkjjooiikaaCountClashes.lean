/- impl.CountClashes, spec.CountClashes. Condition: at most 1048576 elements. -/
import Derived.Test.YtbghmkjjooiikaaStarts
import Derived.Test.YtbghmkjjooiikaaL10List
namespace Go.Proofs.Ytbghmkjjooiikaa
open Go.RowKit Go.Ori
set_option maxHeartbeats 1000000 in
theorem countClashes_any (v v2 : Value) (l l2 : List Int) (w : World) (h : w.sl intC 1 v l) (h2 : w.sl intC 1 v2 l2) (hl : l.length ≤ 1048576) (hl2 : l2.length ≤ 1048576) :
    Calls Try.prog 61 #[v, v2] w fun x w' => x = .returned (.tuple #[.int .i64 (clashI l l2), .bool (startsB l l2)]) ∧ ∃ d, w' = w.ext d := by
  have HG := Lib.hid (areStarts_any _ _ l l2 _ h h2 hl hl2)
  have hs := Lib.hid h
  have hs2 := Lib.hid h2
  obtain ⟨p, c, rfl, _⟩ := h
  obtain ⟨p2, c2, rfl, _⟩ := h2
  cases hc : startsB l l2 with
  | false =>
    have e1 := Lib.hid (show clashI l l2 = 0 by simp [clashI, hc])
    rw [hc] at HG
    clear hc
    go_enter Try.func61, Try.ntmps61
    go_wp2_with (go_at_call 111; refine HG.out.mono ?_; rintro e w1 ⟨rfl, d1, rfl⟩)
    go_ret2
    exact ⟨by rw [e1.out]; rfl, _, rfl⟩
  | true =>
    have e1 := Lib.hid (show clashI l l2 = clashN l l2 l2.length by simp [clashI, hc])
    have HC := Lib.hid hc
    rw [hc] at HG
    have hn1 := (clubsB_true (startsB_true hc).1).1
    have hn2 := (clubsB_true (startsB_true hc).1).2.1
    have hn3 : (l2.length : Int) = l.length := by rw [(listB_true (startsB_true hc).2).1]
    have h1l : 1 ≤ l2.length := by omega
    have h2l : l2.length ≤ 8 := by omega
    clear hc hn3
    go_enter Try.func61, Try.ntmps61
    go_wp2_with (go_at_call 111; refine HG.out.mono ?_; rintro e w1 ⟨rfl, d1, rfl⟩)
    go_loopw [6, 7] (fun t i wr => ∃ k : Nat, 1 ≤ k ∧ k ≤ l2.length ∧ i = .int .i64 k ∧ t = .int .i64 (clashN l l2 k) ∧ ∃ d, wr = w.ext d) (fun _ i _ => l2.length - (intOf i).toNat)
    case atStart => exact ⟨1, by omega, by omega, rfl, by rw [clashN_one], _, rfl⟩
    case round =>
      obtain ⟨k, hk1, hk, rfl, rfl, d, rfl⟩ := hrel
      have hb0 := (clashN_bd l l2 k).1
      have hb1 := (clashN_bd l l2 k).2
      by_cases hlt : k < l2.length
      · obtain ⟨b2, o2, rfl⟩ := sl_some hs2.out (by omega)
        obtain ⟨b, o, rfl⟩ := sl_some hs.out (by omega)
        have c1 := sl_int hs2.out hlt
        have c2 := sl_int hs2.out (k := k - 1) (by omega)
        obtain ⟨m1, hm1, hm1l⟩ := start_at HC.out hlt
        obtain ⟨m2, hm2, hm2l⟩ := start_at HC.out (k := k - 1) (by omega)
        have HE := Lib.hid (sameAt_eq (clubs := l) (list := l2) (k := k) (by rw [List.getElem?_eq_getElem hlt, hm1]) (by rw [List.getElem?_eq_getElem (by omega), hm2]) (List.getElem?_eq_getElem hm1l) (List.getElem?_eq_getElem hm2l))
        rw [hm1] at c1
        rw [hm2] at c2
        clear hm1 hm2
        have c3 := sl_int hs.out hm1l
        have c4 := sl_int hs.out hm2l
        generalize l[m1] = y1 at c3 HE
        generalize l[m2] = y2 at c4 HE
        have ob := World.oldB_of_cell c3
        have ob2 := World.oldB_of_cell c1
        cases hy : (y1 == y2) with
        | true =>
          have hy' : (y2 == y1) = true := by rw [BEq.comm]; exact hy
          have HN := Lib.hid (clashN_yes hk1 (by rw [HE.out]; exact hy))
          go_wp2
          refine wp_region_gain (by kernel_rfl) (by kernel_rfl) ?_
          repeat (first | go_big_quiet_skip | (go_big_quiet_want; go_big_quiet_op; first | go_big_quiet_on))
          refine wpQuiet_nil ?_
          rintro _ ⟨d', rfl⟩
          go_wp2
          go_roundw
          case rel => exact ⟨k + 1, by omega, by omega, by go_num, by rw [HN.out], gain_ext ⟨_, rfl⟩ _⟩
          case measure => simp [intOf]; omega
        | false =>
          have hy' : (y2 == y1) = false := by rw [BEq.comm]; exact hy
          have HN := Lib.hid (clashN_no (clubs := l) (list := l2) (k := k) (by rw [HE.out]; exact hy))
          go_wp2
          refine wp_region_gain (by kernel_rfl) (by kernel_rfl) ?_
          repeat (first | go_big_quiet_skip | (go_big_quiet_want; go_big_quiet_op; first | go_big_quiet_on))
          refine wpQuiet_nil ?_
          rintro _ ⟨d', rfl⟩
          go_wp2
          go_roundw
          case rel => exact ⟨k + 1, by omega, by omega, by go_num, by rw [HN.out], gain_ext ⟨_, rfl⟩ _⟩
          case measure => simp [intOf]; omega
      · go_wp2
        go_ret2
        obtain rfl : k = l2.length := by omega
        exact ⟨by rw [e1.out]; rfl, _, rfl⟩
set_option maxHeartbeats 1000000 in
theorem specCountClashes_any (v v2 : Value) (l l2 : List Int) (w : World) (h : w.sl intC 1 v l) (h2 : w.sl intC 1 v2 l2) (hl : l.length ≤ 1048576) (hl2 : l2.length ≤ 1048576) :
    Calls Try.prog 63 #[v, v2] w fun x w' => x = .returned (.tuple #[.int .i64 (clashI l l2), .bool (startsB l l2)]) ∧ ∃ d, w' = w.ext d := by
  have HG := Lib.hid (l10List_any _ _ l l2 _ h h2 hl hl2)
  have hs := Lib.hid h
  have hs2 := Lib.hid h2
  obtain ⟨p, c, rfl, _⟩ := h
  obtain ⟨p2, c2, rfl, _⟩ := h2
  cases hc : startsB l l2 with
  | false =>
    have e1 := Lib.hid (show clashI l l2 = 0 by simp [clashI, hc])
    rw [hc] at HG
    clear hc
    go_enter Try.func63, Try.ntmps63
    go_wp2_with (go_at_call 113; refine HG.out.mono ?_; rintro e w1 ⟨rfl, d1, rfl⟩)
    go_ret2
    exact ⟨by rw [e1.out]; rfl, _, rfl⟩
  | true =>
    have e1 := Lib.hid (show clashI l l2 = clashN l l2 l2.length by simp [clashI, hc])
    have HC := Lib.hid hc
    rw [hc] at HG
    have hn1 := (clubsB_true (startsB_true hc).1).1
    have hn2 := (clubsB_true (startsB_true hc).1).2.1
    have hn3 : (l2.length : Int) = l.length := by rw [(listB_true (startsB_true hc).2).1]
    have h1l : 1 ≤ l2.length := by omega
    have h2l : l2.length ≤ 8 := by omega
    clear hc hn3
    go_enter Try.func63, Try.ntmps63
    go_wp2_with (go_at_call 113; refine HG.out.mono ?_; rintro e w1 ⟨rfl, d1, rfl⟩)
    go_loopw [6, 7] (fun t i wr => ∃ k : Nat, 1 ≤ k ∧ k ≤ l2.length ∧ i = .int .i64 k ∧ t = .int .i64 (clashN l l2 k) ∧ ∃ d, wr = w.ext d) (fun _ i _ => l2.length - (intOf i).toNat)
    case atStart => exact ⟨1, by omega, by omega, rfl, by rw [clashN_one], _, rfl⟩
    case round =>
      obtain ⟨k, hk1, hk, rfl, rfl, d, rfl⟩ := hrel
      have hb0 := (clashN_bd l l2 k).1
      have hb1 := (clashN_bd l l2 k).2
      by_cases hlt : k < l2.length
      · obtain ⟨b2, o2, rfl⟩ := sl_some hs2.out (by omega)
        obtain ⟨b, o, rfl⟩ := sl_some hs.out (by omega)
        have c1 := sl_int hs2.out hlt
        have c2 := sl_int hs2.out (k := k - 1) (by omega)
        obtain ⟨m1, hm1, hm1l⟩ := start_at HC.out hlt
        obtain ⟨m2, hm2, hm2l⟩ := start_at HC.out (k := k - 1) (by omega)
        have HE := Lib.hid (sameAt_eq (clubs := l) (list := l2) (k := k) (by rw [List.getElem?_eq_getElem hlt, hm1]) (by rw [List.getElem?_eq_getElem (by omega), hm2]) (List.getElem?_eq_getElem hm1l) (List.getElem?_eq_getElem hm2l))
        rw [hm1] at c1
        rw [hm2] at c2
        clear hm1 hm2
        have c3 := sl_int hs.out hm1l
        have c4 := sl_int hs.out hm2l
        generalize l[m1] = y1 at c3 HE
        generalize l[m2] = y2 at c4 HE
        have ob := World.oldB_of_cell c3
        have ob2 := World.oldB_of_cell c1
        cases hy : (y1 == y2) with
        | true =>
          have hy' : (y2 == y1) = true := by rw [BEq.comm]; exact hy
          have HN := Lib.hid (clashN_yes hk1 (by rw [HE.out]; exact hy))
          go_wp2
          refine wp_region_gain (by kernel_rfl) (by kernel_rfl) ?_
          repeat (first | go_big_quiet_skip | (go_big_quiet_want; go_big_quiet_op; first | go_big_quiet_on))
          refine wpQuiet_nil ?_
          rintro _ ⟨d', rfl⟩
          go_wp2
          go_roundw
          case rel => exact ⟨k + 1, by omega, by omega, by go_num, by rw [HN.out], gain_ext ⟨_, rfl⟩ _⟩
          case measure => simp [intOf]; omega
        | false =>
          have hy' : (y2 == y1) = false := by rw [BEq.comm]; exact hy
          have HN := Lib.hid (clashN_no (clubs := l) (list := l2) (k := k) (by rw [HE.out]; exact hy))
          go_wp2
          refine wp_region_gain (by kernel_rfl) (by kernel_rfl) ?_
          repeat (first | go_big_quiet_skip | (go_big_quiet_want; go_big_quiet_op; first | go_big_quiet_on))
          refine wpQuiet_nil ?_
          rintro _ ⟨d', rfl⟩
          go_wp2
          go_roundw
          case rel => exact ⟨k + 1, by omega, by omega, by go_num, by rw [HN.out], gain_ext ⟨_, rfl⟩ _⟩
          case measure => simp [intOf]; omega
      · go_wp2
        go_ret2
        obtain rfl : k = l2.length := by omega
        exact ⟨by rw [e1.out]; rfl, _, rfl⟩
end Go.Proofs.Ytbghmkjjooiikaa
