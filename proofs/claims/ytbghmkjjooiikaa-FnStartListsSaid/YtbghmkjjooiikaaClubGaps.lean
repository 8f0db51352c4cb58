/- impl.ClubGaps, spec.ClubGaps. Condition: at most 1048576 elements. -/
import Derived.Test.YtbghmkjjooiikaaStarts
import Derived.Test.YtbghmkjjooiikaaL10List
import Derived.Test.YtbghmkjjooiikaaInfoInt
import Derived.Test.YtbghmkjjooiikaaPGaps
import Derived.Test.YtbghmkjjooiikaaHeld
namespace Go.Proofs.Ytbghmkjjooiikaa
open Go.RowKit Go.Ori
set_option maxHeartbeats 2000000 in
theorem clubGaps_any (v v2 : Value) (l l2 : List Int) (w : World) (h : w.sl intC 1 v l) (h2 : w.sl intC 1 v2 l2) (hl : l.length ≤ 1048576) (hl2 : l2.length ≤ 1048576) :
    Calls Try.prog 54 #[v, v2] w fun x w' => ∃ r, x = .returned (.tuple #[r, .bool (startsB l l2)]) ∧ (∃ d, w' = w.ext d) ∧ w'.own w.heap.size 3 intC 1 r (gapsL l l2) := by
  have HG := Lib.hid (areStarts_any _ _ l l2 _ h h2 hl hl2)
  have hs := Lib.hid h
  have hs2 := Lib.hid h2
  obtain ⟨p, c, rfl, _⟩ := h
  obtain ⟨p2, c2, rfl, _⟩ := h2
  cases hc : startsB l l2 with
  | false =>
    have e2 := Lib.hid (show gapsL l l2 = [] by simp [gapsL, hc])
    rw [hc] at HG
    clear hc
    go_enter Try.func54, Try.ntmps54
    go_wp2_with (go_at_call 111; refine HG.out.mono ?_; rintro e w1 ⟨rfl, d1, rfl⟩)
    go_ret2
    rw [e2.out]
    exact ⟨_, rfl, ⟨_, rfl⟩, own_nil _ _ _ _ _⟩
  | true =>
    have e2 := Lib.hid (show gapsL l l2 = gbN l l2 l2.length by simp [gapsL, hc])
    have HC := Lib.hid hc
    rw [hc] at HG
    have hn1 := (clubsB_true (startsB_true hc).1).1
    have hn2 := (clubsB_true (startsB_true hc).1).2.1
    have hcl := (clubsB_true (startsB_true hc).1).2.2
    have hn3 := (listB_true (startsB_true hc).2).1
    have h2l : l2.length ≤ 8 := by omega
    have HCL := Lib.hid hcl
    have hmk : ∀ W : World, (Instr.makeSlice 34 (.int .i64 6) (.int .i64 6)).run Try.prog W = .ok (.slice (some ⟨W.heap.size, 0, none⟩) 6 6) (W.alloc (.cells (madeCells #[.int .i64 0] (6 * 1)) 3)) :=
      fun W => run_make_rows (P := Try.prog) Try.underlying34 info_int 6 (by omega) (by omega) W
    have HM6 := Lib.hid (made_ints 6)
    have HZ6 := Lib.hid (show gbN l l2 0 = List.replicate 6 0 by simp [gbN, gb]; rfl)
    have HZ7 := Lib.hid (show glN l l2 0 = List.replicate 6 0 by simp [glN, gl]; rfl)
    clear hc hn3 hcl
    go_enter Try.func54, Try.ntmps54
    go_wp2_with (go_at_call 111; refine HG.out.mono ?_; rintro e w1 ⟨rfl, d1, rfl⟩)
    clear hmk
    go_loopw [20] (fun i wr => ∃ k : Nat, k ≤ l2.length ∧ i = .int .i64 k ∧ (∃ d, wr = w.ext d) ∧ wr.heap[(w.ext d1).heap.size]? = some (.cells ((gbN l l2 k).map (Value.int .i64)).toArray 3 (0, 0)) ∧ wr.heap[(w.ext d1).heap.size + 1]? = some (.cells ((glN l l2 k).map (Value.int .i64)).toArray 120 (0, 0))) (fun i _ => l2.length - (intOf i).toNat)
    case atStart =>
      exact ⟨0, by omega, rfl, (by repeat (first | with_reducible (first | exact World.gained_refl _ | exact ⟨_, rfl⟩ | apply gain_ext | apply gain_alloc | apply gain_drewN | apply gain_drew) | (refine gain_setCell ?_ (by first | exact Nat.le_refl _ | exact World.size_ext _ _ | (simp; done) | (simp; omega)) _))), (heap_alloc_old _ _ (by rw [World.size_alloc]; omega)).trans (by rw [heap_alloc_new, HZ6.out, ← HM6.out]), by rw [show (w.ext d1).heap.size + 1 = ((w.ext d1).alloc (.cells (madeCells #[.int .i64 0] 6) 3)).heap.size by rw [World.size_alloc], heap_alloc_new, HZ7.out]; rfl⟩
    case round =>
      obtain ⟨k, hk, rfl, ⟨d, rfl⟩, hA, hB⟩ := hrel
      have hnA := World.newB_of_heap hA
      have hnB := World.newB_of_heap hB
      have HA := Lib.hid hA
      have HB := Lib.hid hB
      have hsz := Lib.hid (World.size_ext w d1)
      generalize (w.ext d1).heap.size = g at hA hB HA HB hnA hnB hsz
      by_cases hlt : k < l2.length
      · have hcl := HCL.out
        obtain ⟨b2, o2, rfl⟩ := sl_some hs2.out (by omega)
        have c1 := sl_int hs2.out hlt
        obtain ⟨m1, hm1, hm1l⟩ := start_at HC.out hlt
        obtain ⟨b1, o1, rfl⟩ := sl_some hs.out (by omega)
        have c2 := sl_int hs.out hm1l
        have hcr := hcl l[m1] (List.getElem_mem hm1l)
        obtain ⟨V, hV⟩ := Int.eq_ofNat_of_zero_le hcr.1
        have HV := Lib.hid (clubAt_eq hlt hm1 hm1l hV)
        rw [hm1] at c1
        rw [hV] at c2 hcr
        clear hm1 hV
        have ob1 := World.oldB_of_cell c1
        have ob2 := World.oldB_of_cell c2
        have hV6 : V < 6 := by omega
        obtain ⟨hg1, hg2⟩ := gl_bd l l2 V k
        obtain ⟨hb1, hb2⟩ := gb_bd l l2 V k
        clear hcl
        have ta : (w.ext d).cell? ⟨g, V, none⟩ = some (.int .i64 (gb l l2 V k)) := by
          rw [World.cell_of_heap hA]; simp [gbN_at hV6]
        have tb : (w.ext d).cell? ⟨g + 1, V, none⟩ = some (.int .i64 (gl l l2 V k)) := by
          rw [World.cell_of_heap hB]; simp [glN_at hV6]
        have za : (w.ext d).frozen? ⟨g, V, none⟩ = false := World.free_of_heap hA V
        have zb : (w.ext d).frozen? ⟨g + 1, V, none⟩ = false := World.free_of_heap hB V
        have HGL := Lib.hid (glN_succ HV.out)
        have HY := Lib.hid (fun hc => gbN_set HV.out hc)
        have HN := Lib.hid (fun hc => gbN_same HV.out hc)
        generalize gb l l2 V k = gv at ta hb1 hb2 HY HN
        generalize gl l l2 V k = lv at tb hg1 hg2 HY HN
        clear hA hB
        by_cases q1 : 0 < lv
        · by_cases q2 : gv = 0
          · have HY' := Lib.hid (HY.out ⟨q1, .inl q2⟩)
            clear HY HN
            subst q2
            go_wp2
            go_roundw
            case rel => exact ⟨k + 1, by omega, by go_num, gain_setCell (gain_setCell ⟨_, rfl⟩ hsz.out _) (Nat.le_succ_of_le hsz.out) _, (World.heap_setCell_far _ (show g ≠ g + 1 by omega)).trans ((World.heap_setCell_row HA.out _ _).trans (by rw [setInts, HY'.out])), (World.heap_setCell_row ((World.heap_setCell_far _ (show g + 1 ≠ g by omega)).trans HB.out) _ _).trans (by rw [setInts, HGL.out])⟩
            case measure => simp [intOf]; omega
          · by_cases q3 : (k : Int) + 1 - lv < gv
            · have HY' := Lib.hid (HY.out ⟨q1, .inr q3⟩)
              clear HY HN
              go_wp2
              go_roundw
              case rel => exact ⟨k + 1, by omega, by go_num, gain_setCell (gain_setCell ⟨_, rfl⟩ hsz.out _) (Nat.le_succ_of_le hsz.out) _, (World.heap_setCell_far _ (show g ≠ g + 1 by omega)).trans ((World.heap_setCell_row HA.out _ _).trans (by rw [setInts, HY'.out])), (World.heap_setCell_row ((World.heap_setCell_far _ (show g + 1 ≠ g by omega)).trans HB.out) _ _).trans (by rw [setInts, HGL.out])⟩
              case measure => simp [intOf]; omega
            · have HN' := Lib.hid (HN.out (by rintro ⟨_, h | h⟩ <;> omega))
              clear HY HN
              go_wp2
              go_roundw
              case rel => exact ⟨k + 1, by omega, by go_num, gain_setCell ⟨_, rfl⟩ (Nat.le_succ_of_le hsz.out) _, (World.heap_setCell_far _ (show g ≠ g + 1 by omega)).trans (by rw [HN'.out]; exact HA.out), (World.heap_setCell_row HB.out _ _).trans (by rw [setInts, HGL.out])⟩
              case measure => simp [intOf]; omega
        · have HN' := Lib.hid (HN.out (by rintro ⟨h, _⟩; omega))
          clear HY HN
          go_wp2
          go_roundw
          case rel => exact ⟨k + 1, by omega, by go_num, gain_setCell ⟨_, rfl⟩ (Nat.le_succ_of_le hsz.out) _, (World.heap_setCell_far _ (show g ≠ g + 1 by omega)).trans (by rw [HN'.out]; exact HA.out), (World.heap_setCell_row HB.out _ _).trans (by rw [setInts, HGL.out])⟩
          case measure => simp [intOf]; omega
      · clear hA hB
        go_wp2
        go_ret2
        obtain rfl : k = l2.length := by omega
        rw [e2.out]
        have hlen := gbN_length l l2 l2.length
        have ho := own_ints (base := w.heap.size) HA.out hsz.out (by rw [hlen]; omega)
        rw [hlen] at ho
        exact ⟨_, rfl, ⟨_, rfl⟩, ho⟩
set_option maxHeartbeats 2000000 in
theorem specClubGaps_any (v v2 : Value) (l l2 : List Int) (w : World) (h : w.sl intC 1 v l) (h2 : w.sl intC 1 v2 l2) (hl : l.length ≤ 1048576) (hl2 : l2.length ≤ 1048576) :
    Calls Try.prog 55 #[v, v2] w fun x w' => ∃ r, x = .returned (.tuple #[r, .bool (startsB l l2)]) ∧ (∃ d, w' = w.ext d) ∧ w'.own w.heap.size 3 intC 1 r (gapsL l l2) := by
  have HG := Lib.hid (l10List_any _ _ l l2 _ h h2 hl hl2)
  have hs := Lib.hid h
  have hs2 := Lib.hid h2
  obtain ⟨p, c, rfl, _⟩ := h
  obtain ⟨p2, c2, rfl, _⟩ := h2
  cases hc : startsB l l2 with
  | false =>
    have e2 := Lib.hid (show gapsL l l2 = [] by simp [gapsL, hc])
    rw [hc] at HG
    clear hc
    go_enter Try.func55, Try.ntmps55
    go_wp2_with (go_at_call 113; refine HG.out.mono ?_; rintro e w1 ⟨rfl, d1, rfl⟩)
    go_ret2
    rw [e2.out]
    exact ⟨_, rfl, (by repeat (first | with_reducible (first | exact World.gained_refl _ | exact ⟨_, rfl⟩ | apply gain_ext | apply gain_alloc | apply gain_drewN | apply gain_drew) | (refine gain_setCell ?_ (by first | exact Nat.le_refl _ | exact World.size_ext _ _ | (simp; done) | (simp; omega)) _))), own_lit' (l := ([] : List Int)) intC_length rfl rfl (gain_size (by repeat (first | with_reducible (first | exact World.gained_refl _ | exact ⟨_, rfl⟩ | apply gain_ext | apply gain_alloc | apply gain_drewN | apply gain_drew) | (refine gain_setCell ?_ (by first | exact Nat.le_refl _ | exact World.size_ext _ _ | (simp; done) | (simp; omega)) _))))⟩
  | true =>
    have e2 := Lib.hid (show gapsL l l2 = gbN l l2 l2.length by simp [gapsL, hc])
    have HC := Lib.hid hc
    rw [hc] at HG
    have hn1 := (clubsB_true (startsB_true hc).1).1
    have hn2 := (clubsB_true (startsB_true hc).1).2.1
    have hcl := (clubsB_true (startsB_true hc).1).2.2
    have hn3 := (listB_true (startsB_true hc).2).1
    have h2l : l2.length ≤ 8 := by omega
    have HCL := Lib.hid hcl
    have hmk : ∀ W : World, (Instr.makeSlice 34 (.int .i64 6) (.int .i64 6)).run Try.prog W = .ok (.slice (some ⟨W.heap.size, 0, none⟩) 6 6) (W.alloc (.cells (madeCells #[.int .i64 0] (6 * 1)) 3)) :=
      fun W => run_make_rows (P := Try.prog) Try.underlying34 info_int 6 (by omega) (by omega) W
    have HM6 := Lib.hid (made_ints 6)
    have HZ6 := Lib.hid (gsN_zero l l2)
    clear hc hn3 hcl
    go_enter Try.func55, Try.ntmps55
    go_wp2_with (go_at_call 113; refine HG.out.mono ?_; rintro e w1 ⟨rfl, d1, rfl⟩)
    clear hmk
    go_loopw [7] (fun i wr => ∃ C : Nat, C ≤ 6 ∧ i = .int .i64 C ∧ (∃ d, wr = w.ext d) ∧ wr.heap[(w.ext d1).heap.size]? = some (.cells ((gsN l l2 C 0).map (Value.int .i64)).toArray 3 (0, 0))) (fun i _ => 6 - (intOf i).toNat)
    case atStart => exact ⟨0, by omega, rfl, (by repeat (first | with_reducible (first | exact World.gained_refl _ | exact ⟨_, rfl⟩ | apply gain_ext | apply gain_alloc | apply gain_drewN | apply gain_drew) | (refine gain_setCell ?_ (by first | exact Nat.le_refl _ | exact World.size_ext _ _ | (simp; done) | (simp; omega)) _))), by rw [heap_alloc_new, HZ6.out, ← HM6.out]⟩
    case round =>
      obtain ⟨C, hCk, rfl, ⟨d, rfl⟩, hA⟩ := hrel
      have HA := Lib.hid hA
      have hsz := Lib.hid (World.size_ext w d1)
      generalize (w.ext d1).heap.size = g at hA HA hsz
      clear hA
      by_cases hC6 : C < 6
      · have HNX := Lib.hid (gsN_next l l2 C)
        have hC5 : (C : Int) ≤ 5 := by omega
        go_wp2
        go_loopw [8, 9] (fun la i wr => ∃ k : Nat, k ≤ l2.length ∧ i = .int .i64 k ∧ la = .int .i64 (gl l l2 C k - 1) ∧ (∃ d, wr = w.ext d) ∧ wr.heap[g]? = some (.cells ((gsN l l2 C k).map (Value.int .i64)).toArray 3 (0, 0))) (fun _ i _ => l2.length - (intOf i).toNat)
        case atStart => exact ⟨0, by omega, rfl, by simp [gl], ⟨_, rfl⟩, HA.out⟩
        case round =>
          obtain ⟨k, hk, rfl, rfl, ⟨d, rfl⟩, hA⟩ := hrel
          have hnA := World.newB_of_heap hA
          have HA2 := Lib.hid hA
          by_cases hlt : k < l2.length
          · have hcl := HCL.out
            obtain ⟨b2, o2, rfl⟩ := sl_some hs2.out (by omega)
            have c1 := sl_int hs2.out hlt
            obtain ⟨m1, hm1, hm1l⟩ := start_at HC.out hlt
            obtain ⟨b1, o1, rfl⟩ := sl_some hs.out (by omega)
            have c2 := sl_int hs.out hm1l
            have hcr := hcl l[m1] (List.getElem_mem hm1l)
            obtain ⟨V, hV⟩ := Int.eq_ofNat_of_zero_le hcr.1
            have HV := Lib.hid (clubAt_eq hlt hm1 hm1l hV)
            rw [hm1] at c1
            rw [hV] at c2 hcr
            clear hm1 hV
            have ob1 := World.oldB_of_cell c1
            have ob2 := World.oldB_of_cell c2
            have hV6 : V < 6 := by omega
            clear hcl
            have HGL : Hid (gl l l2 C (k + 1) = if V = C then (k : Int) + 1 else gl l l2 C k) := Lib.hid (by rw [gl, HV.out])
            obtain ⟨hg1, hg2⟩ := gl_bd l l2 C k
            obtain ⟨hb1, hb2⟩ := gb_bd l l2 C k
            have ta : (w.ext d).cell? ⟨g, C, none⟩ = some (.int .i64 (gb l l2 C k)) := by
              rw [World.cell_of_heap hA]; simp [gsN_at hC6]
            have za : (w.ext d).frozen? ⟨g, C, none⟩ = false := World.free_of_heap hA C
            by_cases hVC : V = C
            · subst hVC
              have HGL' : Hid (gl l l2 V (k + 1) = (k : Int) + 1) := Lib.hid (by rw [HGL.out, if_pos rfl])
              have HY := Lib.hid (fun hc => gsN_set (gb_set HV.out hc))
              have HN := Lib.hid (fun (hc : ¬ (0 < gl l l2 V k ∧ (gb l l2 V k = 0 ∨ (k : Int) + 1 - gl l l2 V k < gb l l2 V k))) => gsN_same (C := V) (gb_same (c := V) HV.out (.inr hc)))
              generalize gb l l2 V k = gv at ta hb1 hb2 HY HN
              generalize gl l l2 V k = lv at hg1 hg2 HY HN ⊢
              clear hA HGL
              by_cases q1 : 0 < lv
              · have q1' : 0 ≤ lv - 1 := by omega
                by_cases q2 : gv = 0
                · have HY' := Lib.hid (HY.out ⟨q1, .inl q2⟩)
                  clear HY HN
                  subst q2
                  go_wp2
                  go_roundw
                  case rel => exact ⟨k + 1, by omega, by go_num, by rw [HGL'.out]; go_num, gain_setCell ⟨_, rfl⟩ hsz.out _, (World.heap_setCell_row HA2.out _ _).trans (by rw [setInts, HY'.out, show (k : Int) + 1 - lv = (k : Int) - (lv - 1) by omega])⟩
                  case measure => simp [intOf]; omega
                · by_cases q3 : (k : Int) - (lv - 1) < gv
                  · have HY' := Lib.hid (HY.out ⟨q1, .inr (by omega)⟩)
                    clear HY HN
                    go_wp2
                    go_roundw
                    case rel => exact ⟨k + 1, by omega, by go_num, by rw [HGL'.out]; go_num, gain_setCell ⟨_, rfl⟩ hsz.out _, (World.heap_setCell_row HA2.out _ _).trans (by rw [setInts, HY'.out, show (k : Int) + 1 - lv = (k : Int) - (lv - 1) by omega])⟩
                    case measure => simp [intOf]; omega
                  · have HN' := Lib.hid (HN.out (by rintro ⟨_, h | h⟩ <;> omega))
                    clear HY HN
                    go_wp2
                    go_roundw
                    case rel => exact ⟨k + 1, by omega, by go_num, by rw [HGL'.out]; go_num, ⟨_, rfl⟩, by rw [HN'.out]; exact HA2.out⟩
                    case measure => simp [intOf]; omega
              · have HN' := Lib.hid (HN.out (by rintro ⟨h, _⟩; omega))
                have q1' : ¬ 0 ≤ lv - 1 := by omega
                clear HY HN
                go_wp2
                go_roundw
                case rel => exact ⟨k + 1, by omega, by go_num, by rw [HGL'.out]; go_num, ⟨_, rfl⟩, by rw [HN'.out]; exact HA2.out⟩
                case measure => simp [intOf]; omega
            · have HGL' : Hid (gl l l2 C (k + 1) = gl l l2 C k) := Lib.hid (by rw [HGL.out, if_neg hVC])
              have HN' : Hid (gsN l l2 C (k + 1) = gsN l l2 C k) := Lib.hid (gsN_same (gb_same HV.out (.inl (fun q => hVC q.symm))))
              have hne : ¬ (V : Int) = C := by omega
              generalize gl l l2 C k = lv at hg1 hg2 HGL' ⊢
              clear hA HGL ta
              go_wp2
              go_roundw
              case rel => exact ⟨k + 1, by omega, by go_num, by rw [HGL'.out], ⟨_, rfl⟩, by rw [HN'.out]; exact HA2.out⟩
              case measure => simp [intOf]; omega
          · obtain rfl : k = l2.length := by omega
            clear hA
            go_wp2
            go_roundw
            case rel => exact ⟨C + 1, by omega, by go_num, ⟨_, rfl⟩, by rw [← HNX.out]; exact HA2.out⟩
            case measure => simp [intOf]; omega
      · obtain rfl : C = 6 := by omega
        have HF := Lib.hid (gsN_full l l2)
        go_wp2
        go_ret2
        rw [e2.out]
        have hA := HA.out
        rw [HF.out] at hA
        have hlen := gbN_length l l2 l2.length
        have ho := own_ints (base := w.heap.size) hA hsz.out (by rw [hlen]; omega)
        rw [hlen] at ho
        exact ⟨_, rfl, ⟨_, rfl⟩, ho⟩
end Go.Proofs.Ytbghmkjjooiikaa
