/- impl.newPlan, SwapLegs; spec.l9Own. Condition: a size of at most 1048576. -/
import Derived.Test.YtlofdpbdnkcnkaaSwapP
import Derived.Test.YtlofdpbdnkcnkaaL9Good
import Derived.Test.YtlofdpbdnkcnkaaCopyInts
import Derived.Test.YtlofdpbdnkcnkaaL1Own
import Derived.Test.YtlofdpbdnkcnkaaOwnAt
import Derived.Test.YtlofdpbdnkcnkaaNestLaw
import Derived.BigRegion
namespace Go.Proofs.Ytlofdpbdnkcnkaa
open Go.RowKit Go.Ori
set_option maxHeartbeats 2000000 in
theorem newPlan_any (v : Value) (l : List (List (List Int))) (w : World) (h : w.sl3 v l) (hT : tot3 l ≤ 1048576) :
    Calls Try.prog 60 #[v] w fun x w' => ∃ r us vss, x = .returned r ∧ (∃ d, w' = w.ext d) ∧ World.rows3u 25 28 3 w' w.heap.size r us vss l := by
  have hs := Lib.hid h
  have hl : l.length ≤ 1048576 := by have := tot3_len l; omega
  have HTA := Lib.hid (fun k (hk : k < l.length) => Nat.le_trans (tot3_at hk) hT)
  obtain ⟨p, c, rfl⟩ := sl3_form h
  clear h
  go_enter Try.func60, Try.ntmps60
  go_wp2
  go_loopw [3, 12] (fun ov i wr => ∃ (t : Nat) (us : List Value) (vss : List (List Value)), t ≤ l.length ∧ i = .int .i64 t ∧ (∃ d, wr = w.ext d) ∧ World.rows3u 25 28 3 wr w.heap.size ov us vss (l.take t)) (fun _ i _ => l.length - (intOf i).toNat)
  case atStart => exact ⟨0, [], [], by omega, rfl, (by repeat (first | with_reducible (first | exact World.gained_refl _ | exact ⟨_, rfl⟩ | apply gain_ext | apply gain_alloc | apply gain_drewN | apply gain_drew) | (refine gain_setCell ?_ (by first | exact Nat.le_refl _ | exact World.size_ext _ _ | (simp; done) | (simp; omega)) _))), by rw [List.take_zero]; exact ⟨rows3_nil (own_lit' (l := ([] : List Value)) valC_length rfl rfl (gain_size (by repeat (first | with_reducible (first | exact World.gained_refl _ | exact ⟨_, rfl⟩ | apply gain_ext | apply gain_alloc | apply gain_drewN | apply gain_drew) | (refine gain_setCell ?_ (by first | exact Nat.le_refl _ | exact World.size_ext _ _ | (simp; done) | (simp; omega)) _))))), by simp⟩⟩
  case round =>
    obtain ⟨t, us, vss, ht, rfl, ⟨d, rfl⟩, hr3⟩ := hrel
    have HR3 := Lib.hid hr3
    clear hr3
    have hlu : us.length = t := by rw [HR3.out.1.len, List.length_take]; omega
    by_cases hlt : t < l.length
    · have HTk := Lib.hid (HTA.out t hlt)
      obtain ⟨b0, o0, rfl⟩ := slOf_some hs.out (by omega)
      obtain ⟨u, c0, hu⟩ := slOf_at hs.out hlt
      have HS3 := Lib.hid (List.take_succ_eq_append_getElem hlt)
      generalize l[t] = rows at hu HTk HS3
      obtain ⟨p1, c1, rfl⟩ := sl2_form hu
      have HU := Lib.hid hu
      clear hu
      have hrl : rows.length ≤ 1048576 := by have := HTk.out; have := tot2_len rows; omega
      have ob0 := World.oldB_of_cell c0
      go_wp2
      go_loopw [6, 19] (fun ov i wr => ∃ (q : Nat) (vs : List Value), q ≤ rows.length ∧ i = .int .i64 q ∧ (∃ d', wr = (w.ext d).ext d') ∧ World.rows2 28 3 wr (w.ext d).heap.size ov vs (rows.take q) ∧ vs.Pairwise Apart2) (fun _ i _ => rows.length - (intOf i).toNat)
      case atStart => exact ⟨0, [], by omega, rfl, (by repeat (first | with_reducible (first | exact World.gained_refl _ | exact ⟨_, rfl⟩ | apply gain_ext | apply gain_alloc | apply gain_drewN | apply gain_drew) | (refine gain_setCell ?_ (by first | exact Nat.le_refl _ | exact World.size_ext _ _ | (simp; done) | (simp; omega)) _))), by rw [List.take_zero]; exact rows2_nil (own_lit' (l := ([] : List Value)) valC_length rfl rfl (gain_size (by repeat (first | with_reducible (first | exact World.gained_refl _ | exact ⟨_, rfl⟩ | apply gain_ext | apply gain_alloc | apply gain_drewN | apply gain_drew) | (refine gain_setCell ?_ (by first | exact Nat.le_refl _ | exact World.size_ext _ _ | (simp; done) | (simp; omega)) _))))), by simp⟩
      case round =>
        obtain ⟨q, vs, hq, rfl, ⟨d2, rfl⟩, hr2, hpw⟩ := hrel
        have HR2 := Lib.hid hr2
        have HPW := Lib.hid hpw
        clear hr2 hpw
        have hlv : vs.length = q := by rw [HR2.out.len, List.length_take]; omega
        by_cases hlq : q < rows.length
        · obtain ⟨b1, o1, rfl⟩ := slOf_some HU.out (by omega)
          obtain ⟨u1, e1, hu1⟩ := slOf_at HU.out hlq
          have HS2 := Lib.hid (List.take_succ_eq_append_getElem hlq)
          have hrw : rows[q].length ≤ 1048576 := by have := HTk.out; have := tot2_at hlq; unfold tot1 at this; omega
          generalize rows[q] = row at hu1 HS2 hrw
          have HU1 := Lib.hid hu1
          clear hu1
          have ob1 := World.oldB_of_cell e1
          go_wp2_with fail
          refine (copyInts_any _ row _ (sl1_up HU1.out (by repeat (first | with_reducible (first | exact World.gained_refl _ | exact ⟨_, rfl⟩ | apply gain_ext | apply gain_alloc | apply gain_drewN | apply gain_drew) | (refine gain_setCell ?_ (by first | exact Nat.le_refl _ | exact World.size_ext _ _ | (simp; done) | (simp; omega)) _)))) hrw).mono ?_
          rintro e w1 ⟨r1, rfl, ⟨d3, rfl⟩, hro⟩
          obtain ⟨pr, cr, rfl, _⟩ := sl_of_own intC_length hro
          have HRO := Lib.hid hro
          clear hro
          go_wp2_with (at_builtin; go_must (refine wpList_append_val (x := _) rfl (.tmp 23) (.tmp 26) rfl Try.underlying25 info_slc (by rfl) (by omega) (by repeat (first | with_reducible (first | exact World.gained_refl _ | exact ⟨_, rfl⟩ | apply gain_ext | apply gain_alloc | apply gain_drewN | apply gain_drew) | (refine gain_setCell ?_ (by first | exact Nat.le_refl _ | exact World.size_ext _ _ | (simp; done) | (simp; omega)) _))) (Nat.le_refl _) (gain_size (by repeat (first | with_reducible (first | exact World.gained_refl _ | exact ⟨_, rfl⟩ | apply gain_ext | apply gain_alloc | apply gain_drewN | apply gain_drew) | (refine gain_setCell ?_ (by first | exact Nat.le_refl _ | exact World.size_ext _ _ | (simp; done) | (simp; omega)) _)))) rfl rfl rfl (own_up (HR2.out.out) (by repeat (first | with_reducible (first | exact World.gained_refl _ | exact ⟨_, rfl⟩ | apply gain_ext | apply gain_alloc | apply gain_drewN | apply gain_drew) | (refine gain_setCell ?_ (by first | exact Nat.le_refl _ | exact World.size_ext _ _ | (simp; done) | (simp; omega)) _)))) (cell_lit (by first | rfl | simp [World.size_alloc])) (by omega) ?_); intro v' d' ho hg)
          go_roundw
          case rel => exact ⟨q + 1, _, by omega, by go_num, ⟨_, rfl⟩, by rw [HS2.out]; exact rows2_snoc (rows2_up HR2.out (by repeat (first | with_reducible (first | exact World.gained_refl _ | exact ⟨_, rfl⟩ | apply gain_ext | apply gain_alloc | apply gain_drewN | apply gain_drew) | (refine gain_setCell ?_ (by first | exact Nat.le_refl _ | exact World.size_ext _ _ | (simp; done) | (simp; omega)) _)))) (own_base (own_up HRO.out (by repeat (first | with_reducible (first | exact World.gained_refl _ | exact ⟨_, rfl⟩ | apply gain_ext | apply gain_alloc | apply gain_drewN | apply gain_drew) | (refine gain_setCell ?_ (by first | exact Nat.le_refl _ | exact World.size_ext _ _ | (simp; done) | (simp; omega)) _)))) (gain_size (by repeat (first | with_reducible (first | exact World.gained_refl _ | exact ⟨_, rfl⟩ | apply gain_ext | apply gain_alloc | apply gain_drewN | apply gain_drew) | (refine gain_setCell ?_ (by first | exact Nat.le_refl _ | exact World.size_ext _ _ | (simp; done) | (simp; omega)) _))))) (by decide) ho hg, pairwise_snoc HPW.out (rows2_apart HR2.out HRO.out)⟩
          case measure => simp [intOf]; omega
        · obtain rfl : q = rows.length := by omega
          obtain ⟨pr, cr, rfl, _⟩ := sl_of_own valC_length HR2.out.out
          rw [hlv] at HR2
          have HE2 := Lib.hid (List.take_length (l := rows))
          rw [HE2.out] at HR2
          have HAP := Lib.hid (fun y (hy : y ∈ us) => (show Apart2 y (.slice pr rows.length cr) from by
            obtain ⟨i, hi, rfl⟩ := List.getElem_of_mem hy
            have hil : i < (l.take t).length := by rw [← HR3.out.1.len]; exact hi
            exact apart2_new (HR3.out.1.row i hil hi (by rw [HR3.out.1.len2]; exact hil)).out HR2.out.out))
          go_wp2_with (at_builtin; go_must (refine wpList_append_val (x := _) rfl (.tmp 29) (.tmp 31) rfl Try.underlying24 info_slc2 (by rfl) (by omega) (by repeat (first | with_reducible (first | exact World.gained_refl _ | exact ⟨_, rfl⟩ | apply gain_ext | apply gain_alloc | apply gain_drewN | apply gain_drew) | (refine gain_setCell ?_ (by first | exact Nat.le_refl _ | exact World.size_ext _ _ | (simp; done) | (simp; omega)) _))) (Nat.le_refl _) (gain_size (by repeat (first | with_reducible (first | exact World.gained_refl _ | exact ⟨_, rfl⟩ | apply gain_ext | apply gain_alloc | apply gain_drewN | apply gain_drew) | (refine gain_setCell ?_ (by first | exact Nat.le_refl _ | exact World.size_ext _ _ | (simp; done) | (simp; omega)) _)))) rfl rfl rfl (own_up (HR3.out.1.out) (by repeat (first | with_reducible (first | exact World.gained_refl _ | exact ⟨_, rfl⟩ | apply gain_ext | apply gain_alloc | apply gain_drewN | apply gain_drew) | (refine gain_setCell ?_ (by first | exact Nat.le_refl _ | exact World.size_ext _ _ | (simp; done) | (simp; omega)) _)))) (cell_lit (by first | rfl | simp [World.size_alloc])) (by omega) ?_); intro v' d' ho hg)
          go_roundw
          case rel => exact ⟨t + 1, _, _, by omega, by go_num, ⟨_, rfl⟩, by rw [HS3.out]; exact ⟨rows3_snoc (rows3_up HR3.out.1 (by repeat (first | with_reducible (first | exact World.gained_refl _ | exact ⟨_, rfl⟩ | apply gain_ext | apply gain_alloc | apply gain_drewN | apply gain_drew) | (refine gain_setCell ?_ (by first | exact Nat.le_refl _ | exact World.size_ext _ _ | (simp; done) | (simp; omega)) _)))) (rows2_base (rows2_up HR2.out (by repeat (first | with_reducible (first | exact World.gained_refl _ | exact ⟨_, rfl⟩ | apply gain_ext | apply gain_alloc | apply gain_drewN | apply gain_drew) | (refine gain_setCell ?_ (by first | exact Nat.le_refl _ | exact World.size_ext _ _ | (simp; done) | (simp; omega)) _)))) (gain_size (by repeat (first | with_reducible (first | exact World.gained_refl _ | exact ⟨_, rfl⟩ | apply gain_ext | apply gain_alloc | apply gain_drewN | apply gain_drew) | (refine gain_setCell ?_ (by first | exact Nat.le_refl _ | exact World.size_ext _ _ | (simp; done) | (simp; omega)) _))))) (by decide) (by decide) ho hg HPW.out (rows3_apart HR3.out.1 HR2.out), pairwise_snoc HR3.out.2 HAP.out⟩⟩
          case measure => simp [intOf]; omega
    · go_wp2
      go_ret
      obtain rfl : t = l.length := by omega
      have HE3 := Lib.hid (List.take_length (l := l))
      rw [HE3.out] at HR3
      exact ⟨_, _, _, rfl, ⟨_, rfl⟩, HR3.out⟩
set_option maxHeartbeats 2000000 in
theorem l9Own_any (v : Value) (l : List (List (List Int))) (w : World) (h : w.sl3 v l) (hT : tot3 l ≤ 1048576) :
    Calls Try.prog 61 #[v] w fun x w' => ∃ r us vss, x = .returned r ∧ (∃ d, w' = w.ext d) ∧ World.rows3u 25 28 3 w' w.heap.size r us vss l := by
  have hs := Lib.hid h
  have hl : l.length ≤ 1048576 := by have := tot3_len l; omega
  have HTA := Lib.hid (fun k (hk : k < l.length) => Nat.le_trans (tot3_at hk) hT)
  obtain ⟨p, c, rfl⟩ := sl3_form h
  clear h
  go_enter Try.func61, Try.ntmps61
  go_wp2
  go_loopw [3, 4] (fun ov i wr => ∃ (t : Nat) (us : List Value) (vss : List (List Value)), t ≤ l.length ∧ i = .int .i64 t ∧ (∃ d, wr = w.ext d) ∧ World.rows3u 25 28 3 wr w.heap.size ov us vss (l.take t)) (fun _ i _ => l.length - (intOf i).toNat)
  case atStart => exact ⟨0, [], [], by omega, rfl, (by repeat (first | with_reducible (first | exact World.gained_refl _ | exact ⟨_, rfl⟩ | apply gain_ext | apply gain_alloc | apply gain_drewN | apply gain_drew) | (refine gain_setCell ?_ (by first | exact Nat.le_refl _ | exact World.size_ext _ _ | (simp; done) | (simp; omega)) _))), by rw [List.take_zero]; exact ⟨rows3_nil (own_lit' (l := ([] : List Value)) valC_length rfl rfl (gain_size (by repeat (first | with_reducible (first | exact World.gained_refl _ | exact ⟨_, rfl⟩ | apply gain_ext | apply gain_alloc | apply gain_drewN | apply gain_drew) | (refine gain_setCell ?_ (by first | exact Nat.le_refl _ | exact World.size_ext _ _ | (simp; done) | (simp; omega)) _))))), by simp⟩⟩
  case round =>
    obtain ⟨t, us, vss, ht, rfl, ⟨d, rfl⟩, hr3⟩ := hrel
    have HR3 := Lib.hid hr3
    clear hr3
    have hlu : us.length = t := by rw [HR3.out.1.len, List.length_take]; omega
    by_cases hlt : t < l.length
    · have HTk := Lib.hid (HTA.out t hlt)
      obtain ⟨b0, o0, rfl⟩ := slOf_some hs.out (by omega)
      obtain ⟨u, c0, hu⟩ := slOf_at hs.out hlt
      have HS3 := Lib.hid (List.take_succ_eq_append_getElem hlt)
      generalize l[t] = rows at hu HTk HS3
      obtain ⟨p1, c1, rfl⟩ := sl2_form hu
      have HU := Lib.hid hu
      clear hu
      have hrl : rows.length ≤ 1048576 := by have := HTk.out; have := tot2_len rows; omega
      have ob0 := World.oldB_of_cell c0
      go_wp2
      go_loopw [5, 6] (fun ov i wr => ∃ (q : Nat) (vs : List Value), q ≤ rows.length ∧ i = .int .i64 q ∧ (∃ d', wr = (w.ext d).ext d') ∧ World.rows2 28 3 wr (w.ext d).heap.size ov vs (rows.take q) ∧ vs.Pairwise Apart2) (fun _ i _ => rows.length - (intOf i).toNat)
      case atStart => exact ⟨0, [], by omega, rfl, (by repeat (first | with_reducible (first | exact World.gained_refl _ | exact ⟨_, rfl⟩ | apply gain_ext | apply gain_alloc | apply gain_drewN | apply gain_drew) | (refine gain_setCell ?_ (by first | exact Nat.le_refl _ | exact World.size_ext _ _ | (simp; done) | (simp; omega)) _))), by rw [List.take_zero]; exact rows2_nil (own_lit' (l := ([] : List Value)) valC_length rfl rfl (gain_size (by repeat (first | with_reducible (first | exact World.gained_refl _ | exact ⟨_, rfl⟩ | apply gain_ext | apply gain_alloc | apply gain_drewN | apply gain_drew) | (refine gain_setCell ?_ (by first | exact Nat.le_refl _ | exact World.size_ext _ _ | (simp; done) | (simp; omega)) _))))), by simp⟩
      case round =>
        obtain ⟨q, vs, hq, rfl, ⟨d2, rfl⟩, hr2, hpw⟩ := hrel
        have HR2 := Lib.hid hr2
        have HPW := Lib.hid hpw
        clear hr2 hpw
        have hlv : vs.length = q := by rw [HR2.out.len, List.length_take]; omega
        by_cases hlq : q < rows.length
        · obtain ⟨b1, o1, rfl⟩ := slOf_some HU.out (by omega)
          obtain ⟨u1, e1, hu1⟩ := slOf_at HU.out hlq
          have HS2 := Lib.hid (List.take_succ_eq_append_getElem hlq)
          have hrw : rows[q].length ≤ 1048576 := by have := HTk.out; have := tot2_at hlq; unfold tot1 at this; omega
          generalize rows[q] = row at hu1 HS2 hrw
          have HU1 := Lib.hid hu1
          clear hu1
          have ob1 := World.oldB_of_cell e1
          go_wp2_with fail
          refine (l1Own_any _ row _ (sl1_up HU1.out (by repeat (first | with_reducible (first | exact World.gained_refl _ | exact ⟨_, rfl⟩ | apply gain_ext | apply gain_alloc | apply gain_drewN | apply gain_drew) | (refine gain_setCell ?_ (by first | exact Nat.le_refl _ | exact World.size_ext _ _ | (simp; done) | (simp; omega)) _)))) hrw).mono ?_
          rintro e w1 ⟨r1, rfl, ⟨d3, rfl⟩, hro⟩
          obtain ⟨pr, cr, rfl, _⟩ := sl_of_own intC_length hro
          have HRO := Lib.hid hro
          clear hro
          go_wp2_with (at_builtin; go_must (refine wpList_append_val (x := _) rfl (.tmp 24) (.tmp 33) rfl Try.underlying25 info_slc (by rfl) (by omega) (by repeat (first | with_reducible (first | exact World.gained_refl _ | exact ⟨_, rfl⟩ | apply gain_ext | apply gain_alloc | apply gain_drewN | apply gain_drew) | (refine gain_setCell ?_ (by first | exact Nat.le_refl _ | exact World.size_ext _ _ | (simp; done) | (simp; omega)) _))) (Nat.le_refl _) (gain_size (by repeat (first | with_reducible (first | exact World.gained_refl _ | exact ⟨_, rfl⟩ | apply gain_ext | apply gain_alloc | apply gain_drewN | apply gain_drew) | (refine gain_setCell ?_ (by first | exact Nat.le_refl _ | exact World.size_ext _ _ | (simp; done) | (simp; omega)) _)))) rfl rfl rfl (own_up (HR2.out.out) (by repeat (first | with_reducible (first | exact World.gained_refl _ | exact ⟨_, rfl⟩ | apply gain_ext | apply gain_alloc | apply gain_drewN | apply gain_drew) | (refine gain_setCell ?_ (by first | exact Nat.le_refl _ | exact World.size_ext _ _ | (simp; done) | (simp; omega)) _)))) (cell_lit (by first | rfl | simp [World.size_alloc])) (by omega) ?_); intro v' d' ho hg)
          go_roundw
          case rel => exact ⟨q + 1, _, by omega, by go_num, ⟨_, rfl⟩, by rw [HS2.out]; exact rows2_snoc (rows2_up HR2.out (by repeat (first | with_reducible (first | exact World.gained_refl _ | exact ⟨_, rfl⟩ | apply gain_ext | apply gain_alloc | apply gain_drewN | apply gain_drew) | (refine gain_setCell ?_ (by first | exact Nat.le_refl _ | exact World.size_ext _ _ | (simp; done) | (simp; omega)) _)))) (own_base (own_up HRO.out (by repeat (first | with_reducible (first | exact World.gained_refl _ | exact ⟨_, rfl⟩ | apply gain_ext | apply gain_alloc | apply gain_drewN | apply gain_drew) | (refine gain_setCell ?_ (by first | exact Nat.le_refl _ | exact World.size_ext _ _ | (simp; done) | (simp; omega)) _)))) (gain_size (by repeat (first | with_reducible (first | exact World.gained_refl _ | exact ⟨_, rfl⟩ | apply gain_ext | apply gain_alloc | apply gain_drewN | apply gain_drew) | (refine gain_setCell ?_ (by first | exact Nat.le_refl _ | exact World.size_ext _ _ | (simp; done) | (simp; omega)) _))))) (by decide) ho hg, pairwise_snoc HPW.out (rows2_apart HR2.out HRO.out)⟩
          case measure => simp [intOf]; omega
        · obtain rfl : q = rows.length := by omega
          obtain ⟨pr, cr, rfl, _⟩ := sl_of_own valC_length HR2.out.out
          rw [hlv] at HR2
          have HE2 := Lib.hid (List.take_length (l := rows))
          rw [HE2.out] at HR2
          have HAP := Lib.hid (fun y (hy : y ∈ us) => (show Apart2 y (.slice pr rows.length cr) from by
            obtain ⟨i, hi, rfl⟩ := List.getElem_of_mem hy
            have hil : i < (l.take t).length := by rw [← HR3.out.1.len]; exact hi
            exact apart2_new (HR3.out.1.row i hil hi (by rw [HR3.out.1.len2]; exact hil)).out HR2.out.out))
          go_wp2_with (at_builtin; go_must (refine wpList_append_val (x := _) rfl (.tmp 35) (.tmp 37) rfl Try.underlying24 info_slc2 (by rfl) (by omega) (by repeat (first | with_reducible (first | exact World.gained_refl _ | exact ⟨_, rfl⟩ | apply gain_ext | apply gain_alloc | apply gain_drewN | apply gain_drew) | (refine gain_setCell ?_ (by first | exact Nat.le_refl _ | exact World.size_ext _ _ | (simp; done) | (simp; omega)) _))) (Nat.le_refl _) (gain_size (by repeat (first | with_reducible (first | exact World.gained_refl _ | exact ⟨_, rfl⟩ | apply gain_ext | apply gain_alloc | apply gain_drewN | apply gain_drew) | (refine gain_setCell ?_ (by first | exact Nat.le_refl _ | exact World.size_ext _ _ | (simp; done) | (simp; omega)) _)))) rfl rfl rfl (own_up (HR3.out.1.out) (by repeat (first | with_reducible (first | exact World.gained_refl _ | exact ⟨_, rfl⟩ | apply gain_ext | apply gain_alloc | apply gain_drewN | apply gain_drew) | (refine gain_setCell ?_ (by first | exact Nat.le_refl _ | exact World.size_ext _ _ | (simp; done) | (simp; omega)) _)))) (cell_lit (by first | rfl | simp [World.size_alloc])) (by omega) ?_); intro v' d' ho hg)
          go_roundw
          case rel => exact ⟨t + 1, _, _, by omega, by go_num, ⟨_, rfl⟩, by rw [HS3.out]; exact ⟨rows3_snoc (rows3_up HR3.out.1 (by repeat (first | with_reducible (first | exact World.gained_refl _ | exact ⟨_, rfl⟩ | apply gain_ext | apply gain_alloc | apply gain_drewN | apply gain_drew) | (refine gain_setCell ?_ (by first | exact Nat.le_refl _ | exact World.size_ext _ _ | (simp; done) | (simp; omega)) _)))) (rows2_base (rows2_up HR2.out (by repeat (first | with_reducible (first | exact World.gained_refl _ | exact ⟨_, rfl⟩ | apply gain_ext | apply gain_alloc | apply gain_drewN | apply gain_drew) | (refine gain_setCell ?_ (by first | exact Nat.le_refl _ | exact World.size_ext _ _ | (simp; done) | (simp; omega)) _)))) (gain_size (by repeat (first | with_reducible (first | exact World.gained_refl _ | exact ⟨_, rfl⟩ | apply gain_ext | apply gain_alloc | apply gain_drewN | apply gain_drew) | (refine gain_setCell ?_ (by first | exact Nat.le_refl _ | exact World.size_ext _ _ | (simp; done) | (simp; omega)) _))))) (by decide) (by decide) ho hg HPW.out (rows3_apart HR3.out.1 HR2.out), pairwise_snoc HR3.out.2 HAP.out⟩⟩
          case measure => simp [intOf]; omega
    · go_wp2
      go_ret
      obtain rfl : t = l.length := by omega
      have HE3 := Lib.hid (List.take_length (l := l))
      rw [HE3.out] at HR3
      exact ⟨_, _, _, rfl, ⟨_, rfl⟩, HR3.out⟩
set_option maxHeartbeats 4000000 in
theorem swapLegs_any (v : Value) (l : List (List (List Int))) (legs forks team a b : Int) (w : World) (h : w.sl3 v l) (hT : tot3 l ≤ 1048576) :
    Calls Try.prog 22 #[v, .int .i64 legs, .int .i64 forks, .int .i64 team, .int .i64 a, .int .i64 b] w fun x w' => ∃ r, x = .returned (.tuple #[r, .bool (swapB l legs forks team a b)]) ∧ (∃ d, w' = w.ext d) ∧ World.rows3p 25 28 3 w' w.heap.size r (swapL l legs forks team a b) := by
  have hs := Lib.hid h
  have hl : l.length ≤ 1048576 := by have := tot3_len l; omega
  obtain ⟨p, c, rfl⟩ := sl3_form h
  clear h
  have HG := Lib.hid (fun W hW => isPlanOf_any (.slice p l.length c) l legs forks W hW hT)
  cases hP : planB l legs forks with
  | false =>
    have HE := Lib.hid (swap_no (l := l) (legs := legs) (forks := forks) (team := team) (a := a) (b := b) (by simp [swapB, hP]))
    go_enter Try.func22, Try.ntmps22
    go_wp2_with (first | (go_at_call 14; refine (HG.out _ (sl3_up hs.out (by repeat (first | with_reducible (first | exact World.gained_refl _ | exact ⟨_, rfl⟩ | apply gain_ext | apply gain_alloc | apply gain_drewN | apply gain_drew) | (refine gain_setCell ?_ (by first | exact Nat.le_refl _ | exact World.size_ext _ _ | (simp; done) | (simp; omega)) _))))).mono ?_; rintro e w1 ⟨rfl, d1, rfl⟩) | (go_at_call 51; refine (inside_any _ _ _ _).mono ?_; rintro e w1 ⟨rfl, rfl⟩))
    go_ret2
    rw [HE.out.1, HE.out.2]
    exact ⟨_, rfl, (by repeat (first | with_reducible (first | exact World.gained_refl _ | exact ⟨_, rfl⟩ | apply gain_ext | apply gain_alloc | apply gain_drewN | apply gain_drew) | (refine gain_setCell ?_ (by first | exact Nat.le_refl _ | exact World.size_ext _ _ | (simp; done) | (simp; omega)) _))), _, _, rows3_nil (own_nil _ _ _ _ _)⟩
  | true =>
  obtain ⟨L, F, rfl, rfl, a1, a2, a3, a4, a5, _⟩ := planB_true hP
  have hw1 : IntKind.i64.wrap ((L : Int) - 1) = (L : Int) - 1 := IntWalk.i64_in _ (by omega)
  cases hA : insB team 0 ((l.length : Int) - 1) with
  | false =>
    have HE := Lib.hid (swap_no (l := l) (legs := L) (forks := F) (team := team) (a := a) (b := b) (by simp [swapB, hA]))
    go_enter Try.func22, Try.ntmps22
    go_wp2_with (first | (go_at_call 14; refine (HG.out _ (sl3_up hs.out (by repeat (first | with_reducible (first | exact World.gained_refl _ | exact ⟨_, rfl⟩ | apply gain_ext | apply gain_alloc | apply gain_drewN | apply gain_drew) | (refine gain_setCell ?_ (by first | exact Nat.le_refl _ | exact World.size_ext _ _ | (simp; done) | (simp; omega)) _))))).mono ?_; rintro e w1 ⟨rfl, d1, rfl⟩) | (go_at_call 51; refine (inside_any _ _ _ _).mono ?_; rintro e w1 ⟨rfl, rfl⟩))
    go_ret2
    rw [HE.out.1, HE.out.2]
    exact ⟨_, rfl, (by repeat (first | with_reducible (first | exact World.gained_refl _ | exact ⟨_, rfl⟩ | apply gain_ext | apply gain_alloc | apply gain_drewN | apply gain_drew) | (refine gain_setCell ?_ (by first | exact Nat.le_refl _ | exact World.size_ext _ _ | (simp; done) | (simp; omega)) _))), _, _, rows3_nil (own_nil _ _ _ _ _)⟩
  | true =>
  cases hB : insB a 0 ((L : Int) - 1) with
  | false =>
    have HE := Lib.hid (swap_no (l := l) (legs := L) (forks := F) (team := team) (a := a) (b := b) (by simp [swapB, hB]))
    go_enter Try.func22, Try.ntmps22
    go_wp2_with (first | (go_at_call 14; refine (HG.out _ (sl3_up hs.out (by repeat (first | with_reducible (first | exact World.gained_refl _ | exact ⟨_, rfl⟩ | apply gain_ext | apply gain_alloc | apply gain_drewN | apply gain_drew) | (refine gain_setCell ?_ (by first | exact Nat.le_refl _ | exact World.size_ext _ _ | (simp; done) | (simp; omega)) _))))).mono ?_; rintro e w1 ⟨rfl, d1, rfl⟩) | (go_at_call 51; refine (inside_any _ _ _ _).mono ?_; rintro e w1 ⟨rfl, rfl⟩))
    go_ret2
    rw [HE.out.1, HE.out.2]
    exact ⟨_, rfl, (by repeat (first | with_reducible (first | exact World.gained_refl _ | exact ⟨_, rfl⟩ | apply gain_ext | apply gain_alloc | apply gain_drewN | apply gain_drew) | (refine gain_setCell ?_ (by first | exact Nat.le_refl _ | exact World.size_ext _ _ | (simp; done) | (simp; omega)) _))), _, _, rows3_nil (own_nil _ _ _ _ _)⟩
  | true =>
  cases hC : insB b 0 ((L : Int) - 1) with
  | false =>
    have HE := Lib.hid (swap_no (l := l) (legs := L) (forks := F) (team := team) (a := a) (b := b) (by simp [swapB, hC]))
    go_enter Try.func22, Try.ntmps22
    go_wp2_with (first | (go_at_call 14; refine (HG.out _ (sl3_up hs.out (by repeat (first | with_reducible (first | exact World.gained_refl _ | exact ⟨_, rfl⟩ | apply gain_ext | apply gain_alloc | apply gain_drewN | apply gain_drew) | (refine gain_setCell ?_ (by first | exact Nat.le_refl _ | exact World.size_ext _ _ | (simp; done) | (simp; omega)) _))))).mono ?_; rintro e w1 ⟨rfl, d1, rfl⟩) | (go_at_call 51; refine (inside_any _ _ _ _).mono ?_; rintro e w1 ⟨rfl, rfl⟩))
    go_ret2
    rw [HE.out.1, HE.out.2]
    exact ⟨_, rfl, (by repeat (first | with_reducible (first | exact World.gained_refl _ | exact ⟨_, rfl⟩ | apply gain_ext | apply gain_alloc | apply gain_drewN | apply gain_drew) | (refine gain_setCell ?_ (by first | exact Nat.le_refl _ | exact World.size_ext _ _ | (simp; done) | (simp; omega)) _))), _, _, rows3_nil (own_nil _ _ _ _ _)⟩
  | true =>
    have hSB : swapB l L F team a b = true := by simp [swapB, hP, hA, hB, hC]
    obtain ⟨L', F', T, A, B, e1, e2, rfl, rfl, rfl, hS⟩ := swapB_true hSB
    obtain rfl : L = L' := by omega
    obtain rfl : F = F' := by omega
    clear e1 e2
    have HE := Lib.hid (swapL_yes hSB)
    have HS := Lib.hid hS
    have hl6 := hS.n6
    have hL4 := hS.l4
    have hL1 := hS.l1
    have hTl := hS.t
    have hAl := hS.a
    have hBl := hS.b
    clear hSB hS
    go_enter Try.func22, Try.ntmps22
    go_wp2_with (first | (go_at_call 14; refine (HG.out _ (sl3_up hs.out (by repeat (first | with_reducible (first | exact World.gained_refl _ | exact ⟨_, rfl⟩ | apply gain_ext | apply gain_alloc | apply gain_drewN | apply gain_drew) | (refine gain_setCell ?_ (by first | exact Nat.le_refl _ | exact World.size_ext _ _ | (simp; done) | (simp; omega)) _))))).mono ?_; rw [hP]; rintro e w1 ⟨rfl, d1, rfl⟩) | (go_at_call 51; refine (inside_any _ _ _ _).mono ?_; rintro e w1 ⟨rfl, rfl⟩))
    refine (newPlan_any _ l _ (sl3_up hs.out (by repeat (first | with_reducible (first | exact World.gained_refl _ | exact ⟨_, rfl⟩ | apply gain_ext | apply gain_alloc | apply gain_drewN | apply gain_drew) | (refine gain_setCell ?_ (by first | exact Nat.le_refl _ | exact World.size_ext _ _ | (simp; done) | (simp; omega)) _)))) hT).mono ?_
    rintro e w1 ⟨r, us, vss, rfl, hg2, hr3⟩
    have HR3 := Lib.hid hr3
    have HGW := Lib.hid (show ∃ d, w1 = w.ext d from gain_trans (by repeat (first | with_reducible (first | exact World.gained_refl _ | exact ⟨_, rfl⟩ | apply gain_ext | apply gain_alloc | apply gain_drewN | apply gain_drew) | (refine gain_setCell ?_ (by first | exact Nat.le_refl _ | exact World.size_ext _ _ | (simp; done) | (simp; omega)) _))) hg2)
    have HSZ := Lib.hid (show w.heap.size ≤ _ from (gain_size (by repeat (first | with_reducible (first | exact World.gained_refl _ | exact ⟨_, rfl⟩ | apply gain_ext | apply gain_alloc | apply gain_drewN | apply gain_drew) | (refine gain_setCell ?_ (by first | exact Nat.le_refl _ | exact World.size_ext _ _ | (simp; done) | (simp; omega)) _)))))
    clear hr3 hg2
    have hul := HR3.out.1.len
    have hvl := HR3.out.1.len2
    have hTu : T < us.length := by omega
    have hTv : T < vss.length := by omega
    obtain ⟨g0, cap0, rfl, _, _⟩ := own_addr HR3.out.1.out (by omega)
    have c0 := sl_cells (sl_of_own valC_length HR3.out.1.out) (k := T) hTu (j := 0) (by omega)
    simp only [valC, List.getElem?_cons_zero, Nat.add_zero, Nat.zero_add, Nat.mul_one] at c0
    have hrow := HR3.out.1.row T hTl hTu hTv
    have hrl := hrow.len
    have hlr := (HS.out.rows T hTl).1
    have hAv : A < (vss[T]'hTv).length := by omega
    have hBv : B < (vss[T]'hTv).length := by omega
    obtain ⟨g, cap, hu, _, _⟩ := own_addr hrow.out (by omega)
    have hro := hrow.out
    rw [hu] at hro
    have cA := sl_cells (sl_of_own valC_length hro) (k := A) hAv (j := 0) (by omega)
    have cB := sl_cells (sl_of_own valC_length hro) (k := B) hBv (j := 0) (by omega)
    simp only [valC, List.getElem?_cons_zero, Nat.add_zero, Nat.zero_add, Nat.mul_one] at cA cB
    have zA : w1.frozen? ⟨g, A, none⟩ = false := by
      obtain ⟨q1, q2, q3, _, _, q6⟩ := own_open hro (by omega)
      simp only [Value.slice.injEq, Option.some.injEq, Addr.mk.injEq, and_true] at q3
      obtain ⟨rfl, _⟩ := q3
      exact (q6 A (by omega)).choose_spec.2
    have zB : w1.frozen? ⟨g, B, none⟩ = false := by
      obtain ⟨q1, q2, q3, _, _, q6⟩ := own_open hro (by omega)
      simp only [Value.slice.injEq, Option.some.injEq, Addr.mk.injEq, and_true] at q3
      obtain ⟨rfl, _⟩ := q3
      exact (q6 B (by omega)).choose_spec.2
    have hgg : w.heap.size ≤ g := Nat.le_trans (World.size_ext w d1) (own_lt hro g rfl).1
    obtain ⟨vss', hfin⟩ := rows3_swap HR3.out (by decide) (by decide) hTl hTu hTv hu hAv hBv
    have HF := Lib.hid hfin
    rw [hu] at c0
    have hlen : (vss[T]'hTv).length = L := by omega
    rw [hlen] at c0
    have obA := World.oldB_of_cell cA
    have ob0 := World.oldB_of_cell c0
    have fB : ∃ p n c, (vss[T]'hTv)[B] = .slice p n c := by
      obtain ⟨p, c, e, _⟩ := sl_of_own intC_length (hrow.row B (by omega) hBv)
      exact ⟨p, _, c, e⟩
    have fA : ∃ p n c, (vss[T]'hTv)[A] = .slice p n c := by
      obtain ⟨p, c, e, _⟩ := sl_of_own intC_length (hrow.row A (by omega) hAv)
      exact ⟨p, _, c, e⟩
    clear hfin hrow hro hu HR3 HS hrl hlr
    have HE1 : Hid (swapL l L F T A B = l.set T (swap2 l[T] A B)) := Lib.hid (by rw [HE.out.1, List.getD_eq_getElem?_getD, List.getElem?_eq_getElem hTl]; rfl)
    have HE2 := Lib.hid HE.out.2
    clear HE
    by_cases hAB : A = B
    · subst hAB
      clear fA
      generalize (vss[T]'hTv)[A] = xB at cA cB HF fB
      obtain ⟨pB, nB, cB1, rfl⟩ := fB
      clear hAv hBv hlen hP hA hB hC HG
      rw [hul] at HF ⊢
      go_wp2
      go_region
      all_goals (
        go_wp2
        go_ret2
        rw [HE1.out, HE2.out]
        exact ⟨_, rfl, gain_drew (gain_setCell (gain_setCell HGW.out hgg _) hgg _), _, _, rows3_base (rows3_up HF.out.1 (by repeat (first | with_reducible (first | exact World.gained_refl _ | exact ⟨_, rfl⟩ | apply gain_ext | apply gain_alloc | apply gain_drewN | apply gain_drew) | (refine gain_setCell ?_ (by first | exact Nat.le_refl _ | exact World.size_ext _ _ | (simp; done) | (simp; omega)) _)))) (World.size_ext w d1)⟩)
    · generalize (vss[T]'hTv)[B] = xB at cB HF fB
      generalize (vss[T]'hTv)[A] = xA at cA HF fA
      obtain ⟨pB, nB, cB1, rfl⟩ := fB
      obtain ⟨pA, nA, cA1, rfl⟩ := fA
      have hBA : ¬ B = A := fun e => hAB e.symm
      clear hAv hBv hlen hP hA hB hC HG
      rw [hul] at HF ⊢
      go_wp2
      go_region
      all_goals (
        go_wp2
        go_ret2
        rw [HE1.out, HE2.out]
        exact ⟨_, rfl, gain_drew (gain_setCell (gain_setCell HGW.out hgg _) hgg _), _, _, rows3_base (rows3_up HF.out.1 (by repeat (first | with_reducible (first | exact World.gained_refl _ | exact ⟨_, rfl⟩ | apply gain_ext | apply gain_alloc | apply gain_drewN | apply gain_drew) | (refine gain_setCell ?_ (by first | exact Nat.le_refl _ | exact World.size_ext _ _ | (simp; done) | (simp; omega)) _)))) (World.size_ext w d1)⟩)
end Go.Proofs.Ytlofdpbdnkcnkaa
