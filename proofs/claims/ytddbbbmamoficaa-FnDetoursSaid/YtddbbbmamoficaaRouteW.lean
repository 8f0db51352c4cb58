/- impl.CellsWithin, FarthestCell; spec.CellsWithin, FarthestCell. Condition: a map in memory. -/
import Derived.Test.YtddbbbmamoficaaRouteC
namespace Go.Ori
theorem withinN_succ (m : Mp) (a : Nat) (t : Int) (k : Nat) : withinN m a t (k + 1) = withinN m a t k ++ if withinP m a t k then [(k : Int)] else [] := by
  unfold withinN
  rw [List.range_succ, List.filter_append, List.map_append]
  by_cases h : withinP m a t k = true <;> simp [h]
theorem withinN_len (m : Mp) (a : Nat) (t : Int) (k : Nat) : (withinN m a t k).length ≤ k := by
  unfold withinN
  rw [List.length_map]
  exact Nat.le_trans (List.length_filter_le _ _) (by simp)
theorem within_no {m : Mp} {a t : Int} (h : withinB m a t = false) : withinL m a t = [] ∧ withinB m a t = false := by simp [withinL, h]
theorem within_yes {m : Mp} {a : Nat} {t : Int} (h : withinB m a t = true) : withinL m a t = withinN m a t m.cost.length ∧ withinB m a t = true := by simp [withinL, h]
theorem one_open {m : Mp} {a : Int} (h : openB m a = true) : ∃ A : Nat, a = A ∧ A < m.cost.length ∧ mapB m = true ∧ ∃ W H, MapOk m W H := by
  obtain ⟨W, H, hm⟩ := mapB_ok (openB_map h)
  have hb := openB_map h
  obtain ⟨A, rfl, a1, _⟩ := openB_true h
  exact ⟨A, rfl, a1, hb, W, H, hm⟩
theorem farN_lo (m : Mp) (a : Nat) {W H : Nat} (hm : MapOk m W H) : ∀ k, k ≤ m.cost.length → -1 ≤ (farN m a k).2 ∧ (farN m a k).2 ≤ 1073741824
  | 0, _ => by simp [farN]
  | k + 1, hk => by
    have ih := farN_lo m a hm k (by omega)
    rw [farN]
    split
    · have := time_hi hm (show k < m.cost.length by omega) a
      exact ⟨by show -1 ≤ timeB m a k; omega, this.2⟩
    · exact ih
end Go.Ori
namespace Go.Proofs.Ytddbbbmamoficaa
open Go.RowKit Go.Ori
set_option maxHeartbeats 4000000 in
theorem cellsWithin_any (m : Mp) (rv cv : Value) (a t : Int) (w : World) (hmp : w.mp rv cv m) :
    Calls Try.prog 44 #[.agg #[.int .i64 m.wd, .int .i64 m.ht, rv, cv], .int .i64 a, .int .i64 t] w fun x w' => ∃ r, x = .returned (.tuple #[r, .bool (withinB m a t)]) ∧ (∃ d, w' = w.ext d) ∧ w'.own w.heap.size 3 intC 1 r (withinL m a t) := by
  have hm := Lib.hid hmp
  obtain ⟨p1, c1, p2, c2, rfl, rfl⟩ := mp_form hmp
  have HCN := Lib.hid (fun W v hW hv => (show Calls Try.prog 72 _ W _ from by have := canRoute_any m (.slice p1 m.rise.length c1) (.slice p2 m.cost.length c2) v [a] W hW hv (by simp); rw [can1] at this; exact this))
  clear hmp
  cases hO : openB m a with
  | false =>
    obtain ⟨e1, e2⟩ := within_no (m := m) (a := a) (t := t) (by simp [withinB, hO])
    rw [hO] at HCN
    rw [e1, e2]
    clear e1 e2 hO
    go_enter Try.func44, Try.ntmps44
    go_wp2_with (go_at_call 72; refine (HCN.out _ _ (mp_up (hm.out) (by repeat (first | with_reducible (first | exact World.gained_refl _ | exact ⟨_, rfl⟩ | apply gain_ext | apply gain_alloc | apply gain_drewN | apply gain_drew) | (refine gain_setCell ?_ (by first | exact Nat.le_refl _ | exact World.size_ext _ _ | (simp; done) | (simp; omega)) _)))) (sl_lit (l := [_]) intC_length rfl (by simp))).mono ?_; rintro e w1 ⟨rfl, d1, rfl⟩)
    go_ret2
    exact ⟨_, rfl, (by repeat (first | with_reducible (first | exact World.gained_refl _ | exact ⟨_, rfl⟩ | apply gain_ext | apply gain_alloc | apply gain_drewN | apply gain_drew) | (refine gain_setCell ?_ (by first | exact Nat.le_refl _ | exact World.size_ext _ _ | (simp; done) | (simp; omega)) _))), own_nil _ _ _ _ _⟩
  | true =>
    obtain ⟨A, rfl, hA, hmb, WW, HH, hok⟩ := one_open hO
    have HOK := Lib.hid hok
    have hn := hok.n36
    by_cases ht : 0 ≤ t
    · have htd : decide (t < 0) = false := decide_eq_false (by omega)
      obtain ⟨e1, e2⟩ := within_yes (m := m) (a := A) (t := t) (by simp [withinB, hO, ht])
      have HE := Lib.hid e1
      rw [hO] at HCN
      rw [e2]
      clear e1 e2 hO hok
      go_enter Try.func44, Try.ntmps44
      go_wp2_with (go_at_call 72; refine (HCN.out _ _ (mp_up (hm.out) (by repeat (first | with_reducible (first | exact World.gained_refl _ | exact ⟨_, rfl⟩ | apply gain_ext | apply gain_alloc | apply gain_drewN | apply gain_drew) | (refine gain_setCell ?_ (by first | exact Nat.le_refl _ | exact World.size_ext _ _ | (simp; done) | (simp; omega)) _)))) (sl_lit (l := [_]) intC_length rfl (by simp))).mono ?_; rintro e w1 ⟨rfl, d1, rfl⟩)
      generalize hW0 : w.alloc (.cells #[.int .i64 m.wd, .int .i64 m.ht, .slice p1 m.rise.length c1, .slice p2 m.cost.length c2] 26) = W0
      have hbx : MBox w W0 w.heap.size m (.slice p1 m.rise.length c1) (.slice p2 m.cost.length c2) := by rw [← hW0]; exact mbox
      have HG := Lib.hid hbx.up
      have bx0 := hbx.c0
      have bx1 := hbx.c1
      have bx2 := hbx.c2
      have bx3 := hbx.c3
      have obx := hbx.ob
      have HM0 := Lib.hid (mp_up hm.out HG.out)
      have hsz0 := gain_size HG.out
      have hsz1 : W0.heap.size = w.heap.size + 1 := by rw [← hW0, World.size_alloc]
      clear hW0 hbx
      obtain ⟨b1, o1, k1, b2, o2, k2, hin⟩ := mp_in HM0.out HOK.out
      have hcv := hin.cv
      injection hcv with e1 e2 e3
      subst e1 e3
      have HCO := Lib.hid hin.co
      have ob2 := hin.ob2
      clear hin
      go_loopw [8, 24] (fun ov i wr => ∃ k : Nat, k ≤ m.cost.length ∧ i = .int .i64 k ∧ (∃ d, wr = W0.ext d) ∧ wr.own W0.heap.size 3 intC 1 ov (withinN m A t k)) (fun _ i _ => m.cost.length - (intOf i).toNat)
      case atStart => exact ⟨0, by omega, rfl, (by repeat (first | with_reducible (first | exact World.gained_refl _ | exact ⟨_, rfl⟩ | apply gain_ext | apply gain_alloc | apply gain_drewN | apply gain_drew) | (refine gain_setCell ?_ (by first | exact Nat.le_refl _ | exact World.size_ext _ _ | (simp; done) | (simp; omega)) _))), own_lit' (l := ([] : List Int)) intC_length rfl rfl (gain_size (by repeat (first | with_reducible (first | exact World.gained_refl _ | exact ⟨_, rfl⟩ | apply gain_ext | apply gain_alloc | apply gain_drewN | apply gain_drew) | (refine gain_setCell ?_ (by first | exact Nat.le_refl _ | exact World.size_ext _ _ | (simp; done) | (simp; omega)) _))))⟩
      case round =>
        obtain ⟨k, hk, rfl, ⟨d, rfl⟩, ho⟩ := hrel
        have HO := Lib.hid ho
        clear ho
        by_cases hlt : k < m.cost.length
        · have hlt' := hlt
          have hca := HOK.out.cr k
          have ck := HCO.out k hlt
          have HS := Lib.hid (withinN_succ m A t k)
          have HLN := Lib.hid (withinN_len m A t k)
          have hTh := time_hi HOK.out hlt A
          have hP : withinP m A t k = (decide (0 < costAt m k) && decide (timeB m A k ≤ min t 1073741823)) := rfl
          have HLT := Lib.hid (fun W hW => leastTime_any m (.slice p1 m.rise.length c1) (.slice (some ⟨b2, o2, none⟩) m.cost.length c2) WW HH A k W HOK.out hW hA hlt)
          generalize costAt m k = y at ck hca hP
          generalize timeB m A k = z at HLT hTh hP
          by_cases hy : 0 < y
          · have hyd : decide (0 < y) = true := decide_eq_true hy
            by_cases hz : z ≤ min t 1073741823
            · have hzd : decide (z ≤ min t 1073741823) = true := decide_eq_true hz
              rw [hyd, hzd] at hP
              rw [hP] at HS
              clear hP
              go_wp2_with fail
              refine (HLT.out _ (mp_up (HM0.out) (by repeat (first | with_reducible (first | exact World.gained_refl _ | exact ⟨_, rfl⟩ | apply gain_ext | apply gain_alloc | apply gain_drewN | apply gain_drew) | (refine gain_setCell ?_ (by first | exact Nat.le_refl _ | exact World.size_ext _ _ | (simp; done) | (simp; omega)) _))))).mono ?_
              rintro e w1 ⟨rfl, d1, rfl⟩
              go_wp2_with (at_builtin; go_must (refine wpList_append_gain (m := [(k : Int)]) rfl (.tmp 40) (.tmp 42) rfl Try.underlying24 info_int (by rfl) (by omega) intC_length intC_one (by omega) (by repeat (first | with_reducible (first | exact World.gained_refl _ | exact ⟨_, rfl⟩ | apply gain_ext | apply gain_alloc | apply gain_drewN | apply gain_drew) | (refine gain_setCell ?_ (by first | exact Nat.le_refl _ | exact World.size_ext _ _ | (simp; done) | (simp; omega)) _))) (Nat.le_refl _) (gain_size (by repeat (first | with_reducible (first | exact World.gained_refl _ | exact ⟨_, rfl⟩ | apply gain_ext | apply gain_alloc | apply gain_drewN | apply gain_drew) | (refine gain_setCell ?_ (by first | exact Nat.le_refl _ | exact World.size_ext _ _ | (simp; done) | (simp; omega)) _)))) rfl rfl (own_up (HO.out) (by repeat (first | with_reducible (first | exact World.gained_refl _ | exact ⟨_, rfl⟩ | apply gain_ext | apply gain_alloc | apply gain_drewN | apply gain_drew) | (refine gain_setCell ?_ (by first | exact Nat.le_refl _ | exact World.size_ext _ _ | (simp; done) | (simp; omega)) _)))) (sl_lit (l := [(k : Int)]) intC_length rfl (by simp)) (by have := HLN.out; simp; omega) ?_); intro v' d' ho hg)
              go_roundw
              case rel => exact ⟨k + 1, by omega, by go_num, ⟨_, rfl⟩, by rw [HS.out]; exact ho⟩
              case measure => simp [intOf]; omega
            · have hzd : decide (z ≤ min t 1073741823) = false := decide_eq_false hz
              rw [hyd, hzd] at hP
              rw [hP] at HS
              clear hP
              go_wp2_with (go_at_call 58; refine (HLT.out _ (mp_up (HM0.out) (by repeat (first | with_reducible (first | exact World.gained_refl _ | exact ⟨_, rfl⟩ | apply gain_ext | apply gain_alloc | apply gain_drewN | apply gain_drew) | (refine gain_setCell ?_ (by first | exact Nat.le_refl _ | exact World.size_ext _ _ | (simp; done) | (simp; omega)) _))))).mono ?_; rintro e w1 ⟨rfl, d1, rfl⟩)
              go_roundw
              case rel => exact ⟨k + 1, by omega, by go_num, (by repeat (first | with_reducible (first | exact World.gained_refl _ | exact ⟨_, rfl⟩ | apply gain_ext | apply gain_alloc | apply gain_drewN | apply gain_drew) | (refine gain_setCell ?_ (by first | exact Nat.le_refl _ | exact World.size_ext _ _ | (simp; done) | (simp; omega)) _))), by rw [HS.out]; simpa using (own_up (HO.out) (by repeat (first | with_reducible (first | exact World.gained_refl _ | exact ⟨_, rfl⟩ | apply gain_ext | apply gain_alloc | apply gain_drewN | apply gain_drew) | (refine gain_setCell ?_ (by first | exact Nat.le_refl _ | exact World.size_ext _ _ | (simp; done) | (simp; omega)) _))))⟩
              case measure => simp [intOf]; omega
          · have hyd : decide (0 < y) = false := decide_eq_false hy
            rw [hyd] at hP
            rw [hP] at HS
            clear hP
            go_wp2
            go_roundw
            case rel => exact ⟨k + 1, by omega, by go_num, (by repeat (first | with_reducible (first | exact World.gained_refl _ | exact ⟨_, rfl⟩ | apply gain_ext | apply gain_alloc | apply gain_drewN | apply gain_drew) | (refine gain_setCell ?_ (by first | exact Nat.le_refl _ | exact World.size_ext _ _ | (simp; done) | (simp; omega)) _))), by rw [HS.out]; simpa using (own_up (HO.out) (by repeat (first | with_reducible (first | exact World.gained_refl _ | exact ⟨_, rfl⟩ | apply gain_ext | apply gain_alloc | apply gain_drewN | apply gain_drew) | (refine gain_setCell ?_ (by first | exact Nat.le_refl _ | exact World.size_ext _ _ | (simp; done) | (simp; omega)) _))))⟩
            case measure => simp [intOf]; omega
        · obtain rfl : k = m.cost.length := by omega
          go_wp2
          go_ret2
          rw [HE.out]
          exact ⟨_, rfl, gain_trans HG.out (by repeat (first | with_reducible (first | exact World.gained_refl _ | exact ⟨_, rfl⟩ | apply gain_ext | apply gain_alloc | apply gain_drewN | apply gain_drew) | (refine gain_setCell ?_ (by first | exact Nat.le_refl _ | exact World.size_ext _ _ | (simp; done) | (simp; omega)) _))), own_base (own_up HO.out (by repeat (first | with_reducible (first | exact World.gained_refl _ | exact ⟨_, rfl⟩ | apply gain_ext | apply gain_alloc | apply gain_drewN | apply gain_drew) | (refine gain_setCell ?_ (by first | exact Nat.le_refl _ | exact World.size_ext _ _ | (simp; done) | (simp; omega)) _)))) hsz0⟩
    · have htd : decide (t < 0) = true := decide_eq_true (by omega)
      obtain ⟨e1, e2⟩ := within_no (m := m) (a := A) (t := t) (by simp [withinB, ht])
      rw [hO] at HCN
      rw [e1, e2]
      clear e1 e2 hO hok
      go_enter Try.func44, Try.ntmps44
      go_wp2_with (go_at_call 72; refine (HCN.out _ _ (mp_up (hm.out) (by repeat (first | with_reducible (first | exact World.gained_refl _ | exact ⟨_, rfl⟩ | apply gain_ext | apply gain_alloc | apply gain_drewN | apply gain_drew) | (refine gain_setCell ?_ (by first | exact Nat.le_refl _ | exact World.size_ext _ _ | (simp; done) | (simp; omega)) _)))) (sl_lit (l := [_]) intC_length rfl (by simp))).mono ?_; rintro e w1 ⟨rfl, d1, rfl⟩)
      go_ret2
      exact ⟨_, rfl, (by repeat (first | with_reducible (first | exact World.gained_refl _ | exact ⟨_, rfl⟩ | apply gain_ext | apply gain_alloc | apply gain_drewN | apply gain_drew) | (refine gain_setCell ?_ (by first | exact Nat.le_refl _ | exact World.size_ext _ _ | (simp; done) | (simp; omega)) _))), own_nil _ _ _ _ _⟩
set_option maxHeartbeats 4000000 in
theorem specCellsWithin_any (m : Mp) (rv cv : Value) (a t : Int) (w : World) (hmp : w.mp rv cv m) :
    Calls Try.prog 45 #[.agg #[.int .i64 m.wd, .int .i64 m.ht, rv, cv], .int .i64 a, .int .i64 t] w fun x w' => ∃ r, x = .returned (.tuple #[r, .bool (withinB m a t)]) ∧ (∃ d, w' = w.ext d) ∧ w'.own w.heap.size 3 intC 1 r (withinL m a t) := by
  have hm := Lib.hid hmp
  obtain ⟨p1, c1, p2, c2, rfl, rfl⟩ := mp_form hmp
  have HCN := Lib.hid (fun W hW => (show Calls Try.prog 74 _ W _ from by have := l4Asked_any m (.slice p1 m.rise.length c1) (.slice p2 m.cost.length c2) a a W hW; rw [Bool.and_self] at this; exact this))
  clear hmp
  cases hO : openB m a with
  | false =>
    obtain ⟨e1, e2⟩ := within_no (m := m) (a := a) (t := t) (by simp [withinB, hO])
    rw [hO] at HCN
    rw [e1, e2]
    clear e1 e2 hO
    go_enter Try.func45, Try.ntmps45
    go_wp2_with (go_at_call 74; refine (HCN.out _ (mp_up (hm.out) (by repeat (first | with_reducible (first | exact World.gained_refl _ | exact ⟨_, rfl⟩ | apply gain_ext | apply gain_alloc | apply gain_drewN | apply gain_drew) | (refine gain_setCell ?_ (by first | exact Nat.le_refl _ | exact World.size_ext _ _ | (simp; done) | (simp; omega)) _))))).mono ?_; rintro e w1 ⟨rfl, d1, rfl⟩)
    go_ret2
    exact ⟨_, rfl, (by repeat (first | with_reducible (first | exact World.gained_refl _ | exact ⟨_, rfl⟩ | apply gain_ext | apply gain_alloc | apply gain_drewN | apply gain_drew) | (refine gain_setCell ?_ (by first | exact Nat.le_refl _ | exact World.size_ext _ _ | (simp; done) | (simp; omega)) _))), own_up (own_lit' (w := w.alloc (.cells #[.int .i64 m.wd, .int .i64 m.ht, .slice p1 m.rise.length c1, .slice p2 m.cost.length c2] 26)) (C := #[]) (l := ([] : List Int)) intC_length rfl (by rw [World.size_alloc]) (gain_size (by repeat (first | with_reducible (first | exact World.gained_refl _ | exact ⟨_, rfl⟩ | apply gain_ext | apply gain_alloc | apply gain_drewN | apply gain_drew) | (refine gain_setCell ?_ (by first | exact Nat.le_refl _ | exact World.size_ext _ _ | (simp; done) | (simp; omega)) _))))) (by repeat (first | with_reducible (first | exact World.gained_refl _ | exact ⟨_, rfl⟩ | apply gain_ext | apply gain_alloc | apply gain_drewN | apply gain_drew) | (refine gain_setCell ?_ (by first | exact Nat.le_refl _ | exact World.size_ext _ _ | (simp; done) | (simp; omega)) _)))⟩
  | true =>
    obtain ⟨A, rfl, hA, hmb, WW, HH, hok⟩ := one_open hO
    have HOK := Lib.hid hok
    have hn := hok.n36
    by_cases ht : 0 ≤ t
    · have htd : decide (t < 0) = false := decide_eq_false (by omega)
      obtain ⟨e1, e2⟩ := within_yes (m := m) (a := A) (t := t) (by simp [withinB, hO, ht])
      have HE := Lib.hid e1
      rw [hO] at HCN
      rw [e2]
      clear e1 e2 hO hok
      go_enter Try.func45, Try.ntmps45
      go_wp2_with (go_at_call 74; refine (HCN.out _ (mp_up (hm.out) (by repeat (first | with_reducible (first | exact World.gained_refl _ | exact ⟨_, rfl⟩ | apply gain_ext | apply gain_alloc | apply gain_drewN | apply gain_drew) | (refine gain_setCell ?_ (by first | exact Nat.le_refl _ | exact World.size_ext _ _ | (simp; done) | (simp; omega)) _))))).mono ?_; rintro e w1 ⟨rfl, d1, rfl⟩)
      generalize hW0 : w.alloc (.cells #[.int .i64 m.wd, .int .i64 m.ht, .slice p1 m.rise.length c1, .slice p2 m.cost.length c2] 26) = W0
      have hbx : MBox w W0 w.heap.size m (.slice p1 m.rise.length c1) (.slice p2 m.cost.length c2) := by rw [← hW0]; exact mbox
      have HG := Lib.hid hbx.up
      have bx0 := hbx.c0
      have bx1 := hbx.c1
      have bx2 := hbx.c2
      have bx3 := hbx.c3
      have obx := hbx.ob
      have HM0 := Lib.hid (mp_up hm.out HG.out)
      have hsz0 := gain_size HG.out
      have hsz1 : W0.heap.size = w.heap.size + 1 := by rw [← hW0, World.size_alloc]
      clear hW0 hbx
      obtain ⟨b1, o1, k1, b2, o2, k2, hin⟩ := mp_in HM0.out HOK.out
      have hcv := hin.cv
      injection hcv with e1 e2 e3
      subst e1 e3
      have HCO := Lib.hid hin.co
      have ob2 := hin.ob2
      clear hin
      go_loopw [8, 9] (fun ov i wr => ∃ k : Nat, k ≤ m.cost.length ∧ i = .int .i64 k ∧ (∃ d, wr = W0.ext d) ∧ wr.own W0.heap.size 3 intC 1 ov (withinN m A t k)) (fun _ i _ => m.cost.length - (intOf i).toNat)
      case atStart => exact ⟨0, by omega, rfl, (by repeat (first | with_reducible (first | exact World.gained_refl _ | exact ⟨_, rfl⟩ | apply gain_ext | apply gain_alloc | apply gain_drewN | apply gain_drew) | (refine gain_setCell ?_ (by first | exact Nat.le_refl _ | exact World.size_ext _ _ | (simp; done) | (simp; omega)) _))), own_up (own_lit' (w := W0) (C := #[]) (l := ([] : List Int)) intC_length rfl hsz1.symm (Nat.le_refl _)) (by repeat (first | with_reducible (first | exact World.gained_refl _ | exact ⟨_, rfl⟩ | apply gain_ext | apply gain_alloc | apply gain_drewN | apply gain_drew) | (refine gain_setCell ?_ (by first | exact Nat.le_refl _ | exact World.size_ext _ _ | (simp; done) | (simp; omega)) _)))⟩
      case round =>
        obtain ⟨k, hk, rfl, ⟨d, rfl⟩, ho⟩ := hrel
        have HO := Lib.hid ho
        clear ho
        by_cases hlt : k < m.cost.length
        · have hlt' := hlt
          have hca := HOK.out.cr k
          have ck := HCO.out k hlt
          have HS := Lib.hid (withinN_succ m A t k)
          have HLN := Lib.hid (withinN_len m A t k)
          have hTh := time_hi HOK.out hlt A
          have hP : withinP m A t k = (decide (0 < costAt m k) && decide (timeB m A k ≤ min t 1073741823)) := rfl
          have HLT := Lib.hid (fun W hW => l4ToAt m (.slice p1 m.rise.length c1) (.slice (some ⟨b2, o2, none⟩) m.cost.length c2) WW HH A k W HOK.out hW hA hlt)
          have hZ1 := fun h => tZ_yes (m := m) (a := A) (b := k) h
          have hZ2 := fun h => tZ_no (a := A) HOK.out hlt h
          generalize costAt m k = y at ck hca hP
          generalize timeB m A k = z at hTh hP hZ1 hZ2
          generalize tZ m A k = q at HLT hZ1 hZ2
          have hq : (z < 1073741824 ∧ q = z) ∨ (z = 1073741824 ∧ q = -1) := by
            by_cases h : z < 1073741824
            · exact .inl ⟨h, hZ1 h⟩
            · exact .inr ⟨by omega, hZ2 (by omega)⟩
          clear hZ1 hZ2
          by_cases hy : 0 < y
          · have hyd : decide (0 < y) = true := decide_eq_true hy
            have hy0 : (y == 0) = false := by simp; omega
            rw [hyd] at hP
            by_cases hq0 : 0 ≤ q
            · have hq0d : decide (0 ≤ q) = true := decide_eq_true hq0
              by_cases hz : q ≤ t
              · have hzd : decide (q ≤ t) = true := decide_eq_true hz
                rw [show decide (z ≤ min t 1073741823) = true from decide_eq_true (by omega)] at hP
                rw [hP] at HS
                clear hP hq
                go_wp2_with fail
                refine (HLT.out _ (mp_up (HM0.out) (by repeat (first | with_reducible (first | exact World.gained_refl _ | exact ⟨_, rfl⟩ | apply gain_ext | apply gain_alloc | apply gain_drewN | apply gain_drew) | (refine gain_setCell ?_ (by first | exact Nat.le_refl _ | exact World.size_ext _ _ | (simp; done) | (simp; omega)) _))))).mono ?_
                rintro e w1 ⟨g, cap, rfl, ⟨d1, rfl⟩, tc⟩
                have obg := World.oldB_of_cell tc
                go_wp2_with (at_builtin; go_must (refine wpList_append_gain (m := [(k : Int)]) rfl (.tmp 48) (.tmp 50) rfl Try.underlying24 info_int (by rfl) (by omega) intC_length intC_one (by omega) (by repeat (first | with_reducible (first | exact World.gained_refl _ | exact ⟨_, rfl⟩ | apply gain_ext | apply gain_alloc | apply gain_drewN | apply gain_drew) | (refine gain_setCell ?_ (by first | exact Nat.le_refl _ | exact World.size_ext _ _ | (simp; done) | (simp; omega)) _))) (Nat.le_refl _) (gain_size (by repeat (first | with_reducible (first | exact World.gained_refl _ | exact ⟨_, rfl⟩ | apply gain_ext | apply gain_alloc | apply gain_drewN | apply gain_drew) | (refine gain_setCell ?_ (by first | exact Nat.le_refl _ | exact World.size_ext _ _ | (simp; done) | (simp; omega)) _)))) rfl rfl (own_up (HO.out) (by repeat (first | with_reducible (first | exact World.gained_refl _ | exact ⟨_, rfl⟩ | apply gain_ext | apply gain_alloc | apply gain_drewN | apply gain_drew) | (refine gain_setCell ?_ (by first | exact Nat.le_refl _ | exact World.size_ext _ _ | (simp; done) | (simp; omega)) _)))) (sl_lit (l := [(k : Int)]) intC_length rfl (by simp)) (by have := HLN.out; simp; omega) ?_); intro v' d' ho hg)
                go_roundw
                case rel => exact ⟨k + 1, by omega, by go_num, ⟨_, rfl⟩, by rw [HS.out]; exact ho⟩
                case measure => simp [intOf]; omega
              · have hzd : decide (q ≤ t) = false := decide_eq_false hz
                rw [show decide (z ≤ min t 1073741823) = false from decide_eq_false (by omega)] at hP
                rw [hP] at HS
                clear hP hq
                go_wp2_with (go_at_call 75; refine (HLT.out _ (mp_up (HM0.out) (by repeat (first | with_reducible (first | exact World.gained_refl _ | exact ⟨_, rfl⟩ | apply gain_ext | apply gain_alloc | apply gain_drewN | apply gain_drew) | (refine gain_setCell ?_ (by first | exact Nat.le_refl _ | exact World.size_ext _ _ | (simp; done) | (simp; omega)) _))))).mono ?_; rintro e w1 ⟨g, cap, rfl, ⟨d1, rfl⟩, tc⟩; have obg := World.oldB_of_cell tc)
                go_roundw
                case rel => exact ⟨k + 1, by omega, by go_num, (by repeat (first | with_reducible (first | exact World.gained_refl _ | exact ⟨_, rfl⟩ | apply gain_ext | apply gain_alloc | apply gain_drewN | apply gain_drew) | (refine gain_setCell ?_ (by first | exact Nat.le_refl _ | exact World.size_ext _ _ | (simp; done) | (simp; omega)) _))), by rw [HS.out]; simpa using (own_up (HO.out) (by repeat (first | with_reducible (first | exact World.gained_refl _ | exact ⟨_, rfl⟩ | apply gain_ext | apply gain_alloc | apply gain_drewN | apply gain_drew) | (refine gain_setCell ?_ (by first | exact Nat.le_refl _ | exact World.size_ext _ _ | (simp; done) | (simp; omega)) _))))⟩
                case measure => simp [intOf]; omega
            · have hq0d : decide (0 ≤ q) = false := decide_eq_false hq0
              rw [show decide (z ≤ min t 1073741823) = false from decide_eq_false (by omega)] at hP
              rw [hP] at HS
              clear hP hq
              go_wp2_with (go_at_call 75; refine (HLT.out _ (mp_up (HM0.out) (by repeat (first | with_reducible (first | exact World.gained_refl _ | exact ⟨_, rfl⟩ | apply gain_ext | apply gain_alloc | apply gain_drewN | apply gain_drew) | (refine gain_setCell ?_ (by first | exact Nat.le_refl _ | exact World.size_ext _ _ | (simp; done) | (simp; omega)) _))))).mono ?_; rintro e w1 ⟨g, cap, rfl, ⟨d1, rfl⟩, tc⟩; have obg := World.oldB_of_cell tc)
              go_roundw
              case rel => exact ⟨k + 1, by omega, by go_num, (by repeat (first | with_reducible (first | exact World.gained_refl _ | exact ⟨_, rfl⟩ | apply gain_ext | apply gain_alloc | apply gain_drewN | apply gain_drew) | (refine gain_setCell ?_ (by first | exact Nat.le_refl _ | exact World.size_ext _ _ | (simp; done) | (simp; omega)) _))), by rw [HS.out]; simpa using (own_up (HO.out) (by repeat (first | with_reducible (first | exact World.gained_refl _ | exact ⟨_, rfl⟩ | apply gain_ext | apply gain_alloc | apply gain_drewN | apply gain_drew) | (refine gain_setCell ?_ (by first | exact Nat.le_refl _ | exact World.size_ext _ _ | (simp; done) | (simp; omega)) _))))⟩
              case measure => simp [intOf]; omega
          · have hyd : decide (0 < y) = false := decide_eq_false hy
            have hy0 : (y == 0) = true := by simp; omega
            rw [hyd] at hP
            rw [hP] at HS
            clear hP hq
            go_wp2
            go_roundw
            case rel => exact ⟨k + 1, by omega, by go_num, (by repeat (first | with_reducible (first | exact World.gained_refl _ | exact ⟨_, rfl⟩ | apply gain_ext | apply gain_alloc | apply gain_drewN | apply gain_drew) | (refine gain_setCell ?_ (by first | exact Nat.le_refl _ | exact World.size_ext _ _ | (simp; done) | (simp; omega)) _))), by rw [HS.out]; simpa using (own_up (HO.out) (by repeat (first | with_reducible (first | exact World.gained_refl _ | exact ⟨_, rfl⟩ | apply gain_ext | apply gain_alloc | apply gain_drewN | apply gain_drew) | (refine gain_setCell ?_ (by first | exact Nat.le_refl _ | exact World.size_ext _ _ | (simp; done) | (simp; omega)) _))))⟩
            case measure => simp [intOf]; omega
        · obtain rfl : k = m.cost.length := by omega
          go_wp2
          go_ret2
          rw [HE.out]
          exact ⟨_, rfl, gain_trans HG.out (by repeat (first | with_reducible (first | exact World.gained_refl _ | exact ⟨_, rfl⟩ | apply gain_ext | apply gain_alloc | apply gain_drewN | apply gain_drew) | (refine gain_setCell ?_ (by first | exact Nat.le_refl _ | exact World.size_ext _ _ | (simp; done) | (simp; omega)) _))), own_base (own_up HO.out (by repeat (first | with_reducible (first | exact World.gained_refl _ | exact ⟨_, rfl⟩ | apply gain_ext | apply gain_alloc | apply gain_drewN | apply gain_drew) | (refine gain_setCell ?_ (by first | exact Nat.le_refl _ | exact World.size_ext _ _ | (simp; done) | (simp; omega)) _)))) hsz0⟩
    · have htd : decide (t < 0) = true := decide_eq_true (by omega)
      obtain ⟨e1, e2⟩ := within_no (m := m) (a := A) (t := t) (by simp [withinB, ht])
      rw [hO] at HCN
      rw [e1, e2]
      clear e1 e2 hO hok
      go_enter Try.func45, Try.ntmps45
      go_wp2_with (go_at_call 74; refine (HCN.out _ (mp_up (hm.out) (by repeat (first | with_reducible (first | exact World.gained_refl _ | exact ⟨_, rfl⟩ | apply gain_ext | apply gain_alloc | apply gain_drewN | apply gain_drew) | (refine gain_setCell ?_ (by first | exact Nat.le_refl _ | exact World.size_ext _ _ | (simp; done) | (simp; omega)) _))))).mono ?_; rintro e w1 ⟨rfl, d1, rfl⟩)
      go_ret2
      exact ⟨_, rfl, (by repeat (first | with_reducible (first | exact World.gained_refl _ | exact ⟨_, rfl⟩ | apply gain_ext | apply gain_alloc | apply gain_drewN | apply gain_drew) | (refine gain_setCell ?_ (by first | exact Nat.le_refl _ | exact World.size_ext _ _ | (simp; done) | (simp; omega)) _))), own_up (own_lit' (w := w.alloc (.cells #[.int .i64 m.wd, .int .i64 m.ht, .slice p1 m.rise.length c1, .slice p2 m.cost.length c2] 26)) (C := #[]) (l := ([] : List Int)) intC_length rfl (by rw [World.size_alloc]) (gain_size (by repeat (first | with_reducible (first | exact World.gained_refl _ | exact ⟨_, rfl⟩ | apply gain_ext | apply gain_alloc | apply gain_drewN | apply gain_drew) | (refine gain_setCell ?_ (by first | exact Nat.le_refl _ | exact World.size_ext _ _ | (simp; done) | (simp; omega)) _))))) (by repeat (first | with_reducible (first | exact World.gained_refl _ | exact ⟨_, rfl⟩ | apply gain_ext | apply gain_alloc | apply gain_drewN | apply gain_drew) | (refine gain_setCell ?_ (by first | exact Nat.le_refl _ | exact World.size_ext _ _ | (simp; done) | (simp; omega)) _)))⟩
set_option maxHeartbeats 4000000 in
theorem farthestCell_any (m : Mp) (rv cv : Value) (a : Int) (w : World) (hmp : w.mp rv cv m) :
    Calls Try.prog 46 #[.agg #[.int .i64 m.wd, .int .i64 m.ht, rv, cv], .int .i64 a] w fun x w' => x = .returned (.tuple #[.int .i64 (farI m a).1, .int .i64 (farI m a).2, .bool (openB m a)]) ∧ ∃ d, w' = w.ext d := by
  have hm := Lib.hid hmp
  obtain ⟨p1, c1, p2, c2, rfl, rfl⟩ := mp_form hmp
  have HCN := Lib.hid (fun W v hW hv => (show Calls Try.prog 72 _ W _ from by have := canRoute_any m (.slice p1 m.rise.length c1) (.slice p2 m.cost.length c2) v [a] W hW hv (by simp); rw [can1] at this; exact this))
  clear hmp
  cases hO : openB m a with
  | false =>
    have e1 : farI m a = (0, 0) := by rw [farI, hO]; rfl
    rw [hO] at HCN
    rw [e1]
    clear e1 hO
    go_enter Try.func46, Try.ntmps46
    go_wp2_with (go_at_call 72; refine (HCN.out _ _ (mp_up (hm.out) (by repeat (first | with_reducible (first | exact World.gained_refl _ | exact ⟨_, rfl⟩ | apply gain_ext | apply gain_alloc | apply gain_drewN | apply gain_drew) | (refine gain_setCell ?_ (by first | exact Nat.le_refl _ | exact World.size_ext _ _ | (simp; done) | (simp; omega)) _)))) (sl_lit (l := [_]) intC_length rfl (by simp))).mono ?_; rintro e w1 ⟨rfl, d1, rfl⟩)
    go_ret3
    exact ⟨rfl, (by repeat (first | with_reducible (first | exact World.gained_refl _ | exact ⟨_, rfl⟩ | apply gain_ext | apply gain_alloc | apply gain_drewN | apply gain_drew) | (refine gain_setCell ?_ (by first | exact Nat.le_refl _ | exact World.size_ext _ _ | (simp; done) | (simp; omega)) _)))⟩
  | true =>
    have e1 : farI m a = farN m a.toNat m.cost.length := by rw [farI, if_pos hO]
    obtain ⟨A, rfl, hA, hmb, WW, HH, hok⟩ := one_open hO
    rw [Int.toNat_natCast] at e1
    have HE := Lib.hid e1
    have HOK := Lib.hid hok
    have hn := hok.n36
    rw [hO] at HCN
    clear e1 hO hok
    go_enter Try.func46, Try.ntmps46
    go_wp2_with (go_at_call 72; refine (HCN.out _ _ (mp_up (hm.out) (by repeat (first | with_reducible (first | exact World.gained_refl _ | exact ⟨_, rfl⟩ | apply gain_ext | apply gain_alloc | apply gain_drewN | apply gain_drew) | (refine gain_setCell ?_ (by first | exact Nat.le_refl _ | exact World.size_ext _ _ | (simp; done) | (simp; omega)) _)))) (sl_lit (l := [_]) intC_length rfl (by simp))).mono ?_; rintro e w1 ⟨rfl, d1, rfl⟩)
    generalize hW0 : w.alloc (.cells #[.int .i64 m.wd, .int .i64 m.ht, .slice p1 m.rise.length c1, .slice p2 m.cost.length c2] 26) = W0
    have hbx : MBox w W0 w.heap.size m (.slice p1 m.rise.length c1) (.slice p2 m.cost.length c2) := by rw [← hW0]; exact mbox
    have HG := Lib.hid hbx.up
    have bx0 := hbx.c0
    have bx1 := hbx.c1
    have bx2 := hbx.c2
    have bx3 := hbx.c3
    have obx := hbx.ob
    have HM0 := Lib.hid (mp_up hm.out HG.out)
    have hsz0 := gain_size HG.out
    have hsz1 : W0.heap.size = w.heap.size + 1 := by rw [← hW0, World.size_alloc]
    clear hW0 hbx
    obtain ⟨b1, o1, k1, b2, o2, k2, hin⟩ := mp_in HM0.out HOK.out
    have hcv := hin.cv
    injection hcv with e1 e2 e3
    subst e1 e3
    have HCO := Lib.hid hin.co
    have ob2 := hin.ob2
    clear hin
    go_loopw [7, 8, 20] (fun bv mv i wr => ∃ k : Nat, k ≤ m.cost.length ∧ i = .int .i64 k ∧ bv = .int .i64 (farN m A k).1 ∧ mv = .int .i64 (farN m A k).2 ∧ ∃ d, wr = W0.ext d) (fun _ _ i _ => m.cost.length - (intOf i).toNat)
    case atStart => exact ⟨0, by omega, rfl, rfl, rfl, (by repeat (first | with_reducible (first | exact World.gained_refl _ | exact ⟨_, rfl⟩ | apply gain_ext | apply gain_alloc | apply gain_drewN | apply gain_drew) | (refine gain_setCell ?_ (by first | exact Nat.le_refl _ | exact World.size_ext _ _ | (simp; done) | (simp; omega)) _)))⟩
    case round =>
      obtain ⟨k, hk, rfl, rfl, rfl, d, rfl⟩ := hrel
      by_cases hlt : k < m.cost.length
      · have hlt' := hlt
        have hca := HOK.out.cr k
        have ck := HCO.out k hlt
        have hlo := farN_lo m A HOK.out k hk
        have hTh := time_hi HOK.out hlt A
        have HS : Hid (farN m A (k + 1) = if (decide (0 < costAt m k) && decide (timeB m A k < 1073741824)) && decide ((farN m A k).2 < timeB m A k) then ((k : Int), timeB m A k) else farN m A k) := Lib.hid rfl
        have HLT := Lib.hid (fun W hW => leastTime_any m (.slice p1 m.rise.length c1) (.slice (some ⟨b2, o2, none⟩) m.cost.length c2) WW HH A k W HOK.out hW hA hlt)
        generalize costAt m k = y at ck hca HS
        generalize timeB m A k = z at HLT hTh HS
        generalize farN m A k = s at hlo HS ⊢
        obtain ⟨s1, s2⟩ := s
        dsimp only at hlo HS ⊢
        by_cases hy : 0 < y
        · have hyd : decide (0 < y) = true := decide_eq_true hy
          by_cases hz : z < 1073741824
          · have hzd : decide (z < 1073741824) = true := decide_eq_true hz
            by_cases hs : s2 < z
            · have hsd : decide (s2 < z) = true := decide_eq_true hs
              rw [hyd, hzd, hsd] at HS
              go_wp2_with (go_at_call 58; refine (HLT.out _ (mp_up (HM0.out) (by repeat (first | with_reducible (first | exact World.gained_refl _ | exact ⟨_, rfl⟩ | apply gain_ext | apply gain_alloc | apply gain_drewN | apply gain_drew) | (refine gain_setCell ?_ (by first | exact Nat.le_refl _ | exact World.size_ext _ _ | (simp; done) | (simp; omega)) _))))).mono ?_; rintro e w1 ⟨rfl, d1, rfl⟩)
              go_roundw
              case rel => exact ⟨k + 1, by omega, by go_num, by rw [HS.out]; rfl, by rw [HS.out]; rfl, (by repeat (first | with_reducible (first | exact World.gained_refl _ | exact ⟨_, rfl⟩ | apply gain_ext | apply gain_alloc | apply gain_drewN | apply gain_drew) | (refine gain_setCell ?_ (by first | exact Nat.le_refl _ | exact World.size_ext _ _ | (simp; done) | (simp; omega)) _)))⟩
              case measure => simp [intOf]; omega
            · have hsd : decide (s2 < z) = false := decide_eq_false hs
              rw [hyd, hzd, hsd] at HS
              go_wp2_with (go_at_call 58; refine (HLT.out _ (mp_up (HM0.out) (by repeat (first | with_reducible (first | exact World.gained_refl _ | exact ⟨_, rfl⟩ | apply gain_ext | apply gain_alloc | apply gain_drewN | apply gain_drew) | (refine gain_setCell ?_ (by first | exact Nat.le_refl _ | exact World.size_ext _ _ | (simp; done) | (simp; omega)) _))))).mono ?_; rintro e w1 ⟨rfl, d1, rfl⟩)
              go_roundw
              case rel => exact ⟨k + 1, by omega, by go_num, by rw [HS.out]; rfl, by rw [HS.out]; rfl, (by repeat (first | with_reducible (first | exact World.gained_refl _ | exact ⟨_, rfl⟩ | apply gain_ext | apply gain_alloc | apply gain_drewN | apply gain_drew) | (refine gain_setCell ?_ (by first | exact Nat.le_refl _ | exact World.size_ext _ _ | (simp; done) | (simp; omega)) _)))⟩
              case measure => simp [intOf]; omega
          · have hzd : decide (z < 1073741824) = false := decide_eq_false hz
            rw [hyd, hzd] at HS
            go_wp2_with (go_at_call 58; refine (HLT.out _ (mp_up (HM0.out) (by repeat (first | with_reducible (first | exact World.gained_refl _ | exact ⟨_, rfl⟩ | apply gain_ext | apply gain_alloc | apply gain_drewN | apply gain_drew) | (refine gain_setCell ?_ (by first | exact Nat.le_refl _ | exact World.size_ext _ _ | (simp; done) | (simp; omega)) _))))).mono ?_; rintro e w1 ⟨rfl, d1, rfl⟩)
            go_roundw
            case rel => exact ⟨k + 1, by omega, by go_num, by rw [HS.out]; rfl, by rw [HS.out]; rfl, (by repeat (first | with_reducible (first | exact World.gained_refl _ | exact ⟨_, rfl⟩ | apply gain_ext | apply gain_alloc | apply gain_drewN | apply gain_drew) | (refine gain_setCell ?_ (by first | exact Nat.le_refl _ | exact World.size_ext _ _ | (simp; done) | (simp; omega)) _)))⟩
            case measure => simp [intOf]; omega
        · have hyd : decide (0 < y) = false := decide_eq_false hy
          rw [hyd] at HS
          go_wp2_with (go_at_call 58; refine (HLT.out _ (mp_up (HM0.out) (by repeat (first | with_reducible (first | exact World.gained_refl _ | exact ⟨_, rfl⟩ | apply gain_ext | apply gain_alloc | apply gain_drewN | apply gain_drew) | (refine gain_setCell ?_ (by first | exact Nat.le_refl _ | exact World.size_ext _ _ | (simp; done) | (simp; omega)) _))))).mono ?_; rintro e w1 ⟨rfl, d1, rfl⟩)
          go_roundw
          case rel => exact ⟨k + 1, by omega, by go_num, by rw [HS.out]; rfl, by rw [HS.out]; rfl, (by repeat (first | with_reducible (first | exact World.gained_refl _ | exact ⟨_, rfl⟩ | apply gain_ext | apply gain_alloc | apply gain_drewN | apply gain_drew) | (refine gain_setCell ?_ (by first | exact Nat.le_refl _ | exact World.size_ext _ _ | (simp; done) | (simp; omega)) _)))⟩
          case measure => simp [intOf]; omega
      · have hlt' := hlt
        obtain rfl : k = m.cost.length := by omega
        go_wp2
        go_ret3
        rw [HE.out]
        exact ⟨rfl, gain_trans HG.out (by repeat (first | with_reducible (first | exact World.gained_refl _ | exact ⟨_, rfl⟩ | apply gain_ext | apply gain_alloc | apply gain_drewN | apply gain_drew) | (refine gain_setCell ?_ (by first | exact Nat.le_refl _ | exact World.size_ext _ _ | (simp; done) | (simp; omega)) _)))⟩
set_option maxHeartbeats 4000000 in
theorem specFarthestCell_any (m : Mp) (rv cv : Value) (a : Int) (w : World) (hmp : w.mp rv cv m) :
    Calls Try.prog 49 #[.agg #[.int .i64 m.wd, .int .i64 m.ht, rv, cv], .int .i64 a] w fun x w' => x = .returned (.tuple #[.int .i64 (farI m a).1, .int .i64 (farI m a).2, .bool (openB m a)]) ∧ ∃ d, w' = w.ext d := by
  have hm := Lib.hid hmp
  obtain ⟨p1, c1, p2, c2, rfl, rfl⟩ := mp_form hmp
  have HCN := Lib.hid (fun W hW => (show Calls Try.prog 74 _ W _ from by have := l4Asked_any m (.slice p1 m.rise.length c1) (.slice p2 m.cost.length c2) a a W hW; rw [Bool.and_self] at this; exact this))
  clear hmp
  cases hO : openB m a with
  | false =>
    have e1 : farI m a = (0, 0) := by rw [farI, hO]; rfl
    rw [hO] at HCN
    rw [e1]
    clear e1 hO
    go_enter Try.func49, Try.ntmps49
    go_wp2_with (go_at_call 74; refine (HCN.out _ (mp_up (hm.out) (by repeat (first | with_reducible (first | exact World.gained_refl _ | exact ⟨_, rfl⟩ | apply gain_ext | apply gain_alloc | apply gain_drewN | apply gain_drew) | (refine gain_setCell ?_ (by first | exact Nat.le_refl _ | exact World.size_ext _ _ | (simp; done) | (simp; omega)) _))))).mono ?_; rintro e w1 ⟨rfl, d1, rfl⟩)
    go_ret3
    exact ⟨rfl, (by repeat (first | with_reducible (first | exact World.gained_refl _ | exact ⟨_, rfl⟩ | apply gain_ext | apply gain_alloc | apply gain_drewN | apply gain_drew) | (refine gain_setCell ?_ (by first | exact Nat.le_refl _ | exact World.size_ext _ _ | (simp; done) | (simp; omega)) _)))⟩
  | true =>
    have e1 : farI m a = farN m a.toNat m.cost.length := by rw [farI, if_pos hO]
    obtain ⟨A, rfl, hA, hmb, WW, HH, hok⟩ := one_open hO
    rw [Int.toNat_natCast] at e1
    have HE := Lib.hid e1
    have HOK := Lib.hid hok
    have hn := hok.n36
    rw [hO] at HCN
    clear e1 hO hok
    go_enter Try.func49, Try.ntmps49
    go_wp2_with (go_at_call 74; refine (HCN.out _ (mp_up (hm.out) (by repeat (first | with_reducible (first | exact World.gained_refl _ | exact ⟨_, rfl⟩ | apply gain_ext | apply gain_alloc | apply gain_drewN | apply gain_drew) | (refine gain_setCell ?_ (by first | exact Nat.le_refl _ | exact World.size_ext _ _ | (simp; done) | (simp; omega)) _))))).mono ?_; rintro e w1 ⟨rfl, d1, rfl⟩)
    generalize hW0 : w.alloc (.cells #[.int .i64 m.wd, .int .i64 m.ht, .slice p1 m.rise.length c1, .slice p2 m.cost.length c2] 26) = W0
    have hbx : MBox w W0 w.heap.size m (.slice p1 m.rise.length c1) (.slice p2 m.cost.length c2) := by rw [← hW0]; exact mbox
    have HG := Lib.hid hbx.up
    have bx0 := hbx.c0
    have bx1 := hbx.c1
    have bx2 := hbx.c2
    have bx3 := hbx.c3
    have obx := hbx.ob
    have HM0 := Lib.hid (mp_up hm.out HG.out)
    have hsz0 := gain_size HG.out
    have hsz1 : W0.heap.size = w.heap.size + 1 := by rw [← hW0, World.size_alloc]
    clear hW0 hbx
    obtain ⟨b1, o1, k1, b2, o2, k2, hin⟩ := mp_in HM0.out HOK.out
    have hcv := hin.cv
    injection hcv with e1 e2 e3
    subst e1 e3
    have HCO := Lib.hid hin.co
    have ob2 := hin.ob2
    clear hin
    go_loopw [7, 8, 9] (fun bv mv i wr => ∃ k : Nat, k ≤ m.cost.length ∧ i = .int .i64 k ∧ bv = .int .i64 (farN m A k).1 ∧ mv = .int .i64 (farN m A k).2 ∧ ∃ d, wr = W0.ext d) (fun _ _ i _ => m.cost.length - (intOf i).toNat)
    case atStart => exact ⟨0, by omega, rfl, rfl, rfl, (by repeat (first | with_reducible (first | exact World.gained_refl _ | exact ⟨_, rfl⟩ | apply gain_ext | apply gain_alloc | apply gain_drewN | apply gain_drew) | (refine gain_setCell ?_ (by first | exact Nat.le_refl _ | exact World.size_ext _ _ | (simp; done) | (simp; omega)) _)))⟩
    case round =>
      obtain ⟨k, hk, rfl, rfl, rfl, d, rfl⟩ := hrel
      by_cases hlt : k < m.cost.length
      · have hlt' := hlt
        have hca := HOK.out.cr k
        have ck := HCO.out k hlt
        have hlo := farN_lo m A HOK.out k hk
        have hTh := time_hi HOK.out hlt A
        have HS : Hid (farN m A (k + 1) = if (decide (0 < costAt m k) && decide (timeB m A k < 1073741824)) && decide ((farN m A k).2 < timeB m A k) then ((k : Int), timeB m A k) else farN m A k) := Lib.hid rfl
        have HLT := Lib.hid (fun W hW => l4ToAt m (.slice p1 m.rise.length c1) (.slice (some ⟨b2, o2, none⟩) m.cost.length c2) WW HH A k W HOK.out hW hA hlt)
        have hZ1 := fun h => tZ_yes (m := m) (a := A) (b := k) h
        have hZ2 := fun h => tZ_no (a := A) HOK.out hlt h
        generalize costAt m k = y at ck hca HS
        generalize timeB m A k = z at hTh HS hZ1 hZ2
        generalize tZ m A k = q at HLT hZ1 hZ2
        generalize farN m A k = s at hlo HS ⊢
        obtain ⟨s1, s2⟩ := s
        dsimp only at hlo HS ⊢
        have hq : (z < 1073741824 ∧ q = z) ∨ (z = 1073741824 ∧ q = -1) := by
          by_cases h : z < 1073741824
          · exact .inl ⟨h, hZ1 h⟩
          · exact .inr ⟨by omega, hZ2 (by omega)⟩
        clear hZ1 hZ2
        by_cases hy : 0 < y
        · have hyd : decide (0 < y) = true := decide_eq_true hy
          have hy0 : (y == 0) = false := by simp; omega
          by_cases hs : s2 < q
          · have hsd : decide (s2 < q) = true := decide_eq_true hs
            obtain rfl : q = z := by omega
            rw [hyd, hsd, decide_eq_true (show q < 1073741824 by omega)] at HS
            clear hq
            go_wp2_with (go_at_call 75; refine (HLT.out _ (mp_up (HM0.out) (by repeat (first | with_reducible (first | exact World.gained_refl _ | exact ⟨_, rfl⟩ | apply gain_ext | apply gain_alloc | apply gain_drewN | apply gain_drew) | (refine gain_setCell ?_ (by first | exact Nat.le_refl _ | exact World.size_ext _ _ | (simp; done) | (simp; omega)) _))))).mono ?_; rintro e w1 ⟨g, cap, rfl, ⟨d1, rfl⟩, tc⟩; have obg := World.oldB_of_cell tc)
            go_roundw
            case rel => exact ⟨k + 1, by omega, by go_num, by rw [HS.out]; rfl, by rw [HS.out]; rfl, (by repeat (first | with_reducible (first | exact World.gained_refl _ | exact ⟨_, rfl⟩ | apply gain_ext | apply gain_alloc | apply gain_drewN | apply gain_drew) | (refine gain_setCell ?_ (by first | exact Nat.le_refl _ | exact World.size_ext _ _ | (simp; done) | (simp; omega)) _)))⟩
            case measure => simp [intOf]; omega
          · have hsd : decide (s2 < q) = false := decide_eq_false hs
            rw [show ((decide (0 < y) && decide (z < 1073741824)) && decide (s2 < z)) = false by
              by_cases h : z < 1073741824
              · rw [decide_eq_false (show ¬ s2 < z by omega), Bool.and_false]
              · rw [decide_eq_false h, Bool.and_false, Bool.false_and]] at HS
            clear hq
            go_wp2_with (go_at_call 75; refine (HLT.out _ (mp_up (HM0.out) (by repeat (first | with_reducible (first | exact World.gained_refl _ | exact ⟨_, rfl⟩ | apply gain_ext | apply gain_alloc | apply gain_drewN | apply gain_drew) | (refine gain_setCell ?_ (by first | exact Nat.le_refl _ | exact World.size_ext _ _ | (simp; done) | (simp; omega)) _))))).mono ?_; rintro e w1 ⟨g, cap, rfl, ⟨d1, rfl⟩, tc⟩; have obg := World.oldB_of_cell tc)
            go_roundw
            case rel => exact ⟨k + 1, by omega, by go_num, by rw [HS.out]; rfl, by rw [HS.out]; rfl, (by repeat (first | with_reducible (first | exact World.gained_refl _ | exact ⟨_, rfl⟩ | apply gain_ext | apply gain_alloc | apply gain_drewN | apply gain_drew) | (refine gain_setCell ?_ (by first | exact Nat.le_refl _ | exact World.size_ext _ _ | (simp; done) | (simp; omega)) _)))⟩
            case measure => simp [intOf]; omega
        · have hyd : decide (0 < y) = false := decide_eq_false hy
          have hy0 : (y == 0) = true := by simp; omega
          rw [hyd] at HS
          clear hq
          go_wp2
          go_roundw
          case rel => exact ⟨k + 1, by omega, by go_num, by rw [HS.out]; rfl, by rw [HS.out]; rfl, (by repeat (first | with_reducible (first | exact World.gained_refl _ | exact ⟨_, rfl⟩ | apply gain_ext | apply gain_alloc | apply gain_drewN | apply gain_drew) | (refine gain_setCell ?_ (by first | exact Nat.le_refl _ | exact World.size_ext _ _ | (simp; done) | (simp; omega)) _)))⟩
          case measure => simp [intOf]; omega
      · have hlt' := hlt
        obtain rfl : k = m.cost.length := by omega
        go_wp2
        go_ret3
        rw [HE.out]
        exact ⟨rfl, gain_trans HG.out (by repeat (first | with_reducible (first | exact World.gained_refl _ | exact ⟨_, rfl⟩ | apply gain_ext | apply gain_alloc | apply gain_drewN | apply gain_drew) | (refine gain_setCell ?_ (by first | exact Nat.le_refl _ | exact World.size_ext _ _ | (simp; done) | (simp; omega)) _)))⟩
end Go.Proofs.Ytddbbbmamoficaa
