/- HighestCell: the program's and the specification's. No condition. -/
import Derived.Test.YtepjemfkmnpepaaStepC
namespace Go.Ori
/-- The highest of the first k cells that are not forbidden; the first of them. -/
def hiN (m : Mp) : Nat → Option Nat
  | 0 => none
  | k + 1 => match hiN m k with
    | none => if 0 < costAt m k then some k else none
    | some b => if 0 < costAt m k ∧ riseAt m b < riseAt m k then some k else some b
theorem hiN_none {m : Mp} {k : Nat} (h : hiN m k = none) : hiN m (k + 1) = if 0 < costAt m k then some k else none := by rw [hiN, h]
theorem hiN_some {m : Mp} {k b : Nat} (h : hiN m k = some b) : hiN m (k + 1) = if 0 < costAt m k ∧ riseAt m b < riseAt m k then some k else some b := by rw [hiN, h]
theorem hiN_lt {m : Mp} : ∀ {k b : Nat}, hiN m k = some b → b < k ∧ 0 < costAt m b
  | 0, b, h => by cases h
  | k + 1, b, h => by
    cases hk : hiN m k with
    | none =>
      rw [hiN_none hk] at h
      split at h
      · cases h; exact ⟨by omega, by assumption⟩
      · cases h
    | some c =>
      rw [hiN_some hk] at h
      have := hiN_lt hk
      split at h
      · rename_i hc; cases h; exact ⟨by omega, hc.1⟩
      · cases h; exact ⟨by omega, this.2⟩
/-- No cell that is not forbidden is higher. -/
theorem hiN_top {m : Mp} : ∀ {k b i : Nat}, hiN m k = some b → i < k → 0 < costAt m i → riseAt m i ≤ riseAt m b
  | 0, b, i, h, _, _ => by cases h
  | k + 1, b, i, h, hi, hc => by
    cases hk : hiN m k with
    | none =>
      rw [hiN_none hk] at h
      by_cases e : i = k
      · subst e
        rw [if_pos hc] at h; cases h; exact Int.le_refl _
      · exfalso
        have : ∀ j, j < k → 0 < costAt m j → hiN m k ≠ none := fun j hj hcj => hiN_any hj hcj
        exact this i (by omega) hc hk
    | some c =>
      rw [hiN_some hk] at h
      by_cases e : i = k
      · subst e
        by_cases hr : riseAt m c < riseAt m i
        · rw [if_pos ⟨hc, hr⟩] at h; cases h; exact Int.le_refl _
        · rw [if_neg (fun x => hr x.2)] at h; cases h; omega
      · have h1 := hiN_top hk (by omega : i < k) hc
        split at h
        · rename_i hx; cases h; omega
        · cases h; exact h1
where
  hiN_any {m : Mp} : ∀ {k i : Nat}, i < k → 0 < costAt m i → hiN m k ≠ none
    | 0, _, h, _ => by omega
    | k + 1, i, hi, hc => by
      cases hk : hiN m k with
      | none =>
        rw [hiN_none hk]
        by_cases e : i = k
        · subst e; rw [if_pos hc]; simp
        · exact absurd hk (hiN_any (by omega) hc)
      | some c => rw [hiN_some hk]; split <;> simp
def hgB (m : Mp) : Bool := mapB m && (hiN m m.cost.length).isSome
def hgI (m : Mp) : Int := if mapB m then (((hiN m m.cost.length).getD 0 : Nat) : Int) else 0
/-- The best cell's height so far; -1 if there is none. -/
def hiM (m : Mp) (o : Option Nat) : Int := match o with | none => -1 | some b => riseAt m b
def hiS (o : Option Nat) : Int := match o with | none => -1 | some b => (b : Int)
theorem hiN_step {m : Mp} {W H k : Nat} (hok : MapOk m W H) : hiN m (k + 1) = if 0 < costAt m k ∧ hiM m (hiN m k) < riseAt m k then some k else hiN m k := by
  have := (hok.rr k).1
  cases hk : hiN m k with
  | none =>
    rw [hiN_none hk]
    by_cases h : 0 < costAt m k
    · rw [if_pos h, if_pos ⟨h, by simp only [hiM]; omega⟩]
    · rw [if_neg h, if_neg (fun x => h x.1)]
  | some b => rw [hiN_some hk]; rfl
end Go.Ori
namespace Go.Proofs.Ytepjemfkmnpepaa
open Go.RowKit Go.Ori
set_option maxHeartbeats 2000000 in
theorem highestCell_any (m : Mp) (rv cv : Value) (w : World) (h : w.mp rv cv m) :
    Calls Try.prog 14 #[.agg #[.int .i64 m.wd, .int .i64 m.ht, rv, cv]] w fun x w' => x = .returned (.tuple #[.int .i64 (hgI m), .bool (hgB m)]) ∧ ∃ d, w' = w.ext d := by
  have hm := Lib.hid h
  have HM := Lib.hid (fun W hW => isMap_any m rv cv W hW)
  cases hM : mapB m with
  | false =>
    have h0 : hgB m = false := by simp [hgB, hM]
    have h1 : hgI m = 0 := by simp [hgI, hM]
    rw [h0, h1]
    rw [hM] at HM
    go_enter Try.func14, Try.ntmps14
    go_wp2_with (go_at_call 28; refine (HM.out _ (mp_up (hm.out) (by repeat (first | with_reducible (first | exact World.gained_refl _ | exact ⟨_, rfl⟩ | apply gain_ext | apply gain_alloc | apply gain_drewN | apply gain_drew) | (refine gain_setCell ?_ (by first | exact Nat.le_refl _ | exact World.size_ext _ _ | (simp; done) | (simp; omega)) _))))).mono ?_; rintro e w1 ⟨rfl, d1, rfl⟩)
    go_ret2
    exact ⟨rfl, (by repeat (first | with_reducible (first | exact World.gained_refl _ | exact ⟨_, rfl⟩ | apply gain_ext | apply gain_alloc | apply gain_drewN | apply gain_drew) | (refine gain_setCell ?_ (by first | exact Nat.le_refl _ | exact World.size_ext _ _ | (simp; done) | (simp; omega)) _)))⟩
  | true =>
    rw [hM] at HM
    have h0 : Hid (hgB m = (hiN m m.cost.length).isSome) := Lib.hid (by simp [hgB, hM])
    have h1 : Hid (hgI m = (((hiN m m.cost.length).getD 0 : Nat) : Int)) := Lib.hid (by simp [hgI, hM])
    rw [h0.out, h1.out]
    obtain ⟨W, H, hok⟩ := mapB_ok hM
    obtain ⟨b1, o1, c1, b2, o2, c2, hin⟩ := mp_in h hok
    have hn := hok.n36
    have HK := Lib.hid hok
    obtain rfl := hin.rv
    obtain rfl := hin.cv
    have HIN := Lib.hid hin
    clear hM hok hin h h0 h1
    go_enter Try.func14, Try.ntmps14
    go_wp2_with (go_at_call 28; refine (HM.out _ (mp_up (hm.out) (by repeat (first | with_reducible (first | exact World.gained_refl _ | exact ⟨_, rfl⟩ | apply gain_ext | apply gain_alloc | apply gain_drewN | apply gain_drew) | (refine gain_setCell ?_ (by first | exact Nat.le_refl _ | exact World.size_ext _ _ | (simp; done) | (simp; omega)) _))))).mono ?_; rintro e w1 ⟨rfl, d1, rfl⟩)
    generalize hW0 : (w.alloc (.cells #[.int .i64 m.wd, .int .i64 m.ht, .slice (some ⟨b1, o1, none⟩) m.cost.length c1, .slice (some ⟨b2, o2, none⟩) m.cost.length c2] 26)).ext d1 = W0
    have hgW : ∃ d, W0 = w.ext d := by rw [← hW0]; exact (by repeat (first | with_reducible (first | exact World.gained_refl _ | exact ⟨_, rfl⟩ | apply gain_ext | apply gain_alloc | apply gain_drewN | apply gain_drew) | (refine gain_setCell ?_ (by first | exact Nat.le_refl _ | exact World.size_ext _ _ | (simp; done) | (simp; omega)) _)))
    have x2 : W0.cell? ⟨w.heap.size, 2, none⟩ = some (.slice (some ⟨b1, o1, none⟩) m.cost.length c1) := by rw [← hW0]; simp [go_sem]
    have obx := World.oldB_of_cell x2
    have HI0 := Lib.hid (HIN.out.up hgW)
    have HGW := Lib.hid hgW
    have ob1 := HI0.out.ob1
    have ob2 := HI0.out.ob2
    clear hW0 hgW HM hm HIN
    generalize w.heap.size = gB at x2 obx ⊢
    go_loopw [4, 5, 14] (fun b_ m_ i_ wr => ∃ k : Nat, k ≤ m.cost.length ∧ i_ = .int .i64 k ∧ b_ = .int .i64 (((hiN m k).getD 0 : Nat) : Int) ∧ m_ = .int .i64 (hiM m (hiN m k)) ∧ ∃ d, wr = W0.ext d) (fun _ _ i_ _ => m.cost.length - (intOf i_).toNat)
    case atStart => exact ⟨0, by omega, rfl, rfl, rfl, (by repeat (first | with_reducible (first | exact World.gained_refl _ | exact ⟨_, rfl⟩ | apply gain_ext | apply gain_alloc | apply gain_drewN | apply gain_drew) | (refine gain_setCell ?_ (by first | exact Nat.le_refl _ | exact World.size_ext _ _ | (simp; done) | (simp; omega)) _)))⟩
    case round =>
      obtain ⟨k, hk, rfl, rfl, rfl, d, rfl⟩ := hrel
      by_cases hlt : k < m.cost.length
      · have ck := HI0.out.co k hlt
        have rk := HI0.out.ro k hlt
        have HS := Lib.hid (hiN_step (k := k) HK.out)
        generalize costAt m k = cc at ck HS
        generalize riseAt m k = rr at rk HS
        generalize hmm : hiM m (hiN m k) = mm at HS ⊢
        generalize hbb : (((hiN m k).getD 0 : Nat) : Int) = bb
        have HBM := Lib.hid (And.intro hmm hbb)
        clear hmm hbb
        by_cases h1 : 0 < cc
        · have h1d : decide (0 < cc) = true := decide_eq_true h1
          by_cases h2 : mm < rr
          · have h2d : decide (mm < rr) = true := decide_eq_true h2
            have HS' : Hid (hiN m (k + 1) = some k ∧ rr = riseAt m k) := Lib.hid ⟨by rw [HS.out, if_pos ⟨h1, h2⟩], by
              have := rk.symm.trans (HI0.out.ro k hlt)
              simpa using this⟩
            clear HS
            go_wp2
            refine wp_region_gain (by kernel_rfl) (by kernel_rfl) ?_
            repeat (first | go_big_quiet_skip | (go_big_quiet_want; go_big_quiet_op; first | go_big_quiet_on))
            refine wpQuiet_nil ?_
            rintro _ ⟨d', rfl⟩
            go_wp2
            go_roundw
            case rel => exact ⟨k + 1, by omega, by go_num, by rw [HS'.out.1]; rfl, by rw [HS'.out.1, HS'.out.2]; rfl, (by repeat (first | with_reducible (first | exact World.gained_refl _ | exact ⟨_, rfl⟩ | apply gain_ext | apply gain_alloc | apply gain_drewN | apply gain_drew) | (refine gain_setCell ?_ (by first | exact Nat.le_refl _ | exact World.size_ext _ _ | (simp; done) | (simp; omega)) _)))⟩
            case measure => simp [intOf]; omega
          · have h2d : decide (mm < rr) = false := decide_eq_false h2
            have HS' : Hid (hiN m (k + 1) = hiN m k) := Lib.hid (by rw [HS.out, if_neg (fun x => h2 x.2)])
            clear HS
            go_wp2
            go_roundw
            case rel => exact ⟨k + 1, by omega, by go_num, by rw [HS'.out, HBM.out.2], by rw [HS'.out, HBM.out.1], (by repeat (first | with_reducible (first | exact World.gained_refl _ | exact ⟨_, rfl⟩ | apply gain_ext | apply gain_alloc | apply gain_drewN | apply gain_drew) | (refine gain_setCell ?_ (by first | exact Nat.le_refl _ | exact World.size_ext _ _ | (simp; done) | (simp; omega)) _)))⟩
            case measure => simp [intOf]; omega
        · have h1d : decide (0 < cc) = false := decide_eq_false h1
          have HS' : Hid (hiN m (k + 1) = hiN m k) := Lib.hid (by rw [HS.out, if_neg (fun x => h1 x.1)])
          clear HS
          go_wp2
          go_roundw
          case rel => exact ⟨k + 1, by omega, by go_num, by rw [HS'.out, HBM.out.2], by rw [HS'.out, HBM.out.1], (by repeat (first | with_reducible (first | exact World.gained_refl _ | exact ⟨_, rfl⟩ | apply gain_ext | apply gain_alloc | apply gain_drewN | apply gain_drew) | (refine gain_setCell ?_ (by first | exact Nat.le_refl _ | exact World.size_ext _ _ | (simp; done) | (simp; omega)) _)))⟩
          case measure => simp [intOf]; omega
      · obtain rfl : k = m.cost.length := by omega
        have HE : Hid (decide (0 ≤ hiM m (hiN m m.cost.length)) = (hiN m m.cost.length).isSome) := Lib.hid (by
          cases hx : hiN m m.cost.length with
          | none => rfl
          | some b => exact decide_eq_true (HK.out.rr b).1)
        generalize hmm : hiM m (hiN m m.cost.length) = mm at HE ⊢
        generalize hbb : (((hiN m m.cost.length).getD 0 : Nat) : Int) = bb
        have HBB := Lib.hid hbb
        clear hmm hbb
        go_wp2
        go_ret2
        rw [HBB.out, ← HE.out]
        exact ⟨rfl, gain_trans HGW.out (by repeat (first | with_reducible (first | exact World.gained_refl _ | exact ⟨_, rfl⟩ | apply gain_ext | apply gain_alloc | apply gain_drewN | apply gain_drew) | (refine gain_setCell ?_ (by first | exact Nat.le_refl _ | exact World.size_ext _ _ | (simp; done) | (simp; omega)) _)))⟩
set_option maxHeartbeats 2000000 in
theorem specHighestCell_any (m : Mp) (rv cv : Value) (w : World) (h : w.mp rv cv m) :
    Calls Try.prog 19 #[.agg #[.int .i64 m.wd, .int .i64 m.ht, rv, cv]] w fun x w' => x = .returned (.tuple #[.int .i64 (hgI m), .bool (hgB m)]) ∧ ∃ d, w' = w.ext d := by
  have hm := Lib.hid h
  have HM := Lib.hid (fun W hW => l2Map_any m rv cv W hW)
  cases hM : mapB m with
  | false =>
    have h0 : hgB m = false := by simp [hgB, hM]
    have h1 : hgI m = 0 := by simp [hgI, hM]
    rw [h0, h1]
    rw [hM] at HM
    go_enter Try.func19, Try.ntmps19
    go_wp2_with (go_at_call 24; refine (HM.out _ (mp_up (hm.out) (by repeat (first | with_reducible (first | exact World.gained_refl _ | exact ⟨_, rfl⟩ | apply gain_ext | apply gain_alloc | apply gain_drewN | apply gain_drew) | (refine gain_setCell ?_ (by first | exact Nat.le_refl _ | exact World.size_ext _ _ | (simp; done) | (simp; omega)) _))))).mono ?_; rintro e w1 ⟨rfl, d1, rfl⟩)
    go_ret2
    exact ⟨rfl, (by repeat (first | with_reducible (first | exact World.gained_refl _ | exact ⟨_, rfl⟩ | apply gain_ext | apply gain_alloc | apply gain_drewN | apply gain_drew) | (refine gain_setCell ?_ (by first | exact Nat.le_refl _ | exact World.size_ext _ _ | (simp; done) | (simp; omega)) _)))⟩
  | true =>
    rw [hM] at HM
    have h0 : Hid (hgB m = (hiN m m.cost.length).isSome) := Lib.hid (by simp [hgB, hM])
    have h1 : Hid (hgI m = (((hiN m m.cost.length).getD 0 : Nat) : Int)) := Lib.hid (by simp [hgI, hM])
    rw [h0.out, h1.out]
    obtain ⟨W, H, hok⟩ := mapB_ok hM
    obtain ⟨b1, o1, c1, b2, o2, c2, hin⟩ := mp_in h hok
    have hn := hok.n36
    have HK := Lib.hid hok
    obtain rfl := hin.rv
    obtain rfl := hin.cv
    have HIN := Lib.hid hin
    clear hM hok hin h h0 h1
    go_enter Try.func19, Try.ntmps19
    go_wp2_with (go_at_call 24; refine (HM.out _ (mp_up (hm.out) (by repeat (first | with_reducible (first | exact World.gained_refl _ | exact ⟨_, rfl⟩ | apply gain_ext | apply gain_alloc | apply gain_drewN | apply gain_drew) | (refine gain_setCell ?_ (by first | exact Nat.le_refl _ | exact World.size_ext _ _ | (simp; done) | (simp; omega)) _))))).mono ?_; rintro e w1 ⟨rfl, d1, rfl⟩)
    generalize hW0 : (w.alloc (.cells #[.int .i64 m.wd, .int .i64 m.ht, .slice (some ⟨b1, o1, none⟩) m.cost.length c1, .slice (some ⟨b2, o2, none⟩) m.cost.length c2] 26)).ext d1 = W0
    have hgW : ∃ d, W0 = w.ext d := by rw [← hW0]; exact (by repeat (first | with_reducible (first | exact World.gained_refl _ | exact ⟨_, rfl⟩ | apply gain_ext | apply gain_alloc | apply gain_drewN | apply gain_drew) | (refine gain_setCell ?_ (by first | exact Nat.le_refl _ | exact World.size_ext _ _ | (simp; done) | (simp; omega)) _)))
    have x2 : W0.cell? ⟨w.heap.size, 2, none⟩ = some (.slice (some ⟨b1, o1, none⟩) m.cost.length c1) := by rw [← hW0]; simp [go_sem]
    have x3 : W0.cell? ⟨w.heap.size, 3, none⟩ = some (.slice (some ⟨b2, o2, none⟩) m.cost.length c2) := by rw [← hW0]; simp [go_sem]
    have obx := World.oldB_of_cell x2
    have HI0 := Lib.hid (HIN.out.up hgW)
    have HGW := Lib.hid hgW
    have ob1 := HI0.out.ob1
    have ob2 := HI0.out.ob2
    clear hW0 hgW HM hm HIN
    generalize w.heap.size = gB at x2 x3 obx ⊢
    go_loopw [4, 5] (fun b_ i_ wr => ∃ k : Nat, k ≤ m.cost.length ∧ i_ = .int .i64 k ∧ b_ = .int .i64 (hiS (hiN m k)) ∧ ∃ d, wr = W0.ext d) (fun _ i_ _ => m.cost.length - (intOf i_).toNat)
    case atStart => exact ⟨0, by omega, rfl, rfl, (by repeat (first | with_reducible (first | exact World.gained_refl _ | exact ⟨_, rfl⟩ | apply gain_ext | apply gain_alloc | apply gain_drewN | apply gain_drew) | (refine gain_setCell ?_ (by first | exact Nat.le_refl _ | exact World.size_ext _ _ | (simp; done) | (simp; omega)) _)))⟩
    case round =>
      obtain ⟨k, hk, rfl, rfl, d, rfl⟩ := hrel
      by_cases hlt : k < m.cost.length
      · have ck := HI0.out.co k hlt
        have rk := HI0.out.ro k hlt
        cases hb : hiN m k with
        | none =>
          have HS := Lib.hid (hiN_none hb)
          have HB0 := Lib.hid hb
          clear hb
          rw [show hiS none = -1 from rfl]
          generalize costAt m k = cc at ck HS
          by_cases h1 : 0 < cc
          · have h1d : decide (0 < cc) = true := decide_eq_true h1
            have HS' : Hid (hiN m (k + 1) = some k) := Lib.hid (by rw [HS.out, if_pos h1])
            clear HS
            go_wp2
            refine wp_region_gain (by kernel_rfl) (by kernel_rfl) ?_
            repeat (first | go_big_quiet_skip | (go_big_quiet_want; go_big_quiet_op; first | go_big_quiet_on))
            refine wpQuiet_nil ?_
            rintro _ ⟨d', rfl⟩
            go_wp2
            go_roundw
            case rel => exact ⟨k + 1, by omega, by go_num, by rw [HS'.out]; rfl, (by repeat (first | with_reducible (first | exact World.gained_refl _ | exact ⟨_, rfl⟩ | apply gain_ext | apply gain_alloc | apply gain_drewN | apply gain_drew) | (refine gain_setCell ?_ (by first | exact Nat.le_refl _ | exact World.size_ext _ _ | (simp; done) | (simp; omega)) _)))⟩
            case measure => simp [intOf]; omega
          · have h1d : decide (0 < cc) = false := decide_eq_false h1
            have HS' : Hid (hiN m (k + 1) = none) := Lib.hid (by rw [HS.out, if_neg h1])
            clear HS
            go_wp2
            refine wp_region_gain (by kernel_rfl) (by kernel_rfl) ?_
            repeat (first | go_big_quiet_skip | (go_big_quiet_want; go_big_quiet_op; first | go_big_quiet_on))
            refine wpQuiet_nil ?_
            rintro _ ⟨d', rfl⟩
            go_wp2
            go_roundw
            case rel => exact ⟨k + 1, by omega, by go_num, by rw [HS'.out]; rfl, (by repeat (first | with_reducible (first | exact World.gained_refl _ | exact ⟨_, rfl⟩ | apply gain_ext | apply gain_alloc | apply gain_drewN | apply gain_drew) | (refine gain_setCell ?_ (by first | exact Nat.le_refl _ | exact World.size_ext _ _ | (simp; done) | (simp; omega)) _)))⟩
            case measure => simp [intOf]; omega
        | some b =>
          have HS := Lib.hid (hiN_some hb)
          have hbl := (hiN_lt hb).1
          have rb := HI0.out.ro b (by omega)
          clear hb
          rw [show hiS (some b) = (b : Int) from rfl]
          have hneg : decide ((b : Int) < 0) = false := decide_eq_false (by omega)
          generalize costAt m k = cc at ck HS
          generalize riseAt m k = rr at rk HS
          generalize riseAt m b = mm at rb HS
          by_cases h1 : 0 < cc
          · have h1d : decide (0 < cc) = true := decide_eq_true h1
            by_cases h2 : mm < rr
            · have h2d : decide (mm < rr) = true := decide_eq_true h2
              have HS' : Hid (hiN m (k + 1) = some k) := Lib.hid (by rw [HS.out, if_pos ⟨h1, h2⟩])
              clear HS
              go_wp2
              refine wp_region_gain (by kernel_rfl) (by kernel_rfl) ?_
              repeat (first | go_big_quiet_skip | (go_big_quiet_want; go_big_quiet_op; first | go_big_quiet_on))
              refine wpQuiet_nil ?_
              rintro _ ⟨d', rfl⟩
              go_wp2
              go_roundw
              case rel => exact ⟨k + 1, by omega, by go_num, by rw [HS'.out]; rfl, (by repeat (first | with_reducible (first | exact World.gained_refl _ | exact ⟨_, rfl⟩ | apply gain_ext | apply gain_alloc | apply gain_drewN | apply gain_drew) | (refine gain_setCell ?_ (by first | exact Nat.le_refl _ | exact World.size_ext _ _ | (simp; done) | (simp; omega)) _)))⟩
              case measure => simp [intOf]; omega
            · have h2d : decide (mm < rr) = false := decide_eq_false h2
              have HS' : Hid (hiN m (k + 1) = some b) := Lib.hid (by rw [HS.out, if_neg (fun x => h2 x.2)])
              clear HS
              go_wp2
              refine wp_region_gain (by kernel_rfl) (by kernel_rfl) ?_
              repeat (first | go_big_quiet_skip | (go_big_quiet_want; go_big_quiet_op; first | go_big_quiet_on))
              refine wpQuiet_nil ?_
              rintro _ ⟨d', rfl⟩
              go_wp2
              go_roundw
              case rel => exact ⟨k + 1, by omega, by go_num, by rw [HS'.out]; rfl, (by repeat (first | with_reducible (first | exact World.gained_refl _ | exact ⟨_, rfl⟩ | apply gain_ext | apply gain_alloc | apply gain_drewN | apply gain_drew) | (refine gain_setCell ?_ (by first | exact Nat.le_refl _ | exact World.size_ext _ _ | (simp; done) | (simp; omega)) _)))⟩
              case measure => simp [intOf]; omega
          · have h1d : decide (0 < cc) = false := decide_eq_false h1
            have HS' : Hid (hiN m (k + 1) = some b) := Lib.hid (by rw [HS.out, if_neg (fun x => h1 x.1)])
            clear HS
            go_wp2
            refine wp_region_gain (by kernel_rfl) (by kernel_rfl) ?_
            repeat (first | go_big_quiet_skip | (go_big_quiet_want; go_big_quiet_op; first | go_big_quiet_on))
            refine wpQuiet_nil ?_
            rintro _ ⟨d', rfl⟩
            go_wp2
            go_roundw
            case rel => exact ⟨k + 1, by omega, by go_num, by rw [HS'.out]; rfl, (by repeat (first | with_reducible (first | exact World.gained_refl _ | exact ⟨_, rfl⟩ | apply gain_ext | apply gain_alloc | apply gain_drewN | apply gain_drew) | (refine gain_setCell ?_ (by first | exact Nat.le_refl _ | exact World.size_ext _ _ | (simp; done) | (simp; omega)) _)))⟩
            case measure => simp [intOf]; omega
      · obtain rfl : k = m.cost.length := by omega
        cases hb : hiN m m.cost.length with
        | none =>
          rw [show hiS none = -1 from rfl]
          have HX := Lib.hid hb
          clear hb
          go_wp2
          go_ret2
          rw [HX.out]
          exact ⟨rfl, gain_trans HGW.out (by repeat (first | with_reducible (first | exact World.gained_refl _ | exact ⟨_, rfl⟩ | apply gain_ext | apply gain_alloc | apply gain_drewN | apply gain_drew) | (refine gain_setCell ?_ (by first | exact Nat.le_refl _ | exact World.size_ext _ _ | (simp; done) | (simp; omega)) _)))⟩
        | some b =>
          rw [show hiS (some b) = (b : Int) from rfl]
          have HX := Lib.hid hb
          clear hb
          have hneg : decide ((b : Int) < 0) = false := decide_eq_false (by omega)
          go_wp2
          go_ret2
          rw [HX.out]
          exact ⟨rfl, gain_trans HGW.out (by repeat (first | with_reducible (first | exact World.gained_refl _ | exact ⟨_, rfl⟩ | apply gain_ext | apply gain_alloc | apply gain_drewN | apply gain_drew) | (refine gain_setCell ?_ (by first | exact Nat.le_refl _ | exact World.size_ext _ _ | (simp; done) | (simp; omega)) _)))⟩
end Go.Proofs.Ytepjemfkmnpepaa
