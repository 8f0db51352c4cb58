/- impl.SharedLegs, spec.SharedLegs. Condition: at most 1048576 numbers, controls, codes. -/
import Derived.Test.YtmcimgnobimicaaGreatG29
import Derived.Test.YtmcimgnobimicaaGreatG27
import Derived.Test.YtmcimgnobimicaaGreatG42
import Derived.Test.YtmcimgnobimicaaGreatG2
import Derived.Test.YtmcimgnobimicaaGreatG4
namespace Go.Ori
def shlB (m : Mp) (l : List Ctl) (a b : List Int) : Bool := crsB m l a && crsB m l b
def shlL (m : Mp) (l : List Ctl) (a b : List Int) : List (Int × Int) := if shlB m l a b then legAll a b (a.length - 1) else []
theorem shlL_no {m : Mp} {l : List Ctl} {a b : List Int} (h : shlB m l a b = false) : shlL m l a b = [] := by simp [shlL, h]
theorem shlL_length (m : Mp) (l : List Ctl) (a b : List Int) : (shlL m l a b).length ≤ 1048576 := by
  cases h : shlB m l a b with
  | false => rw [shlL_no h]; simp
  | true =>
    rw [shlL, if_pos h]
    simp only [shlB, Bool.and_eq_true] at h
    have h1 := (crsB_true h.1).hi
    have h2 := (crsB_true h.2).hi
    have h3 := legAll_len a b (a.length - 1)
    have h4 : (a.length - 1) * (b.length - 1) ≤ 7 * 7 := Nat.mul_le_mul (by omega) (by omega)
    omega
end Go.Ori
namespace Go.Proofs.YtmcimgnobimicaaGreat
open Go.RowKit Go.Ori
set_option maxHeartbeats 4000000 in
theorem sharedLegs_any (m : Mp) (rv cv v u u2 : Value) (l : List Ctl) (a b : List Int) (w : World) (hmp : w.mp rv cv m) (h : w.sl Ctl.cells 2 v l) (hl : l.length ≤ 1048576) (h2 : w.sl intC 1 u a) (hl2 : a.length ≤ 1048576) (h3 : w.sl intC 1 u2 b) (hl3 : b.length ≤ 1048576) :
    Calls Tryz.prog 12 #[.agg #[.int .i64 m.wd, .int .i64 m.ht, rv, cv], v, u, u2] w fun x w' => ∃ R, x = .returned (.tuple #[R, .bool (shlB m l a b)]) ∧ (∃ d, w' = w.ext d) ∧ w'.own w.heap.size 43 prC 2 R (shlL m l a b) := by
  have hm := Lib.hid hmp
  have hs := Lib.hid h
  have ha := Lib.hid h2
  have hb := Lib.hid h3
  obtain ⟨p1, c1, p2, c2, rfl, rfl⟩ := mp_form hmp
  have HGA := Lib.hid (fun w' hw' hv' hu' => isCourse_any m (.slice p1 m.rise.length c1) (.slice p2 m.cost.length c2) v u l a w' hw' hv' hl hu' hl2)
  have HGB := Lib.hid (fun w' hw' hv' hu' => isCourse_any m (.slice p1 m.rise.length c1) (.slice p2 m.cost.length c2) v u2 l b w' hw' hv' hl hu' hl3)
  obtain ⟨p3, c3, rfl, _⟩ := id h
  obtain ⟨p4, c4, rfl, _⟩ := id h2
  obtain ⟨p5, c5, rfl, _⟩ := id h3
  clear hmp h h2 h3
  cases hB1 : crsB m l a with
  | false =>
    have h0 : shlB m l a b = false := by simp [shlB, hB1]
    rw [hB1] at HGA
    rw [shlL_no h0, h0]
    clear h0 hB1
    go_enter Tryz.func12, Tryz.ntmps12
    go_wp2_with (go_at_call 20; refine (HGA.out _ (mp_up (hm.out) (by repeat (first | with_reducible (first | exact World.gained_refl _ | exact ⟨_, rfl⟩ | apply gain_ext | apply gain_alloc | apply gain_drewN | apply gain_drew) | (refine gain_setCell ?_ (by first | exact Nat.le_refl _ | exact World.size_ext _ _ | (simp; done) | (simp; omega)) _)))) (by with_reducible (repeat (first | exact hs.out | refine World.sl_ext Ctl.cells_length ?_ _ | refine sl_alloc Ctl.cells_length ?_ _ | refine sl_drew ?_))) (by with_reducible (repeat (first | exact ha.out | refine World.sl_ext intC_length ?_ _ | refine sl_alloc intC_length ?_ _ | refine sl_drew ?_)))).mono ?_; rintro e w1 ⟨rfl, d1, rfl⟩)
    go_ret2
    exact ⟨_, rfl, (by repeat (first | with_reducible (first | exact World.gained_refl _ | exact ⟨_, rfl⟩ | apply gain_ext | apply gain_alloc | apply gain_drewN | apply gain_drew) | (refine gain_setCell ?_ (by first | exact Nat.le_refl _ | exact World.size_ext _ _ | (simp; done) | (simp; omega)) _))), own_nil _ _ _ _ _⟩
  | true =>
  cases hB2 : crsB m l b with
  | false =>
    have h0 : shlB m l a b = false := by simp [shlB, hB2]
    rw [hB1] at HGA
    rw [hB2] at HGB
    rw [shlL_no h0, h0]
    clear h0 hB1 hB2
    go_enter Tryz.func12, Tryz.ntmps12
    go_wp2_with fail
    refine (HGA.out _ (mp_up (hm.out) (by repeat (first | with_reducible (first | exact World.gained_refl _ | exact ⟨_, rfl⟩ | apply gain_ext | apply gain_alloc | apply gain_drewN | apply gain_drew) | (refine gain_setCell ?_ (by first | exact Nat.le_refl _ | exact World.size_ext _ _ | (simp; done) | (simp; omega)) _)))) (by with_reducible (repeat (first | exact hs.out | refine World.sl_ext Ctl.cells_length ?_ _ | refine sl_alloc Ctl.cells_length ?_ _ | refine sl_drew ?_))) (by with_reducible (repeat (first | exact ha.out | refine World.sl_ext intC_length ?_ _ | refine sl_alloc intC_length ?_ _ | refine sl_drew ?_)))).mono ?_
    rintro e w1 ⟨rfl, d1, rfl⟩
    go_wp2_with fail
    refine (HGB.out _ (mp_up (hm.out) (by repeat (first | with_reducible (first | exact World.gained_refl _ | exact ⟨_, rfl⟩ | apply gain_ext | apply gain_alloc | apply gain_drewN | apply gain_drew) | (refine gain_setCell ?_ (by first | exact Nat.le_refl _ | exact World.size_ext _ _ | (simp; done) | (simp; omega)) _)))) (by with_reducible (repeat (first | exact hs.out | refine World.sl_ext Ctl.cells_length ?_ _ | refine sl_alloc Ctl.cells_length ?_ _ | refine sl_drew ?_))) (by with_reducible (repeat (first | exact hb.out | refine World.sl_ext intC_length ?_ _ | refine sl_alloc intC_length ?_ _ | refine sl_drew ?_)))).mono ?_
    rintro e w1 ⟨rfl, d2, rfl⟩
    go_wp2_with fail
    go_ret2
    exact ⟨_, rfl, (by repeat (first | with_reducible (first | exact World.gained_refl _ | exact ⟨_, rfl⟩ | apply gain_ext | apply gain_alloc | apply gain_drewN | apply gain_drew) | (refine gain_setCell ?_ (by first | exact Nat.le_refl _ | exact World.size_ext _ _ | (simp; done) | (simp; omega)) _))), own_nil _ _ _ _ _⟩
  | true =>
    have h0 : shlB m l a b = true := by simp [shlB, hB1, hB2]
    have ha8 := (crsB_true hB1).hi
    have hb8 := (crsB_true hB2).hi
    have ha2 := (crsB_true hB1).lo
    have hb2 := (crsB_true hB2).lo
    rw [shlL, if_pos h0, h0]
    rw [hB1] at HGA
    rw [hB2] at HGB
    clear h0 hB1 hB2
    go_enter Tryz.func12, Tryz.ntmps12
    go_wp2_with fail
    refine (HGA.out _ (mp_up (hm.out) (by repeat (first | with_reducible (first | exact World.gained_refl _ | exact ⟨_, rfl⟩ | apply gain_ext | apply gain_alloc | apply gain_drewN | apply gain_drew) | (refine gain_setCell ?_ (by first | exact Nat.le_refl _ | exact World.size_ext _ _ | (simp; done) | (simp; omega)) _)))) (by with_reducible (repeat (first | exact hs.out | refine World.sl_ext Ctl.cells_length ?_ _ | refine sl_alloc Ctl.cells_length ?_ _ | refine sl_drew ?_))) (by with_reducible (repeat (first | exact ha.out | refine World.sl_ext intC_length ?_ _ | refine sl_alloc intC_length ?_ _ | refine sl_drew ?_)))).mono ?_
    rintro e w1 ⟨rfl, d1, rfl⟩
    go_wp2_with fail
    refine (HGB.out _ (mp_up (hm.out) (by repeat (first | with_reducible (first | exact World.gained_refl _ | exact ⟨_, rfl⟩ | apply gain_ext | apply gain_alloc | apply gain_drewN | apply gain_drew) | (refine gain_setCell ?_ (by first | exact Nat.le_refl _ | exact World.size_ext _ _ | (simp; done) | (simp; omega)) _)))) (by with_reducible (repeat (first | exact hs.out | refine World.sl_ext Ctl.cells_length ?_ _ | refine sl_alloc Ctl.cells_length ?_ _ | refine sl_drew ?_))) (by with_reducible (repeat (first | exact hb.out | refine World.sl_ext intC_length ?_ _ | refine sl_alloc intC_length ?_ _ | refine sl_drew ?_)))).mono ?_
    rintro e w1 ⟨rfl, d2, rfl⟩
    clear HGA HGB
    go_wp2_with fail
    go_loopw [10, 11] (fun o_ i_ wr => ∃ i : Nat, i + 1 ≤ a.length ∧ i_ = .int .i64 i ∧ wr.own w.heap.size 43 prC 2 o_ (legAll a b i) ∧ ∃ d, wr = w.ext d) (fun _ i_ _ => a.length - (intOf i_).toNat)
    case atStart => exact ⟨0, by omega, rfl, own_up (own_lit' (l := ([] : List (Int × Int))) prC_length rfl rfl (gain_size (by repeat (first | with_reducible (first | exact World.gained_refl _ | exact ⟨_, rfl⟩ | apply gain_ext | apply gain_alloc | apply gain_drewN | apply gain_drew) | (refine gain_setCell ?_ (by first | exact Nat.le_refl _ | exact World.size_ext _ _ | (simp; done) | (simp; omega)) _))))) (by repeat (first | with_reducible (first | exact World.gained_refl _ | exact ⟨_, rfl⟩ | apply gain_ext | apply gain_alloc | apply gain_drewN | apply gain_drew) | (refine gain_setCell ?_ (by first | exact Nat.le_refl _ | exact World.size_ext _ _ | (simp; done) | (simp; omega)) _))), (by repeat (first | with_reducible (first | exact World.gained_refl _ | exact ⟨_, rfl⟩ | apply gain_ext | apply gain_alloc | apply gain_drewN | apply gain_drew) | (refine gain_setCell ?_ (by first | exact Nat.le_refl _ | exact World.size_ext _ _ | (simp; done) | (simp; omega)) _)))⟩
    case round =>
      obtain ⟨i, hi, rfl, ho, d, rfl⟩ := hrel
      have HO := Lib.hid ho
      clear ho
      by_cases hlt : i + 1 < a.length
      · have hltd : decide ((i : Int) + 1 < (a.length : Int)) = true := decide_eq_true (by omega)
        have hAL := legAll_len a b i
        have hAL2 : i * (b.length - 1) ≤ 7 * 7 := Nat.mul_le_mul (by omega) (by omega)
        go_wp2_with fail
        go_loopw [10, 12] (fun o_ i_ wr => ∃ k : Nat, k + 1 ≤ b.length ∧ i_ = .int .i64 k ∧ wr.own w.heap.size 43 prC 2 o_ (legAll a b i ++ legRow a b i k) ∧ ∃ d, wr = w.ext d) (fun _ i_ _ => b.length - (intOf i_).toNat)
        case atStart => exact ⟨0, by omega, rfl, by simpa [legRow] using HO.out, _, rfl⟩
        case round =>
          clear HO
          obtain ⟨k, hk, rfl, ho, d3, rfl⟩ := hrel
          have HO := Lib.hid ho
          have hRL := legRow_len a b i k
          have hTL : (legAll a b i ++ legRow a b i k).length ≤ 100 := by rw [List.length_append]; omega
          clear ho
          by_cases hlt2 : k + 1 < b.length
          · have hlt2d : decide ((k : Int) + 1 < (b.length : Int)) = true := decide_eq_true (by omega)
            obtain ⟨ba, oa, rfl⟩ := sl_some ha.out (by omega)
            obtain ⟨bb, ob2, rfl⟩ := sl_some hb.out (by omega)
            have x0 := sl_int ha.out (show i < a.length by omega)
            have x1 := sl_int ha.out hlt
            have y0 := sl_int hb.out (show k < b.length by omega)
            have y1 := sl_int hb.out hlt2
            have HEQ := Lib.hid (legEq_at hlt hlt2)
            have HRW : Hid (legRow a b i (k + 1) = legRow a b i k ++ if legEq a b i k then [((i : Int), (k : Int))] else []) := Lib.hid rfl
            have hta : ((i : Int) + 1).toNat = i + 1 := by omega
            have htb : ((k : Int) + 1).toNat = k + 1 := by omega
            have hwa : IntKind.i64.wrap ((i : Int) + 1) = (i : Int) + 1 := IntWalk.i64_in _ (by omega)
            have hwb : IntKind.i64.wrap ((k : Int) + 1) = (k : Int) + 1 := IntWalk.i64_in _ (by omega)
            generalize a[i] = X0 at x0 HEQ
            generalize a[i + 1] = X1 at x1 HEQ
            generalize b[k] = Y0 at y0 HEQ
            generalize b[k + 1] = Y1 at y1 HEQ
            have oba := World.oldB_of_cell x0
            have obb := World.oldB_of_cell y0
            cases hE : legEq a b i k with
            | true =>
              rw [hE] at HEQ HRW
              have hE2 := HEQ.out.symm
              rw [Bool.and_eq_true] at hE2
              obtain ⟨hE1, hE2⟩ := hE2
              clear HEQ hE
              go_wp2_with fail
              refine wp_region_gain (by kernel_rfl) (by kernel_rfl) ?_
              repeat (first | go_big_quiet_skip | (go_big_quiet_want; go_big_quiet_op; first | go_big_quiet_on))
              refine wpQuiet_nil ?_
              rintro _ ⟨d', rfl⟩
              go_wp2_with (at_builtin; go_must (refine wpList_append_gain (m := [((i : Int), (k : Int))]) rfl (.tmp 62) (.tmp 66) rfl Tryz.underlying37 info_Pr (by rfl) (by omega) prC_length prC_one (by omega) (by repeat (first | with_reducible (first | exact World.gained_refl _ | exact ⟨_, rfl⟩ | apply gain_ext | apply gain_alloc | apply gain_drewN | apply gain_drew) | (refine gain_setCell ?_ (by first | exact Nat.le_refl _ | exact World.size_ext _ _ | (simp; done) | (simp; omega)) _))) (Nat.le_refl _) (gain_size (by repeat (first | with_reducible (first | exact World.gained_refl _ | exact ⟨_, rfl⟩ | apply gain_ext | apply gain_alloc | apply gain_drewN | apply gain_drew) | (refine gain_setCell ?_ (by first | exact Nat.le_refl _ | exact World.size_ext _ _ | (simp; done) | (simp; omega)) _)))) rfl rfl (own_up (HO.out) (by repeat (first | with_reducible (first | exact World.gained_refl _ | exact ⟨_, rfl⟩ | apply gain_ext | apply gain_alloc | apply gain_drewN | apply gain_drew) | (refine gain_setCell ?_ (by first | exact Nat.le_refl _ | exact World.size_ext _ _ | (simp; done) | (simp; omega)) _)))) (sl_lit (l := [((i : Int), (k : Int))]) prC_length rfl (by simp)) ((by simp; omega)) ?_); intro v' d5 ho hg)
              rw [List.append_assoc] at ho
              have HN : Hid (legAll a b i ++ legRow a b i (k + 1) = legAll a b i ++ (legRow a b i k ++ [((i : Int), (k : Int))])) := Lib.hid (by rw [HRW.out]; rfl)
              rw [← HN.out] at ho
              go_roundw
              case rel => exact ⟨k + 1, by omega, by go_num, ho, (by repeat (first | with_reducible (first | exact World.gained_refl _ | exact ⟨_, rfl⟩ | apply gain_ext | apply gain_alloc | apply gain_drewN | apply gain_drew) | (refine gain_setCell ?_ (by first | exact Nat.le_refl _ | exact World.size_ext _ _ | (simp; done) | (simp; omega)) _)))⟩
              case measure => simp [intOf]; omega
            | false =>
              rw [hE] at HEQ HRW
              have hE2 := HEQ.out.symm
              have HN : Hid (legAll a b i ++ legRow a b i (k + 1) = legAll a b i ++ legRow a b i k) := Lib.hid (by rw [HRW.out]; simp)
              clear HEQ hE
              cases hE1 : (X0 == Y0) with
              | false =>
                clear hE2
                go_wp2_with fail
                refine wp_region_gain (by kernel_rfl) (by kernel_rfl) ?_
                repeat (first | go_big_quiet_skip | (go_big_quiet_want; go_big_quiet_op; first | go_big_quiet_on))
                refine wpQuiet_nil ?_
                rintro _ ⟨d', rfl⟩
                go_wp2
                go_roundw
                case rel => exact ⟨k + 1, by omega, by go_num, by rw [HN.out]; exact own_up HO.out (by repeat (first | with_reducible (first | exact World.gained_refl _ | exact ⟨_, rfl⟩ | apply gain_ext | apply gain_alloc | apply gain_drewN | apply gain_drew) | (refine gain_setCell ?_ (by first | exact Nat.le_refl _ | exact World.size_ext _ _ | (simp; done) | (simp; omega)) _))), (by repeat (first | with_reducible (first | exact World.gained_refl _ | exact ⟨_, rfl⟩ | apply gain_ext | apply gain_alloc | apply gain_drewN | apply gain_drew) | (refine gain_setCell ?_ (by first | exact Nat.le_refl _ | exact World.size_ext _ _ | (simp; done) | (simp; omega)) _)))⟩
                case measure => simp [intOf]; omega
              | true =>
                rw [hE1, Bool.true_and] at hE2
                go_wp2_with fail
                refine wp_region_gain (by kernel_rfl) (by kernel_rfl) ?_
                repeat (first | go_big_quiet_skip | (go_big_quiet_want; go_big_quiet_op; first | go_big_quiet_on))
                refine wpQuiet_nil ?_
                rintro _ ⟨d', rfl⟩
                go_wp2
                go_roundw
                case rel => exact ⟨k + 1, by omega, by go_num, by rw [HN.out]; exact own_up HO.out (by repeat (first | with_reducible (first | exact World.gained_refl _ | exact ⟨_, rfl⟩ | apply gain_ext | apply gain_alloc | apply gain_drewN | apply gain_drew) | (refine gain_setCell ?_ (by first | exact Nat.le_refl _ | exact World.size_ext _ _ | (simp; done) | (simp; omega)) _))), (by repeat (first | with_reducible (first | exact World.gained_refl _ | exact ⟨_, rfl⟩ | apply gain_ext | apply gain_alloc | apply gain_drewN | apply gain_drew) | (refine gain_setCell ?_ (by first | exact Nat.le_refl _ | exact World.size_ext _ _ | (simp; done) | (simp; omega)) _)))⟩
                case measure => simp [intOf]; omega
          · have hlt2d : decide ((k : Int) + 1 < (b.length : Int)) = false := decide_eq_false (by omega)
            have HN : Hid (legAll a b (i + 1) = legAll a b i ++ legRow a b i k) := Lib.hid (by rw [legAll, show b.length - 1 = k by omega])
            go_wp2
            go_roundw
            case rel => exact ⟨i + 1, by omega, by go_num, by rw [HN.out]; exact HO.out, _, rfl⟩
            case measure => simp [intOf]; omega
      · have hltd : decide ((i : Int) + 1 < (a.length : Int)) = false := decide_eq_false (by omega)
        have HN : Hid (legAll a b (a.length - 1) = legAll a b i) := Lib.hid (by rw [show a.length - 1 = i by omega])
        go_wp2
        go_ret2
        rw [HN.out]
        exact ⟨_, rfl, (by repeat (first | with_reducible (first | exact World.gained_refl _ | exact ⟨_, rfl⟩ | apply gain_ext | apply gain_alloc | apply gain_drewN | apply gain_drew) | (refine gain_setCell ?_ (by first | exact Nat.le_refl _ | exact World.size_ext _ _ | (simp; done) | (simp; omega)) _))), HO.out⟩
set_option maxHeartbeats 4000000 in
theorem specSharedLegs_any (m : Mp) (rv cv v u u2 : Value) (l : List Ctl) (a b : List Int) (w : World) (hmp : w.mp rv cv m) (h : w.sl Ctl.cells 2 v l) (hl : l.length ≤ 1048576) (h2 : w.sl intC 1 u a) (hl2 : a.length ≤ 1048576) (h3 : w.sl intC 1 u2 b) (hl3 : b.length ≤ 1048576) :
    Calls Tryz.prog 13 #[.agg #[.int .i64 m.wd, .int .i64 m.ht, rv, cv], v, u, u2] w fun x w' => ∃ R, x = .returned (.tuple #[R, .bool (shlB m l a b)]) ∧ (∃ d, w' = w.ext d) ∧ w'.own w.heap.size 43 prC 2 R (shlL m l a b) := by
  have hm := Lib.hid hmp
  have hs := Lib.hid h
  have ha := Lib.hid h2
  have hb := Lib.hid h3
  obtain ⟨p1, c1, p2, c2, rfl, rfl⟩ := mp_form hmp
  have HGA := Lib.hid (fun w' hw' hv' hu' => l8Good_any m (.slice p1 m.rise.length c1) (.slice p2 m.cost.length c2) v u l a w' hw' hv' hl hu' hl2)
  have HGB := Lib.hid (fun w' hw' hv' hu' => l8Good_any m (.slice p1 m.rise.length c1) (.slice p2 m.cost.length c2) v u2 l b w' hw' hv' hl hu' hl3)
  obtain ⟨p3, c3, rfl, _⟩ := id h
  obtain ⟨p4, c4, rfl, _⟩ := id h2
  obtain ⟨p5, c5, rfl, _⟩ := id h3
  clear hmp h h2 h3
  cases hB1 : crsB m l a with
  | false =>
    have h0 : shlB m l a b = false := by simp [shlB, hB1]
    rw [hB1] at HGA
    rw [shlL_no h0, h0]
    clear h0 hB1
    go_enter Tryz.func13, Tryz.ntmps13
    go_wp2_with (go_at_call 28; refine (HGA.out _ (mp_up (hm.out) (by repeat (first | with_reducible (first | exact World.gained_refl _ | exact ⟨_, rfl⟩ | apply gain_ext | apply gain_alloc | apply gain_drewN | apply gain_drew) | (refine gain_setCell ?_ (by first | exact Nat.le_refl _ | exact World.size_ext _ _ | (simp; done) | (simp; omega)) _)))) (by with_reducible (repeat (first | exact hs.out | refine World.sl_ext Ctl.cells_length ?_ _ | refine sl_alloc Ctl.cells_length ?_ _ | refine sl_drew ?_))) (by with_reducible (repeat (first | exact ha.out | refine World.sl_ext intC_length ?_ _ | refine sl_alloc intC_length ?_ _ | refine sl_drew ?_)))).mono ?_; rintro e w1 ⟨rfl, d1, rfl⟩)
    go_ret2
    exact ⟨_, rfl, (by repeat (first | with_reducible (first | exact World.gained_refl _ | exact ⟨_, rfl⟩ | apply gain_ext | apply gain_alloc | apply gain_drewN | apply gain_drew) | (refine gain_setCell ?_ (by first | exact Nat.le_refl _ | exact World.size_ext _ _ | (simp; done) | (simp; omega)) _))), own_up (own_lit' (w := w.alloc (.cells #[.int .i64 m.wd, .int .i64 m.ht, .slice p1 m.rise.length c1, .slice p2 m.cost.length c2] 26)) (base := w.heap.size) (l := ([] : List (Int × Int))) (C := #[]) prC_length rfl (World.size_alloc _ _).symm (gain_size (by repeat (first | with_reducible (first | exact World.gained_refl _ | exact ⟨_, rfl⟩ | apply gain_ext | apply gain_alloc | apply gain_drewN | apply gain_drew) | (refine gain_setCell ?_ (by first | exact Nat.le_refl _ | exact World.size_ext _ _ | (simp; done) | (simp; omega)) _))))) (by repeat (first | with_reducible (first | exact World.gained_refl _ | exact ⟨_, rfl⟩ | apply gain_ext | apply gain_alloc | apply gain_drewN | apply gain_drew) | (refine gain_setCell ?_ (by first | exact Nat.le_refl _ | exact World.size_ext _ _ | (simp; done) | (simp; omega)) _)))⟩
  | true =>
  cases hB2 : crsB m l b with
  | false =>
    have h0 : shlB m l a b = false := by simp [shlB, hB2]
    rw [hB1] at HGA
    rw [hB2] at HGB
    rw [shlL_no h0, h0]
    clear h0 hB1 hB2
    go_enter Tryz.func13, Tryz.ntmps13
    go_wp2_with fail
    refine (HGA.out _ (mp_up (hm.out) (by repeat (first | with_reducible (first | exact World.gained_refl _ | exact ⟨_, rfl⟩ | apply gain_ext | apply gain_alloc | apply gain_drewN | apply gain_drew) | (refine gain_setCell ?_ (by first | exact Nat.le_refl _ | exact World.size_ext _ _ | (simp; done) | (simp; omega)) _)))) (by with_reducible (repeat (first | exact hs.out | refine World.sl_ext Ctl.cells_length ?_ _ | refine sl_alloc Ctl.cells_length ?_ _ | refine sl_drew ?_))) (by with_reducible (repeat (first | exact ha.out | refine World.sl_ext intC_length ?_ _ | refine sl_alloc intC_length ?_ _ | refine sl_drew ?_)))).mono ?_
    rintro e w1 ⟨rfl, d1, rfl⟩
    go_wp2_with fail
    refine (HGB.out _ (mp_up (hm.out) (by repeat (first | with_reducible (first | exact World.gained_refl _ | exact ⟨_, rfl⟩ | apply gain_ext | apply gain_alloc | apply gain_drewN | apply gain_drew) | (refine gain_setCell ?_ (by first | exact Nat.le_refl _ | exact World.size_ext _ _ | (simp; done) | (simp; omega)) _)))) (by with_reducible (repeat (first | exact hs.out | refine World.sl_ext Ctl.cells_length ?_ _ | refine sl_alloc Ctl.cells_length ?_ _ | refine sl_drew ?_))) (by with_reducible (repeat (first | exact hb.out | refine World.sl_ext intC_length ?_ _ | refine sl_alloc intC_length ?_ _ | refine sl_drew ?_)))).mono ?_
    rintro e w1 ⟨rfl, d2, rfl⟩
    go_wp2_with fail
    go_ret2
    exact ⟨_, rfl, (by repeat (first | with_reducible (first | exact World.gained_refl _ | exact ⟨_, rfl⟩ | apply gain_ext | apply gain_alloc | apply gain_drewN | apply gain_drew) | (refine gain_setCell ?_ (by first | exact Nat.le_refl _ | exact World.size_ext _ _ | (simp; done) | (simp; omega)) _))), own_up (own_lit' (w := w.alloc (.cells #[.int .i64 m.wd, .int .i64 m.ht, .slice p1 m.rise.length c1, .slice p2 m.cost.length c2] 26)) (base := w.heap.size) (l := ([] : List (Int × Int))) (C := #[]) prC_length rfl (World.size_alloc _ _).symm (gain_size (by repeat (first | with_reducible (first | exact World.gained_refl _ | exact ⟨_, rfl⟩ | apply gain_ext | apply gain_alloc | apply gain_drewN | apply gain_drew) | (refine gain_setCell ?_ (by first | exact Nat.le_refl _ | exact World.size_ext _ _ | (simp; done) | (simp; omega)) _))))) (by repeat (first | with_reducible (first | exact World.gained_refl _ | exact ⟨_, rfl⟩ | apply gain_ext | apply gain_alloc | apply gain_drewN | apply gain_drew) | (refine gain_setCell ?_ (by first | exact Nat.le_refl _ | exact World.size_ext _ _ | (simp; done) | (simp; omega)) _)))⟩
  | true =>
    have h0 : shlB m l a b = true := by simp [shlB, hB1, hB2]
    have ha8 := (crsB_true hB1).hi
    have hb8 := (crsB_true hB2).hi
    have ha2 := (crsB_true hB1).lo
    have hb2 := (crsB_true hB2).lo
    rw [shlL, if_pos h0, h0]
    rw [hB1] at HGA
    rw [hB2] at HGB
    clear h0 hB1 hB2
    go_enter Tryz.func13, Tryz.ntmps13
    go_wp2_with fail
    refine (HGA.out _ (mp_up (hm.out) (by repeat (first | with_reducible (first | exact World.gained_refl _ | exact ⟨_, rfl⟩ | apply gain_ext | apply gain_alloc | apply gain_drewN | apply gain_drew) | (refine gain_setCell ?_ (by first | exact Nat.le_refl _ | exact World.size_ext _ _ | (simp; done) | (simp; omega)) _)))) (by with_reducible (repeat (first | exact hs.out | refine World.sl_ext Ctl.cells_length ?_ _ | refine sl_alloc Ctl.cells_length ?_ _ | refine sl_drew ?_))) (by with_reducible (repeat (first | exact ha.out | refine World.sl_ext intC_length ?_ _ | refine sl_alloc intC_length ?_ _ | refine sl_drew ?_)))).mono ?_
    rintro e w1 ⟨rfl, d1, rfl⟩
    go_wp2_with fail
    refine (HGB.out _ (mp_up (hm.out) (by repeat (first | with_reducible (first | exact World.gained_refl _ | exact ⟨_, rfl⟩ | apply gain_ext | apply gain_alloc | apply gain_drewN | apply gain_drew) | (refine gain_setCell ?_ (by first | exact Nat.le_refl _ | exact World.size_ext _ _ | (simp; done) | (simp; omega)) _)))) (by with_reducible (repeat (first | exact hs.out | refine World.sl_ext Ctl.cells_length ?_ _ | refine sl_alloc Ctl.cells_length ?_ _ | refine sl_drew ?_))) (by with_reducible (repeat (first | exact hb.out | refine World.sl_ext intC_length ?_ _ | refine sl_alloc intC_length ?_ _ | refine sl_drew ?_)))).mono ?_
    rintro e w1 ⟨rfl, d2, rfl⟩
    clear HGA HGB
    go_wp2_with fail
    go_loopw [10, 11] (fun o_ i_ wr => ∃ i : Nat, i + 1 ≤ a.length ∧ i_ = .int .i64 i ∧ wr.own w.heap.size 43 prC 2 o_ (legAll a b i) ∧ ∃ d, wr = w.ext d) (fun _ i_ _ => a.length - (intOf i_).toNat)
    case atStart => exact ⟨0, by omega, rfl, own_up (own_lit' (w := w.alloc (.cells #[.int .i64 m.wd, .int .i64 m.ht, .slice p1 m.rise.length c1, .slice p2 m.cost.length c2] 26)) (base := w.heap.size) (l := ([] : List (Int × Int))) (C := #[]) prC_length rfl (World.size_alloc _ _).symm (gain_size (by repeat (first | with_reducible (first | exact World.gained_refl _ | exact ⟨_, rfl⟩ | apply gain_ext | apply gain_alloc | apply gain_drewN | apply gain_drew) | (refine gain_setCell ?_ (by first | exact Nat.le_refl _ | exact World.size_ext _ _ | (simp; done) | (simp; omega)) _))))) (by repeat (first | with_reducible (first | exact World.gained_refl _ | exact ⟨_, rfl⟩ | apply gain_ext | apply gain_alloc | apply gain_drewN | apply gain_drew) | (refine gain_setCell ?_ (by first | exact Nat.le_refl _ | exact World.size_ext _ _ | (simp; done) | (simp; omega)) _))), (by repeat (first | with_reducible (first | exact World.gained_refl _ | exact ⟨_, rfl⟩ | apply gain_ext | apply gain_alloc | apply gain_drewN | apply gain_drew) | (refine gain_setCell ?_ (by first | exact Nat.le_refl _ | exact World.size_ext _ _ | (simp; done) | (simp; omega)) _)))⟩
    case round =>
      obtain ⟨i, hi, rfl, ho, d, rfl⟩ := hrel
      have HO := Lib.hid ho
      clear ho
      by_cases hlt : i + 1 < a.length
      · have hltd : decide ((i : Int) + 1 < (a.length : Int)) = true := decide_eq_true (by omega)
        have hAL := legAll_len a b i
        have hAL2 : i * (b.length - 1) ≤ 7 * 7 := Nat.mul_le_mul (by omega) (by omega)
        go_wp2_with fail
        go_loopw [10, 12] (fun o_ i_ wr => ∃ k : Nat, k + 1 ≤ b.length ∧ i_ = .int .i64 k ∧ wr.own w.heap.size 43 prC 2 o_ (legAll a b i ++ legRow a b i k) ∧ ∃ d, wr = w.ext d) (fun _ i_ _ => b.length - (intOf i_).toNat)
        case atStart => exact ⟨0, by omega, rfl, by simpa [legRow] using HO.out, _, rfl⟩
        case round =>
          clear HO
          obtain ⟨k, hk, rfl, ho, d3, rfl⟩ := hrel
          have HO := Lib.hid ho
          have hRL := legRow_len a b i k
          have hTL : (legAll a b i ++ legRow a b i k).length ≤ 100 := by rw [List.length_append]; omega
          clear ho
          by_cases hlt2 : k + 1 < b.length
          · have hlt2d : decide ((k : Int) + 1 < (b.length : Int)) = true := decide_eq_true (by omega)
            obtain ⟨ba, oa, rfl⟩ := sl_some ha.out (by omega)
            obtain ⟨bb, ob2, rfl⟩ := sl_some hb.out (by omega)
            have x0 := sl_int ha.out (show i < a.length by omega)
            have x1 := sl_int ha.out hlt
            have y0 := sl_int hb.out (show k < b.length by omega)
            have y1 := sl_int hb.out hlt2
            have HEQ := Lib.hid (legEq_at hlt hlt2)
            have HRW : Hid (legRow a b i (k + 1) = legRow a b i k ++ if legEq a b i k then [((i : Int), (k : Int))] else []) := Lib.hid rfl
            have hta : ((i : Int) + 1).toNat = i + 1 := by omega
            have htb : ((k : Int) + 1).toNat = k + 1 := by omega
            have hwa : IntKind.i64.wrap ((i : Int) + 1) = (i : Int) + 1 := IntWalk.i64_in _ (by omega)
            have hwb : IntKind.i64.wrap ((k : Int) + 1) = (k : Int) + 1 := IntWalk.i64_in _ (by omega)
            generalize a[i] = X0 at x0 HEQ
            generalize a[i + 1] = X1 at x1 HEQ
            generalize b[k] = Y0 at y0 HEQ
            generalize b[k + 1] = Y1 at y1 HEQ
            have oba := World.oldB_of_cell x0
            have obb := World.oldB_of_cell y0
            cases hE : legEq a b i k with
            | true =>
              rw [hE] at HEQ HRW
              have hE2 := HEQ.out.symm
              rw [Bool.and_eq_true] at hE2
              obtain ⟨hE1, hE2⟩ := hE2
              clear HEQ hE
              go_wp2_with fail
              refine wp_region_gain (by kernel_rfl) (by kernel_rfl) ?_
              repeat (first | go_big_quiet_skip | (go_big_quiet_want; go_big_quiet_op; first | go_big_quiet_on))
              refine wpQuiet_nil ?_
              rintro _ ⟨d', rfl⟩
              go_wp2_with (at_builtin; go_must (refine wpList_append_gain (m := [((i : Int), (k : Int))]) rfl (.tmp 63) (.tmp 67) rfl Tryz.underlying37 info_Pr (by rfl) (by omega) prC_length prC_one (by omega) (by repeat (first | with_reducible (first | exact World.gained_refl _ | exact ⟨_, rfl⟩ | apply gain_ext | apply gain_alloc | apply gain_drewN | apply gain_drew) | (refine gain_setCell ?_ (by first | exact Nat.le_refl _ | exact World.size_ext _ _ | (simp; done) | (simp; omega)) _))) (Nat.le_refl _) (gain_size (by repeat (first | with_reducible (first | exact World.gained_refl _ | exact ⟨_, rfl⟩ | apply gain_ext | apply gain_alloc | apply gain_drewN | apply gain_drew) | (refine gain_setCell ?_ (by first | exact Nat.le_refl _ | exact World.size_ext _ _ | (simp; done) | (simp; omega)) _)))) rfl rfl (own_up (HO.out) (by repeat (first | with_reducible (first | exact World.gained_refl _ | exact ⟨_, rfl⟩ | apply gain_ext | apply gain_alloc | apply gain_drewN | apply gain_drew) | (refine gain_setCell ?_ (by first | exact Nat.le_refl _ | exact World.size_ext _ _ | (simp; done) | (simp; omega)) _)))) (sl_lit (l := [((i : Int), (k : Int))]) prC_length rfl (by simp)) ((by simp; omega)) ?_); intro v' d5 ho hg)
              rw [List.append_assoc] at ho
              have HN : Hid (legAll a b i ++ legRow a b i (k + 1) = legAll a b i ++ (legRow a b i k ++ [((i : Int), (k : Int))])) := Lib.hid (by rw [HRW.out]; rfl)
              rw [← HN.out] at ho
              go_roundw
              case rel => exact ⟨k + 1, by omega, by go_num, ho, (by repeat (first | with_reducible (first | exact World.gained_refl _ | exact ⟨_, rfl⟩ | apply gain_ext | apply gain_alloc | apply gain_drewN | apply gain_drew) | (refine gain_setCell ?_ (by first | exact Nat.le_refl _ | exact World.size_ext _ _ | (simp; done) | (simp; omega)) _)))⟩
              case measure => simp [intOf]; omega
            | false =>
              rw [hE] at HEQ HRW
              have hE2 := HEQ.out.symm
              have HN : Hid (legAll a b i ++ legRow a b i (k + 1) = legAll a b i ++ legRow a b i k) := Lib.hid (by rw [HRW.out]; simp)
              clear HEQ hE
              cases hE1 : (X0 == Y0) with
              | false =>
                clear hE2
                go_wp2_with fail
                refine wp_region_gain (by kernel_rfl) (by kernel_rfl) ?_
                repeat (first | go_big_quiet_skip | (go_big_quiet_want; go_big_quiet_op; first | go_big_quiet_on))
                refine wpQuiet_nil ?_
                rintro _ ⟨d', rfl⟩
                go_wp2
                go_roundw
                case rel => exact ⟨k + 1, by omega, by go_num, by rw [HN.out]; exact own_up HO.out (by repeat (first | with_reducible (first | exact World.gained_refl _ | exact ⟨_, rfl⟩ | apply gain_ext | apply gain_alloc | apply gain_drewN | apply gain_drew) | (refine gain_setCell ?_ (by first | exact Nat.le_refl _ | exact World.size_ext _ _ | (simp; done) | (simp; omega)) _))), (by repeat (first | with_reducible (first | exact World.gained_refl _ | exact ⟨_, rfl⟩ | apply gain_ext | apply gain_alloc | apply gain_drewN | apply gain_drew) | (refine gain_setCell ?_ (by first | exact Nat.le_refl _ | exact World.size_ext _ _ | (simp; done) | (simp; omega)) _)))⟩
                case measure => simp [intOf]; omega
              | true =>
                rw [hE1, Bool.true_and] at hE2
                go_wp2_with fail
                refine wp_region_gain (by kernel_rfl) (by kernel_rfl) ?_
                repeat (first | go_big_quiet_skip | (go_big_quiet_want; go_big_quiet_op; first | go_big_quiet_on))
                refine wpQuiet_nil ?_
                rintro _ ⟨d', rfl⟩
                go_wp2
                go_roundw
                case rel => exact ⟨k + 1, by omega, by go_num, by rw [HN.out]; exact own_up HO.out (by repeat (first | with_reducible (first | exact World.gained_refl _ | exact ⟨_, rfl⟩ | apply gain_ext | apply gain_alloc | apply gain_drewN | apply gain_drew) | (refine gain_setCell ?_ (by first | exact Nat.le_refl _ | exact World.size_ext _ _ | (simp; done) | (simp; omega)) _))), (by repeat (first | with_reducible (first | exact World.gained_refl _ | exact ⟨_, rfl⟩ | apply gain_ext | apply gain_alloc | apply gain_drewN | apply gain_drew) | (refine gain_setCell ?_ (by first | exact Nat.le_refl _ | exact World.size_ext _ _ | (simp; done) | (simp; omega)) _)))⟩
                case measure => simp [intOf]; omega
          · have hlt2d : decide ((k : Int) + 1 < (b.length : Int)) = false := decide_eq_false (by omega)
            have HN : Hid (legAll a b (i + 1) = legAll a b i ++ legRow a b i k) := Lib.hid (by rw [legAll, show b.length - 1 = k by omega])
            go_wp2
            go_roundw
            case rel => exact ⟨i + 1, by omega, by go_num, by rw [HN.out]; exact HO.out, _, rfl⟩
            case measure => simp [intOf]; omega
      · have hltd : decide ((i : Int) + 1 < (a.length : Int)) = false := decide_eq_false (by omega)
        have HN : Hid (legAll a b (a.length - 1) = legAll a b i) := Lib.hid (by rw [show a.length - 1 = i by omega])
        go_wp2
        go_ret2
        rw [HN.out]
        exact ⟨_, rfl, (by repeat (first | with_reducible (first | exact World.gained_refl _ | exact ⟨_, rfl⟩ | apply gain_ext | apply gain_alloc | apply gain_drewN | apply gain_drew) | (refine gain_setCell ?_ (by first | exact Nat.le_refl _ | exact World.size_ext _ _ | (simp; done) | (simp; omega)) _))), HO.out⟩
end Go.Proofs.YtmcimgnobimicaaGreat
