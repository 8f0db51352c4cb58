/- impl.RotatedPlan, spec.RotatedPlan. No condition. -/
import Derived.Test.YtlofdpbdnkcnkaaNestApp
import Derived.Test.YtlofdpbdnkcnkaaIsPlan
import Derived.Test.YtlofdpbdnkcnkaaInfoInt
namespace Go.Ori
def rotE (L t l f : Nat) : Int := ((l : Int) + (t : Int) * ((f : Int) + 1)).tmod (L : Int)
def rotRow (L t l k : Nat) : List Int := (List.range k).map fun f => rotE L t l f
def rotTeam (L F t k : Nat) : List (List Int) := (List.range k).map fun l => rotRow L t l F
def rotPlan (L F k : Nat) : List (List (List Int)) := (List.range k).map fun t => rotTeam L F t L
theorem rotRow_succ (L t l k : Nat) : rotRow L t l (k + 1) = rotRow L t l k ++ [rotE L t l k] := by simp [rotRow, List.range_succ]
theorem rotTeam_succ (L F t k : Nat) : rotTeam L F t (k + 1) = rotTeam L F t k ++ [rotRow L t k F] := by simp [rotTeam, List.range_succ]
theorem rotPlan_succ (L F k : Nat) : rotPlan L F (k + 1) = rotPlan L F k ++ [rotTeam L F k L] := by simp [rotPlan, List.range_succ]
theorem rotRow_length (L t l k : Nat) : (rotRow L t l k).length = k := by simp [rotRow]
theorem rotTeam_length (L F t k : Nat) : (rotTeam L F t k).length = k := by simp [rotTeam]
theorem rotPlan_length (L F k : Nat) : (rotPlan L F k).length = k := by simp [rotPlan]
def rotB (teams legs forks : Int) : Bool := sizeB legs forks && insB teams 1 6
def rotL (teams legs forks : Int) : List (List (List Int)) := if rotB teams legs forks then rotPlan legs.toNat forks.toNat teams.toNat else []
theorem rot_no {teams legs forks : Int} (h : rotB teams legs forks = false) : rotL teams legs forks = [] ∧ rotB teams legs forks = false := by simp [rotL, h]
theorem rotB_true {teams legs forks : Int} (h : rotB teams legs forks = true) : ∃ T L F : Nat, teams = T ∧ legs = L ∧ forks = F ∧ 1 ≤ T ∧ T ≤ 6 ∧ 1 ≤ L ∧ L ≤ 4 ∧ F ≤ 4 := by
  simp only [rotB, sizeB, insB, Bool.and_eq_true, decide_eq_true_eq] at h
  exact ⟨teams.toNat, legs.toNat, forks.toNat, by omega, by omega, by omega, by omega, by omega, by omega, by omega, by omega⟩
theorem rotL_yes {T L F : Nat} (h : rotB T L F = true) : rotL T L F = rotPlan L F T ∧ rotB T L F = true := by simp [rotL, h]
theorem rotPlan_tot (L F T : Nat) (h1 : L ≤ 4) (h2 : F ≤ 4) (h3 : T ≤ 6) : tot3 (rotPlan L F T) ≤ 1048576 := by
  unfold tot3
  have hb := psum_bd tot2 (rotPlan L F T) 20 (by
    intro x hx
    simp only [rotPlan, List.mem_map, List.mem_range] at hx
    obtain ⟨t, _, rfl⟩ := hx
    unfold tot2
    have := psum_bd tot1 (rotTeam L F t L) 4 (by
      intro x hx
      simp only [rotTeam, List.mem_map, List.mem_range] at hx
      obtain ⟨l, _, rfl⟩ := hx
      rw [tot1, rotRow_length]
      exact h2)
    rw [rotTeam_length] at this ⊢
    omega)
  rw [rotPlan_length] at hb ⊢
  omega
theorem rotL_tot (teams legs forks : Int) : tot3 (rotL teams legs forks) ≤ 1048576 := by
  cases h : rotB teams legs forks with
  | false => rw [(rot_no h).1]; simp [tot3, psum]
  | true =>
    obtain ⟨T, L, F, rfl, rfl, rfl, _, h1, _, h2, h3⟩ := rotB_true h
    rw [(rotL_yes h).1]
    exact rotPlan_tot L F T h2 h3 h1
end Go.Ori
namespace Go.Proofs.Ytlofdpbdnkcnkaa
open Go.RowKit Go.Ori
set_option maxHeartbeats 2000000 in
theorem rotatedPlan_any (teams legs forks : Int) (w : World) :
    Calls Try.prog 18 #[.int .i64 teams, .int .i64 legs, .int .i64 forks] w fun x w' => ∃ r us vss, x = .returned (.tuple #[r, .bool (rotB teams legs forks)]) ∧ (∃ d, w' = w.ext d) ∧ World.rows3 25 28 3 w' w.heap.size r us vss (rotL teams legs forks) := by
  cases h1 : sizeB legs forks with
  | false =>
    have HE := Lib.hid (rot_no (teams := teams) (legs := legs) (forks := forks) (by simp [rotB, h1]))
    cases h2 : insB teams 1 6 with
    | false =>
      go_enter Try.func18, Try.ntmps18
      go_wp2_with (first | (go_at_call 51; refine (inside_any _ _ _ _).mono ?_; rintro e w1 ⟨rfl, rfl⟩) | (go_at_call 50; refine (areLegs_any _ _ _).mono ?_; rintro e w1 ⟨rfl, rfl⟩))
      go_ret2
      rw [HE.out.1, HE.out.2]
      exact ⟨_, _, _, rfl, (by repeat (first | with_reducible (first | exact World.gained_refl _ | exact ⟨_, rfl⟩ | apply gain_ext | apply gain_alloc | apply gain_drewN | apply gain_drew) | (refine gain_setCell ?_ (by first | exact Nat.le_refl _ | exact World.size_ext _ _ | (simp; done) | (simp; omega)) _))), rows3_nil (own_nil _ _ _ _ _)⟩
    | true =>
      go_enter Try.func18, Try.ntmps18
      go_wp2_with (first | (go_at_call 51; refine (inside_any _ _ _ _).mono ?_; rintro e w1 ⟨rfl, rfl⟩) | (go_at_call 50; refine (areLegs_any _ _ _).mono ?_; rintro e w1 ⟨rfl, rfl⟩))
      go_ret2
      rw [HE.out.1, HE.out.2]
      exact ⟨_, _, _, rfl, (by repeat (first | with_reducible (first | exact World.gained_refl _ | exact ⟨_, rfl⟩ | apply gain_ext | apply gain_alloc | apply gain_drewN | apply gain_drew) | (refine gain_setCell ?_ (by first | exact Nat.le_refl _ | exact World.size_ext _ _ | (simp; done) | (simp; omega)) _))), rows3_nil (own_nil _ _ _ _ _)⟩
  | true =>
   cases h2 : insB teams 1 6 with
   | false =>
    have HE := Lib.hid (rot_no (teams := teams) (legs := legs) (forks := forks) (by simp [rotB, h2]))
    go_enter Try.func18, Try.ntmps18
    go_wp2_with (first | (go_at_call 51; refine (inside_any _ _ _ _).mono ?_; rintro e w1 ⟨rfl, rfl⟩) | (go_at_call 50; refine (areLegs_any _ _ _).mono ?_; rintro e w1 ⟨rfl, rfl⟩))
    go_ret2
    rw [HE.out.1, HE.out.2]
    exact ⟨_, _, _, rfl, (by repeat (first | with_reducible (first | exact World.gained_refl _ | exact ⟨_, rfl⟩ | apply gain_ext | apply gain_alloc | apply gain_drewN | apply gain_drew) | (refine gain_setCell ?_ (by first | exact Nat.le_refl _ | exact World.size_ext _ _ | (simp; done) | (simp; omega)) _))), rows3_nil (own_nil _ _ _ _ _)⟩
   | true =>
    have hP : rotB teams legs forks = true := by simp [rotB, h1, h2]
    obtain ⟨T, L, F, rfl, rfl, rfl, a1, a2, a3, a4, a5⟩ := rotB_true hP
    have HE := Lib.hid (rotL_yes hP)
    clear hP
    go_enter Try.func18, Try.ntmps18
    go_wp2_with (first | (go_at_call 51; refine (inside_any _ _ _ _).mono ?_; rintro e w1 ⟨rfl, rfl⟩) | (go_at_call 50; refine (areLegs_any _ _ _).mono ?_; rintro e w1 ⟨rfl, rfl⟩))
    clear h1 h2
    go_loopw [8, 25] (fun ov i wr => ∃ (t : Nat) (us : List Value) (vss : List (List Value)), t ≤ T ∧ i = .int .i64 t ∧ (∃ d, wr = w.ext d) ∧ World.rows3 25 28 3 wr w.heap.size ov us vss (rotPlan L F t)) (fun _ i _ => T - (intOf i).toNat)
    case atStart => exact ⟨0, [], [], by omega, rfl, (by repeat (first | with_reducible (first | exact World.gained_refl _ | exact ⟨_, rfl⟩ | apply gain_ext | apply gain_alloc | apply gain_drewN | apply gain_drew) | (refine gain_setCell ?_ (by first | exact Nat.le_refl _ | exact World.size_ext _ _ | (simp; done) | (simp; omega)) _))), rows3_nil (own_lit' (l := ([] : List Value)) valC_length rfl rfl (gain_size (by repeat (first | with_reducible (first | exact World.gained_refl _ | exact ⟨_, rfl⟩ | apply gain_ext | apply gain_alloc | apply gain_drewN | apply gain_drew) | (refine gain_setCell ?_ (by first | exact Nat.le_refl _ | exact World.size_ext _ _ | (simp; done) | (simp; omega)) _)))))⟩
    case round =>
      obtain ⟨t, us, vss, ht, rfl, ⟨d, rfl⟩, hr3⟩ := hrel
      have HR3 := Lib.hid hr3
      clear hr3
      have hlu : us.length = t := by rw [HR3.out.len, rotPlan_length]
      by_cases hlt : t < T
      · go_wp2
        go_loopw [10, 30] (fun ov i wr => ∃ (l : Nat) (vs : List Value), l ≤ L ∧ i = .int .i64 l ∧ (∃ d', wr = (w.ext d).ext d') ∧ World.rows2 28 3 wr (w.ext d).heap.size ov vs (rotTeam L F t l) ∧ vs.Pairwise Apart2) (fun _ i _ => L - (intOf i).toNat)
        case atStart => exact ⟨0, [], by omega, rfl, (by repeat (first | with_reducible (first | exact World.gained_refl _ | exact ⟨_, rfl⟩ | apply gain_ext | apply gain_alloc | apply gain_drewN | apply gain_drew) | (refine gain_setCell ?_ (by first | exact Nat.le_refl _ | exact World.size_ext _ _ | (simp; done) | (simp; omega)) _))), rows2_nil (own_lit' (l := ([] : List Value)) valC_length rfl rfl (gain_size (by repeat (first | with_reducible (first | exact World.gained_refl _ | exact ⟨_, rfl⟩ | apply gain_ext | apply gain_alloc | apply gain_drewN | apply gain_drew) | (refine gain_setCell ?_ (by first | exact Nat.le_refl _ | exact World.size_ext _ _ | (simp; done) | (simp; omega)) _))))), by simp⟩
        case round =>
          obtain ⟨l, vs, hl, rfl, ⟨d2, rfl⟩, hr2, hpw⟩ := hrel
          have HR2 := Lib.hid hr2
          have HPW := Lib.hid hpw
          clear hr2 hpw
          have hlv : vs.length = l := by rw [HR2.out.len, rotTeam_length]
          by_cases hll : l < L
          · go_wp2
            go_loopw [12, 35] (fun ov i wr => ∃ f : Nat, f ≤ F ∧ i = .int .i64 f ∧ (∃ d', wr = ((w.ext d).ext d2).ext d') ∧ wr.own ((w.ext d).ext d2).heap.size 3 intC 1 ov (rotRow L t l f)) (fun _ i _ => F - (intOf i).toNat)
            case atStart => exact ⟨0, by omega, rfl, (by repeat (first | with_reducible (first | exact World.gained_refl _ | exact ⟨_, rfl⟩ | apply gain_ext | apply gain_alloc | apply gain_drewN | apply gain_drew) | (refine gain_setCell ?_ (by first | exact Nat.le_refl _ | exact World.size_ext _ _ | (simp; done) | (simp; omega)) _))), own_lit' (l := ([] : List Int)) intC_length rfl rfl (gain_size (by repeat (first | with_reducible (first | exact World.gained_refl _ | exact ⟨_, rfl⟩ | apply gain_ext | apply gain_alloc | apply gain_drewN | apply gain_drew) | (refine gain_setCell ?_ (by first | exact Nat.le_refl _ | exact World.size_ext _ _ | (simp; done) | (simp; omega)) _))))⟩
            case round =>
              obtain ⟨f, hf, rfl, ⟨d3, rfl⟩, ho⟩ := hrel
              have HO := Lib.hid ho
              clear ho
              by_cases hlf : f < F
              · have hb : t * (f + 1) ≤ 6 * 5 := Nat.mul_le_mul (by omega) (by omega)
                have hm : ((t * (f + 1) : Nat) : Int) = (t : Int) * ((f : Int) + 1) := by simp
                have HS := Lib.hid (rotRow_succ L t l f)
                have HTE : Hid (rotE L t l f = ((l : Int) + (t : Int) * ((f : Int) + 1)).tmod (L : Int)) := Lib.hid rfl
                go_wp2_with (at_builtin; go_must (refine wpList_append_gain (m := [rotE L t l f]) rfl (.tmp 38) (.tmp 47) rfl Try.underlying28 info_int (by rfl) (by omega) intC_length intC_one (by omega) (by repeat (first | with_reducible (first | exact World.gained_refl _ | exact ⟨_, rfl⟩ | apply gain_ext | apply gain_alloc | apply gain_drewN | apply gain_drew) | (refine gain_setCell ?_ (by first | exact Nat.le_refl _ | exact World.size_ext _ _ | (simp; done) | (simp; omega)) _))) (Nat.le_refl _) (gain_size (by repeat (first | with_reducible (first | exact World.gained_refl _ | exact ⟨_, rfl⟩ | apply gain_ext | apply gain_alloc | apply gain_drewN | apply gain_drew) | (refine gain_setCell ?_ (by first | exact Nat.le_refl _ | exact World.size_ext _ _ | (simp; done) | (simp; omega)) _)))) rfl rfl (own_up (HO.out) (by repeat (first | with_reducible (first | exact World.gained_refl _ | exact ⟨_, rfl⟩ | apply gain_ext | apply gain_alloc | apply gain_drewN | apply gain_drew) | (refine gain_setCell ?_ (by first | exact Nat.le_refl _ | exact World.size_ext _ _ | (simp; done) | (simp; omega)) _)))) (sl_lit (l := [rotE L t l f]) intC_length rfl (by simp)) (by rw [rotRow_length]; simp; omega) ?_); intro v' d' ho hg)
                go_roundw
                case rel => exact ⟨f + 1, by omega, by go_num, ⟨_, rfl⟩, by rw [HS.out]; exact ho⟩
                case measure => simp [intOf]; omega
              · obtain rfl : f = F := by omega
                obtain ⟨pr, cr, rfl, _⟩ := sl_of_own intC_length HO.out
                go_wp2_with (at_builtin; go_must (refine wpList_append_val (x := _) rfl (.tmp 50) (.tmp 52) rfl Try.underlying25 info_slc (by rfl) (by omega) (by repeat (first | with_reducible (first | exact World.gained_refl _ | exact ⟨_, rfl⟩ | apply gain_ext | apply gain_alloc | apply gain_drewN | apply gain_drew) | (refine gain_setCell ?_ (by first | exact Nat.le_refl _ | exact World.size_ext _ _ | (simp; done) | (simp; omega)) _))) (Nat.le_refl _) (gain_size (by repeat (first | with_reducible (first | exact World.gained_refl _ | exact ⟨_, rfl⟩ | apply gain_ext | apply gain_alloc | apply gain_drewN | apply gain_drew) | (refine gain_setCell ?_ (by first | exact Nat.le_refl _ | exact World.size_ext _ _ | (simp; done) | (simp; omega)) _)))) rfl rfl rfl (own_up (HR2.out.out) (by repeat (first | with_reducible (first | exact World.gained_refl _ | exact ⟨_, rfl⟩ | apply gain_ext | apply gain_alloc | apply gain_drewN | apply gain_drew) | (refine gain_setCell ?_ (by first | exact Nat.le_refl _ | exact World.size_ext _ _ | (simp; done) | (simp; omega)) _)))) (cell_lit (by first | rfl | simp [World.size_alloc])) (by omega) ?_); intro v' d' ho hg)
                go_roundw
                case rel => exact ⟨l + 1, _, by omega, by go_num, ⟨_, rfl⟩, by rw [rotTeam_succ]; exact rows2_snoc (rows2_up HR2.out (by repeat (first | with_reducible (first | exact World.gained_refl _ | exact ⟨_, rfl⟩ | apply gain_ext | apply gain_alloc | apply gain_drewN | apply gain_drew) | (refine gain_setCell ?_ (by first | exact Nat.le_refl _ | exact World.size_ext _ _ | (simp; done) | (simp; omega)) _)))) (own_base (own_up HO.out (by repeat (first | with_reducible (first | exact World.gained_refl _ | exact ⟨_, rfl⟩ | apply gain_ext | apply gain_alloc | apply gain_drewN | apply gain_drew) | (refine gain_setCell ?_ (by first | exact Nat.le_refl _ | exact World.size_ext _ _ | (simp; done) | (simp; omega)) _)))) (gain_size (by repeat (first | with_reducible (first | exact World.gained_refl _ | exact ⟨_, rfl⟩ | apply gain_ext | apply gain_alloc | apply gain_drewN | apply gain_drew) | (refine gain_setCell ?_ (by first | exact Nat.le_refl _ | exact World.size_ext _ _ | (simp; done) | (simp; omega)) _))))) (by decide) ho hg, pairwise_snoc HPW.out (rows2_apart HR2.out HO.out)⟩
                case measure => simp [intOf]; omega
          · obtain rfl : l = L := by omega
            obtain ⟨pr, cr, rfl, _⟩ := sl_of_own valC_length HR2.out.out
            rw [hlv] at HR2
            go_wp2_with (at_builtin; go_must (refine wpList_append_val (x := _) rfl (.tmp 55) (.tmp 57) rfl Try.underlying24 info_slc2 (by rfl) (by omega) (by repeat (first | with_reducible (first | exact World.gained_refl _ | exact ⟨_, rfl⟩ | apply gain_ext | apply gain_alloc | apply gain_drewN | apply gain_drew) | (refine gain_setCell ?_ (by first | exact Nat.le_refl _ | exact World.size_ext _ _ | (simp; done) | (simp; omega)) _))) (Nat.le_refl _) (gain_size (by repeat (first | with_reducible (first | exact World.gained_refl _ | exact ⟨_, rfl⟩ | apply gain_ext | apply gain_alloc | apply gain_drewN | apply gain_drew) | (refine gain_setCell ?_ (by first | exact Nat.le_refl _ | exact World.size_ext _ _ | (simp; done) | (simp; omega)) _)))) rfl rfl rfl (own_up (HR3.out.out) (by repeat (first | with_reducible (first | exact World.gained_refl _ | exact ⟨_, rfl⟩ | apply gain_ext | apply gain_alloc | apply gain_drewN | apply gain_drew) | (refine gain_setCell ?_ (by first | exact Nat.le_refl _ | exact World.size_ext _ _ | (simp; done) | (simp; omega)) _)))) (cell_lit (by first | rfl | simp [World.size_alloc])) (by omega) ?_); intro v' d' ho hg)
            go_roundw
            case rel => exact ⟨t + 1, _, _, by omega, by go_num, ⟨_, rfl⟩, by rw [rotPlan_succ]; exact rows3_snoc (rows3_up HR3.out (by repeat (first | with_reducible (first | exact World.gained_refl _ | exact ⟨_, rfl⟩ | apply gain_ext | apply gain_alloc | apply gain_drewN | apply gain_drew) | (refine gain_setCell ?_ (by first | exact Nat.le_refl _ | exact World.size_ext _ _ | (simp; done) | (simp; omega)) _)))) (rows2_base (rows2_up HR2.out (by repeat (first | with_reducible (first | exact World.gained_refl _ | exact ⟨_, rfl⟩ | apply gain_ext | apply gain_alloc | apply gain_drewN | apply gain_drew) | (refine gain_setCell ?_ (by first | exact Nat.le_refl _ | exact World.size_ext _ _ | (simp; done) | (simp; omega)) _)))) (gain_size (by repeat (first | with_reducible (first | exact World.gained_refl _ | exact ⟨_, rfl⟩ | apply gain_ext | apply gain_alloc | apply gain_drewN | apply gain_drew) | (refine gain_setCell ?_ (by first | exact Nat.le_refl _ | exact World.size_ext _ _ | (simp; done) | (simp; omega)) _))))) (by decide) (by decide) ho hg HPW.out (rows3_apart HR3.out HR2.out)⟩
            case measure => simp [intOf]; omega
      · go_wp2
        go_ret2
        obtain rfl : t = T := by omega
        rw [HE.out.1, HE.out.2]
        exact ⟨_, _, _, rfl, ⟨_, rfl⟩, HR3.out⟩
set_option maxHeartbeats 2000000 in
theorem specRotatedPlan_any (teams legs forks : Int) (w : World) :
    Calls Try.prog 19 #[.int .i64 teams, .int .i64 legs, .int .i64 forks] w fun x w' => ∃ r us vss, x = .returned (.tuple #[r, .bool (rotB teams legs forks)]) ∧ (∃ d, w' = w.ext d) ∧ World.rows3 25 28 3 w' w.heap.size r us vss (rotL teams legs forks) := by
  cases h1 : sizeB legs forks with
  | false =>
    have HE := Lib.hid (rot_no (teams := teams) (legs := legs) (forks := forks) (by simp [rotB, h1]))
    cases h2 : insB teams 1 6 with
    | false =>
      go_enter Try.func19, Try.ntmps19
      go_wp2_with (first | (go_at_call 56; refine (l9Size_any _ _ _).mono ?_; rintro e w1 ⟨rfl, rfl⟩) | (go_at_call 57; refine (l1In_any _ _ _ _).mono ?_; rintro e w1 ⟨rfl, rfl⟩))
      go_ret2
      rw [HE.out.1, HE.out.2]
      exact ⟨_, _, _, rfl, (by repeat (first | with_reducible (first | exact World.gained_refl _ | exact ⟨_, rfl⟩ | apply gain_ext | apply gain_alloc | apply gain_drewN | apply gain_drew) | (refine gain_setCell ?_ (by first | exact Nat.le_refl _ | exact World.size_ext _ _ | (simp; done) | (simp; omega)) _))), rows3_nil (own_lit' (l := ([] : List Value)) valC_length rfl rfl (gain_size (by repeat (first | with_reducible (first | exact World.gained_refl _ | exact ⟨_, rfl⟩ | apply gain_ext | apply gain_alloc | apply gain_drewN | apply gain_drew) | (refine gain_setCell ?_ (by first | exact Nat.le_refl _ | exact World.size_ext _ _ | (simp; done) | (simp; omega)) _)))))⟩
    | true =>
      go_enter Try.func19, Try.ntmps19
      go_wp2_with (first | (go_at_call 56; refine (l9Size_any _ _ _).mono ?_; rintro e w1 ⟨rfl, rfl⟩) | (go_at_call 57; refine (l1In_any _ _ _ _).mono ?_; rintro e w1 ⟨rfl, rfl⟩))
      go_ret2
      rw [HE.out.1, HE.out.2]
      exact ⟨_, _, _, rfl, (by repeat (first | with_reducible (first | exact World.gained_refl _ | exact ⟨_, rfl⟩ | apply gain_ext | apply gain_alloc | apply gain_drewN | apply gain_drew) | (refine gain_setCell ?_ (by first | exact Nat.le_refl _ | exact World.size_ext _ _ | (simp; done) | (simp; omega)) _))), rows3_nil (own_lit' (l := ([] : List Value)) valC_length rfl rfl (gain_size (by repeat (first | with_reducible (first | exact World.gained_refl _ | exact ⟨_, rfl⟩ | apply gain_ext | apply gain_alloc | apply gain_drewN | apply gain_drew) | (refine gain_setCell ?_ (by first | exact Nat.le_refl _ | exact World.size_ext _ _ | (simp; done) | (simp; omega)) _)))))⟩
  | true =>
   cases h2 : insB teams 1 6 with
   | false =>
    have HE := Lib.hid (rot_no (teams := teams) (legs := legs) (forks := forks) (by simp [rotB, h2]))
    go_enter Try.func19, Try.ntmps19
    go_wp2_with (first | (go_at_call 56; refine (l9Size_any _ _ _).mono ?_; rintro e w1 ⟨rfl, rfl⟩) | (go_at_call 57; refine (l1In_any _ _ _ _).mono ?_; rintro e w1 ⟨rfl, rfl⟩))
    go_ret2
    rw [HE.out.1, HE.out.2]
    exact ⟨_, _, _, rfl, (by repeat (first | with_reducible (first | exact World.gained_refl _ | exact ⟨_, rfl⟩ | apply gain_ext | apply gain_alloc | apply gain_drewN | apply gain_drew) | (refine gain_setCell ?_ (by first | exact Nat.le_refl _ | exact World.size_ext _ _ | (simp; done) | (simp; omega)) _))), rows3_nil (own_lit' (l := ([] : List Value)) valC_length rfl rfl (gain_size (by repeat (first | with_reducible (first | exact World.gained_refl _ | exact ⟨_, rfl⟩ | apply gain_ext | apply gain_alloc | apply gain_drewN | apply gain_drew) | (refine gain_setCell ?_ (by first | exact Nat.le_refl _ | exact World.size_ext _ _ | (simp; done) | (simp; omega)) _)))))⟩
   | true =>
    have hP : rotB teams legs forks = true := by simp [rotB, h1, h2]
    obtain ⟨T, L, F, rfl, rfl, rfl, a1, a2, a3, a4, a5⟩ := rotB_true hP
    have HE := Lib.hid (rotL_yes hP)
    clear hP
    go_enter Try.func19, Try.ntmps19
    go_wp2_with (first | (go_at_call 56; refine (l9Size_any _ _ _).mono ?_; rintro e w1 ⟨rfl, rfl⟩) | (go_at_call 57; refine (l1In_any _ _ _ _).mono ?_; rintro e w1 ⟨rfl, rfl⟩))
    clear h1 h2
    go_loopw [8, 9] (fun ov i wr => ∃ (t : Nat) (us : List Value) (vss : List (List Value)), t ≤ T ∧ i = .int .i64 t ∧ (∃ d, wr = w.ext d) ∧ World.rows3 25 28 3 wr w.heap.size ov us vss (rotPlan L F t)) (fun _ i _ => T - (intOf i).toNat)
    case atStart => exact ⟨0, [], [], by omega, rfl, (by repeat (first | with_reducible (first | exact World.gained_refl _ | exact ⟨_, rfl⟩ | apply gain_ext | apply gain_alloc | apply gain_drewN | apply gain_drew) | (refine gain_setCell ?_ (by first | exact Nat.le_refl _ | exact World.size_ext _ _ | (simp; done) | (simp; omega)) _))), rows3_nil (own_lit' (l := ([] : List Value)) valC_length rfl rfl (gain_size (by repeat (first | with_reducible (first | exact World.gained_refl _ | exact ⟨_, rfl⟩ | apply gain_ext | apply gain_alloc | apply gain_drewN | apply gain_drew) | (refine gain_setCell ?_ (by first | exact Nat.le_refl _ | exact World.size_ext _ _ | (simp; done) | (simp; omega)) _)))))⟩
    case round =>
      obtain ⟨t, us, vss, ht, rfl, ⟨d, rfl⟩, hr3⟩ := hrel
      have HR3 := Lib.hid hr3
      clear hr3
      have hlu : us.length = t := by rw [HR3.out.len, rotPlan_length]
      by_cases hlt : t < T
      · go_wp2
        go_loopw [10, 11] (fun ov i wr => ∃ (l : Nat) (vs : List Value), l ≤ L ∧ i = .int .i64 l ∧ (∃ d', wr = (w.ext d).ext d') ∧ World.rows2 28 3 wr (w.ext d).heap.size ov vs (rotTeam L F t l) ∧ vs.Pairwise Apart2) (fun _ i _ => L - (intOf i).toNat)
        case atStart => exact ⟨0, [], by omega, rfl, (by repeat (first | with_reducible (first | exact World.gained_refl _ | exact ⟨_, rfl⟩ | apply gain_ext | apply gain_alloc | apply gain_drewN | apply gain_drew) | (refine gain_setCell ?_ (by first | exact Nat.le_refl _ | exact World.size_ext _ _ | (simp; done) | (simp; omega)) _))), rows2_nil (own_lit' (l := ([] : List Value)) valC_length rfl rfl (gain_size (by repeat (first | with_reducible (first | exact World.gained_refl _ | exact ⟨_, rfl⟩ | apply gain_ext | apply gain_alloc | apply gain_drewN | apply gain_drew) | (refine gain_setCell ?_ (by first | exact Nat.le_refl _ | exact World.size_ext _ _ | (simp; done) | (simp; omega)) _))))), by simp⟩
        case round =>
          obtain ⟨l, vs, hl, rfl, ⟨d2, rfl⟩, hr2, hpw⟩ := hrel
          have HR2 := Lib.hid hr2
          have HPW := Lib.hid hpw
          clear hr2 hpw
          have hlv : vs.length = l := by rw [HR2.out.len, rotTeam_length]
          by_cases hll : l < L
          · go_wp2
            go_loopw [12, 13] (fun ov i wr => ∃ f : Nat, f ≤ F ∧ i = .int .i64 f ∧ (∃ d', wr = ((w.ext d).ext d2).ext d') ∧ wr.own ((w.ext d).ext d2).heap.size 3 intC 1 ov (rotRow L t l f)) (fun _ i _ => F - (intOf i).toNat)
            case atStart => exact ⟨0, by omega, rfl, (by repeat (first | with_reducible (first | exact World.gained_refl _ | exact ⟨_, rfl⟩ | apply gain_ext | apply gain_alloc | apply gain_drewN | apply gain_drew) | (refine gain_setCell ?_ (by first | exact Nat.le_refl _ | exact World.size_ext _ _ | (simp; done) | (simp; omega)) _))), own_lit' (l := ([] : List Int)) intC_length rfl rfl (gain_size (by repeat (first | with_reducible (first | exact World.gained_refl _ | exact ⟨_, rfl⟩ | apply gain_ext | apply gain_alloc | apply gain_drewN | apply gain_drew) | (refine gain_setCell ?_ (by first | exact Nat.le_refl _ | exact World.size_ext _ _ | (simp; done) | (simp; omega)) _))))⟩
            case round =>
              obtain ⟨f, hf, rfl, ⟨d3, rfl⟩, ho⟩ := hrel
              have HO := Lib.hid ho
              clear ho
              by_cases hlf : f < F
              · have hb : t * (f + 1) ≤ 6 * 5 := Nat.mul_le_mul (by omega) (by omega)
                have hm : ((t * (f + 1) : Nat) : Int) = (t : Int) * ((f : Int) + 1) := by simp
                have HS := Lib.hid (rotRow_succ L t l f)
                have HTE : Hid (rotE L t l f = ((l : Int) + (t : Int) * ((f : Int) + 1)).tmod (L : Int)) := Lib.hid rfl
                go_wp2_with (at_builtin; go_must (refine wpList_append_gain (m := [rotE L t l f]) rfl (.tmp 42) (.tmp 51) rfl Try.underlying28 info_int (by rfl) (by omega) intC_length intC_one (by omega) (by repeat (first | with_reducible (first | exact World.gained_refl _ | exact ⟨_, rfl⟩ | apply gain_ext | apply gain_alloc | apply gain_drewN | apply gain_drew) | (refine gain_setCell ?_ (by first | exact Nat.le_refl _ | exact World.size_ext _ _ | (simp; done) | (simp; omega)) _))) (Nat.le_refl _) (gain_size (by repeat (first | with_reducible (first | exact World.gained_refl _ | exact ⟨_, rfl⟩ | apply gain_ext | apply gain_alloc | apply gain_drewN | apply gain_drew) | (refine gain_setCell ?_ (by first | exact Nat.le_refl _ | exact World.size_ext _ _ | (simp; done) | (simp; omega)) _)))) rfl rfl (own_up (HO.out) (by repeat (first | with_reducible (first | exact World.gained_refl _ | exact ⟨_, rfl⟩ | apply gain_ext | apply gain_alloc | apply gain_drewN | apply gain_drew) | (refine gain_setCell ?_ (by first | exact Nat.le_refl _ | exact World.size_ext _ _ | (simp; done) | (simp; omega)) _)))) (sl_lit (l := [rotE L t l f]) intC_length rfl (by simp)) (by rw [rotRow_length]; simp; omega) ?_); intro v' d' ho hg)
                go_roundw
                case rel => exact ⟨f + 1, by omega, by go_num, ⟨_, rfl⟩, by rw [HS.out]; exact ho⟩
                case measure => simp [intOf]; omega
              · obtain rfl : f = F := by omega
                obtain ⟨pr, cr, rfl, _⟩ := sl_of_own intC_length HO.out
                go_wp2_with (at_builtin; go_must (refine wpList_append_val (x := _) rfl (.tmp 53) (.tmp 55) rfl Try.underlying25 info_slc (by rfl) (by omega) (by repeat (first | with_reducible (first | exact World.gained_refl _ | exact ⟨_, rfl⟩ | apply gain_ext | apply gain_alloc | apply gain_drewN | apply gain_drew) | (refine gain_setCell ?_ (by first | exact Nat.le_refl _ | exact World.size_ext _ _ | (simp; done) | (simp; omega)) _))) (Nat.le_refl _) (gain_size (by repeat (first | with_reducible (first | exact World.gained_refl _ | exact ⟨_, rfl⟩ | apply gain_ext | apply gain_alloc | apply gain_drewN | apply gain_drew) | (refine gain_setCell ?_ (by first | exact Nat.le_refl _ | exact World.size_ext _ _ | (simp; done) | (simp; omega)) _)))) rfl rfl rfl (own_up (HR2.out.out) (by repeat (first | with_reducible (first | exact World.gained_refl _ | exact ⟨_, rfl⟩ | apply gain_ext | apply gain_alloc | apply gain_drewN | apply gain_drew) | (refine gain_setCell ?_ (by first | exact Nat.le_refl _ | exact World.size_ext _ _ | (simp; done) | (simp; omega)) _)))) (cell_lit (by first | rfl | simp [World.size_alloc])) (by omega) ?_); intro v' d' ho hg)
                go_roundw
                case rel => exact ⟨l + 1, _, by omega, by go_num, ⟨_, rfl⟩, by rw [rotTeam_succ]; exact rows2_snoc (rows2_up HR2.out (by repeat (first | with_reducible (first | exact World.gained_refl _ | exact ⟨_, rfl⟩ | apply gain_ext | apply gain_alloc | apply gain_drewN | apply gain_drew) | (refine gain_setCell ?_ (by first | exact Nat.le_refl _ | exact World.size_ext _ _ | (simp; done) | (simp; omega)) _)))) (own_base (own_up HO.out (by repeat (first | with_reducible (first | exact World.gained_refl _ | exact ⟨_, rfl⟩ | apply gain_ext | apply gain_alloc | apply gain_drewN | apply gain_drew) | (refine gain_setCell ?_ (by first | exact Nat.le_refl _ | exact World.size_ext _ _ | (simp; done) | (simp; omega)) _)))) (gain_size (by repeat (first | with_reducible (first | exact World.gained_refl _ | exact ⟨_, rfl⟩ | apply gain_ext | apply gain_alloc | apply gain_drewN | apply gain_drew) | (refine gain_setCell ?_ (by first | exact Nat.le_refl _ | exact World.size_ext _ _ | (simp; done) | (simp; omega)) _))))) (by decide) ho hg, pairwise_snoc HPW.out (rows2_apart HR2.out HO.out)⟩
                case measure => simp [intOf]; omega
          · obtain rfl : l = L := by omega
            obtain ⟨pr, cr, rfl, _⟩ := sl_of_own valC_length HR2.out.out
            rw [hlv] at HR2
            go_wp2_with (at_builtin; go_must (refine wpList_append_val (x := _) rfl (.tmp 57) (.tmp 59) rfl Try.underlying24 info_slc2 (by rfl) (by omega) (by repeat (first | with_reducible (first | exact World.gained_refl _ | exact ⟨_, rfl⟩ | apply gain_ext | apply gain_alloc | apply gain_drewN | apply gain_drew) | (refine gain_setCell ?_ (by first | exact Nat.le_refl _ | exact World.size_ext _ _ | (simp; done) | (simp; omega)) _))) (Nat.le_refl _) (gain_size (by repeat (first | with_reducible (first | exact World.gained_refl _ | exact ⟨_, rfl⟩ | apply gain_ext | apply gain_alloc | apply gain_drewN | apply gain_drew) | (refine gain_setCell ?_ (by first | exact Nat.le_refl _ | exact World.size_ext _ _ | (simp; done) | (simp; omega)) _)))) rfl rfl rfl (own_up (HR3.out.out) (by repeat (first | with_reducible (first | exact World.gained_refl _ | exact ⟨_, rfl⟩ | apply gain_ext | apply gain_alloc | apply gain_drewN | apply gain_drew) | (refine gain_setCell ?_ (by first | exact Nat.le_refl _ | exact World.size_ext _ _ | (simp; done) | (simp; omega)) _)))) (cell_lit (by first | rfl | simp [World.size_alloc])) (by omega) ?_); intro v' d' ho hg)
            go_roundw
            case rel => exact ⟨t + 1, _, _, by omega, by go_num, ⟨_, rfl⟩, by rw [rotPlan_succ]; exact rows3_snoc (rows3_up HR3.out (by repeat (first | with_reducible (first | exact World.gained_refl _ | exact ⟨_, rfl⟩ | apply gain_ext | apply gain_alloc | apply gain_drewN | apply gain_drew) | (refine gain_setCell ?_ (by first | exact Nat.le_refl _ | exact World.size_ext _ _ | (simp; done) | (simp; omega)) _)))) (rows2_base (rows2_up HR2.out (by repeat (first | with_reducible (first | exact World.gained_refl _ | exact ⟨_, rfl⟩ | apply gain_ext | apply gain_alloc | apply gain_drewN | apply gain_drew) | (refine gain_setCell ?_ (by first | exact Nat.le_refl _ | exact World.size_ext _ _ | (simp; done) | (simp; omega)) _)))) (gain_size (by repeat (first | with_reducible (first | exact World.gained_refl _ | exact ⟨_, rfl⟩ | apply gain_ext | apply gain_alloc | apply gain_drewN | apply gain_drew) | (refine gain_setCell ?_ (by first | exact Nat.le_refl _ | exact World.size_ext _ _ | (simp; done) | (simp; omega)) _))))) (by decide) (by decide) ho hg HPW.out (rows3_apart HR3.out HR2.out)⟩
            case measure => simp [intOf]; omega
      · go_wp2
        go_ret2
        obtain rfl : t = T := by omega
        rw [HE.out.1, HE.out.2]
        exact ⟨_, _, _, rfl, ⟨_, rfl⟩, HR3.out⟩
end Go.Proofs.Ytlofdpbdnkcnkaa
