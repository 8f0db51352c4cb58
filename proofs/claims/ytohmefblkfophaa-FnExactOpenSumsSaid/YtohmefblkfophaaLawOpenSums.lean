/- FnExactOpenSums returns true for every argument. No condition. -/
import Derived.Test.YtohmefblkfophaaL11Open
import Derived.Test.YtohmefblkfophaaToRunnerS
import Derived.Test.YtohmefblkfophaaEqRunnerS
import Derived.Test.YtohmefblkfophaaSzRunnerS
import Derived.Test.YtohmefblkfophaaRdRunnerS
import Derived.Test.YtohmefblkfophaaMarkRunnerS
import Derived.Test.YtohmefblkfophaaToEntS
import Derived.Test.YtohmefblkfophaaEqEntS
import Derived.Test.YtohmefblkfophaaSzEntS
import Derived.Test.YtohmefblkfophaaMarkEntS
import Derived.Test.YtohmefblkfophaaMarkIntS
import Derived.Test.YtohmefblkfophaaEqIntS
import Derived.Test.YtohmefblkfophaaRdFees
import Derived.Test.YtohmefblkfophaaRdEnt
namespace Go.Proofs.Ytohmefblkfophaa
open Go.ChangeShapes Go.WideShapes Go.ChangeAt Go.RowKit Go.Ori
set_option maxHeartbeats 4000000 in
theorem fnExactOpenSums_walk (f : Fees) (v_runners : Value) (l_runners : List Runner) (v_list : Value) (l_list : List Ent) (w : World) (h_v_runners : w.sl Runner.cells 6 v_runners l_runners) (hm_runners : l_runners.length ≤ 9223372036854775807) (hq_runners : ∀ x ∈ l_runners, Runner.ok x) (h_v_list : w.sl Ent.cells 5 v_list l_list) (hm_list : l_list.length ≤ 9223372036854775807) :
    Calls Try.prog 11 #[.agg #[.int .i64 f.adult, .int .i64 f.child, .int .i64 f.rent, .int .i64 f.late], v_runners, v_list] w fun x w' => x = .returned (.bool true) ∧ ∃ d, w' = w.ext d := by
  obtain ⟨p_runners, c_runners, hv_runners, _⟩ := id h_v_runners
  subst hv_runners
  obtain ⟨p_list, c_list, hv_list, _⟩ := id h_v_list
  subst hv_list
  go_enter Try.func11, Try.ntmps11
  have h_b_f : (w.alloc (.cells #[.int .i64 f.adult, .int .i64 f.child, .int .i64 f.rent, .int .i64 f.late] 45)).sl Fees.cells 4 (.slice (some ⟨w.heap.size, 0, none⟩) 1 1) [f] := sl_lit (w := w) (l := [f]) Fees.cells_length rfl (by simp)
  replace h_b_f : (w.alloc (.cells #[.int .i64 f.adult, .int .i64 f.child, .int .i64 f.rent, .int .i64 f.late] 45)).sl Fees.cells 4 (.slice (some ⟨w.heap.size, 0, none⟩) 1 1) [f] := (sl_up Fees.cells_length h_b_f (by repeat (first | with_reducible (first | exact World.gained_refl _ | exact ⟨_, rfl⟩ | apply gain_ext | apply gain_alloc | apply gain_drewN | apply gain_drew) | (refine gain_setCell ?_ (by first | exact Nat.le_refl _ | exact World.size_ext _ _ | (simp; done) | (simp; omega)) _))))
  have c_f_0 : (w.alloc (.cells #[.int .i64 f.adult, .int .i64 f.child, .int .i64 f.rent, .int .i64 f.late] 45)).cell? ⟨w.heap.size, 0, none⟩ = some (.int .i64 f.adult) := by have := sl_cells h_b_f (k := 0) (by simp) (j := 0) (by omega); first | (simp; done) | simpa [Fees.cells] using this
  have c_f_1 : (w.alloc (.cells #[.int .i64 f.adult, .int .i64 f.child, .int .i64 f.rent, .int .i64 f.late] 45)).cell? ⟨w.heap.size, 1, none⟩ = some (.int .i64 f.child) := by have := sl_cells h_b_f (k := 0) (by simp) (j := 1) (by omega); first | (simp; done) | simpa [Fees.cells] using this
  have c_f_2 : (w.alloc (.cells #[.int .i64 f.adult, .int .i64 f.child, .int .i64 f.rent, .int .i64 f.late] 45)).cell? ⟨w.heap.size, 2, none⟩ = some (.int .i64 f.rent) := by have := sl_cells h_b_f (k := 0) (by simp) (j := 2) (by omega); first | (simp; done) | simpa [Fees.cells] using this
  have c_f_3 : (w.alloc (.cells #[.int .i64 f.adult, .int .i64 f.child, .int .i64 f.rent, .int .i64 f.late] 45)).cell? ⟨w.heap.size, 3, none⟩ = some (.int .i64 f.late) := by have := sl_cells h_b_f (k := 0) (by simp) (j := 3) (by omega); first | (simp; done) | simpa [Fees.cells] using this
  go_wp2_with fail
  refine (szRunnerS_any _ l_runners _ _ (sl_up Runner.cells_length h_v_runners (by repeat (first | with_reducible (first | exact World.gained_refl _ | exact ⟨_, rfl⟩ | apply gain_ext | apply gain_alloc | apply gain_drewN | apply gain_drew) | (refine gain_setCell ?_ (by first | exact Nat.le_refl _ | exact World.size_ext _ _ | (simp; done) | (simp; omega)) _)))) hm_runners hq_runners (by omega) (by omega)).mono ?_
  rintro e w1 ⟨r_runners, rfl, ⟨d1, rfl⟩, hr_runners, hx_runners⟩
  by_cases hp_runners : ¬ 0 ≤ r_runners
  · go_wp2
    go_ret
    exact ⟨rfl, (by repeat (first | with_reducible (first | exact World.gained_refl _ | exact ⟨_, rfl⟩ | apply gain_ext | apply gain_alloc | apply gain_drewN | apply gain_drew) | (refine gain_setCell ?_ (by first | exact Nat.le_refl _ | exact World.size_ext _ _ | (simp; done) | (simp; omega)) _)))⟩
  replace hp_runners : 0 ≤ r_runners := by omega
  have hl_runners : l_runners.length ≤ 1048576 := by have := hx_runners hp_runners; omega
  replace hq_runners := (hx_runners hp_runners).2
  clear hx_runners hm_runners
  go_wp2_with fail
  refine (szEntryS_any _ _ _ _ _ hm_list (by omega) (by omega)).mono ?_
  rintro e w1 ⟨r_list, rfl, rfl, hr_list, hx_list⟩
  by_cases hp_list : ¬ 0 ≤ r_list
  · go_wp2
    go_ret
    exact ⟨rfl, (by repeat (first | with_reducible (first | exact World.gained_refl _ | exact ⟨_, rfl⟩ | apply gain_ext | apply gain_alloc | apply gain_drewN | apply gain_drew) | (refine gain_setCell ?_ (by first | exact Nat.le_refl _ | exact World.size_ext _ _ | (simp; done) | (simp; omega)) _)))⟩
  replace hp_list : 0 ≤ r_list := by omega
  have hl_list : l_list.length ≤ 1048576 := by have := hx_list hp_list; omega
  clear hx_list hm_list
  go_wp2_with fail
  refine (toFees_any _ _ _ _ _).mono ?_
  rintro e w1 ⟨rfl, d3, rfl⟩
  go_wp2_with fail
  refine (toRunnerS_any _ l_runners _ (sl_up Runner.cells_length h_v_runners (by repeat (first | with_reducible (first | exact World.gained_refl _ | exact ⟨_, rfl⟩ | apply gain_ext | apply gain_alloc | apply gain_drewN | apply gain_drew) | (refine gain_setCell ?_ (by first | exact Nat.le_refl _ | exact World.size_ext _ _ | (simp; done) | (simp; omega)) _)))) hl_runners).mono ?_
  rintro e w1 ⟨u_runners, rfl, ⟨d4, rfl⟩, h_u_runners⟩
  go_wp2_with fail
  refine (toEntryS_any _ l_list _ (sl_up Ent.cells_length h_v_list (by repeat (first | with_reducible (first | exact World.gained_refl _ | exact ⟨_, rfl⟩ | apply gain_ext | apply gain_alloc | apply gain_drewN | apply gain_drew) | (refine gain_setCell ?_ (by first | exact Nat.le_refl _ | exact World.size_ext _ _ | (simp; done) | (simp; omega)) _)))) hl_list).mono ?_
  rintro e w1 ⟨u_list, rfl, ⟨d5, rfl⟩, h_u_list⟩
  go_wp2_with fail
  refine (specOpenSums_any f _ _ l_runners l_list _ (sl_up Runner.cells_length (sl_of_own Runner.cells_length h_u_runners) (by repeat (first | with_reducible (first | exact World.gained_refl _ | exact ⟨_, rfl⟩ | apply gain_ext | apply gain_alloc | apply gain_drewN | apply gain_drew) | (refine gain_setCell ?_ (by first | exact Nat.le_refl _ | exact World.size_ext _ _ | (simp; done) | (simp; omega)) _)))) hl_runners hq_runners (sl_up Ent.cells_length (sl_of_own Ent.cells_length h_u_list) (by repeat (first | with_reducible (first | exact World.gained_refl _ | exact ⟨_, rfl⟩ | apply gain_ext | apply gain_alloc | apply gain_drewN | apply gain_drew) | (refine gain_setCell ?_ (by first | exact Nat.le_refl _ | exact World.size_ext _ _ | (simp; done) | (simp; omega)) _)))) hl_list).mono ?_
  rintro e w1 ⟨w0, rfl, ⟨d2, rfl⟩, h_w0⟩
  have ap_v_runners_w0 := apart_new Runner.cells_length (by omega) (sl_up Runner.cells_length h_v_runners (by repeat (first | with_reducible (first | exact World.gained_refl _ | exact ⟨_, rfl⟩ | apply gain_ext | apply gain_alloc | apply gain_drewN | apply gain_drew) | (refine gain_setCell ?_ (by first | exact Nat.le_refl _ | exact World.size_ext _ _ | (simp; done) | (simp; omega)) _)))) h_w0
  have ap_v_list_w0 := apart_new Ent.cells_length (by omega) (sl_up Ent.cells_length h_v_list (by repeat (first | with_reducible (first | exact World.gained_refl _ | exact ⟨_, rfl⟩ | apply gain_ext | apply gain_alloc | apply gain_drewN | apply gain_drew) | (refine gain_setCell ?_ (by first | exact Nat.le_refl _ | exact World.size_ext _ _ | (simp; done) | (simp; omega)) _)))) h_w0
  have ap_b_f_w0 := apart_new Fees.cells_length (by omega) (sl_up Fees.cells_length h_b_f (by repeat (first | with_reducible (first | exact World.gained_refl _ | exact ⟨_, rfl⟩ | apply gain_ext | apply gain_alloc | apply gain_drewN | apply gain_drew) | (refine gain_setCell ?_ (by first | exact Nat.le_refl _ | exact World.size_ext _ _ | (simp; done) | (simp; omega)) _)))) h_w0
  clear h_u_runners
  clear h_u_list
  go_wp2_with fail
  refine (toRunnerS_any _ l_runners _ (sl_up Runner.cells_length h_v_runners (by repeat (first | with_reducible (first | exact World.gained_refl _ | exact ⟨_, rfl⟩ | apply gain_ext | apply gain_alloc | apply gain_drewN | apply gain_drew) | (refine gain_setCell ?_ (by first | exact Nat.le_refl _ | exact World.size_ext _ _ | (simp; done) | (simp; omega)) _)))) hl_runners).mono ?_
  rintro e w1 ⟨x_runners, rfl, ⟨d6, rfl⟩, h_x_runners⟩
  have ap_v_runners_x_runners := apart_new Runner.cells_length (by omega) (sl_up Runner.cells_length h_v_runners (by repeat (first | with_reducible (first | exact World.gained_refl _ | exact ⟨_, rfl⟩ | apply gain_ext | apply gain_alloc | apply gain_drewN | apply gain_drew) | (refine gain_setCell ?_ (by first | exact Nat.le_refl _ | exact World.size_ext _ _ | (simp; done) | (simp; omega)) _)))) h_x_runners
  have ap_v_list_x_runners := apart_new Ent.cells_length (by omega) (sl_up Ent.cells_length h_v_list (by repeat (first | with_reducible (first | exact World.gained_refl _ | exact ⟨_, rfl⟩ | apply gain_ext | apply gain_alloc | apply gain_drewN | apply gain_drew) | (refine gain_setCell ?_ (by first | exact Nat.le_refl _ | exact World.size_ext _ _ | (simp; done) | (simp; omega)) _)))) h_x_runners
  have ap_b_f_x_runners := apart_new Fees.cells_length (by omega) (sl_up Fees.cells_length h_b_f (by repeat (first | with_reducible (first | exact World.gained_refl _ | exact ⟨_, rfl⟩ | apply gain_ext | apply gain_alloc | apply gain_drewN | apply gain_drew) | (refine gain_setCell ?_ (by first | exact Nat.le_refl _ | exact World.size_ext _ _ | (simp; done) | (simp; omega)) _)))) h_x_runners
  have ap_w0_x_runners := apart2_new (own_up h_w0 (by repeat (first | with_reducible (first | exact World.gained_refl _ | exact ⟨_, rfl⟩ | apply gain_ext | apply gain_alloc | apply gain_drewN | apply gain_drew) | (refine gain_setCell ?_ (by first | exact Nat.le_refl _ | exact World.size_ext _ _ | (simp; done) | (simp; omega)) _)))) h_x_runners
  go_wp2_with fail
  refine (toEntryS_any _ l_list _ (sl_up Ent.cells_length h_v_list (by repeat (first | with_reducible (first | exact World.gained_refl _ | exact ⟨_, rfl⟩ | apply gain_ext | apply gain_alloc | apply gain_drewN | apply gain_drew) | (refine gain_setCell ?_ (by first | exact Nat.le_refl _ | exact World.size_ext _ _ | (simp; done) | (simp; omega)) _)))) hl_list).mono ?_
  rintro e w1 ⟨x_list, rfl, ⟨d7, rfl⟩, h_x_list⟩
  have ap_v_runners_x_list := apart_new Runner.cells_length (by omega) (sl_up Runner.cells_length h_v_runners (by repeat (first | with_reducible (first | exact World.gained_refl _ | exact ⟨_, rfl⟩ | apply gain_ext | apply gain_alloc | apply gain_drewN | apply gain_drew) | (refine gain_setCell ?_ (by first | exact Nat.le_refl _ | exact World.size_ext _ _ | (simp; done) | (simp; omega)) _)))) h_x_list
  have ap_v_list_x_list := apart_new Ent.cells_length (by omega) (sl_up Ent.cells_length h_v_list (by repeat (first | with_reducible (first | exact World.gained_refl _ | exact ⟨_, rfl⟩ | apply gain_ext | apply gain_alloc | apply gain_drewN | apply gain_drew) | (refine gain_setCell ?_ (by first | exact Nat.le_refl _ | exact World.size_ext _ _ | (simp; done) | (simp; omega)) _)))) h_x_list
  have ap_b_f_x_list := apart_new Fees.cells_length (by omega) (sl_up Fees.cells_length h_b_f (by repeat (first | with_reducible (first | exact World.gained_refl _ | exact ⟨_, rfl⟩ | apply gain_ext | apply gain_alloc | apply gain_drewN | apply gain_drew) | (refine gain_setCell ?_ (by first | exact Nat.le_refl _ | exact World.size_ext _ _ | (simp; done) | (simp; omega)) _)))) h_x_list
  have ap_w0_x_list := apart2_new (own_up h_w0 (by repeat (first | with_reducible (first | exact World.gained_refl _ | exact ⟨_, rfl⟩ | apply gain_ext | apply gain_alloc | apply gain_drewN | apply gain_drew) | (refine gain_setCell ?_ (by first | exact Nat.le_refl _ | exact World.size_ext _ _ | (simp; done) | (simp; omega)) _)))) h_x_list
  have ap_x_runners_x_list := apart2_new (own_up h_x_runners (by repeat (first | with_reducible (first | exact World.gained_refl _ | exact ⟨_, rfl⟩ | apply gain_ext | apply gain_alloc | apply gain_drewN | apply gain_drew) | (refine gain_setCell ?_ (by first | exact Nat.le_refl _ | exact World.size_ext _ _ | (simp; done) | (simp; omega)) _)))) h_x_list
  go_wp2_with fail
  refine (toFees_any _ _ _ _ _).mono ?_
  rintro e w1 ⟨rfl, d9, rfl⟩
  go_wp2_with fail
  refine (openSums_any f _ _ l_runners l_list _ (sl_up Runner.cells_length (sl_of_own Runner.cells_length h_x_runners) (by repeat (first | with_reducible (first | exact World.gained_refl _ | exact ⟨_, rfl⟩ | apply gain_ext | apply gain_alloc | apply gain_drewN | apply gain_drew) | (refine gain_setCell ?_ (by first | exact Nat.le_refl _ | exact World.size_ext _ _ | (simp; done) | (simp; omega)) _)))) hl_runners hq_runners (sl_up Ent.cells_length (sl_of_own Ent.cells_length h_x_list) (by repeat (first | with_reducible (first | exact World.gained_refl _ | exact ⟨_, rfl⟩ | apply gain_ext | apply gain_alloc | apply gain_drewN | apply gain_drew) | (refine gain_setCell ?_ (by first | exact Nat.le_refl _ | exact World.size_ext _ _ | (simp; done) | (simp; omega)) _)))) hl_list).mono ?_
  rintro e w1 ⟨g0, rfl, ⟨d8, rfl⟩, h_g0⟩
  have ap_v_runners_g0 := apart_new Runner.cells_length (by omega) (sl_up Runner.cells_length h_v_runners (by repeat (first | with_reducible (first | exact World.gained_refl _ | exact ⟨_, rfl⟩ | apply gain_ext | apply gain_alloc | apply gain_drewN | apply gain_drew) | (refine gain_setCell ?_ (by first | exact Nat.le_refl _ | exact World.size_ext _ _ | (simp; done) | (simp; omega)) _)))) h_g0
  have ap_v_list_g0 := apart_new Ent.cells_length (by omega) (sl_up Ent.cells_length h_v_list (by repeat (first | with_reducible (first | exact World.gained_refl _ | exact ⟨_, rfl⟩ | apply gain_ext | apply gain_alloc | apply gain_drewN | apply gain_drew) | (refine gain_setCell ?_ (by first | exact Nat.le_refl _ | exact World.size_ext _ _ | (simp; done) | (simp; omega)) _)))) h_g0
  have ap_b_f_g0 := apart_new Fees.cells_length (by omega) (sl_up Fees.cells_length h_b_f (by repeat (first | with_reducible (first | exact World.gained_refl _ | exact ⟨_, rfl⟩ | apply gain_ext | apply gain_alloc | apply gain_drewN | apply gain_drew) | (refine gain_setCell ?_ (by first | exact Nat.le_refl _ | exact World.size_ext _ _ | (simp; done) | (simp; omega)) _)))) h_g0
  have ap_w0_g0 := apart2_new (own_up h_w0 (by repeat (first | with_reducible (first | exact World.gained_refl _ | exact ⟨_, rfl⟩ | apply gain_ext | apply gain_alloc | apply gain_drewN | apply gain_drew) | (refine gain_setCell ?_ (by first | exact Nat.le_refl _ | exact World.size_ext _ _ | (simp; done) | (simp; omega)) _)))) h_g0
  have ap_x_runners_g0 := apart2_new (own_up h_x_runners (by repeat (first | with_reducible (first | exact World.gained_refl _ | exact ⟨_, rfl⟩ | apply gain_ext | apply gain_alloc | apply gain_drewN | apply gain_drew) | (refine gain_setCell ?_ (by first | exact Nat.le_refl _ | exact World.size_ext _ _ | (simp; done) | (simp; omega)) _)))) h_g0
  have ap_x_list_g0 := apart2_new (own_up h_x_list (by repeat (first | with_reducible (first | exact World.gained_refl _ | exact ⟨_, rfl⟩ | apply gain_ext | apply gain_alloc | apply gain_drewN | apply gain_drew) | (refine gain_setCell ?_ (by first | exact Nat.le_refl _ | exact World.size_ext _ _ | (simp; done) | (simp; omega)) _)))) h_g0
  go_wp2_with fail
  refine (eqIntS_same _ _ (openL f l_runners l_list) _ (sl_up intC_length (sl_of_own intC_length h_g0) (by repeat (first | with_reducible (first | exact World.gained_refl _ | exact ⟨_, rfl⟩ | apply gain_ext | apply gain_alloc | apply gain_drewN | apply gain_drew) | (refine gain_setCell ?_ (by first | exact Nat.le_refl _ | exact World.size_ext _ _ | (simp; done) | (simp; omega)) _)))) (sl_up intC_length (sl_of_own intC_length h_w0) (by repeat (first | with_reducible (first | exact World.gained_refl _ | exact ⟨_, rfl⟩ | apply gain_ext | apply gain_alloc | apply gain_drewN | apply gain_drew) | (refine gain_setCell ?_ (by first | exact Nat.le_refl _ | exact World.size_ext _ _ | (simp; done) | (simp; omega)) _)))) (openL_length f l_runners l_list hl_list)).mono ?_
  rintro e w1 ⟨rfl, d10, rfl⟩
  go_wp2_with fail
  refine (toRunnerS_any _ l_runners _ (sl_up Runner.cells_length h_v_runners (by repeat (first | with_reducible (first | exact World.gained_refl _ | exact ⟨_, rfl⟩ | apply gain_ext | apply gain_alloc | apply gain_drewN | apply gain_drew) | (refine gain_setCell ?_ (by first | exact Nat.le_refl _ | exact World.size_ext _ _ | (simp; done) | (simp; omega)) _)))) hl_runners).mono ?_
  rintro e w1 ⟨t_runners, rfl, ⟨d11, rfl⟩, h_t_runners⟩
  go_wp2_with fail
  refine (eqRunnerS_same _ _ l_runners _ (sl_up Runner.cells_length (sl_of_own Runner.cells_length h_x_runners) (by repeat (first | with_reducible (first | exact World.gained_refl _ | exact ⟨_, rfl⟩ | apply gain_ext | apply gain_alloc | apply gain_drewN | apply gain_drew) | (refine gain_setCell ?_ (by first | exact Nat.le_refl _ | exact World.size_ext _ _ | (simp; done) | (simp; omega)) _)))) (sl_up Runner.cells_length (sl_of_own Runner.cells_length h_t_runners) (by repeat (first | with_reducible (first | exact World.gained_refl _ | exact ⟨_, rfl⟩ | apply gain_ext | apply gain_alloc | apply gain_drewN | apply gain_drew) | (refine gain_setCell ?_ (by first | exact Nat.le_refl _ | exact World.size_ext _ _ | (simp; done) | (simp; omega)) _)))) hl_runners).mono ?_
  rintro e w1 ⟨rfl, d12, rfl⟩
  clear h_t_runners
  go_wp2_with fail
  refine (toEntryS_any _ l_list _ (sl_up Ent.cells_length h_v_list (by repeat (first | with_reducible (first | exact World.gained_refl _ | exact ⟨_, rfl⟩ | apply gain_ext | apply gain_alloc | apply gain_drewN | apply gain_drew) | (refine gain_setCell ?_ (by first | exact Nat.le_refl _ | exact World.size_ext _ _ | (simp; done) | (simp; omega)) _)))) hl_list).mono ?_
  rintro e w1 ⟨t_list, rfl, ⟨d13, rfl⟩, h_t_list⟩
  go_wp2_with fail
  refine (eqEntryS_same _ _ l_list _ (sl_up Ent.cells_length (sl_of_own Ent.cells_length h_x_list) (by repeat (first | with_reducible (first | exact World.gained_refl _ | exact ⟨_, rfl⟩ | apply gain_ext | apply gain_alloc | apply gain_drewN | apply gain_drew) | (refine gain_setCell ?_ (by first | exact Nat.le_refl _ | exact World.size_ext _ _ | (simp; done) | (simp; omega)) _)))) (sl_up Ent.cells_length (sl_of_own Ent.cells_length h_t_list) (by repeat (first | with_reducible (first | exact World.gained_refl _ | exact ⟨_, rfl⟩ | apply gain_ext | apply gain_alloc | apply gain_drewN | apply gain_drew) | (refine gain_setCell ?_ (by first | exact Nat.le_refl _ | exact World.size_ext _ _ | (simp; done) | (simp; omega)) _)))) hl_list).mono ?_
  rintro e w1 ⟨rfl, d14, rfl⟩
  clear h_t_list
  go_wp2_with fail
  refine (markRunnerS_any w _ _ l_runners _ _ _ (by omega) (by omega) hl_runners rfl (own_up h_x_runners (by repeat (first | with_reducible (first | exact World.gained_refl _ | exact ⟨_, rfl⟩ | apply gain_ext | apply gain_alloc | apply gain_drewN | apply gain_drew) | (refine gain_setCell ?_ (by first | exact Nat.le_refl _ | exact World.size_ext _ _ | (simp; done) | (simp; omega)) _)))) (by repeat (first | with_reducible (first | exact World.gained_refl _ | exact ⟨_, rfl⟩ | apply gain_ext | apply gain_alloc | apply gain_drewN | apply gain_drew) | (refine gain_setCell ?_ (by first | exact Nat.le_refl _ | exact World.size_ext _ _ | (simp; done) | (simp; omega)) _))) (gain_size (by repeat (first | with_reducible (first | exact World.gained_refl _ | exact ⟨_, rfl⟩ | apply gain_ext | apply gain_alloc | apply gain_drewN | apply gain_drew) | (refine gain_setCell ?_ (by first | exact Nat.le_refl _ | exact World.size_ext _ _ | (simp; done) | (simp; omega)) _))))).mono ?_
  rintro e w1 ⟨rfl, hm_x_runners, hgr, d15, rfl⟩
  replace h_b_f := sl_mark Fees.cells_length (sl_up Fees.cells_length h_b_f (by repeat (first | with_reducible (first | exact World.gained_refl _ | exact ⟨_, rfl⟩ | apply gain_ext | apply gain_alloc | apply gain_drewN | apply gain_drew) | (refine gain_setCell ?_ (by first | exact Nat.le_refl _ | exact World.size_ext _ _ | (simp; done) | (simp; omega)) _)))) hgr ap_b_f_x_runners
  replace h_w0 := own_mark (own_up h_w0 (by repeat (first | with_reducible (first | exact World.gained_refl _ | exact ⟨_, rfl⟩ | apply gain_ext | apply gain_alloc | apply gain_drewN | apply gain_drew) | (refine gain_setCell ?_ (by first | exact Nat.le_refl _ | exact World.size_ext _ _ | (simp; done) | (simp; omega)) _)))) hgr ap_w0_x_runners
  replace h_x_list := own_mark (own_up h_x_list (by repeat (first | with_reducible (first | exact World.gained_refl _ | exact ⟨_, rfl⟩ | apply gain_ext | apply gain_alloc | apply gain_drewN | apply gain_drew) | (refine gain_setCell ?_ (by first | exact Nat.le_refl _ | exact World.size_ext _ _ | (simp; done) | (simp; omega)) _)))) hgr ap_x_runners_x_list.symm
  replace h_g0 := own_mark (own_up h_g0 (by repeat (first | with_reducible (first | exact World.gained_refl _ | exact ⟨_, rfl⟩ | apply gain_ext | apply gain_alloc | apply gain_drewN | apply gain_drew) | (refine gain_setCell ?_ (by first | exact Nat.le_refl _ | exact World.size_ext _ _ | (simp; done) | (simp; omega)) _)))) hgr ap_x_runners_g0.symm
  clear h_x_runners hgr
  clear c_f_0
  clear c_f_1
  clear c_f_2
  clear c_f_3
  have c_f_0 : (w.ext d15).cell? ⟨w.heap.size, 0, none⟩ = some (.int .i64 f.adult) := by have := sl_cells h_b_f (k := 0) (by simp) (j := 0) (by omega); first | (simp; done) | simpa [Fees.cells] using this
  have c_f_1 : (w.ext d15).cell? ⟨w.heap.size, 1, none⟩ = some (.int .i64 f.child) := by have := sl_cells h_b_f (k := 0) (by simp) (j := 1) (by omega); first | (simp; done) | simpa [Fees.cells] using this
  have c_f_2 : (w.ext d15).cell? ⟨w.heap.size, 2, none⟩ = some (.int .i64 f.rent) := by have := sl_cells h_b_f (k := 0) (by simp) (j := 2) (by omega); first | (simp; done) | simpa [Fees.cells] using this
  have c_f_3 : (w.ext d15).cell? ⟨w.heap.size, 3, none⟩ = some (.int .i64 f.late) := by have := sl_cells h_b_f (k := 0) (by simp) (j := 3) (by omega); first | (simp; done) | simpa [Fees.cells] using this
  have nb_f : w.newB d15 w.heap.size := World.oldB_of_cell c_f_0
  go_wp2_with fail
  refine (markEntryS_any w _ _ l_list _ _ _ (by omega) (by omega) hl_list rfl (own_up h_x_list (by repeat (first | with_reducible (first | exact World.gained_refl _ | exact ⟨_, rfl⟩ | apply gain_ext | apply gain_alloc | apply gain_drewN | apply gain_drew) | (refine gain_setCell ?_ (by first | exact Nat.le_refl _ | exact World.size_ext _ _ | (simp; done) | (simp; omega)) _)))) (by repeat (first | with_reducible (first | exact World.gained_refl _ | exact ⟨_, rfl⟩ | apply gain_ext | apply gain_alloc | apply gain_drewN | apply gain_drew) | (refine gain_setCell ?_ (by first | exact Nat.le_refl _ | exact World.size_ext _ _ | (simp; done) | (simp; omega)) _))) (gain_size (by repeat (first | with_reducible (first | exact World.gained_refl _ | exact ⟨_, rfl⟩ | apply gain_ext | apply gain_alloc | apply gain_drewN | apply gain_drew) | (refine gain_setCell ?_ (by first | exact Nat.le_refl _ | exact World.size_ext _ _ | (simp; done) | (simp; omega)) _))))).mono ?_
  rintro e w1 ⟨rfl, hm_x_list, hgr, d16, rfl⟩
  replace h_b_f := sl_mark Fees.cells_length (sl_up Fees.cells_length h_b_f (by repeat (first | with_reducible (first | exact World.gained_refl _ | exact ⟨_, rfl⟩ | apply gain_ext | apply gain_alloc | apply gain_drewN | apply gain_drew) | (refine gain_setCell ?_ (by first | exact Nat.le_refl _ | exact World.size_ext _ _ | (simp; done) | (simp; omega)) _)))) hgr ap_b_f_x_list
  replace h_w0 := own_mark (own_up h_w0 (by repeat (first | with_reducible (first | exact World.gained_refl _ | exact ⟨_, rfl⟩ | apply gain_ext | apply gain_alloc | apply gain_drewN | apply gain_drew) | (refine gain_setCell ?_ (by first | exact Nat.le_refl _ | exact World.size_ext _ _ | (simp; done) | (simp; omega)) _)))) hgr ap_w0_x_list
  replace hm_x_runners := own_mark (own_up hm_x_runners (by repeat (first | with_reducible (first | exact World.gained_refl _ | exact ⟨_, rfl⟩ | apply gain_ext | apply gain_alloc | apply gain_drewN | apply gain_drew) | (refine gain_setCell ?_ (by first | exact Nat.le_refl _ | exact World.size_ext _ _ | (simp; done) | (simp; omega)) _)))) hgr ap_x_runners_x_list
  replace h_g0 := own_mark (own_up h_g0 (by repeat (first | with_reducible (first | exact World.gained_refl _ | exact ⟨_, rfl⟩ | apply gain_ext | apply gain_alloc | apply gain_drewN | apply gain_drew) | (refine gain_setCell ?_ (by first | exact Nat.le_refl _ | exact World.size_ext _ _ | (simp; done) | (simp; omega)) _)))) hgr ap_x_list_g0.symm
  clear h_x_list hgr
  clear c_f_0
  clear c_f_1
  clear c_f_2
  clear c_f_3
  have c_f_0 : (w.ext d16).cell? ⟨w.heap.size, 0, none⟩ = some (.int .i64 f.adult) := by have := sl_cells h_b_f (k := 0) (by simp) (j := 0) (by omega); first | (simp; done) | simpa [Fees.cells] using this
  have c_f_1 : (w.ext d16).cell? ⟨w.heap.size, 1, none⟩ = some (.int .i64 f.child) := by have := sl_cells h_b_f (k := 0) (by simp) (j := 1) (by omega); first | (simp; done) | simpa [Fees.cells] using this
  have c_f_2 : (w.ext d16).cell? ⟨w.heap.size, 2, none⟩ = some (.int .i64 f.rent) := by have := sl_cells h_b_f (k := 0) (by simp) (j := 2) (by omega); first | (simp; done) | simpa [Fees.cells] using this
  have c_f_3 : (w.ext d16).cell? ⟨w.heap.size, 3, none⟩ = some (.int .i64 f.late) := by have := sl_cells h_b_f (k := 0) (by simp) (j := 3) (by omega); first | (simp; done) | simpa [Fees.cells] using this
  clear nb_f
  have nb_f : w.newB d16 w.heap.size := World.oldB_of_cell c_f_0
  clear hm_x_runners
  clear hm_x_list
  go_wp2_with fail
  refine (eqIntS_same _ _ (openL f l_runners l_list) _ (sl_up intC_length (sl_of_own intC_length h_g0) (by repeat (first | with_reducible (first | exact World.gained_refl _ | exact ⟨_, rfl⟩ | apply gain_ext | apply gain_alloc | apply gain_drewN | apply gain_drew) | (refine gain_setCell ?_ (by first | exact Nat.le_refl _ | exact World.size_ext _ _ | (simp; done) | (simp; omega)) _)))) (sl_up intC_length (sl_of_own intC_length h_w0) (by repeat (first | with_reducible (first | exact World.gained_refl _ | exact ⟨_, rfl⟩ | apply gain_ext | apply gain_alloc | apply gain_drewN | apply gain_drew) | (refine gain_setCell ?_ (by first | exact Nat.le_refl _ | exact World.size_ext _ _ | (simp; done) | (simp; omega)) _)))) (openL_length f l_runners l_list hl_list)).mono ?_
  rintro e w1 ⟨rfl, d17, rfl⟩
  go_wp2_with fail
  refine (markIntS_any w _ _ (openL f l_runners l_list) _ _ 1 (by omega) (by omega) (openL_length f l_runners l_list hl_list) rfl (own_up h_g0 (by repeat (first | with_reducible (first | exact World.gained_refl _ | exact ⟨_, rfl⟩ | apply gain_ext | apply gain_alloc | apply gain_drewN | apply gain_drew) | (refine gain_setCell ?_ (by first | exact Nat.le_refl _ | exact World.size_ext _ _ | (simp; done) | (simp; omega)) _)))) (by repeat (first | with_reducible (first | exact World.gained_refl _ | exact ⟨_, rfl⟩ | apply gain_ext | apply gain_alloc | apply gain_drewN | apply gain_drew) | (refine gain_setCell ?_ (by first | exact Nat.le_refl _ | exact World.size_ext _ _ | (simp; done) | (simp; omega)) _))) (gain_size (by repeat (first | with_reducible (first | exact World.gained_refl _ | exact ⟨_, rfl⟩ | apply gain_ext | apply gain_alloc | apply gain_drewN | apply gain_drew) | (refine gain_setCell ?_ (by first | exact Nat.le_refl _ | exact World.size_ext _ _ | (simp; done) | (simp; omega)) _))))).mono ?_
  rintro e w1 ⟨rfl, hm_g0, hgr, d18, rfl⟩
  replace h_b_f := sl_mark Fees.cells_length (sl_up Fees.cells_length h_b_f (by repeat (first | with_reducible (first | exact World.gained_refl _ | exact ⟨_, rfl⟩ | apply gain_ext | apply gain_alloc | apply gain_drewN | apply gain_drew) | (refine gain_setCell ?_ (by first | exact Nat.le_refl _ | exact World.size_ext _ _ | (simp; done) | (simp; omega)) _)))) hgr ap_b_f_g0
  replace h_w0 := own_mark (own_up h_w0 (by repeat (first | with_reducible (first | exact World.gained_refl _ | exact ⟨_, rfl⟩ | apply gain_ext | apply gain_alloc | apply gain_drewN | apply gain_drew) | (refine gain_setCell ?_ (by first | exact Nat.le_refl _ | exact World.size_ext _ _ | (simp; done) | (simp; omega)) _)))) hgr ap_w0_g0
  clear h_g0 hgr
  clear c_f_0
  clear c_f_1
  clear c_f_2
  clear c_f_3
  have c_f_0 : (w.ext d18).cell? ⟨w.heap.size, 0, none⟩ = some (.int .i64 f.adult) := by have := sl_cells h_b_f (k := 0) (by simp) (j := 0) (by omega); first | (simp; done) | simpa [Fees.cells] using this
  have c_f_1 : (w.ext d18).cell? ⟨w.heap.size, 1, none⟩ = some (.int .i64 f.child) := by have := sl_cells h_b_f (k := 0) (by simp) (j := 1) (by omega); first | (simp; done) | simpa [Fees.cells] using this
  have c_f_2 : (w.ext d18).cell? ⟨w.heap.size, 2, none⟩ = some (.int .i64 f.rent) := by have := sl_cells h_b_f (k := 0) (by simp) (j := 2) (by omega); first | (simp; done) | simpa [Fees.cells] using this
  have c_f_3 : (w.ext d18).cell? ⟨w.heap.size, 3, none⟩ = some (.int .i64 f.late) := by have := sl_cells h_b_f (k := 0) (by simp) (j := 3) (by omega); first | (simp; done) | simpa [Fees.cells] using this
  clear nb_f
  have nb_f : w.newB d18 w.heap.size := World.oldB_of_cell c_f_0
  go_wp2_with fail
  refine (heldIntS_any _ _ _ 1 (by omega) (by omega) (openL_length f l_runners l_list hl_list) (sl_up intC_length (sl_of_own intC_length hm_g0) (by repeat (first | with_reducible (first | exact World.gained_refl _ | exact ⟨_, rfl⟩ | apply gain_ext | apply gain_alloc | apply gain_drewN | apply gain_drew) | (refine gain_setCell ?_ (by first | exact Nat.le_refl _ | exact World.size_ext _ _ | (simp; done) | (simp; omega)) _))))).mono ?_
  rintro e w1 ⟨rfl, d19, rfl⟩
  go_wp2_with fail
  refine (toFees_any _ _ _ _ _).mono ?_
  rintro e w1 ⟨rfl, d21, rfl⟩
  go_wp2_with fail
  refine (toRunnerS_any _ l_runners _ (sl_up Runner.cells_length h_v_runners (by repeat (first | with_reducible (first | exact World.gained_refl _ | exact ⟨_, rfl⟩ | apply gain_ext | apply gain_alloc | apply gain_drewN | apply gain_drew) | (refine gain_setCell ?_ (by first | exact Nat.le_refl _ | exact World.size_ext _ _ | (simp; done) | (simp; omega)) _)))) hl_runners).mono ?_
  rintro e w1 ⟨y_runners, rfl, ⟨d22, rfl⟩, h_y_runners⟩
  go_wp2_with fail
  refine (toEntryS_any _ l_list _ (sl_up Ent.cells_length h_v_list (by repeat (first | with_reducible (first | exact World.gained_refl _ | exact ⟨_, rfl⟩ | apply gain_ext | apply gain_alloc | apply gain_drewN | apply gain_drew) | (refine gain_setCell ?_ (by first | exact Nat.le_refl _ | exact World.size_ext _ _ | (simp; done) | (simp; omega)) _)))) hl_list).mono ?_
  rintro e w1 ⟨y_list, rfl, ⟨d23, rfl⟩, h_y_list⟩
  go_wp2_with fail
  refine (openSums_any f _ _ l_runners l_list _ (sl_up Runner.cells_length (sl_of_own Runner.cells_length h_y_runners) (by repeat (first | with_reducible (first | exact World.gained_refl _ | exact ⟨_, rfl⟩ | apply gain_ext | apply gain_alloc | apply gain_drewN | apply gain_drew) | (refine gain_setCell ?_ (by first | exact Nat.le_refl _ | exact World.size_ext _ _ | (simp; done) | (simp; omega)) _)))) hl_runners hq_runners (sl_up Ent.cells_length (sl_of_own Ent.cells_length h_y_list) (by repeat (first | with_reducible (first | exact World.gained_refl _ | exact ⟨_, rfl⟩ | apply gain_ext | apply gain_alloc | apply gain_drewN | apply gain_drew) | (refine gain_setCell ?_ (by first | exact Nat.le_refl _ | exact World.size_ext _ _ | (simp; done) | (simp; omega)) _)))) hl_list).mono ?_
  rintro e w1 ⟨h0, rfl, ⟨d20, rfl⟩, h_h0⟩
  go_wp2_with fail
  refine (eqIntS_same _ _ (openL f l_runners l_list) _ (sl_up intC_length (sl_of_own intC_length h_h0) (by repeat (first | with_reducible (first | exact World.gained_refl _ | exact ⟨_, rfl⟩ | apply gain_ext | apply gain_alloc | apply gain_drewN | apply gain_drew) | (refine gain_setCell ?_ (by first | exact Nat.le_refl _ | exact World.size_ext _ _ | (simp; done) | (simp; omega)) _)))) (sl_up intC_length (sl_of_own intC_length h_w0) (by repeat (first | with_reducible (first | exact World.gained_refl _ | exact ⟨_, rfl⟩ | apply gain_ext | apply gain_alloc | apply gain_drewN | apply gain_drew) | (refine gain_setCell ?_ (by first | exact Nat.le_refl _ | exact World.size_ext _ _ | (simp; done) | (simp; omega)) _)))) (openL_length f l_runners l_list hl_list)).mono ?_
  rintro e w1 ⟨rfl, d24, rfl⟩
  go_wp2_with fail
  refine (heldIntS_any _ _ _ 1 (by omega) (by omega) (openL_length f l_runners l_list hl_list) (sl_up intC_length (sl_of_own intC_length hm_g0) (by repeat (first | with_reducible (first | exact World.gained_refl _ | exact ⟨_, rfl⟩ | apply gain_ext | apply gain_alloc | apply gain_drewN | apply gain_drew) | (refine gain_setCell ?_ (by first | exact Nat.le_refl _ | exact World.size_ext _ _ | (simp; done) | (simp; omega)) _))))).mono ?_
  rintro e w1 ⟨rfl, d25, rfl⟩
  go_wp2
  go_ret
  exact ⟨rfl, (by repeat (first | with_reducible (first | exact World.gained_refl _ | exact ⟨_, rfl⟩ | apply gain_ext | apply gain_alloc | apply gain_drewN | apply gain_drew) | (refine gain_setCell ?_ (by first | exact Nat.le_refl _ | exact World.size_ext _ _ | (simp; done) | (simp; omega)) _)))⟩
set_option maxRecDepth 100000 in
theorem fnExactOpenSums_lifted (os : Os) (started : os.Started) (H : Type) (enc : TypeId × Value → H) :
    ReturnsInHanded {} Try.checked os 11 .any (Rows.fnExactOpenSumsSpec.pre6 enc Try.prog Try.f11 Rows.fnExactOpenSumsRow.domain false) (Rows.fnExactOpenSumsSpec.post enc Try.prog Try.f11 false true false false) := by
  refine returnsInHanded_of_change (C := Try.checked) (by kernel_rfl) started (by kernel_rfl) Try.func11
    (ChangeSpec.witness6 (enc := enc) (C := Try.checked) false ⟨#[], #[.agg #[.int .i64 0, .int .i64 0, .int .i64 0, .int .i64 0], .slice none 0 0, .slice none 0 0], []⟩ 8 (by kernel_rfl) (by kernel_rfl) (by kernel_rfl) (by kernel_rfl)) ?_
  intro W base args ds gs before hval0 hW _ _
  have hval : ∀ (j : Nat) t v, Try.f11.params[j]? = some t → args[j]? = some v → Value.okWide Try.prog W .any base t v := hval0
  clear hval0
  have laidOut : laidOutB Try.prog = true := by as_aux_lemma => kernel_rfl
  have hWc := hW
  obtain ⟨p, q, hA0, hV, rfl, _, _⟩ := hWc
  have hA : DataW.TrodAll enc Try.prog W 0 (fun _ => true) true Try.f11.params.toList args.toList ds p := hA0
  clear hA0
  rw [Try.params11] at hA hval
  obtain ⟨v0, vs0, d0, ds0, p0, q0, hargs, rfl, rfl, h0, r0⟩ := trodAll_cons hA
  obtain ⟨v1, vs1, d1, ds1, p1, q1, rfl, rfl, rfl, h1, r1⟩ := trodAll_cons r0
  obtain ⟨v2, vs2, d2, ds2, p2, q2, rfl, rfl, rfl, h2, r2⟩ := trodAll_cons r1
  obtain ⟨rfl, rfl, rfl⟩ := trodAll_nil r2
  obtain rfl : args = #[v0, v1, v2] := by cases args; simp_all
  obtain ⟨rfl, rfl⟩ := trodVars_none hV
  obtain ⟨n0, rfl⟩ := read_Fees (hval 0 45 v0 rfl rfl) h0
  obtain ⟨l1, hs1, hm1, hq1⟩ := read_Runners (hval 1 46 v1 rfl rfl) h1
  obtain ⟨l2, hs2, hm2⟩ := read_Ents (hval 2 22 v2 rfl rfl) h2
  refine (fnExactOpenSums_walk n0 v1 l1 v2 l2 W hs1 hm1 hq1 hs2 hm2).mono fun e W1 ⟨he, hg⟩ => ?_
  subst he
  exact ⟨_, rfl, law_post (tb := 4) laidOut (by kernel_rfl) hW rfl rfl (by kernel_rfl) Try.underlying4 hg⟩
theorem fnExactOpenSums_holds : Rows.FnExactOpenSumsSaid :=
  OpenClaim.holds_of_wide 11 Try.f11 rfl rfl rfl rfl rfl rfl rfl ⟨rfl, rfl, rfl, rfl, rfl⟩ rfl rfl rfl rfl rfl (by kernel_rfl) Try.func11 (by kernel_rfl)
    (of_decide_eq_true (by kernel_rfl)) (by unfold Func.isWrapper; first | (rw [if_pos (by decide +kernel)]; kernel_rfl) | (rw [if_neg (by decide +kernel)]; exact ⟨rfl, rfl⟩))
    (fun os started H enc _ => fnExactOpenSums_lifted os started H enc)
#print axioms fnExactOpenSums_holds
end Go.Proofs.Ytohmefblkfophaa
