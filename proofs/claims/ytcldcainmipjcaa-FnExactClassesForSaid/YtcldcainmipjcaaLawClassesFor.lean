/- FnExactClassesFor returns true for every argument. No condition. -/
import Derived.Test.YtcldcainmipjcaaClassesFor
import Derived.Test.YtcldcainmipjcaaToClsS
import Derived.Test.YtcldcainmipjcaaEqClsS
import Derived.Test.YtcldcainmipjcaaSzClsS
import Derived.Test.YtcldcainmipjcaaRdClsS
import Derived.Test.YtcldcainmipjcaaMarkClsS
import Derived.Test.YtcldcainmipjcaaMarkIntS
import Derived.Test.YtcldcainmipjcaaEqIntS
import Derived.Test.YtcldcainmipjcaaToRunner
import Derived.Test.YtcldcainmipjcaaSzRunner
import Derived.Test.YtcldcainmipjcaaRdRunner
namespace Go.Proofs.Ytcldcainmipjcaa
open Go.ChangeShapes Go.WideShapes Go.ChangeAt Go.RowKit Go.Ori
set_option maxHeartbeats 4000000 in
theorem fnExactClassesFor_walk (v_list : Value) (l_list : List Cls) (r : Runner) (w : World) (h_v_list : w.sl Cls.cells 8 v_list l_list) (hm_list : l_list.length ≤ 9223372036854775807) (hq_list : ∀ x ∈ l_list, Cls.ok x) (ho_r : Runner.ok r) :
    Calls Try.prog 8 #[v_list, .agg #[.int .i64 r.id, .string r.name, .string r.club, .int .i64 r.born, .bool r.woman, .int .i64 r.card]] w fun x w' => x = .returned (.bool true) ∧ ∃ d, w' = w.ext d := by
  obtain ⟨p_list, c_list, hv_list, _⟩ := id h_v_list
  subst hv_list
  go_enter Try.func8, Try.ntmps8
  have h_b_r : (w.alloc (.cells #[.int .i64 r.id, .string r.name, .string r.club, .int .i64 r.born, .bool r.woman, .int .i64 r.card] 30)).sl Runner.cells 6 (.slice (some ⟨w.heap.size, 0, none⟩) 1 1) [r] := sl_lit (w := w) (l := [r]) Runner.cells_length rfl (by simp)
  replace h_b_r : (w.alloc (.cells #[.int .i64 r.id, .string r.name, .string r.club, .int .i64 r.born, .bool r.woman, .int .i64 r.card] 30)).sl Runner.cells 6 (.slice (some ⟨w.heap.size, 0, none⟩) 1 1) [r] := (sl_up Runner.cells_length h_b_r (by repeat (first | with_reducible (first | exact World.gained_refl _ | exact ⟨_, rfl⟩ | apply gain_ext | apply gain_alloc | apply gain_drewN | apply gain_drew) | (refine gain_setCell ?_ (by first | exact Nat.le_refl _ | exact World.size_ext _ _ | (simp; done) | (simp; omega)) _))))
  have c_r_0 : (w.alloc (.cells #[.int .i64 r.id, .string r.name, .string r.club, .int .i64 r.born, .bool r.woman, .int .i64 r.card] 30)).cell? ⟨w.heap.size, 0, none⟩ = some (.int .i64 r.id) := by have := sl_cells h_b_r (k := 0) (by simp) (j := 0) (by omega); first | (simp; done) | simpa [Runner.cells] using this
  have c_r_1 : (w.alloc (.cells #[.int .i64 r.id, .string r.name, .string r.club, .int .i64 r.born, .bool r.woman, .int .i64 r.card] 30)).cell? ⟨w.heap.size, 1, none⟩ = some (.string r.name) := by have := sl_cells h_b_r (k := 0) (by simp) (j := 1) (by omega); first | (simp; done) | simpa [Runner.cells] using this
  have c_r_2 : (w.alloc (.cells #[.int .i64 r.id, .string r.name, .string r.club, .int .i64 r.born, .bool r.woman, .int .i64 r.card] 30)).cell? ⟨w.heap.size, 2, none⟩ = some (.string r.club) := by have := sl_cells h_b_r (k := 0) (by simp) (j := 2) (by omega); first | (simp; done) | simpa [Runner.cells] using this
  have c_r_3 : (w.alloc (.cells #[.int .i64 r.id, .string r.name, .string r.club, .int .i64 r.born, .bool r.woman, .int .i64 r.card] 30)).cell? ⟨w.heap.size, 3, none⟩ = some (.int .i64 r.born) := by have := sl_cells h_b_r (k := 0) (by simp) (j := 3) (by omega); first | (simp; done) | simpa [Runner.cells] using this
  have c_r_4 : (w.alloc (.cells #[.int .i64 r.id, .string r.name, .string r.club, .int .i64 r.born, .bool r.woman, .int .i64 r.card] 30)).cell? ⟨w.heap.size, 4, none⟩ = some (.bool r.woman) := by have := sl_cells h_b_r (k := 0) (by simp) (j := 4) (by omega); first | (simp; done) | simpa [Runner.cells] using this
  have c_r_5 : (w.alloc (.cells #[.int .i64 r.id, .string r.name, .string r.club, .int .i64 r.born, .bool r.woman, .int .i64 r.card] 30)).cell? ⟨w.heap.size, 5, none⟩ = some (.int .i64 r.card) := by have := sl_cells h_b_r (k := 0) (by simp) (j := 5) (by omega); first | (simp; done) | simpa [Runner.cells] using this
  go_wp2_with fail
  refine (szClassS_any _ l_list _ _ (sl_up Cls.cells_length h_v_list (by repeat (first | with_reducible (first | exact World.gained_refl _ | exact ⟨_, rfl⟩ | apply gain_ext | apply gain_alloc | apply gain_drewN | apply gain_drew) | (refine gain_setCell ?_ (by first | exact Nat.le_refl _ | exact World.size_ext _ _ | (simp; done) | (simp; omega)) _)))) hm_list hq_list (by omega) (by omega)).mono ?_
  rintro e w1 ⟨r_list, rfl, ⟨d1, rfl⟩, hr_list, hx_list⟩
  by_cases hp_list : ¬ 0 ≤ r_list
  · go_wp2
    go_ret
    exact ⟨rfl, (by repeat (first | with_reducible (first | exact World.gained_refl _ | exact ⟨_, rfl⟩ | apply gain_ext | apply gain_alloc | apply gain_drewN | apply gain_drew) | (refine gain_setCell ?_ (by first | exact Nat.le_refl _ | exact World.size_ext _ _ | (simp; done) | (simp; omega)) _)))⟩
  replace hp_list : 0 ≤ r_list := by omega
  have hl_list : l_list.length ≤ 1048576 := by have := hx_list hp_list; omega
  replace hq_list := (hx_list hp_list).2
  clear hx_list hm_list
  go_wp2_with fail
  refine (szRunner_any r _ _ ho_r (by omega) (by omega)).mono ?_
  rintro e w1 ⟨r_r, rfl, ⟨d2, rfl⟩, hr_r, hx_r⟩
  by_cases hp_r : ¬ 0 ≤ r_r
  · go_wp2
    go_ret
    exact ⟨rfl, (by repeat (first | with_reducible (first | exact World.gained_refl _ | exact ⟨_, rfl⟩ | apply gain_ext | apply gain_alloc | apply gain_drewN | apply gain_drew) | (refine gain_setCell ?_ (by first | exact Nat.le_refl _ | exact World.size_ext _ _ | (simp; done) | (simp; omega)) _)))⟩
  replace hp_r : 0 ≤ r_r := by omega
  have hs_r_1 := (hx_r hp_r).1
  have hs_r_2 := (hx_r hp_r).2
  clear hx_r
  go_upto_region 8 with fail
  go_region_held (fun w' => w'.cell? ⟨w.heap.size, 0, none⟩ = some (.int .i64 r.id) ∧ w'.cell? ⟨w.heap.size, 1, none⟩ = some (.string r.name) ∧ w'.cell? ⟨w.heap.size, 2, none⟩ = some (.string r.club) ∧ w'.cell? ⟨w.heap.size, 3, none⟩ = some (.int .i64 r.born) ∧ w'.cell? ⟨w.heap.size, 4, none⟩ = some (.bool r.woman) ∧ w'.cell? ⟨w.heap.size, 5, none⟩ = some (.int .i64 r.card)) (refine ⟨?_, ?_, ?_, ?_, ?_, ?_⟩ <;> (with_reducible (repeat (first | assumption | refine cell_ext ?_ _ | refine cell_drew ?_ | refine cell_alloc ?_ _)))) (first | (go_at_call 23; refine (toClassS_any _ l_list _ (sl_up Cls.cells_length h_v_list (by repeat (first | with_reducible (first | exact World.gained_refl _ | exact ⟨_, rfl⟩ | apply gain_ext | apply gain_alloc | apply gain_drewN | apply gain_drew) | (refine gain_setCell ?_ (by first | exact Nat.le_refl _ | exact World.size_ext _ _ | (simp; done) | (simp; omega)) _)))) hl_list).mono ?_; rintro e w1 ⟨u_list, rfl, ⟨d4, rfl⟩, h_u_list⟩) | (go_at_call 19; refine (toRunner_any _ _).mono ?_; rintro e w1 ⟨rfl, d5, rfl⟩) | (go_at_call 30; refine (specClassesFor_any _ l_list r _ (sl_up Cls.cells_length (sl_of_own Cls.cells_length h_u_list) (by repeat (first | with_reducible (first | exact World.gained_refl _ | exact ⟨_, rfl⟩ | apply gain_ext | apply gain_alloc | apply gain_drewN | apply gain_drew) | (refine gain_setCell ?_ (by first | exact Nat.le_refl _ | exact World.size_ext _ _ | (simp; done) | (simp; omega)) _)))) hl_list hq_list hs_r_1 hs_r_2).mono ?_; rintro e w1 ⟨w0, rfl, ⟨d3, rfl⟩, h_w0⟩))
  have ap_v_list_w0 := apart_new Cls.cells_length (by omega) (sl_up Cls.cells_length h_v_list (by repeat (first | with_reducible (first | exact World.gained_refl _ | exact ⟨_, rfl⟩ | apply gain_ext | apply gain_alloc | apply gain_drewN | apply gain_drew) | (refine gain_setCell ?_ (by first | exact Nat.le_refl _ | exact World.size_ext _ _ | (simp; done) | (simp; omega)) _)))) h_w0
  have ap_b_r_w0 := apart_new Runner.cells_length (by omega) (sl_up Runner.cells_length h_b_r (by repeat (first | with_reducible (first | exact World.gained_refl _ | exact ⟨_, rfl⟩ | apply gain_ext | apply gain_alloc | apply gain_drewN | apply gain_drew) | (refine gain_setCell ?_ (by first | exact Nat.le_refl _ | exact World.size_ext _ _ | (simp; done) | (simp; omega)) _)))) h_w0
  clear h_u_list
  go_wp2_with fail
  refine (toClassS_any _ l_list _ (sl_up Cls.cells_length h_v_list (by repeat (first | with_reducible (first | exact World.gained_refl _ | exact ⟨_, rfl⟩ | apply gain_ext | apply gain_alloc | apply gain_drewN | apply gain_drew) | (refine gain_setCell ?_ (by first | exact Nat.le_refl _ | exact World.size_ext _ _ | (simp; done) | (simp; omega)) _)))) hl_list).mono ?_
  rintro e w1 ⟨x_list, rfl, ⟨d6, rfl⟩, h_x_list⟩
  have ap_v_list_x_list := apart_new Cls.cells_length (by omega) (sl_up Cls.cells_length h_v_list (by repeat (first | with_reducible (first | exact World.gained_refl _ | exact ⟨_, rfl⟩ | apply gain_ext | apply gain_alloc | apply gain_drewN | apply gain_drew) | (refine gain_setCell ?_ (by first | exact Nat.le_refl _ | exact World.size_ext _ _ | (simp; done) | (simp; omega)) _)))) h_x_list
  have ap_b_r_x_list := apart_new Runner.cells_length (by omega) (sl_up Runner.cells_length h_b_r (by repeat (first | with_reducible (first | exact World.gained_refl _ | exact ⟨_, rfl⟩ | apply gain_ext | apply gain_alloc | apply gain_drewN | apply gain_drew) | (refine gain_setCell ?_ (by first | exact Nat.le_refl _ | exact World.size_ext _ _ | (simp; done) | (simp; omega)) _)))) h_x_list
  have ap_w0_x_list := apart2_new (own_up h_w0 (by repeat (first | with_reducible (first | exact World.gained_refl _ | exact ⟨_, rfl⟩ | apply gain_ext | apply gain_alloc | apply gain_drewN | apply gain_drew) | (refine gain_setCell ?_ (by first | exact Nat.le_refl _ | exact World.size_ext _ _ | (simp; done) | (simp; omega)) _)))) h_x_list
  go_wp2_with fail
  refine (toRunner_any _ _).mono ?_
  rintro e w1 ⟨rfl, d8, rfl⟩
  go_wp2_with fail
  refine (classesFor_any _ l_list r _ (sl_up Cls.cells_length (sl_of_own Cls.cells_length h_x_list) (by repeat (first | with_reducible (first | exact World.gained_refl _ | exact ⟨_, rfl⟩ | apply gain_ext | apply gain_alloc | apply gain_drewN | apply gain_drew) | (refine gain_setCell ?_ (by first | exact Nat.le_refl _ | exact World.size_ext _ _ | (simp; done) | (simp; omega)) _)))) hl_list hq_list hs_r_1 hs_r_2).mono ?_
  rintro e w1 ⟨g0, rfl, ⟨d7, rfl⟩, h_g0⟩
  have ap_v_list_g0 := apart_new Cls.cells_length (by omega) (sl_up Cls.cells_length h_v_list (by repeat (first | with_reducible (first | exact World.gained_refl _ | exact ⟨_, rfl⟩ | apply gain_ext | apply gain_alloc | apply gain_drewN | apply gain_drew) | (refine gain_setCell ?_ (by first | exact Nat.le_refl _ | exact World.size_ext _ _ | (simp; done) | (simp; omega)) _)))) h_g0
  have ap_b_r_g0 := apart_new Runner.cells_length (by omega) (sl_up Runner.cells_length h_b_r (by repeat (first | with_reducible (first | exact World.gained_refl _ | exact ⟨_, rfl⟩ | apply gain_ext | apply gain_alloc | apply gain_drewN | apply gain_drew) | (refine gain_setCell ?_ (by first | exact Nat.le_refl _ | exact World.size_ext _ _ | (simp; done) | (simp; omega)) _)))) h_g0
  have ap_w0_g0 := apart2_new (own_up h_w0 (by repeat (first | with_reducible (first | exact World.gained_refl _ | exact ⟨_, rfl⟩ | apply gain_ext | apply gain_alloc | apply gain_drewN | apply gain_drew) | (refine gain_setCell ?_ (by first | exact Nat.le_refl _ | exact World.size_ext _ _ | (simp; done) | (simp; omega)) _)))) h_g0
  have ap_x_list_g0 := apart2_new (own_up h_x_list (by repeat (first | with_reducible (first | exact World.gained_refl _ | exact ⟨_, rfl⟩ | apply gain_ext | apply gain_alloc | apply gain_drewN | apply gain_drew) | (refine gain_setCell ?_ (by first | exact Nat.le_refl _ | exact World.size_ext _ _ | (simp; done) | (simp; omega)) _)))) h_g0
  go_wp2_with fail
  refine (eqIntS_same _ _ (cfL l_list r) _ (sl_up intC_length (sl_of_own intC_length h_g0) (by repeat (first | with_reducible (first | exact World.gained_refl _ | exact ⟨_, rfl⟩ | apply gain_ext | apply gain_alloc | apply gain_drewN | apply gain_drew) | (refine gain_setCell ?_ (by first | exact Nat.le_refl _ | exact World.size_ext _ _ | (simp; done) | (simp; omega)) _)))) (sl_up intC_length (sl_of_own intC_length h_w0) (by repeat (first | with_reducible (first | exact World.gained_refl _ | exact ⟨_, rfl⟩ | apply gain_ext | apply gain_alloc | apply gain_drewN | apply gain_drew) | (refine gain_setCell ?_ (by first | exact Nat.le_refl _ | exact World.size_ext _ _ | (simp; done) | (simp; omega)) _)))) (cfL_length l_list r)).mono ?_
  rintro e w1 ⟨rfl, d9, rfl⟩
  go_wp2_with fail
  refine (toClassS_any _ l_list _ (sl_up Cls.cells_length h_v_list (by repeat (first | with_reducible (first | exact World.gained_refl _ | exact ⟨_, rfl⟩ | apply gain_ext | apply gain_alloc | apply gain_drewN | apply gain_drew) | (refine gain_setCell ?_ (by first | exact Nat.le_refl _ | exact World.size_ext _ _ | (simp; done) | (simp; omega)) _)))) hl_list).mono ?_
  rintro e w1 ⟨t_list, rfl, ⟨d10, rfl⟩, h_t_list⟩
  go_wp2_with fail
  refine (eqClassS_same _ _ l_list _ (sl_up Cls.cells_length (sl_of_own Cls.cells_length h_x_list) (by repeat (first | with_reducible (first | exact World.gained_refl _ | exact ⟨_, rfl⟩ | apply gain_ext | apply gain_alloc | apply gain_drewN | apply gain_drew) | (refine gain_setCell ?_ (by first | exact Nat.le_refl _ | exact World.size_ext _ _ | (simp; done) | (simp; omega)) _)))) (sl_up Cls.cells_length (sl_of_own Cls.cells_length h_t_list) (by repeat (first | with_reducible (first | exact World.gained_refl _ | exact ⟨_, rfl⟩ | apply gain_ext | apply gain_alloc | apply gain_drewN | apply gain_drew) | (refine gain_setCell ?_ (by first | exact Nat.le_refl _ | exact World.size_ext _ _ | (simp; done) | (simp; omega)) _)))) hl_list).mono ?_
  rintro e w1 ⟨rfl, d11, rfl⟩
  clear h_t_list
  go_wp2_with fail
  refine (markClassS_any w _ _ l_list _ _ _ (by omega) (by omega) hl_list rfl (own_up h_x_list (by repeat (first | with_reducible (first | exact World.gained_refl _ | exact ⟨_, rfl⟩ | apply gain_ext | apply gain_alloc | apply gain_drewN | apply gain_drew) | (refine gain_setCell ?_ (by first | exact Nat.le_refl _ | exact World.size_ext _ _ | (simp; done) | (simp; omega)) _)))) (by repeat (first | with_reducible (first | exact World.gained_refl _ | exact ⟨_, rfl⟩ | apply gain_ext | apply gain_alloc | apply gain_drewN | apply gain_drew) | (refine gain_setCell ?_ (by first | exact Nat.le_refl _ | exact World.size_ext _ _ | (simp; done) | (simp; omega)) _))) (gain_size (by repeat (first | with_reducible (first | exact World.gained_refl _ | exact ⟨_, rfl⟩ | apply gain_ext | apply gain_alloc | apply gain_drewN | apply gain_drew) | (refine gain_setCell ?_ (by first | exact Nat.le_refl _ | exact World.size_ext _ _ | (simp; done) | (simp; omega)) _))))).mono ?_
  rintro e w1 ⟨rfl, hm_x_list, hgr, d12, rfl⟩
  replace h_v_list := sl_mark Cls.cells_length (sl_up Cls.cells_length h_v_list (by repeat (first | with_reducible (first | exact World.gained_refl _ | exact ⟨_, rfl⟩ | apply gain_ext | apply gain_alloc | apply gain_drewN | apply gain_drew) | (refine gain_setCell ?_ (by first | exact Nat.le_refl _ | exact World.size_ext _ _ | (simp; done) | (simp; omega)) _)))) hgr ap_v_list_x_list
  replace h_b_r := sl_mark Runner.cells_length (sl_up Runner.cells_length h_b_r (by repeat (first | with_reducible (first | exact World.gained_refl _ | exact ⟨_, rfl⟩ | apply gain_ext | apply gain_alloc | apply gain_drewN | apply gain_drew) | (refine gain_setCell ?_ (by first | exact Nat.le_refl _ | exact World.size_ext _ _ | (simp; done) | (simp; omega)) _)))) hgr ap_b_r_x_list
  replace h_w0 := own_mark (own_up h_w0 (by repeat (first | with_reducible (first | exact World.gained_refl _ | exact ⟨_, rfl⟩ | apply gain_ext | apply gain_alloc | apply gain_drewN | apply gain_drew) | (refine gain_setCell ?_ (by first | exact Nat.le_refl _ | exact World.size_ext _ _ | (simp; done) | (simp; omega)) _)))) hgr ap_w0_x_list
  replace h_g0 := own_mark (own_up h_g0 (by repeat (first | with_reducible (first | exact World.gained_refl _ | exact ⟨_, rfl⟩ | apply gain_ext | apply gain_alloc | apply gain_drewN | apply gain_drew) | (refine gain_setCell ?_ (by first | exact Nat.le_refl _ | exact World.size_ext _ _ | (simp; done) | (simp; omega)) _)))) hgr ap_x_list_g0.symm
  clear h_x_list hgr
  clear c_r_0
  clear c_r_1
  clear c_r_2
  clear c_r_3
  clear c_r_4
  clear c_r_5
  have c_r_0 : (w.ext d12).cell? ⟨w.heap.size, 0, none⟩ = some (.int .i64 r.id) := by have := sl_cells h_b_r (k := 0) (by simp) (j := 0) (by omega); first | (simp; done) | simpa [Runner.cells] using this
  have c_r_1 : (w.ext d12).cell? ⟨w.heap.size, 1, none⟩ = some (.string r.name) := by have := sl_cells h_b_r (k := 0) (by simp) (j := 1) (by omega); first | (simp; done) | simpa [Runner.cells] using this
  have c_r_2 : (w.ext d12).cell? ⟨w.heap.size, 2, none⟩ = some (.string r.club) := by have := sl_cells h_b_r (k := 0) (by simp) (j := 2) (by omega); first | (simp; done) | simpa [Runner.cells] using this
  have c_r_3 : (w.ext d12).cell? ⟨w.heap.size, 3, none⟩ = some (.int .i64 r.born) := by have := sl_cells h_b_r (k := 0) (by simp) (j := 3) (by omega); first | (simp; done) | simpa [Runner.cells] using this
  have c_r_4 : (w.ext d12).cell? ⟨w.heap.size, 4, none⟩ = some (.bool r.woman) := by have := sl_cells h_b_r (k := 0) (by simp) (j := 4) (by omega); first | (simp; done) | simpa [Runner.cells] using this
  have c_r_5 : (w.ext d12).cell? ⟨w.heap.size, 5, none⟩ = some (.int .i64 r.card) := by have := sl_cells h_b_r (k := 0) (by simp) (j := 5) (by omega); first | (simp; done) | simpa [Runner.cells] using this
  have nb_r : w.newB d12 w.heap.size := World.oldB_of_cell c_r_0
  clear hm_x_list
  go_wp2_with fail
  refine (eqIntS_same _ _ (cfL l_list r) _ (sl_up intC_length (sl_of_own intC_length h_g0) (by repeat (first | with_reducible (first | exact World.gained_refl _ | exact ⟨_, rfl⟩ | apply gain_ext | apply gain_alloc | apply gain_drewN | apply gain_drew) | (refine gain_setCell ?_ (by first | exact Nat.le_refl _ | exact World.size_ext _ _ | (simp; done) | (simp; omega)) _)))) (sl_up intC_length (sl_of_own intC_length h_w0) (by repeat (first | with_reducible (first | exact World.gained_refl _ | exact ⟨_, rfl⟩ | apply gain_ext | apply gain_alloc | apply gain_drewN | apply gain_drew) | (refine gain_setCell ?_ (by first | exact Nat.le_refl _ | exact World.size_ext _ _ | (simp; done) | (simp; omega)) _)))) (cfL_length l_list r)).mono ?_
  rintro e w1 ⟨rfl, d13, rfl⟩
  go_wp2_with fail
  refine (markIntS_any w _ _ (cfL l_list r) _ _ 1 (by omega) (by omega) (cfL_length l_list r) rfl (own_up h_g0 (by repeat (first | with_reducible (first | exact World.gained_refl _ | exact ⟨_, rfl⟩ | apply gain_ext | apply gain_alloc | apply gain_drewN | apply gain_drew) | (refine gain_setCell ?_ (by first | exact Nat.le_refl _ | exact World.size_ext _ _ | (simp; done) | (simp; omega)) _)))) (by repeat (first | with_reducible (first | exact World.gained_refl _ | exact ⟨_, rfl⟩ | apply gain_ext | apply gain_alloc | apply gain_drewN | apply gain_drew) | (refine gain_setCell ?_ (by first | exact Nat.le_refl _ | exact World.size_ext _ _ | (simp; done) | (simp; omega)) _))) (gain_size (by repeat (first | with_reducible (first | exact World.gained_refl _ | exact ⟨_, rfl⟩ | apply gain_ext | apply gain_alloc | apply gain_drewN | apply gain_drew) | (refine gain_setCell ?_ (by first | exact Nat.le_refl _ | exact World.size_ext _ _ | (simp; done) | (simp; omega)) _))))).mono ?_
  rintro e w1 ⟨rfl, hm_g0, hgr, d14, rfl⟩
  replace h_v_list := sl_mark Cls.cells_length (sl_up Cls.cells_length h_v_list (by repeat (first | with_reducible (first | exact World.gained_refl _ | exact ⟨_, rfl⟩ | apply gain_ext | apply gain_alloc | apply gain_drewN | apply gain_drew) | (refine gain_setCell ?_ (by first | exact Nat.le_refl _ | exact World.size_ext _ _ | (simp; done) | (simp; omega)) _)))) hgr ap_v_list_g0
  replace h_b_r := sl_mark Runner.cells_length (sl_up Runner.cells_length h_b_r (by repeat (first | with_reducible (first | exact World.gained_refl _ | exact ⟨_, rfl⟩ | apply gain_ext | apply gain_alloc | apply gain_drewN | apply gain_drew) | (refine gain_setCell ?_ (by first | exact Nat.le_refl _ | exact World.size_ext _ _ | (simp; done) | (simp; omega)) _)))) hgr ap_b_r_g0
  replace h_w0 := own_mark (own_up h_w0 (by repeat (first | with_reducible (first | exact World.gained_refl _ | exact ⟨_, rfl⟩ | apply gain_ext | apply gain_alloc | apply gain_drewN | apply gain_drew) | (refine gain_setCell ?_ (by first | exact Nat.le_refl _ | exact World.size_ext _ _ | (simp; done) | (simp; omega)) _)))) hgr ap_w0_g0
  clear h_g0 hgr
  clear c_r_0
  clear c_r_1
  clear c_r_2
  clear c_r_3
  clear c_r_4
  clear c_r_5
  have c_r_0 : (w.ext d14).cell? ⟨w.heap.size, 0, none⟩ = some (.int .i64 r.id) := by have := sl_cells h_b_r (k := 0) (by simp) (j := 0) (by omega); first | (simp; done) | simpa [Runner.cells] using this
  have c_r_1 : (w.ext d14).cell? ⟨w.heap.size, 1, none⟩ = some (.string r.name) := by have := sl_cells h_b_r (k := 0) (by simp) (j := 1) (by omega); first | (simp; done) | simpa [Runner.cells] using this
  have c_r_2 : (w.ext d14).cell? ⟨w.heap.size, 2, none⟩ = some (.string r.club) := by have := sl_cells h_b_r (k := 0) (by simp) (j := 2) (by omega); first | (simp; done) | simpa [Runner.cells] using this
  have c_r_3 : (w.ext d14).cell? ⟨w.heap.size, 3, none⟩ = some (.int .i64 r.born) := by have := sl_cells h_b_r (k := 0) (by simp) (j := 3) (by omega); first | (simp; done) | simpa [Runner.cells] using this
  have c_r_4 : (w.ext d14).cell? ⟨w.heap.size, 4, none⟩ = some (.bool r.woman) := by have := sl_cells h_b_r (k := 0) (by simp) (j := 4) (by omega); first | (simp; done) | simpa [Runner.cells] using this
  have c_r_5 : (w.ext d14).cell? ⟨w.heap.size, 5, none⟩ = some (.int .i64 r.card) := by have := sl_cells h_b_r (k := 0) (by simp) (j := 5) (by omega); first | (simp; done) | simpa [Runner.cells] using this
  clear nb_r
  have nb_r : w.newB d14 w.heap.size := World.oldB_of_cell c_r_0
  go_wp2_with fail
  refine (heldIntS_any _ _ _ 1 (by omega) (by omega) (cfL_length l_list r) (sl_up intC_length (sl_of_own intC_length hm_g0) (by repeat (first | with_reducible (first | exact World.gained_refl _ | exact ⟨_, rfl⟩ | apply gain_ext | apply gain_alloc | apply gain_drewN | apply gain_drew) | (refine gain_setCell ?_ (by first | exact Nat.le_refl _ | exact World.size_ext _ _ | (simp; done) | (simp; omega)) _))))).mono ?_
  rintro e w1 ⟨rfl, d15, rfl⟩
  go_upto_region 27 with fail
  go_region_held (fun w' => w'.cell? ⟨w.heap.size, 0, none⟩ = some (.int .i64 r.id) ∧ w'.cell? ⟨w.heap.size, 1, none⟩ = some (.string r.name) ∧ w'.cell? ⟨w.heap.size, 2, none⟩ = some (.string r.club) ∧ w'.cell? ⟨w.heap.size, 3, none⟩ = some (.int .i64 r.born) ∧ w'.cell? ⟨w.heap.size, 4, none⟩ = some (.bool r.woman) ∧ w'.cell? ⟨w.heap.size, 5, none⟩ = some (.int .i64 r.card)) (refine ⟨?_, ?_, ?_, ?_, ?_, ?_⟩ <;> (with_reducible (repeat (first | assumption | refine cell_ext ?_ _ | refine cell_drew ?_ | refine cell_alloc ?_ _)))) (first | (go_at_call 23; refine (toClassS_any _ l_list _ (sl_up Cls.cells_length h_v_list (by repeat (first | with_reducible (first | exact World.gained_refl _ | exact ⟨_, rfl⟩ | apply gain_ext | apply gain_alloc | apply gain_drewN | apply gain_drew) | (refine gain_setCell ?_ (by first | exact Nat.le_refl _ | exact World.size_ext _ _ | (simp; done) | (simp; omega)) _)))) hl_list).mono ?_; rintro e w1 ⟨y_list, rfl, ⟨d17, rfl⟩, h_y_list⟩) | (go_at_call 19; refine (toRunner_any _ _).mono ?_; rintro e w1 ⟨rfl, d18, rfl⟩) | (go_at_call 31; refine (classesFor_any _ l_list r _ (sl_up Cls.cells_length (sl_of_own Cls.cells_length h_y_list) (by repeat (first | with_reducible (first | exact World.gained_refl _ | exact ⟨_, rfl⟩ | apply gain_ext | apply gain_alloc | apply gain_drewN | apply gain_drew) | (refine gain_setCell ?_ (by first | exact Nat.le_refl _ | exact World.size_ext _ _ | (simp; done) | (simp; omega)) _)))) hl_list hq_list hs_r_1 hs_r_2).mono ?_; rintro e w1 ⟨h0, rfl, ⟨d16, rfl⟩, h_h0⟩))
  go_wp2_with fail
  refine (eqIntS_same _ _ (cfL l_list r) _ (sl_up intC_length (sl_of_own intC_length h_h0) (by repeat (first | with_reducible (first | exact World.gained_refl _ | exact ⟨_, rfl⟩ | apply gain_ext | apply gain_alloc | apply gain_drewN | apply gain_drew) | (refine gain_setCell ?_ (by first | exact Nat.le_refl _ | exact World.size_ext _ _ | (simp; done) | (simp; omega)) _)))) (sl_up intC_length (sl_of_own intC_length h_w0) (by repeat (first | with_reducible (first | exact World.gained_refl _ | exact ⟨_, rfl⟩ | apply gain_ext | apply gain_alloc | apply gain_drewN | apply gain_drew) | (refine gain_setCell ?_ (by first | exact Nat.le_refl _ | exact World.size_ext _ _ | (simp; done) | (simp; omega)) _)))) (cfL_length l_list r)).mono ?_
  rintro e w1 ⟨rfl, d19, rfl⟩
  go_wp2_with fail
  refine (heldIntS_any _ _ _ 1 (by omega) (by omega) (cfL_length l_list r) (sl_up intC_length (sl_of_own intC_length hm_g0) (by repeat (first | with_reducible (first | exact World.gained_refl _ | exact ⟨_, rfl⟩ | apply gain_ext | apply gain_alloc | apply gain_drewN | apply gain_drew) | (refine gain_setCell ?_ (by first | exact Nat.le_refl _ | exact World.size_ext _ _ | (simp; done) | (simp; omega)) _))))).mono ?_
  rintro e w1 ⟨rfl, d20, rfl⟩
  go_wp2
  go_ret
  exact ⟨rfl, (by repeat (first | with_reducible (first | exact World.gained_refl _ | exact ⟨_, rfl⟩ | apply gain_ext | apply gain_alloc | apply gain_drewN | apply gain_drew) | (refine gain_setCell ?_ (by first | exact Nat.le_refl _ | exact World.size_ext _ _ | (simp; done) | (simp; omega)) _)))⟩
set_option maxRecDepth 100000 in
theorem fnExactClassesFor_lifted (os : Os) (started : os.Started) (H : Type) (enc : TypeId × Value → H) :
    ReturnsInHanded {} Try.checked os 8 .any (Rows.fnExactClassesForSpec.pre6 enc Try.prog Try.f8 Rows.fnExactClassesForRow.domain false) (Rows.fnExactClassesForSpec.post enc Try.prog Try.f8 false true false false) := by
  refine returnsInHanded_of_change (C := Try.checked) (by kernel_rfl) started (by kernel_rfl) Try.func8
    (ChangeSpec.witness6 (enc := enc) (C := Try.checked) false ⟨#[], #[.slice none 0 0, .agg #[.int .i64 0, .string .empty, .string .empty, .int .i64 0, .bool false, .int .i64 0]], []⟩ 8 (by kernel_rfl) (by kernel_rfl) (by kernel_rfl) (by kernel_rfl)) ?_
  intro W base args ds gs before hval0 hW _ _
  have hval : ∀ (j : Nat) t v, Try.f8.params[j]? = some t → args[j]? = some v → Value.okWide Try.prog W .any base t v := hval0
  clear hval0
  have laidOut : laidOutB Try.prog = true := by as_aux_lemma => kernel_rfl
  have hWc := hW
  obtain ⟨p, q, hA0, hV, rfl, _, _⟩ := hWc
  have hA : DataW.TrodAll enc Try.prog W 0 (fun _ => true) true Try.f8.params.toList args.toList ds p := hA0
  clear hA0
  rw [Try.params8] at hA hval
  obtain ⟨v0, vs0, d0, ds0, p0, q0, hargs, rfl, rfl, h0, r0⟩ := trodAll_cons hA
  obtain ⟨v1, vs1, d1, ds1, p1, q1, rfl, rfl, rfl, h1, r1⟩ := trodAll_cons r0
  obtain ⟨rfl, rfl, rfl⟩ := trodAll_nil r1
  obtain rfl : args = #[v0, v1] := by cases args; simp_all
  obtain ⟨rfl, rfl⟩ := trodVars_none hV
  obtain ⟨l0, hs0, hm0, hq0⟩ := read_Clss (hval 0 37 v0 rfl rfl) h0
  obtain ⟨n1, rfl, ho1⟩ := read_Runner (hval 1 30 v1 rfl rfl) h1
  refine (fnExactClassesFor_walk v0 l0 n1 W hs0 hm0 hq0 ho1).mono fun e W1 ⟨he, hg⟩ => ?_
  subst he
  exact ⟨_, rfl, law_post (tb := 4) laidOut (by kernel_rfl) hW rfl rfl (by kernel_rfl) Try.underlying4 hg⟩
theorem fnExactClassesFor_holds : Rows.FnExactClassesForSaid :=
  OpenClaim.holds_of_wide 8 Try.f8 rfl rfl rfl rfl rfl rfl rfl ⟨rfl, rfl, rfl, rfl, rfl⟩ rfl rfl rfl rfl rfl (by kernel_rfl) Try.func8 (by kernel_rfl)
    (of_decide_eq_true (by kernel_rfl)) (by unfold Func.isWrapper; first | (rw [if_pos (by decide +kernel)]; kernel_rfl) | (rw [if_neg (by decide +kernel)]; exact ⟨rfl, rfl⟩))
    (fun os started H enc _ => fnExactClassesFor_lifted os started H enc)
#print axioms fnExactClassesFor_holds
end Go.Proofs.Ytcldcainmipjcaa
