/- FnExactEnterRunner returns true for every argument. No condition. -/
import Derived.Test.YtnpfghpjlbjpnaaEntRunS
import Derived.Test.YtnpfghpjlbjpnaaToEntS
import Derived.Test.YtnpfghpjlbjpnaaEqEntS
import Derived.Test.YtnpfghpjlbjpnaaSzEntS
import Derived.Test.YtnpfghpjlbjpnaaMarkEntS
import Derived.Test.YtnpfghpjlbjpnaaRdEnt
namespace Go.Proofs.Ytnpfghpjlbjpnaa
open Go.ChangeShapes Go.WideShapes Go.ChangeAt Go.RowKit Go.Ori
set_option maxHeartbeats 4000000 in
theorem fnExactEnterRunner_walk (v_list : Value) (l_list : List Ent) (e : Ent) (w : World) (h_v_list : w.sl Ent.cells 5 v_list l_list) (hm_list : l_list.length ≤ 9223372036854775807) :
    Calls Try.prog 3 #[v_list, .agg #[.int .i64 e.runner, .int .i64 e.cls, .int .i64 e.day, .bool e.rent, .int .i64 e.paid]] w fun x w' => x = .returned (.bool true) ∧ ∃ d, w' = w.ext d := by
  obtain ⟨p_list, c_list, hv_list, _⟩ := id h_v_list
  subst hv_list
  go_enter Try.func3, Try.ntmps3
  have h_b_e : (w.alloc (.cells #[.int .i64 e.runner, .int .i64 e.cls, .int .i64 e.day, .bool e.rent, .int .i64 e.paid] 24)).sl Ent.cells 5 (.slice (some ⟨w.heap.size, 0, none⟩) 1 1) [e] := sl_lit (w := w) (l := [e]) Ent.cells_length rfl (by simp)
  replace h_b_e : (w.alloc (.cells #[.int .i64 e.runner, .int .i64 e.cls, .int .i64 e.day, .bool e.rent, .int .i64 e.paid] 24)).sl Ent.cells 5 (.slice (some ⟨w.heap.size, 0, none⟩) 1 1) [e] := (sl_up Ent.cells_length h_b_e (by repeat (first | with_reducible (first | exact World.gained_refl _ | exact ⟨_, rfl⟩ | apply gain_ext | apply gain_alloc | apply gain_drewN | apply gain_drew) | (refine gain_setCell ?_ (by first | exact Nat.le_refl _ | exact World.size_ext _ _ | (simp; done) | (simp; omega)) _))))
  have c_e_0 : (w.alloc (.cells #[.int .i64 e.runner, .int .i64 e.cls, .int .i64 e.day, .bool e.rent, .int .i64 e.paid] 24)).cell? ⟨w.heap.size, 0, none⟩ = some (.int .i64 e.runner) := by have := sl_cells h_b_e (k := 0) (by simp) (j := 0) (by omega); first | (simp; done) | simpa [Ent.cells] using this
  have c_e_1 : (w.alloc (.cells #[.int .i64 e.runner, .int .i64 e.cls, .int .i64 e.day, .bool e.rent, .int .i64 e.paid] 24)).cell? ⟨w.heap.size, 1, none⟩ = some (.int .i64 e.cls) := by have := sl_cells h_b_e (k := 0) (by simp) (j := 1) (by omega); first | (simp; done) | simpa [Ent.cells] using this
  have c_e_2 : (w.alloc (.cells #[.int .i64 e.runner, .int .i64 e.cls, .int .i64 e.day, .bool e.rent, .int .i64 e.paid] 24)).cell? ⟨w.heap.size, 2, none⟩ = some (.int .i64 e.day) := by have := sl_cells h_b_e (k := 0) (by simp) (j := 2) (by omega); first | (simp; done) | simpa [Ent.cells] using this
  have c_e_3 : (w.alloc (.cells #[.int .i64 e.runner, .int .i64 e.cls, .int .i64 e.day, .bool e.rent, .int .i64 e.paid] 24)).cell? ⟨w.heap.size, 3, none⟩ = some (.bool e.rent) := by have := sl_cells h_b_e (k := 0) (by simp) (j := 3) (by omega); first | (simp; done) | simpa [Ent.cells] using this
  have c_e_4 : (w.alloc (.cells #[.int .i64 e.runner, .int .i64 e.cls, .int .i64 e.day, .bool e.rent, .int .i64 e.paid] 24)).cell? ⟨w.heap.size, 4, none⟩ = some (.int .i64 e.paid) := by have := sl_cells h_b_e (k := 0) (by simp) (j := 4) (by omega); first | (simp; done) | simpa [Ent.cells] using this
  go_wp2_with fail
  refine (szEntryS_any _ _ _ _ _ hm_list (by omega) (by omega)).mono ?_
  rintro e w1 ⟨r_list, rfl, rfl, hr_list, hx_list⟩
  by_cases hp_list : ¬ 0 ≤ r_list
  · go_wp2
    go_ret
    exact ⟨rfl, (by repeat (first | with_reducible (first | exact World.gained_refl _ | exact ⟨_, rfl⟩ | apply gain_ext | apply gain_alloc | apply gain_drewN | apply gain_drew) | (refine gain_setCell ?_ (by first | exact Nat.le_refl _ | exact World.size_ext _ _ | (simp; done) | (simp; omega)) _)))⟩
  replace hp_list : 0 ≤ r_list := by omega
  have hl_list : l_list.length ≤ 1048576 := by have := hx_list hp_list; omega
  clear hx_list hm_list
  go_upto_region 5 with fail
  go_region_held (fun w' => w'.cell? ⟨w.heap.size, 0, none⟩ = some (.int .i64 e.runner) ∧ w'.cell? ⟨w.heap.size, 1, none⟩ = some (.int .i64 e.cls) ∧ w'.cell? ⟨w.heap.size, 2, none⟩ = some (.int .i64 e.day) ∧ w'.cell? ⟨w.heap.size, 3, none⟩ = some (.bool e.rent) ∧ w'.cell? ⟨w.heap.size, 4, none⟩ = some (.int .i64 e.paid)) (refine ⟨?_, ?_, ?_, ?_, ?_⟩ <;> (with_reducible (repeat (first | assumption | refine cell_ext ?_ _ | refine cell_drew ?_ | refine cell_alloc ?_ _)))) (first | (go_at_call 6; refine (toEntryS_any _ l_list _ (sl_up Ent.cells_length h_v_list (by repeat (first | with_reducible (first | exact World.gained_refl _ | exact ⟨_, rfl⟩ | apply gain_ext | apply gain_alloc | apply gain_drewN | apply gain_drew) | (refine gain_setCell ?_ (by first | exact Nat.le_refl _ | exact World.size_ext _ _ | (simp; done) | (simp; omega)) _)))) hl_list).mono ?_; rintro e w1 ⟨u_list, rfl, ⟨d2, rfl⟩, h_u_list⟩) | (go_at_call 7; refine (toEntry_any _ _).mono ?_; rintro e w1 ⟨rfl, d3, rfl⟩) | (go_at_call 5; refine (specEnterRunner_any _ l_list e _ (sl_up Ent.cells_length (sl_of_own Ent.cells_length h_u_list) (by repeat (first | with_reducible (first | exact World.gained_refl _ | exact ⟨_, rfl⟩ | apply gain_ext | apply gain_alloc | apply gain_drewN | apply gain_drew) | (refine gain_setCell ?_ (by first | exact Nat.le_refl _ | exact World.size_ext _ _ | (simp; done) | (simp; omega)) _)))) hl_list).mono ?_; rintro e w1 ⟨w0, rfl, ⟨d1, rfl⟩, h_w0⟩))
  have ap_v_list_w0 := apart_new Ent.cells_length (by omega) (sl_up Ent.cells_length h_v_list (by repeat (first | with_reducible (first | exact World.gained_refl _ | exact ⟨_, rfl⟩ | apply gain_ext | apply gain_alloc | apply gain_drewN | apply gain_drew) | (refine gain_setCell ?_ (by first | exact Nat.le_refl _ | exact World.size_ext _ _ | (simp; done) | (simp; omega)) _)))) h_w0
  have ap_b_e_w0 := apart_new Ent.cells_length (by omega) (sl_up Ent.cells_length h_b_e (by repeat (first | with_reducible (first | exact World.gained_refl _ | exact ⟨_, rfl⟩ | apply gain_ext | apply gain_alloc | apply gain_drewN | apply gain_drew) | (refine gain_setCell ?_ (by first | exact Nat.le_refl _ | exact World.size_ext _ _ | (simp; done) | (simp; omega)) _)))) h_w0
  clear h_u_list
  go_wp2_with fail
  refine (toEntryS_any _ l_list _ (sl_up Ent.cells_length h_v_list (by repeat (first | with_reducible (first | exact World.gained_refl _ | exact ⟨_, rfl⟩ | apply gain_ext | apply gain_alloc | apply gain_drewN | apply gain_drew) | (refine gain_setCell ?_ (by first | exact Nat.le_refl _ | exact World.size_ext _ _ | (simp; done) | (simp; omega)) _)))) hl_list).mono ?_
  rintro e w1 ⟨x_list, rfl, ⟨d4, rfl⟩, h_x_list⟩
  have ap_v_list_x_list := apart_new Ent.cells_length (by omega) (sl_up Ent.cells_length h_v_list (by repeat (first | with_reducible (first | exact World.gained_refl _ | exact ⟨_, rfl⟩ | apply gain_ext | apply gain_alloc | apply gain_drewN | apply gain_drew) | (refine gain_setCell ?_ (by first | exact Nat.le_refl _ | exact World.size_ext _ _ | (simp; done) | (simp; omega)) _)))) h_x_list
  have ap_b_e_x_list := apart_new Ent.cells_length (by omega) (sl_up Ent.cells_length h_b_e (by repeat (first | with_reducible (first | exact World.gained_refl _ | exact ⟨_, rfl⟩ | apply gain_ext | apply gain_alloc | apply gain_drewN | apply gain_drew) | (refine gain_setCell ?_ (by first | exact Nat.le_refl _ | exact World.size_ext _ _ | (simp; done) | (simp; omega)) _)))) h_x_list
  have ap_w0_x_list := apart2_new (own_up h_w0 (by repeat (first | with_reducible (first | exact World.gained_refl _ | exact ⟨_, rfl⟩ | apply gain_ext | apply gain_alloc | apply gain_drewN | apply gain_drew) | (refine gain_setCell ?_ (by first | exact Nat.le_refl _ | exact World.size_ext _ _ | (simp; done) | (simp; omega)) _)))) h_x_list
  go_wp2_with fail
  refine (toEntry_any _ _).mono ?_
  rintro e w1 ⟨rfl, d6, rfl⟩
  go_wp2_with fail
  refine (enterRunner_any _ l_list e _ (sl_up Ent.cells_length (sl_of_own Ent.cells_length h_x_list) (by repeat (first | with_reducible (first | exact World.gained_refl _ | exact ⟨_, rfl⟩ | apply gain_ext | apply gain_alloc | apply gain_drewN | apply gain_drew) | (refine gain_setCell ?_ (by first | exact Nat.le_refl _ | exact World.size_ext _ _ | (simp; done) | (simp; omega)) _)))) hl_list).mono ?_
  rintro e w1 ⟨g0, rfl, ⟨d5, rfl⟩, h_g0⟩
  have ap_v_list_g0 := apart_new Ent.cells_length (by omega) (sl_up Ent.cells_length h_v_list (by repeat (first | with_reducible (first | exact World.gained_refl _ | exact ⟨_, rfl⟩ | apply gain_ext | apply gain_alloc | apply gain_drewN | apply gain_drew) | (refine gain_setCell ?_ (by first | exact Nat.le_refl _ | exact World.size_ext _ _ | (simp; done) | (simp; omega)) _)))) h_g0
  have ap_b_e_g0 := apart_new Ent.cells_length (by omega) (sl_up Ent.cells_length h_b_e (by repeat (first | with_reducible (first | exact World.gained_refl _ | exact ⟨_, rfl⟩ | apply gain_ext | apply gain_alloc | apply gain_drewN | apply gain_drew) | (refine gain_setCell ?_ (by first | exact Nat.le_refl _ | exact World.size_ext _ _ | (simp; done) | (simp; omega)) _)))) h_g0
  have ap_w0_g0 := apart2_new (own_up h_w0 (by repeat (first | with_reducible (first | exact World.gained_refl _ | exact ⟨_, rfl⟩ | apply gain_ext | apply gain_alloc | apply gain_drewN | apply gain_drew) | (refine gain_setCell ?_ (by first | exact Nat.le_refl _ | exact World.size_ext _ _ | (simp; done) | (simp; omega)) _)))) h_g0
  have ap_x_list_g0 := apart2_new (own_up h_x_list (by repeat (first | with_reducible (first | exact World.gained_refl _ | exact ⟨_, rfl⟩ | apply gain_ext | apply gain_alloc | apply gain_drewN | apply gain_drew) | (refine gain_setCell ?_ (by first | exact Nat.le_refl _ | exact World.size_ext _ _ | (simp; done) | (simp; omega)) _)))) h_g0
  go_wp2_with fail
  refine (eqEntryS_same _ _ (entrL l_list e) _ (sl_up Ent.cells_length (sl_of_own Ent.cells_length h_g0) (by repeat (first | with_reducible (first | exact World.gained_refl _ | exact ⟨_, rfl⟩ | apply gain_ext | apply gain_alloc | apply gain_drewN | apply gain_drew) | (refine gain_setCell ?_ (by first | exact Nat.le_refl _ | exact World.size_ext _ _ | (simp; done) | (simp; omega)) _)))) (sl_up Ent.cells_length (sl_of_own Ent.cells_length h_w0) (by repeat (first | with_reducible (first | exact World.gained_refl _ | exact ⟨_, rfl⟩ | apply gain_ext | apply gain_alloc | apply gain_drewN | apply gain_drew) | (refine gain_setCell ?_ (by first | exact Nat.le_refl _ | exact World.size_ext _ _ | (simp; done) | (simp; omega)) _)))) (entrL_len l_list e)).mono ?_
  rintro e w1 ⟨rfl, d7, rfl⟩
  go_wp2_with fail
  refine (toEntryS_any _ l_list _ (sl_up Ent.cells_length h_v_list (by repeat (first | with_reducible (first | exact World.gained_refl _ | exact ⟨_, rfl⟩ | apply gain_ext | apply gain_alloc | apply gain_drewN | apply gain_drew) | (refine gain_setCell ?_ (by first | exact Nat.le_refl _ | exact World.size_ext _ _ | (simp; done) | (simp; omega)) _)))) hl_list).mono ?_
  rintro e w1 ⟨t_list, rfl, ⟨d8, rfl⟩, h_t_list⟩
  go_wp2_with fail
  refine (eqEntryS_same _ _ l_list _ (sl_up Ent.cells_length (sl_of_own Ent.cells_length h_x_list) (by repeat (first | with_reducible (first | exact World.gained_refl _ | exact ⟨_, rfl⟩ | apply gain_ext | apply gain_alloc | apply gain_drewN | apply gain_drew) | (refine gain_setCell ?_ (by first | exact Nat.le_refl _ | exact World.size_ext _ _ | (simp; done) | (simp; omega)) _)))) (sl_up Ent.cells_length (sl_of_own Ent.cells_length h_t_list) (by repeat (first | with_reducible (first | exact World.gained_refl _ | exact ⟨_, rfl⟩ | apply gain_ext | apply gain_alloc | apply gain_drewN | apply gain_drew) | (refine gain_setCell ?_ (by first | exact Nat.le_refl _ | exact World.size_ext _ _ | (simp; done) | (simp; omega)) _)))) hl_list).mono ?_
  rintro e w1 ⟨rfl, d9, rfl⟩
  clear h_t_list
  go_wp2_with fail
  refine (markEntryS_any w _ _ l_list _ _ _ (by omega) (by omega) hl_list rfl (own_up h_x_list (by repeat (first | with_reducible (first | exact World.gained_refl _ | exact ⟨_, rfl⟩ | apply gain_ext | apply gain_alloc | apply gain_drewN | apply gain_drew) | (refine gain_setCell ?_ (by first | exact Nat.le_refl _ | exact World.size_ext _ _ | (simp; done) | (simp; omega)) _)))) (by repeat (first | with_reducible (first | exact World.gained_refl _ | exact ⟨_, rfl⟩ | apply gain_ext | apply gain_alloc | apply gain_drewN | apply gain_drew) | (refine gain_setCell ?_ (by first | exact Nat.le_refl _ | exact World.size_ext _ _ | (simp; done) | (simp; omega)) _))) (gain_size (by repeat (first | with_reducible (first | exact World.gained_refl _ | exact ⟨_, rfl⟩ | apply gain_ext | apply gain_alloc | apply gain_drewN | apply gain_drew) | (refine gain_setCell ?_ (by first | exact Nat.le_refl _ | exact World.size_ext _ _ | (simp; done) | (simp; omega)) _))))).mono ?_
  rintro e w1 ⟨rfl, hm_x_list, hgr, d10, rfl⟩
  replace h_b_e := sl_mark Ent.cells_length (sl_up Ent.cells_length h_b_e (by repeat (first | with_reducible (first | exact World.gained_refl _ | exact ⟨_, rfl⟩ | apply gain_ext | apply gain_alloc | apply gain_drewN | apply gain_drew) | (refine gain_setCell ?_ (by first | exact Nat.le_refl _ | exact World.size_ext _ _ | (simp; done) | (simp; omega)) _)))) hgr ap_b_e_x_list
  replace h_w0 := own_mark (own_up h_w0 (by repeat (first | with_reducible (first | exact World.gained_refl _ | exact ⟨_, rfl⟩ | apply gain_ext | apply gain_alloc | apply gain_drewN | apply gain_drew) | (refine gain_setCell ?_ (by first | exact Nat.le_refl _ | exact World.size_ext _ _ | (simp; done) | (simp; omega)) _)))) hgr ap_w0_x_list
  replace h_g0 := own_mark (own_up h_g0 (by repeat (first | with_reducible (first | exact World.gained_refl _ | exact ⟨_, rfl⟩ | apply gain_ext | apply gain_alloc | apply gain_drewN | apply gain_drew) | (refine gain_setCell ?_ (by first | exact Nat.le_refl _ | exact World.size_ext _ _ | (simp; done) | (simp; omega)) _)))) hgr ap_x_list_g0.symm
  clear h_x_list hgr
  clear c_e_0
  clear c_e_1
  clear c_e_2
  clear c_e_3
  clear c_e_4
  have c_e_0 : (w.ext d10).cell? ⟨w.heap.size, 0, none⟩ = some (.int .i64 e.runner) := by have := sl_cells h_b_e (k := 0) (by simp) (j := 0) (by omega); first | (simp; done) | simpa [Ent.cells] using this
  have c_e_1 : (w.ext d10).cell? ⟨w.heap.size, 1, none⟩ = some (.int .i64 e.cls) := by have := sl_cells h_b_e (k := 0) (by simp) (j := 1) (by omega); first | (simp; done) | simpa [Ent.cells] using this
  have c_e_2 : (w.ext d10).cell? ⟨w.heap.size, 2, none⟩ = some (.int .i64 e.day) := by have := sl_cells h_b_e (k := 0) (by simp) (j := 2) (by omega); first | (simp; done) | simpa [Ent.cells] using this
  have c_e_3 : (w.ext d10).cell? ⟨w.heap.size, 3, none⟩ = some (.bool e.rent) := by have := sl_cells h_b_e (k := 0) (by simp) (j := 3) (by omega); first | (simp; done) | simpa [Ent.cells] using this
  have c_e_4 : (w.ext d10).cell? ⟨w.heap.size, 4, none⟩ = some (.int .i64 e.paid) := by have := sl_cells h_b_e (k := 0) (by simp) (j := 4) (by omega); first | (simp; done) | simpa [Ent.cells] using this
  have nb_e : w.newB d10 w.heap.size := World.oldB_of_cell c_e_0
  clear hm_x_list
  go_wp2_with fail
  refine (eqEntryS_same _ _ (entrL l_list e) _ (sl_up Ent.cells_length (sl_of_own Ent.cells_length h_g0) (by repeat (first | with_reducible (first | exact World.gained_refl _ | exact ⟨_, rfl⟩ | apply gain_ext | apply gain_alloc | apply gain_drewN | apply gain_drew) | (refine gain_setCell ?_ (by first | exact Nat.le_refl _ | exact World.size_ext _ _ | (simp; done) | (simp; omega)) _)))) (sl_up Ent.cells_length (sl_of_own Ent.cells_length h_w0) (by repeat (first | with_reducible (first | exact World.gained_refl _ | exact ⟨_, rfl⟩ | apply gain_ext | apply gain_alloc | apply gain_drewN | apply gain_drew) | (refine gain_setCell ?_ (by first | exact Nat.le_refl _ | exact World.size_ext _ _ | (simp; done) | (simp; omega)) _)))) (entrL_len l_list e)).mono ?_
  rintro e w1 ⟨rfl, d11, rfl⟩
  go_wp2_with fail
  refine (markEntryS_any w _ _ (entrL l_list e) _ _ 1 (by omega) (by omega) (entrL_len l_list e) rfl (own_up h_g0 (by repeat (first | with_reducible (first | exact World.gained_refl _ | exact ⟨_, rfl⟩ | apply gain_ext | apply gain_alloc | apply gain_drewN | apply gain_drew) | (refine gain_setCell ?_ (by first | exact Nat.le_refl _ | exact World.size_ext _ _ | (simp; done) | (simp; omega)) _)))) (by repeat (first | with_reducible (first | exact World.gained_refl _ | exact ⟨_, rfl⟩ | apply gain_ext | apply gain_alloc | apply gain_drewN | apply gain_drew) | (refine gain_setCell ?_ (by first | exact Nat.le_refl _ | exact World.size_ext _ _ | (simp; done) | (simp; omega)) _))) (gain_size (by repeat (first | with_reducible (first | exact World.gained_refl _ | exact ⟨_, rfl⟩ | apply gain_ext | apply gain_alloc | apply gain_drewN | apply gain_drew) | (refine gain_setCell ?_ (by first | exact Nat.le_refl _ | exact World.size_ext _ _ | (simp; done) | (simp; omega)) _))))).mono ?_
  rintro e w1 ⟨rfl, hm_g0, hgr, d12, rfl⟩
  replace h_b_e := sl_mark Ent.cells_length (sl_up Ent.cells_length h_b_e (by repeat (first | with_reducible (first | exact World.gained_refl _ | exact ⟨_, rfl⟩ | apply gain_ext | apply gain_alloc | apply gain_drewN | apply gain_drew) | (refine gain_setCell ?_ (by first | exact Nat.le_refl _ | exact World.size_ext _ _ | (simp; done) | (simp; omega)) _)))) hgr ap_b_e_g0
  replace h_w0 := own_mark (own_up h_w0 (by repeat (first | with_reducible (first | exact World.gained_refl _ | exact ⟨_, rfl⟩ | apply gain_ext | apply gain_alloc | apply gain_drewN | apply gain_drew) | (refine gain_setCell ?_ (by first | exact Nat.le_refl _ | exact World.size_ext _ _ | (simp; done) | (simp; omega)) _)))) hgr ap_w0_g0
  clear h_g0 hgr
  clear c_e_0
  clear c_e_1
  clear c_e_2
  clear c_e_3
  clear c_e_4
  have c_e_0 : (w.ext d12).cell? ⟨w.heap.size, 0, none⟩ = some (.int .i64 e.runner) := by have := sl_cells h_b_e (k := 0) (by simp) (j := 0) (by omega); first | (simp; done) | simpa [Ent.cells] using this
  have c_e_1 : (w.ext d12).cell? ⟨w.heap.size, 1, none⟩ = some (.int .i64 e.cls) := by have := sl_cells h_b_e (k := 0) (by simp) (j := 1) (by omega); first | (simp; done) | simpa [Ent.cells] using this
  have c_e_2 : (w.ext d12).cell? ⟨w.heap.size, 2, none⟩ = some (.int .i64 e.day) := by have := sl_cells h_b_e (k := 0) (by simp) (j := 2) (by omega); first | (simp; done) | simpa [Ent.cells] using this
  have c_e_3 : (w.ext d12).cell? ⟨w.heap.size, 3, none⟩ = some (.bool e.rent) := by have := sl_cells h_b_e (k := 0) (by simp) (j := 3) (by omega); first | (simp; done) | simpa [Ent.cells] using this
  have c_e_4 : (w.ext d12).cell? ⟨w.heap.size, 4, none⟩ = some (.int .i64 e.paid) := by have := sl_cells h_b_e (k := 0) (by simp) (j := 4) (by omega); first | (simp; done) | simpa [Ent.cells] using this
  clear nb_e
  have nb_e : w.newB d12 w.heap.size := World.oldB_of_cell c_e_0
  go_wp2_with fail
  refine (heldEntryS_any _ _ _ 1 (by omega) (by omega) (entrL_len l_list e) (sl_up Ent.cells_length (sl_of_own Ent.cells_length hm_g0) (by repeat (first | with_reducible (first | exact World.gained_refl _ | exact ⟨_, rfl⟩ | apply gain_ext | apply gain_alloc | apply gain_drewN | apply gain_drew) | (refine gain_setCell ?_ (by first | exact Nat.le_refl _ | exact World.size_ext _ _ | (simp; done) | (simp; omega)) _))))).mono ?_
  rintro e w1 ⟨rfl, d13, rfl⟩
  go_upto_region 24 with fail
  go_region_held (fun w' => w'.cell? ⟨w.heap.size, 0, none⟩ = some (.int .i64 e.runner) ∧ w'.cell? ⟨w.heap.size, 1, none⟩ = some (.int .i64 e.cls) ∧ w'.cell? ⟨w.heap.size, 2, none⟩ = some (.int .i64 e.day) ∧ w'.cell? ⟨w.heap.size, 3, none⟩ = some (.bool e.rent) ∧ w'.cell? ⟨w.heap.size, 4, none⟩ = some (.int .i64 e.paid)) (refine ⟨?_, ?_, ?_, ?_, ?_⟩ <;> (with_reducible (repeat (first | assumption | refine cell_ext ?_ _ | refine cell_drew ?_ | refine cell_alloc ?_ _)))) (first | (go_at_call 6; refine (toEntryS_any _ l_list _ (sl_up Ent.cells_length h_v_list (by repeat (first | with_reducible (first | exact World.gained_refl _ | exact ⟨_, rfl⟩ | apply gain_ext | apply gain_alloc | apply gain_drewN | apply gain_drew) | (refine gain_setCell ?_ (by first | exact Nat.le_refl _ | exact World.size_ext _ _ | (simp; done) | (simp; omega)) _)))) hl_list).mono ?_; rintro e w1 ⟨y_list, rfl, ⟨d15, rfl⟩, h_y_list⟩) | (go_at_call 7; refine (toEntry_any _ _).mono ?_; rintro e w1 ⟨rfl, d16, rfl⟩) | (go_at_call 8; refine (enterRunner_any _ l_list e _ (sl_up Ent.cells_length (sl_of_own Ent.cells_length h_y_list) (by repeat (first | with_reducible (first | exact World.gained_refl _ | exact ⟨_, rfl⟩ | apply gain_ext | apply gain_alloc | apply gain_drewN | apply gain_drew) | (refine gain_setCell ?_ (by first | exact Nat.le_refl _ | exact World.size_ext _ _ | (simp; done) | (simp; omega)) _)))) hl_list).mono ?_; rintro e w1 ⟨h0, rfl, ⟨d14, rfl⟩, h_h0⟩))
  go_wp2_with fail
  refine (eqEntryS_same _ _ (entrL l_list e) _ (sl_up Ent.cells_length (sl_of_own Ent.cells_length h_h0) (by repeat (first | with_reducible (first | exact World.gained_refl _ | exact ⟨_, rfl⟩ | apply gain_ext | apply gain_alloc | apply gain_drewN | apply gain_drew) | (refine gain_setCell ?_ (by first | exact Nat.le_refl _ | exact World.size_ext _ _ | (simp; done) | (simp; omega)) _)))) (sl_up Ent.cells_length (sl_of_own Ent.cells_length h_w0) (by repeat (first | with_reducible (first | exact World.gained_refl _ | exact ⟨_, rfl⟩ | apply gain_ext | apply gain_alloc | apply gain_drewN | apply gain_drew) | (refine gain_setCell ?_ (by first | exact Nat.le_refl _ | exact World.size_ext _ _ | (simp; done) | (simp; omega)) _)))) (entrL_len l_list e)).mono ?_
  rintro e w1 ⟨rfl, d17, rfl⟩
  go_wp2_with fail
  refine (heldEntryS_any _ _ _ 1 (by omega) (by omega) (entrL_len l_list e) (sl_up Ent.cells_length (sl_of_own Ent.cells_length hm_g0) (by repeat (first | with_reducible (first | exact World.gained_refl _ | exact ⟨_, rfl⟩ | apply gain_ext | apply gain_alloc | apply gain_drewN | apply gain_drew) | (refine gain_setCell ?_ (by first | exact Nat.le_refl _ | exact World.size_ext _ _ | (simp; done) | (simp; omega)) _))))).mono ?_
  rintro e w1 ⟨rfl, d18, rfl⟩
  go_wp2
  go_ret
  exact ⟨rfl, (by repeat (first | with_reducible (first | exact World.gained_refl _ | exact ⟨_, rfl⟩ | apply gain_ext | apply gain_alloc | apply gain_drewN | apply gain_drew) | (refine gain_setCell ?_ (by first | exact Nat.le_refl _ | exact World.size_ext _ _ | (simp; done) | (simp; omega)) _)))⟩
set_option maxRecDepth 100000 in
theorem fnExactEnterRunner_lifted (os : Os) (started : os.Started) (H : Type) (enc : TypeId × Value → H) :
    ReturnsInHanded {} Try.checked os 3 .any (Rows.fnExactEnterRunnerSpec.pre6 enc Try.prog Try.f3 Rows.fnExactEnterRunnerRow.domain false) (Rows.fnExactEnterRunnerSpec.post enc Try.prog Try.f3 false true false false) := by
  refine returnsInHanded_of_change (C := Try.checked) (by kernel_rfl) started (by kernel_rfl) Try.func3
    (ChangeSpec.witness6 (enc := enc) (C := Try.checked) false ⟨#[], #[.slice none 0 0, .agg #[.int .i64 0, .int .i64 0, .int .i64 0, .bool false, .int .i64 0]], []⟩ 8 (by kernel_rfl) (by kernel_rfl) (by kernel_rfl) (by kernel_rfl)) ?_
  intro W base args ds gs before hval0 hW _ _
  have hval : ∀ (j : Nat) t v, Try.f3.params[j]? = some t → args[j]? = some v → Value.okWide Try.prog W .any base t v := hval0
  clear hval0
  have laidOut : laidOutB Try.prog = true := by as_aux_lemma => kernel_rfl
  have hWc := hW
  obtain ⟨p, q, hA0, hV, rfl, _, _⟩ := hWc
  have hA : DataW.TrodAll enc Try.prog W 0 (fun _ => true) true Try.f3.params.toList args.toList ds p := hA0
  clear hA0
  rw [Try.params3] at hA hval
  obtain ⟨v0, vs0, d0, ds0, p0, q0, hargs, rfl, rfl, h0, r0⟩ := trodAll_cons hA
  obtain ⟨v1, vs1, d1, ds1, p1, q1, rfl, rfl, rfl, h1, r1⟩ := trodAll_cons r0
  obtain ⟨rfl, rfl, rfl⟩ := trodAll_nil r1
  obtain rfl : args = #[v0, v1] := by cases args; simp_all
  obtain ⟨rfl, rfl⟩ := trodVars_none hV
  obtain ⟨l0, hs0, hm0⟩ := read_Ents (hval 0 22 v0 rfl rfl) h0
  obtain ⟨n1, rfl⟩ := read_Ent (hval 1 24 v1 rfl rfl) h1
  refine (fnExactEnterRunner_walk v0 l0 n1 W hs0 hm0).mono fun e W1 ⟨he, hg⟩ => ?_
  subst he
  exact ⟨_, rfl, law_post (tb := 4) laidOut (by kernel_rfl) hW rfl rfl (by kernel_rfl) Try.underlying4 hg⟩
theorem fnExactEnterRunner_holds : Rows.FnExactEnterRunnerSaid :=
  OpenClaim.holds_of_wide 3 Try.f3 rfl rfl rfl rfl rfl rfl rfl ⟨rfl, rfl, rfl, rfl, rfl⟩ rfl rfl rfl rfl rfl (by kernel_rfl) Try.func3 (by kernel_rfl)
    (of_decide_eq_true (by kernel_rfl)) (by unfold Func.isWrapper; first | (rw [if_pos (by decide +kernel)]; kernel_rfl) | (rw [if_neg (by decide +kernel)]; exact ⟨rfl, rfl⟩))
    (fun os started H enc _ => fnExactEnterRunner_lifted os started H enc)
#print axioms fnExactEnterRunner_holds
end Go.Proofs.Ytnpfghpjlbjpnaa
