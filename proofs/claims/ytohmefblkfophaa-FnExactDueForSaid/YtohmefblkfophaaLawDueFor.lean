/- FnExactDueFor returns true for every argument. No condition. -/
import Derived.Test.YtohmefblkfophaaHeld
import Derived.Test.YtohmefblkfophaaDueForX
import Derived.Test.YtohmefblkfophaaToRunnerS
import Derived.Test.YtohmefblkfophaaEqRunnerS
import Derived.Test.YtohmefblkfophaaSzRunnerS
import Derived.Test.YtohmefblkfophaaRdRunnerS
import Derived.Test.YtohmefblkfophaaRdFees
import Derived.Test.YtohmefblkfophaaRdEnt
import Derived.Test.YtohmefblkfophaaToEntS
namespace Go.Proofs.Ytohmefblkfophaa
open Go.ChangeShapes Go.WideShapes Go.ChangeAt Go.RowKit Go.Ori
set_option maxHeartbeats 4000000 in
theorem fnExactDueFor_walk (f : Fees) (v_list : Value) (l_list : List Runner) (e : Ent) (w : World) (h_v_list : w.sl Runner.cells 6 v_list l_list) (hm_list : l_list.length ≤ 9223372036854775807) (hq_list : ∀ x ∈ l_list, Runner.ok x) :
    Calls Try.prog 9 #[.agg #[.int .i64 f.adult, .int .i64 f.child, .int .i64 f.rent, .int .i64 f.late], v_list, .agg #[.int .i64 e.runner, .int .i64 e.cls, .int .i64 e.day, .bool e.rent, .int .i64 e.paid]] w fun x w' => x = .returned (.bool true) ∧ ∃ d, w' = w.ext d := by
  obtain ⟨p_list, c_list, hv_list, _⟩ := id h_v_list
  subst hv_list
  go_enter Try.func9, Try.ntmps9
  have h_b_f : (w.alloc (.cells #[.int .i64 f.adult, .int .i64 f.child, .int .i64 f.rent, .int .i64 f.late] 45)).sl Fees.cells 4 (.slice (some ⟨w.heap.size, 0, none⟩) 1 1) [f] := sl_lit (w := w) (l := [f]) Fees.cells_length rfl (by simp)
  have h_b_e : ((w.alloc (.cells #[.int .i64 f.adult, .int .i64 f.child, .int .i64 f.rent, .int .i64 f.late] 45)).alloc (.cells #[.int .i64 e.runner, .int .i64 e.cls, .int .i64 e.day, .bool e.rent, .int .i64 e.paid] 48)).sl Ent.cells 5 (.slice (some ⟨w.heap.size + 1, 0, none⟩) 1 1) [e] := sl_lit (w := (w.alloc (.cells #[.int .i64 f.adult, .int .i64 f.child, .int .i64 f.rent, .int .i64 f.late] 45))) (l := [e]) Ent.cells_length rfl (by simp)
  replace h_b_f : ((w.alloc (.cells #[.int .i64 f.adult, .int .i64 f.child, .int .i64 f.rent, .int .i64 f.late] 45)).alloc (.cells #[.int .i64 e.runner, .int .i64 e.cls, .int .i64 e.day, .bool e.rent, .int .i64 e.paid] 48)).sl Fees.cells 4 (.slice (some ⟨w.heap.size, 0, none⟩) 1 1) [f] := (sl_up Fees.cells_length h_b_f (by repeat (first | with_reducible (first | exact World.gained_refl _ | exact ⟨_, rfl⟩ | apply gain_ext | apply gain_alloc | apply gain_drewN | apply gain_drew) | (refine gain_setCell ?_ (by first | exact Nat.le_refl _ | exact World.size_ext _ _ | (simp; done) | (simp; omega)) _))))
  replace h_b_e : ((w.alloc (.cells #[.int .i64 f.adult, .int .i64 f.child, .int .i64 f.rent, .int .i64 f.late] 45)).alloc (.cells #[.int .i64 e.runner, .int .i64 e.cls, .int .i64 e.day, .bool e.rent, .int .i64 e.paid] 48)).sl Ent.cells 5 (.slice (some ⟨w.heap.size + 1, 0, none⟩) 1 1) [e] := (sl_up Ent.cells_length h_b_e (by repeat (first | with_reducible (first | exact World.gained_refl _ | exact ⟨_, rfl⟩ | apply gain_ext | apply gain_alloc | apply gain_drewN | apply gain_drew) | (refine gain_setCell ?_ (by first | exact Nat.le_refl _ | exact World.size_ext _ _ | (simp; done) | (simp; omega)) _))))
  have c_f_0 : ((w.alloc (.cells #[.int .i64 f.adult, .int .i64 f.child, .int .i64 f.rent, .int .i64 f.late] 45)).alloc (.cells #[.int .i64 e.runner, .int .i64 e.cls, .int .i64 e.day, .bool e.rent, .int .i64 e.paid] 48)).cell? ⟨w.heap.size, 0, none⟩ = some (.int .i64 f.adult) := by have := sl_cells h_b_f (k := 0) (by simp) (j := 0) (by omega); first | (simp; done) | simpa [Fees.cells] using this
  have c_f_1 : ((w.alloc (.cells #[.int .i64 f.adult, .int .i64 f.child, .int .i64 f.rent, .int .i64 f.late] 45)).alloc (.cells #[.int .i64 e.runner, .int .i64 e.cls, .int .i64 e.day, .bool e.rent, .int .i64 e.paid] 48)).cell? ⟨w.heap.size, 1, none⟩ = some (.int .i64 f.child) := by have := sl_cells h_b_f (k := 0) (by simp) (j := 1) (by omega); first | (simp; done) | simpa [Fees.cells] using this
  have c_f_2 : ((w.alloc (.cells #[.int .i64 f.adult, .int .i64 f.child, .int .i64 f.rent, .int .i64 f.late] 45)).alloc (.cells #[.int .i64 e.runner, .int .i64 e.cls, .int .i64 e.day, .bool e.rent, .int .i64 e.paid] 48)).cell? ⟨w.heap.size, 2, none⟩ = some (.int .i64 f.rent) := by have := sl_cells h_b_f (k := 0) (by simp) (j := 2) (by omega); first | (simp; done) | simpa [Fees.cells] using this
  have c_f_3 : ((w.alloc (.cells #[.int .i64 f.adult, .int .i64 f.child, .int .i64 f.rent, .int .i64 f.late] 45)).alloc (.cells #[.int .i64 e.runner, .int .i64 e.cls, .int .i64 e.day, .bool e.rent, .int .i64 e.paid] 48)).cell? ⟨w.heap.size, 3, none⟩ = some (.int .i64 f.late) := by have := sl_cells h_b_f (k := 0) (by simp) (j := 3) (by omega); first | (simp; done) | simpa [Fees.cells] using this
  have c_e_0 : ((w.alloc (.cells #[.int .i64 f.adult, .int .i64 f.child, .int .i64 f.rent, .int .i64 f.late] 45)).alloc (.cells #[.int .i64 e.runner, .int .i64 e.cls, .int .i64 e.day, .bool e.rent, .int .i64 e.paid] 48)).cell? ⟨w.heap.size + 1, 0, none⟩ = some (.int .i64 e.runner) := by have := sl_cells h_b_e (k := 0) (by simp) (j := 0) (by omega); first | (simp; done) | simpa [Ent.cells] using this
  have c_e_1 : ((w.alloc (.cells #[.int .i64 f.adult, .int .i64 f.child, .int .i64 f.rent, .int .i64 f.late] 45)).alloc (.cells #[.int .i64 e.runner, .int .i64 e.cls, .int .i64 e.day, .bool e.rent, .int .i64 e.paid] 48)).cell? ⟨w.heap.size + 1, 1, none⟩ = some (.int .i64 e.cls) := by have := sl_cells h_b_e (k := 0) (by simp) (j := 1) (by omega); first | (simp; done) | simpa [Ent.cells] using this
  have c_e_2 : ((w.alloc (.cells #[.int .i64 f.adult, .int .i64 f.child, .int .i64 f.rent, .int .i64 f.late] 45)).alloc (.cells #[.int .i64 e.runner, .int .i64 e.cls, .int .i64 e.day, .bool e.rent, .int .i64 e.paid] 48)).cell? ⟨w.heap.size + 1, 2, none⟩ = some (.int .i64 e.day) := by have := sl_cells h_b_e (k := 0) (by simp) (j := 2) (by omega); first | (simp; done) | simpa [Ent.cells] using this
  have c_e_3 : ((w.alloc (.cells #[.int .i64 f.adult, .int .i64 f.child, .int .i64 f.rent, .int .i64 f.late] 45)).alloc (.cells #[.int .i64 e.runner, .int .i64 e.cls, .int .i64 e.day, .bool e.rent, .int .i64 e.paid] 48)).cell? ⟨w.heap.size + 1, 3, none⟩ = some (.bool e.rent) := by have := sl_cells h_b_e (k := 0) (by simp) (j := 3) (by omega); first | (simp; done) | simpa [Ent.cells] using this
  have c_e_4 : ((w.alloc (.cells #[.int .i64 f.adult, .int .i64 f.child, .int .i64 f.rent, .int .i64 f.late] 45)).alloc (.cells #[.int .i64 e.runner, .int .i64 e.cls, .int .i64 e.day, .bool e.rent, .int .i64 e.paid] 48)).cell? ⟨w.heap.size + 1, 4, none⟩ = some (.int .i64 e.paid) := by have := sl_cells h_b_e (k := 0) (by simp) (j := 4) (by omega); first | (simp; done) | simpa [Ent.cells] using this
  go_wp2_with fail
  refine (szRunnerS_any _ l_list _ _ (sl_up Runner.cells_length h_v_list (by repeat (first | with_reducible (first | exact World.gained_refl _ | exact ⟨_, rfl⟩ | apply gain_ext | apply gain_alloc | apply gain_drewN | apply gain_drew) | (refine gain_setCell ?_ (by first | exact Nat.le_refl _ | exact World.size_ext _ _ | (simp; done) | (simp; omega)) _)))) hm_list hq_list (by omega) (by omega)).mono ?_
  rintro e w1 ⟨r_list, rfl, ⟨d1, rfl⟩, hr_list, hx_list⟩
  by_cases hp_list : ¬ 0 ≤ r_list
  · go_wp2
    go_ret
    exact ⟨rfl, (by repeat (first | with_reducible (first | exact World.gained_refl _ | exact ⟨_, rfl⟩ | apply gain_ext | apply gain_alloc | apply gain_drewN | apply gain_drew) | (refine gain_setCell ?_ (by first | exact Nat.le_refl _ | exact World.size_ext _ _ | (simp; done) | (simp; omega)) _)))⟩
  replace hp_list : 0 ≤ r_list := by omega
  have hl_list : l_list.length ≤ 1048576 := by have := hx_list hp_list; omega
  replace hq_list := (hx_list hp_list).2
  clear hx_list hm_list
  go_upto_region 5 with fail
  go_region_held (fun w' => w'.cell? ⟨w.heap.size, 0, none⟩ = some (.int .i64 f.adult) ∧ w'.cell? ⟨w.heap.size, 1, none⟩ = some (.int .i64 f.child) ∧ w'.cell? ⟨w.heap.size, 2, none⟩ = some (.int .i64 f.rent) ∧ w'.cell? ⟨w.heap.size, 3, none⟩ = some (.int .i64 f.late) ∧ w'.cell? ⟨w.heap.size + 1, 0, none⟩ = some (.int .i64 e.runner) ∧ w'.cell? ⟨w.heap.size + 1, 1, none⟩ = some (.int .i64 e.cls) ∧ w'.cell? ⟨w.heap.size + 1, 2, none⟩ = some (.int .i64 e.day) ∧ w'.cell? ⟨w.heap.size + 1, 3, none⟩ = some (.bool e.rent) ∧ w'.cell? ⟨w.heap.size + 1, 4, none⟩ = some (.int .i64 e.paid)) (refine ⟨?_, ?_, ?_, ?_, ?_, ?_, ?_, ?_, ?_⟩ <;> (with_reducible (repeat (first | assumption | refine cell_ext ?_ _ | refine cell_drew ?_ | refine cell_alloc ?_ _)))) (first | (go_at_call 35; refine (toFees_any _ _ _ _ _).mono ?_; rintro e w1 ⟨rfl, d3, rfl⟩) | (go_at_call 36; refine (toRunnerS_any _ l_list _ (sl_up Runner.cells_length h_v_list (by repeat (first | with_reducible (first | exact World.gained_refl _ | exact ⟨_, rfl⟩ | apply gain_ext | apply gain_alloc | apply gain_drewN | apply gain_drew) | (refine gain_setCell ?_ (by first | exact Nat.le_refl _ | exact World.size_ext _ _ | (simp; done) | (simp; omega)) _)))) hl_list).mono ?_; rintro e w1 ⟨u_list, rfl, ⟨d4, rfl⟩, h_u_list⟩) | (go_at_call 37; refine (toEntry_any _ _).mono ?_; rintro e w1 ⟨rfl, d5, rfl⟩) | (go_at_call 34; refine (specDueFor_any f _ l_list e _ (sl_up Runner.cells_length (sl_of_own Runner.cells_length h_u_list) (by repeat (first | with_reducible (first | exact World.gained_refl _ | exact ⟨_, rfl⟩ | apply gain_ext | apply gain_alloc | apply gain_drewN | apply gain_drew) | (refine gain_setCell ?_ (by first | exact Nat.le_refl _ | exact World.size_ext _ _ | (simp; done) | (simp; omega)) _)))) hl_list hq_list).mono ?_; rintro e w1 ⟨rfl, d2, rfl⟩))
  clear h_u_list
  go_wp2_with fail
  refine (toRunnerS_any _ l_list _ (sl_up Runner.cells_length h_v_list (by repeat (first | with_reducible (first | exact World.gained_refl _ | exact ⟨_, rfl⟩ | apply gain_ext | apply gain_alloc | apply gain_drewN | apply gain_drew) | (refine gain_setCell ?_ (by first | exact Nat.le_refl _ | exact World.size_ext _ _ | (simp; done) | (simp; omega)) _)))) hl_list).mono ?_
  rintro e w1 ⟨x_list, rfl, ⟨d6, rfl⟩, h_x_list⟩
  go_upto_region 7 with fail
  go_region_held (fun w' => w'.cell? ⟨w.heap.size, 0, none⟩ = some (.int .i64 f.adult) ∧ w'.cell? ⟨w.heap.size, 1, none⟩ = some (.int .i64 f.child) ∧ w'.cell? ⟨w.heap.size, 2, none⟩ = some (.int .i64 f.rent) ∧ w'.cell? ⟨w.heap.size, 3, none⟩ = some (.int .i64 f.late) ∧ w'.cell? ⟨w.heap.size + 1, 0, none⟩ = some (.int .i64 e.runner) ∧ w'.cell? ⟨w.heap.size + 1, 1, none⟩ = some (.int .i64 e.cls) ∧ w'.cell? ⟨w.heap.size + 1, 2, none⟩ = some (.int .i64 e.day) ∧ w'.cell? ⟨w.heap.size + 1, 3, none⟩ = some (.bool e.rent) ∧ w'.cell? ⟨w.heap.size + 1, 4, none⟩ = some (.int .i64 e.paid)) (refine ⟨?_, ?_, ?_, ?_, ?_, ?_, ?_, ?_, ?_⟩ <;> (with_reducible (repeat (first | assumption | refine cell_ext ?_ _ | refine cell_drew ?_ | refine cell_alloc ?_ _)))) (first | (go_at_call 35; refine (toFees_any _ _ _ _ _).mono ?_; rintro e w1 ⟨rfl, d8, rfl⟩) | (go_at_call 37; refine (toEntry_any _ _).mono ?_; rintro e w1 ⟨rfl, d9, rfl⟩) | (go_at_call 38; refine (dueForX_any f _ l_list e _ (sl_up Runner.cells_length (sl_of_own Runner.cells_length h_x_list) (by repeat (first | with_reducible (first | exact World.gained_refl _ | exact ⟨_, rfl⟩ | apply gain_ext | apply gain_alloc | apply gain_drewN | apply gain_drew) | (refine gain_setCell ?_ (by first | exact Nat.le_refl _ | exact World.size_ext _ _ | (simp; done) | (simp; omega)) _)))) hl_list hq_list).mono ?_; rintro e w1 ⟨rfl, d7, rfl⟩))
  go_wp2_with fail
  refine (toRunnerS_any _ l_list _ (sl_up Runner.cells_length h_v_list (by repeat (first | with_reducible (first | exact World.gained_refl _ | exact ⟨_, rfl⟩ | apply gain_ext | apply gain_alloc | apply gain_drewN | apply gain_drew) | (refine gain_setCell ?_ (by first | exact Nat.le_refl _ | exact World.size_ext _ _ | (simp; done) | (simp; omega)) _)))) hl_list).mono ?_
  rintro e w1 ⟨t_list, rfl, ⟨d10, rfl⟩, h_t_list⟩
  go_wp2_with fail
  refine (eqRunnerS_same _ _ l_list _ (sl_up Runner.cells_length (sl_of_own Runner.cells_length h_x_list) (by repeat (first | with_reducible (first | exact World.gained_refl _ | exact ⟨_, rfl⟩ | apply gain_ext | apply gain_alloc | apply gain_drewN | apply gain_drew) | (refine gain_setCell ?_ (by first | exact Nat.le_refl _ | exact World.size_ext _ _ | (simp; done) | (simp; omega)) _)))) (sl_up Runner.cells_length (sl_of_own Runner.cells_length h_t_list) (by repeat (first | with_reducible (first | exact World.gained_refl _ | exact ⟨_, rfl⟩ | apply gain_ext | apply gain_alloc | apply gain_drewN | apply gain_drew) | (refine gain_setCell ?_ (by first | exact Nat.le_refl _ | exact World.size_ext _ _ | (simp; done) | (simp; omega)) _)))) hl_list).mono ?_
  rintro e w1 ⟨rfl, d11, rfl⟩
  clear h_t_list
  go_wp2
  go_ret
  exact ⟨rfl, (by repeat (first | with_reducible (first | exact World.gained_refl _ | exact ⟨_, rfl⟩ | apply gain_ext | apply gain_alloc | apply gain_drewN | apply gain_drew) | (refine gain_setCell ?_ (by first | exact Nat.le_refl _ | exact World.size_ext _ _ | (simp; done) | (simp; omega)) _)))⟩
set_option maxRecDepth 100000 in
theorem fnExactDueFor_lifted (os : Os) (started : os.Started) (H : Type) (enc : TypeId × Value → H) :
    ReturnsInHanded {} Try.checked os 9 .any (Rows.fnExactDueForSpec.pre6 enc Try.prog Try.f9 Rows.fnExactDueForRow.domain false) (Rows.fnExactDueForSpec.post enc Try.prog Try.f9 false true false false) := by
  refine returnsInHanded_of_change (C := Try.checked) (by kernel_rfl) started (by kernel_rfl) Try.func9
    (ChangeSpec.witness6 (enc := enc) (C := Try.checked) false ⟨#[], #[.agg #[.int .i64 0, .int .i64 0, .int .i64 0, .int .i64 0], .slice none 0 0, .agg #[.int .i64 0, .int .i64 0, .int .i64 0, .bool false, .int .i64 0]], []⟩ 8 (by kernel_rfl) (by kernel_rfl) (by kernel_rfl) (by kernel_rfl)) ?_
  intro W base args ds gs before hval0 hW _ _
  have hval : ∀ (j : Nat) t v, Try.f9.params[j]? = some t → args[j]? = some v → Value.okWide Try.prog W .any base t v := hval0
  clear hval0
  have laidOut : laidOutB Try.prog = true := by as_aux_lemma => kernel_rfl
  have hWc := hW
  obtain ⟨p, q, hA0, hV, rfl, _, _⟩ := hWc
  have hA : DataW.TrodAll enc Try.prog W 0 (fun _ => true) true Try.f9.params.toList args.toList ds p := hA0
  clear hA0
  rw [Try.params9] at hA hval
  obtain ⟨v0, vs0, d0, ds0, p0, q0, hargs, rfl, rfl, h0, r0⟩ := trodAll_cons hA
  obtain ⟨v1, vs1, d1, ds1, p1, q1, rfl, rfl, rfl, h1, r1⟩ := trodAll_cons r0
  obtain ⟨v2, vs2, d2, ds2, p2, q2, rfl, rfl, rfl, h2, r2⟩ := trodAll_cons r1
  obtain ⟨rfl, rfl, rfl⟩ := trodAll_nil r2
  obtain rfl : args = #[v0, v1, v2] := by cases args; simp_all
  obtain ⟨rfl, rfl⟩ := trodVars_none hV
  obtain ⟨n0, rfl⟩ := read_Fees (hval 0 45 v0 rfl rfl) h0
  obtain ⟨l1, hs1, hm1, hq1⟩ := read_Runners (hval 1 46 v1 rfl rfl) h1
  obtain ⟨n2, rfl⟩ := read_Ent (hval 2 48 v2 rfl rfl) h2
  refine (fnExactDueFor_walk n0 v1 l1 n2 W hs1 hm1 hq1).mono fun e W1 ⟨he, hg⟩ => ?_
  subst he
  exact ⟨_, rfl, law_post (tb := 4) laidOut (by kernel_rfl) hW rfl rfl (by kernel_rfl) Try.underlying4 hg⟩
theorem fnExactDueFor_holds : Rows.FnExactDueForSaid :=
  OpenClaim.holds_of_wide 9 Try.f9 rfl rfl rfl rfl rfl rfl rfl ⟨rfl, rfl, rfl, rfl, rfl⟩ rfl rfl rfl rfl rfl (by kernel_rfl) Try.func9 (by kernel_rfl)
    (of_decide_eq_true (by kernel_rfl)) (by unfold Func.isWrapper; first | (rw [if_pos (by decide +kernel)]; kernel_rfl) | (rw [if_neg (by decide +kernel)]; exact ⟨rfl, rfl⟩))
    (fun os started H enc _ => fnExactDueFor_lifted os started H enc)
#print axioms fnExactDueFor_holds
end Go.Proofs.Ytohmefblkfophaa
