/- FnExactBestClass returns true for every argument. No condition. -/
import Derived.Test.YtcldcainmipjcaaBestClass
import Derived.Test.YtcldcainmipjcaaToClsS
import Derived.Test.YtcldcainmipjcaaEqClsS
import Derived.Test.YtcldcainmipjcaaSzClsS
import Derived.Test.YtcldcainmipjcaaRdClsS
import Derived.Test.YtcldcainmipjcaaToRunner
import Derived.Test.YtcldcainmipjcaaSzRunner
import Derived.Test.YtcldcainmipjcaaRdRunner
namespace Go.Proofs.Ytcldcainmipjcaa
open Go.ChangeShapes Go.WideShapes Go.ChangeAt Go.RowKit Go.Ori
set_option maxHeartbeats 4000000 in
theorem fnExactBestClass_walk (v_list : Value) (l_list : List Cls) (r : Runner) (w : World) (h_v_list : w.sl Cls.cells 8 v_list l_list) (hm_list : l_list.length ≤ 9223372036854775807) (hq_list : ∀ x ∈ l_list, Cls.ok x) (ho_r : Runner.ok r) :
    Calls Try.prog 7 #[v_list, .agg #[.int .i64 r.id, .string r.name, .string r.club, .int .i64 r.born, .bool r.woman, .int .i64 r.card]] w fun x w' => x = .returned (.bool true) ∧ ∃ d, w' = w.ext d := by
  obtain ⟨p_list, c_list, hv_list, _⟩ := id h_v_list
  subst hv_list
  go_enter Try.func7, Try.ntmps7
  have h_b_r : (w.alloc (.cells #[.int .i64 r.id, .string r.name, .string r.club, .int .i64 r.born, .bool r.woman, .int .i64 r.card] 30)).sl Runner.cells 6 (.slice (some ⟨w.heap.size, 0, none⟩) 1 1) [r] := sl_lit (w := w) (l := [r]) Runner.cells_length rfl (by simp)
  replace h_b_r : (w.alloc (.cells #[.int .i64 r.id, .string r.name, .string r.club, .int .i64 r.born, .bool r.woman, .int .i64 r.card] 30)).sl Runner.cells 6 (.slice (some ⟨w.heap.size, 0, none⟩) 1 1) [r] := (sl_up Runner.cells_length h_b_r (by repeat (first | with_reducible (first | exact World.gained_refl _ | exact ⟨_, rfl⟩ | apply gain_ext | apply gain_alloc | apply gain_drewN | apply gain_drew) | (refine gain_setCell ?_ (by first | exact Nat.le_refl _ | exact World.size_ext _ _ | (simp; done) | (simp; omega)) _))))
  have c_r_0 : (w.alloc (.cells #[.int .i64 r.id, .string r.name, .string r.club, .int .i64 r.born, .bool r.woman, .int .i64 r.card] 30)).cell? ⟨w.heap.size, 0, none⟩ = some (.int .i64 r.id) := by have := sl_cells h_b_r (k := 0) (by simp) (j := 0) (by omega); first | (simp; done) | simpa [Runner.cells] using this
  have c_r_1 : (w.alloc (.cells #[.int .i64 r.id, .string r.name, .string r.club, .int .i64 r.born, .bool r.woman, .int .i64 r.card] 30)).cell? ⟨w.heap.size, 1, none⟩ = some (.string r.name) := by have := sl_cells h_b_r (k := 0) (by simp) (j := 1) (by omega); first | (simp; done) | simpa [Runner.cells] using this
  have c_r_2 : (w.alloc (.cells #[.int .i64 r.id, .string r.name, .string r.club, .int .i64 r.born, .bool r.woman, .int .i64 r.card] 30)).cell? ⟨w.heap.size, 2, none⟩ = some (.string r.club) := by have := sl_cells h_b_r (k := 0) (by simp) (j := 2) (by omega); first | (simp; done) | simpa [Runner.cells] using this
  have c_r_3 : (w.alloc (.cells #[.int .i64 r.id, .string r.name, .string r.club, .int .i64 r.born, .bool r.woman, .int .i64 r.card] 30)).cell? ⟨w.heap.size, 3, none⟩ = some (.int .i64 r.born) := by have := sl_cells h_b_r (k := 0) (by simp) (j := 3) (by omega); first | (simp; done) | simpa [Runner.cells] using this
  have c_r_4 : (w.alloc (.cells #[.int .i64 r.id, .string r.name, .string r.club, .int .i64 r.born, .bool r.woman, .int .i64 r.card] 30)).cell? ⟨w.heap.size, 4, none⟩ = some (.bool r.woman) := by have := sl_cells h_b_r (k := 0) (by simp) (j := 4) (by omega); first | (simp; done) | simpa [Runner.cells] using this
  have c_r_5 : (w.alloc (.cells #[.int .i64 r.id, .string r.name, .string r.club, .int .i64 r.born, .bool r.woman, .int .i64 r.card] 30)).cell? ⟨w.heap.size, 5, none⟩ = some (.int .i64 r.card) := by have := sl_cells h_b_r (k := 0) (by simp) (j := 5) (by omega); first | (simp; done) | simpa [Runner.cells] using this
  go_wp2_with fail
  refine (szClassS_any _ l_list _ _ (sl_up Cls.cells_length h_v_list (by repeat (first | with_reducible (first | exact World.gained_refl _ | exact ⟨_, rfl⟩ | apply gain_ext | apply gain_alloc | apply gain_drewN | apply gain_drew) | (refine gain_setCell ?_ (by first | exact Nat.le_refl _ | exact World.size_ext _ _ | (simp; done) | (simp; omega)) _)))) hm_list hq_list (by omega) (by omega)).mono ?_
  rintro e w1 ⟨r_list, rfl, ⟨d1, rfl⟩, hr_list, hx_list⟩
  by_cases hp_list : ¬ 0 ≤ r_list
  · go_wp2
    go_ret
    exact ⟨rfl, (by repeat (first | with_reducible (first | exact World.gained_refl _ | exact ⟨_, rfl⟩ | apply gain_ext | apply gain_alloc | apply gain_drewN | apply gain_drew) | (refine gain_setCell ?_ (by first | exact Nat.le_refl _ | exact World.size_ext _ _ | (simp; done) | (simp; omega)) _)))⟩
  replace hp_list : 0 ≤ r_list := by omega
  have hl_list : l_list.length ≤ 1048576 := by have := hx_list hp_list; omega
  replace hq_list := (hx_list hp_list).2
  clear hx_list hm_list
  go_wp2_with fail
  refine (szRunner_any r _ _ ho_r (by omega) (by omega)).mono ?_
  rintro e w1 ⟨r_r, rfl, ⟨d2, rfl⟩, hr_r, hx_r⟩
  by_cases hp_r : ¬ 0 ≤ r_r
  · go_wp2
    go_ret
    exact ⟨rfl, (by repeat (first | with_reducible (first | exact World.gained_refl _ | exact ⟨_, rfl⟩ | apply gain_ext | apply gain_alloc | apply gain_drewN | apply gain_drew) | (refine gain_setCell ?_ (by first | exact Nat.le_refl _ | exact World.size_ext _ _ | (simp; done) | (simp; omega)) _)))⟩
  replace hp_r : 0 ≤ r_r := by omega
  have hs_r_1 := (hx_r hp_r).1
  have hs_r_2 := (hx_r hp_r).2
  clear hx_r
  go_upto_region 8 with fail
  go_region_held (fun w' => w'.cell? ⟨w.heap.size, 0, none⟩ = some (.int .i64 r.id) ∧ w'.cell? ⟨w.heap.size, 1, none⟩ = some (.string r.name) ∧ w'.cell? ⟨w.heap.size, 2, none⟩ = some (.string r.club) ∧ w'.cell? ⟨w.heap.size, 3, none⟩ = some (.int .i64 r.born) ∧ w'.cell? ⟨w.heap.size, 4, none⟩ = some (.bool r.woman) ∧ w'.cell? ⟨w.heap.size, 5, none⟩ = some (.int .i64 r.card)) (refine ⟨?_, ?_, ?_, ?_, ?_, ?_⟩ <;> (with_reducible (repeat (first | assumption | refine cell_ext ?_ _ | refine cell_drew ?_ | refine cell_alloc ?_ _)))) (first | (go_at_call 23; refine (toClassS_any _ l_list _ (sl_up Cls.cells_length h_v_list (by repeat (first | with_reducible (first | exact World.gained_refl _ | exact ⟨_, rfl⟩ | apply gain_ext | apply gain_alloc | apply gain_drewN | apply gain_drew) | (refine gain_setCell ?_ (by first | exact Nat.le_refl _ | exact World.size_ext _ _ | (simp; done) | (simp; omega)) _)))) hl_list).mono ?_; rintro e w1 ⟨u_list, rfl, ⟨d4, rfl⟩, h_u_list⟩) | (go_at_call 19; refine (toRunner_any _ _).mono ?_; rintro e w1 ⟨rfl, d5, rfl⟩) | (go_at_call 28; refine (specBestClass_any _ l_list r _ (sl_up Cls.cells_length (sl_of_own Cls.cells_length h_u_list) (by repeat (first | with_reducible (first | exact World.gained_refl _ | exact ⟨_, rfl⟩ | apply gain_ext | apply gain_alloc | apply gain_drewN | apply gain_drew) | (refine gain_setCell ?_ (by first | exact Nat.le_refl _ | exact World.size_ext _ _ | (simp; done) | (simp; omega)) _)))) hl_list hq_list hs_r_1 hs_r_2).mono ?_; rintro e w1 ⟨rfl, d3, rfl⟩))
  clear h_u_list
  go_wp2_with fail
  refine (toClassS_any _ l_list _ (sl_up Cls.cells_length h_v_list (by repeat (first | with_reducible (first | exact World.gained_refl _ | exact ⟨_, rfl⟩ | apply gain_ext | apply gain_alloc | apply gain_drewN | apply gain_drew) | (refine gain_setCell ?_ (by first | exact Nat.le_refl _ | exact World.size_ext _ _ | (simp; done) | (simp; omega)) _)))) hl_list).mono ?_
  rintro e w1 ⟨x_list, rfl, ⟨d6, rfl⟩, h_x_list⟩
  go_wp2_with fail
  refine (toRunner_any _ _).mono ?_
  rintro e w1 ⟨rfl, d8, rfl⟩
  go_wp2_with fail
  refine (bestClass_any _ l_list r _ (sl_up Cls.cells_length (sl_of_own Cls.cells_length h_x_list) (by repeat (first | with_reducible (first | exact World.gained_refl _ | exact ⟨_, rfl⟩ | apply gain_ext | apply gain_alloc | apply gain_drewN | apply gain_drew) | (refine gain_setCell ?_ (by first | exact Nat.le_refl _ | exact World.size_ext _ _ | (simp; done) | (simp; omega)) _)))) hl_list hq_list hs_r_1 hs_r_2).mono ?_
  rintro e w1 ⟨rfl, d7, rfl⟩
  go_wp2_with fail
  refine (toClassS_any _ l_list _ (sl_up Cls.cells_length h_v_list (by repeat (first | with_reducible (first | exact World.gained_refl _ | exact ⟨_, rfl⟩ | apply gain_ext | apply gain_alloc | apply gain_drewN | apply gain_drew) | (refine gain_setCell ?_ (by first | exact Nat.le_refl _ | exact World.size_ext _ _ | (simp; done) | (simp; omega)) _)))) hl_list).mono ?_
  rintro e w1 ⟨t_list, rfl, ⟨d9, rfl⟩, h_t_list⟩
  go_wp2_with fail
  refine (eqClassS_same _ _ l_list _ (sl_up Cls.cells_length (sl_of_own Cls.cells_length h_x_list) (by repeat (first | with_reducible (first | exact World.gained_refl _ | exact ⟨_, rfl⟩ | apply gain_ext | apply gain_alloc | apply gain_drewN | apply gain_drew) | (refine gain_setCell ?_ (by first | exact Nat.le_refl _ | exact World.size_ext _ _ | (simp; done) | (simp; omega)) _)))) (sl_up Cls.cells_length (sl_of_own Cls.cells_length h_t_list) (by repeat (first | with_reducible (first | exact World.gained_refl _ | exact ⟨_, rfl⟩ | apply gain_ext | apply gain_alloc | apply gain_drewN | apply gain_drew) | (refine gain_setCell ?_ (by first | exact Nat.le_refl _ | exact World.size_ext _ _ | (simp; done) | (simp; omega)) _)))) hl_list).mono ?_
  rintro e w1 ⟨rfl, d10, rfl⟩
  clear h_t_list
  go_wp2
  go_ret
  exact ⟨rfl, (by repeat (first | with_reducible (first | exact World.gained_refl _ | exact ⟨_, rfl⟩ | apply gain_ext | apply gain_alloc | apply gain_drewN | apply gain_drew) | (refine gain_setCell ?_ (by first | exact Nat.le_refl _ | exact World.size_ext _ _ | (simp; done) | (simp; omega)) _)))⟩
set_option maxRecDepth 100000 in
theorem fnExactBestClass_lifted (os : Os) (started : os.Started) (H : Type) (enc : TypeId × Value → H) :
    ReturnsInHanded {} Try.checked os 7 .any (Rows.fnExactBestClassSpec.pre6 enc Try.prog Try.f7 Rows.fnExactBestClassRow.domain false) (Rows.fnExactBestClassSpec.post enc Try.prog Try.f7 false true false false) := by
  refine returnsInHanded_of_change (C := Try.checked) (by kernel_rfl) started (by kernel_rfl) Try.func7
    (ChangeSpec.witness6 (enc := enc) (C := Try.checked) false ⟨#[], #[.slice none 0 0, .agg #[.int .i64 0, .string .empty, .string .empty, .int .i64 0, .bool false, .int .i64 0]], []⟩ 8 (by kernel_rfl) (by kernel_rfl) (by kernel_rfl) (by kernel_rfl)) ?_
  intro W base args ds gs before hval0 hW _ _
  have hval : ∀ (j : Nat) t v, Try.f7.params[j]? = some t → args[j]? = some v → Value.okWide Try.prog W .any base t v := hval0
  clear hval0
  have laidOut : laidOutB Try.prog = true := by as_aux_lemma => kernel_rfl
  have hWc := hW
  obtain ⟨p, q, hA0, hV, rfl, _, _⟩ := hWc
  have hA : DataW.TrodAll enc Try.prog W 0 (fun _ => true) true Try.f7.params.toList args.toList ds p := hA0
  clear hA0
  rw [Try.params7] at hA hval
  obtain ⟨v0, vs0, d0, ds0, p0, q0, hargs, rfl, rfl, h0, r0⟩ := trodAll_cons hA
  obtain ⟨v1, vs1, d1, ds1, p1, q1, rfl, rfl, rfl, h1, r1⟩ := trodAll_cons r0
  obtain ⟨rfl, rfl, rfl⟩ := trodAll_nil r1
  obtain rfl : args = #[v0, v1] := by cases args; simp_all
  obtain ⟨rfl, rfl⟩ := trodVars_none hV
  obtain ⟨l0, hs0, hm0, hq0⟩ := read_Clss (hval 0 37 v0 rfl rfl) h0
  obtain ⟨n1, rfl, ho1⟩ := read_Runner (hval 1 30 v1 rfl rfl) h1
  refine (fnExactBestClass_walk v0 l0 n1 W hs0 hm0 hq0 ho1).mono fun e W1 ⟨he, hg⟩ => ?_
  subst he
  exact ⟨_, rfl, law_post (tb := 4) laidOut (by kernel_rfl) hW rfl rfl (by kernel_rfl) Try.underlying4 hg⟩
theorem fnExactBestClass_holds : Rows.FnExactBestClassSaid :=
  OpenClaim.holds_of_wide 7 Try.f7 rfl rfl rfl rfl rfl rfl rfl ⟨rfl, rfl, rfl, rfl, rfl⟩ rfl rfl rfl rfl rfl (by kernel_rfl) Try.func7 (by kernel_rfl)
    (of_decide_eq_true (by kernel_rfl)) (by unfold Func.isWrapper; first | (rw [if_pos (by decide +kernel)]; kernel_rfl) | (rw [if_neg (by decide +kernel)]; exact ⟨rfl, rfl⟩))
    (fun os started H enc _ => fnExactBestClass_lifted os started H enc)
#print axioms fnExactBestClass_holds
end Go.Proofs.Ytcldcainmipjcaa
