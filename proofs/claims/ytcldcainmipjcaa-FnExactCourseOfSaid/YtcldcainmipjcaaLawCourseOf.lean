/- FnExactCourseOf returns true for every argument. No condition. -/
import Derived.Test.YtcldcainmipjcaaCourseOf
import Derived.Test.YtcldcainmipjcaaToClsS
import Derived.Test.YtcldcainmipjcaaEqClsS
import Derived.Test.YtcldcainmipjcaaSzClsS
import Derived.Test.YtcldcainmipjcaaRdClsS
namespace Go.Proofs.Ytcldcainmipjcaa
open Go.ChangeShapes Go.WideShapes Go.ChangeAt Go.RowKit Go.Ori
set_option maxHeartbeats 1000000 in
theorem fnExactCourseOf_walk (v_list : Value) (l_list : List Cls) (cid : Int) (w : World) (h_v_list : w.sl Cls.cells 8 v_list l_list) (hm_list : l_list.length ≤ 9223372036854775807) (hq_list : ∀ x ∈ l_list, Cls.ok x) :
    Calls Try.prog 6 #[v_list, .int .i64 cid] w fun x w' => x = .returned (.bool true) ∧ ∃ d, w' = w.ext d := by
  obtain ⟨p_list, c_list, hv_list, _⟩ := id h_v_list
  subst hv_list
  have hg := w.gained_refl
  go_enter Try.func6, Try.ntmps6
  go_wp2_with fail
  refine (szClassS_any _ l_list _ _ h_v_list hm_list hq_list (by omega) (by omega)).mono ?_
  rintro e w1 ⟨r_list, rfl, ⟨d1, rfl⟩, hr_list, hx_list⟩
  replace h_v_list := World.sl_ext Cls.cells_length h_v_list d1
  replace hg := gain_ext hg d1
  by_cases hp_list : ¬ 0 ≤ r_list
  · go_wp2
    go_ret
    exact ⟨rfl, hg⟩
  have hl_list : l_list.length ≤ 1048576 := by have := hx_list (by omega); omega
  replace hq_list := (hx_list (by omega)).2
  clear hm_list
  replace hp_list : 0 ≤ r_list := by omega
  clear hx_list
  go_wp2_with fail
  refine (toClassS_any _ l_list _ h_v_list hl_list).mono ?_
  rintro e w1 ⟨u_list, rfl, ⟨d2, rfl⟩, h_u_list⟩
  replace h_v_list := World.sl_ext Cls.cells_length h_v_list d2
  replace hg := gain_ext hg d2
  go_wp2_with fail
  refine (specCourseOf_any _ l_list cid _ (sl_of_own Cls.cells_length h_u_list) hl_list hq_list).mono ?_
  rintro e w1 ⟨rfl, d3, rfl⟩
  replace h_v_list := World.sl_ext Cls.cells_length h_v_list d3
  replace h_u_list := own_ext h_u_list d3
  replace hg := gain_ext hg d3
  clear h_u_list
  go_wp2_with fail
  refine (toClassS_any _ l_list _ h_v_list hl_list).mono ?_
  rintro e w1 ⟨x_list, rfl, ⟨d4, rfl⟩, h_x_list⟩
  replace h_v_list := World.sl_ext Cls.cells_length h_v_list d4
  replace hg := gain_ext hg d4
  go_wp2_with fail
  refine (courseOf_any _ l_list cid _ (sl_of_own Cls.cells_length h_x_list) hl_list hq_list).mono ?_
  rintro e w1 ⟨rfl, d5, rfl⟩
  replace h_v_list := World.sl_ext Cls.cells_length h_v_list d5
  replace h_x_list := own_ext h_x_list d5
  replace hg := gain_ext hg d5
  go_wp2_with fail
  refine (toClassS_any _ l_list _ h_v_list hl_list).mono ?_
  rintro e w1 ⟨t_list, rfl, ⟨d6, rfl⟩, h_t_list⟩
  replace h_v_list := World.sl_ext Cls.cells_length h_v_list d6
  replace h_x_list := own_ext h_x_list d6
  replace hg := gain_ext hg d6
  go_wp2_with fail
  refine (eqClassS_same _ _ l_list _ (sl_of_own Cls.cells_length h_x_list) (sl_of_own Cls.cells_length h_t_list) hl_list).mono ?_
  rintro e w1 ⟨rfl, d7, rfl⟩
  replace h_v_list := World.sl_ext Cls.cells_length h_v_list d7
  replace h_x_list := own_ext h_x_list d7
  replace h_t_list := own_ext h_t_list d7
  replace hg := gain_ext hg d7
  clear h_t_list
  go_wp2
  go_ret
  exact ⟨rfl, hg⟩
set_option maxRecDepth 100000 in
theorem fnExactCourseOf_lifted (os : Os) (started : os.Started) (H : Type) (enc : TypeId × Value → H) :
    ReturnsInHanded {} Try.checked os 6 .any (Rows.fnExactCourseOfSpec.pre6 enc Try.prog Try.f6 Rows.fnExactCourseOfRow.domain false) (Rows.fnExactCourseOfSpec.post enc Try.prog Try.f6 false true false false) := by
  refine returnsInHanded_of_change (C := Try.checked) (by kernel_rfl) started (by kernel_rfl) Try.func6
    (ChangeSpec.witness6 (enc := enc) (C := Try.checked) false ⟨#[], #[.slice none 0 0, .int .i64 0], []⟩ 8 (by kernel_rfl) (by kernel_rfl) (by kernel_rfl) (by kernel_rfl)) ?_
  intro W base args ds gs before hval0 hW _ _
  have hval : ∀ (j : Nat) t v, Try.f6.params[j]? = some t → args[j]? = some v → Value.okWide Try.prog W .any base t v := hval0
  clear hval0
  have laidOut : laidOutB Try.prog = true := by as_aux_lemma => kernel_rfl
  have hWc := hW
  obtain ⟨p, q, hA0, hV, rfl, _, _⟩ := hWc
  have hA : DataW.TrodAll enc Try.prog W 0 (fun _ => true) true Try.f6.params.toList args.toList ds p := hA0
  clear hA0
  rw [Try.params6] at hA hval
  obtain ⟨v0, vs0, d0, ds0, p0, q0, hargs, rfl, rfl, h0, r0⟩ := trodAll_cons hA
  obtain ⟨v1, vs1, d1, ds1, p1, q1, rfl, rfl, rfl, h1, r1⟩ := trodAll_cons r0
  obtain ⟨rfl, rfl, rfl⟩ := trodAll_nil r1
  obtain rfl : args = #[v0, v1] := by cases args; simp_all
  obtain ⟨rfl, rfl⟩ := trodVars_none hV
  obtain ⟨l0, hs0, hm0, hq0⟩ := read_Clss (hval 0 37 v0 rfl rfl) h0
  obtain ⟨n1, rfl, _, _, wf1⟩ := open_int Try.underlying3 (hval 1 3 v1 rfl rfl) h1
  refine (fnExactCourseOf_walk v0 l0 n1 W hs0 hm0 hq0).mono fun e W1 ⟨he, hg⟩ => ?_
  subst he
  exact ⟨_, rfl, law_post (tb := 4) laidOut (by kernel_rfl) hW rfl rfl (by kernel_rfl) Try.underlying4 hg⟩
theorem fnExactCourseOf_holds : Rows.FnExactCourseOfSaid :=
  OpenClaim.holds_of_wide 6 Try.f6 rfl rfl rfl rfl rfl rfl rfl ⟨rfl, rfl, rfl, rfl, rfl⟩ rfl rfl rfl rfl rfl (by kernel_rfl) Try.func6 (by kernel_rfl)
    (of_decide_eq_true (by kernel_rfl)) (by unfold Func.isWrapper; first | (rw [if_pos (by decide +kernel)]; kernel_rfl) | (rw [if_neg (by decide +kernel)]; exact ⟨rfl, rfl⟩))
    (fun os started H enc _ => fnExactCourseOf_lifted os started H enc)
#print axioms fnExactCourseOf_holds
end Go.Proofs.Ytcldcainmipjcaa
