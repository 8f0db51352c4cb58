/- FnExactIsFairPlan returns true for every argument. No condition. -/
import Derived.Test.YtdgfjlilgeoicaaFairPlan
import Derived.Test.YtdgfjlilgeoicaaNestTo
import Derived.Test.YtdgfjlilgeoicaaNestEq
import Derived.Test.YtdgfjlilgeoicaaNestSz
import Derived.Test.YtdgfjlilgeoicaaNestRd
namespace Go.Proofs.Ytdgfjlilgeoicaa
open Go.ChangeShapes Go.WideShapes Go.ChangeAt Go.RowKit Go.Ori
set_option maxHeartbeats 4000000 in
theorem fnExactIsFairPlan_walk (v_plan : Value) (l_plan : List (List (List Int))) (legs : Int) (forks : Int) (w : World) (h_v_plan : w.sl3 v_plan l_plan) (hm_plan : l_plan.length ≤ 9223372036854775807) (hq_plan : ∀ x ∈ l_plan, x.length ≤ 9223372036854775807 ∧ ∀ y ∈ x, y.length ≤ 9223372036854775807) :
    Calls Try.prog 8 #[v_plan, .int .i64 legs, .int .i64 forks] w fun x w' => x = .returned (.bool true) ∧ ∃ d, w' = w.ext d := by
  obtain ⟨p_plan, c_plan, hv_plan⟩ := sl3_form h_v_plan
  subst hv_plan
  go_enter Try.func8, Try.ntmps8
  go_wp2_with fail
  refine (szIntSSS_any _ l_plan _ _ (sl3_up h_v_plan (by repeat (first | with_reducible (first | exact World.gained_refl _ | exact ⟨_, rfl⟩ | apply gain_ext | apply gain_alloc | apply gain_drewN | apply gain_drew) | (refine gain_setCell ?_ (by first | exact Nat.le_refl _ | exact World.size_ext _ _ | (simp; done) | (simp; omega)) _)))) hm_plan hq_plan (by omega) (by omega)).mono ?_
  rintro e w1 ⟨r_plan, rfl, rfl, hr_plan⟩
  by_cases hp_plan : ¬ 0 ≤ r_plan
  · go_wp2
    go_ret
    exact ⟨rfl, (by repeat (first | with_reducible (first | exact World.gained_refl _ | exact ⟨_, rfl⟩ | apply gain_ext | apply gain_alloc | apply gain_drewN | apply gain_drew) | (refine gain_setCell ?_ (by first | exact Nat.le_refl _ | exact World.size_ext _ _ | (simp; done) | (simp; omega)) _)))⟩
  replace hp_plan : 0 ≤ r_plan := by omega
  have hl_plan : tot3 l_plan ≤ 1048576 := by omega
  clear hm_plan
  go_wp2_with fail
  refine (toIntSSS_any _ l_plan _ (sl3_up h_v_plan (by repeat (first | with_reducible (first | exact World.gained_refl _ | exact ⟨_, rfl⟩ | apply gain_ext | apply gain_alloc | apply gain_drewN | apply gain_drew) | (refine gain_setCell ?_ (by first | exact Nat.le_refl _ | exact World.size_ext _ _ | (simp; done) | (simp; omega)) _)))) hl_plan).mono ?_
  rintro e w1 ⟨u_plan, rfl, ⟨d2, rfl⟩, h_u_plan⟩
  go_wp2_with fail
  refine (specIsFairPlan_any _ l_plan legs forks _ (sl3_up (sl3_of_own h_u_plan) (by repeat (first | with_reducible (first | exact World.gained_refl _ | exact ⟨_, rfl⟩ | apply gain_ext | apply gain_alloc | apply gain_drewN | apply gain_drew) | (refine gain_setCell ?_ (by first | exact Nat.le_refl _ | exact World.size_ext _ _ | (simp; done) | (simp; omega)) _)))) hl_plan).mono ?_
  rintro e w1 ⟨rfl, d1, rfl⟩
  clear h_u_plan
  go_wp2_with fail
  refine (toIntSSS_any _ l_plan _ (sl3_up h_v_plan (by repeat (first | with_reducible (first | exact World.gained_refl _ | exact ⟨_, rfl⟩ | apply gain_ext | apply gain_alloc | apply gain_drewN | apply gain_drew) | (refine gain_setCell ?_ (by first | exact Nat.le_refl _ | exact World.size_ext _ _ | (simp; done) | (simp; omega)) _)))) hl_plan).mono ?_
  rintro e w1 ⟨x_plan, rfl, ⟨d3, rfl⟩, h_x_plan⟩
  go_wp2_with fail
  refine (isFairPlan_any _ l_plan legs forks _ (sl3_up (sl3_of_own h_x_plan) (by repeat (first | with_reducible (first | exact World.gained_refl _ | exact ⟨_, rfl⟩ | apply gain_ext | apply gain_alloc | apply gain_drewN | apply gain_drew) | (refine gain_setCell ?_ (by first | exact Nat.le_refl _ | exact World.size_ext _ _ | (simp; done) | (simp; omega)) _)))) hl_plan).mono ?_
  rintro e w1 ⟨rfl, d4, rfl⟩
  go_wp2_with fail
  refine (toIntSSS_any _ l_plan _ (sl3_up h_v_plan (by repeat (first | with_reducible (first | exact World.gained_refl _ | exact ⟨_, rfl⟩ | apply gain_ext | apply gain_alloc | apply gain_drewN | apply gain_drew) | (refine gain_setCell ?_ (by first | exact Nat.le_refl _ | exact World.size_ext _ _ | (simp; done) | (simp; omega)) _)))) hl_plan).mono ?_
  rintro e w1 ⟨t_plan, rfl, ⟨d5, rfl⟩, h_t_plan⟩
  go_wp2_with fail
  refine (eqIntSSS_same _ _ l_plan _ (sl3_up (sl3_of_own h_x_plan) (by repeat (first | with_reducible (first | exact World.gained_refl _ | exact ⟨_, rfl⟩ | apply gain_ext | apply gain_alloc | apply gain_drewN | apply gain_drew) | (refine gain_setCell ?_ (by first | exact Nat.le_refl _ | exact World.size_ext _ _ | (simp; done) | (simp; omega)) _)))) (sl3_up (sl3_of_own h_t_plan) (by repeat (first | with_reducible (first | exact World.gained_refl _ | exact ⟨_, rfl⟩ | apply gain_ext | apply gain_alloc | apply gain_drewN | apply gain_drew) | (refine gain_setCell ?_ (by first | exact Nat.le_refl _ | exact World.size_ext _ _ | (simp; done) | (simp; omega)) _)))) hl_plan).mono ?_
  rintro e w1 ⟨rfl, d6, rfl⟩
  clear h_t_plan
  go_wp2
  go_ret
  exact ⟨rfl, (by repeat (first | with_reducible (first | exact World.gained_refl _ | exact ⟨_, rfl⟩ | apply gain_ext | apply gain_alloc | apply gain_drewN | apply gain_drew) | (refine gain_setCell ?_ (by first | exact Nat.le_refl _ | exact World.size_ext _ _ | (simp; done) | (simp; omega)) _)))⟩
set_option maxRecDepth 100000 in
theorem fnExactIsFairPlan_lifted (os : Os) (started : os.Started) (H : Type) (enc : TypeId × Value → H) :
    ReturnsInHanded {} Try.checked os 8 .any (Rows.fnExactIsFairPlanSpec.pre6 enc Try.prog Try.f8 Rows.fnExactIsFairPlanRow.domain false) (Rows.fnExactIsFairPlanSpec.post enc Try.prog Try.f8 false true false false) := by
  refine returnsInHanded_of_change (C := Try.checked) (by kernel_rfl) started (by kernel_rfl) Try.func8
    (ChangeSpec.witness6 (enc := enc) (C := Try.checked) false ⟨#[], #[.slice none 0 0, .int .i64 0, .int .i64 0], []⟩ 8 (by kernel_rfl) (by kernel_rfl) (by kernel_rfl) (by kernel_rfl)) ?_
  intro W base args ds gs before hval0 hW _ _
  have hval : ∀ (j : Nat) t v, Try.f8.params[j]? = some t → args[j]? = some v → Value.okWide Try.prog W .any base t v := hval0
  clear hval0
  have laidOut : laidOutB Try.prog = true := by as_aux_lemma => kernel_rfl
  have hWc := hW
  obtain ⟨p, q, hA0, hV, rfl, _, _⟩ := hWc
  have hA : DataW.TrodAll enc Try.prog W 0 (fun _ => true) true Try.f8.params.toList args.toList ds p := hA0
  clear hA0
  rw [Try.params8] at hA hval
  obtain ⟨v0, vs0, d0, ds0, p0, q0, hargs, rfl, rfl, h0, r0⟩ := trodAll_cons hA
  obtain ⟨v1, vs1, d1, ds1, p1, q1, rfl, rfl, rfl, h1, r1⟩ := trodAll_cons r0
  obtain ⟨v2, vs2, d2, ds2, p2, q2, rfl, rfl, rfl, h2, r2⟩ := trodAll_cons r1
  obtain ⟨rfl, rfl, rfl⟩ := trodAll_nil r2
  obtain rfl : args = #[v0, v1, v2] := by cases args; simp_all
  obtain ⟨rfl, rfl⟩ := trodVars_none hV
  obtain ⟨l0, hs0, hm0, hq0⟩ := read_IntSSS (hval 0 24 v0 rfl rfl) h0
  obtain ⟨n1, rfl, _, _, wf1⟩ := open_int Try.underlying3 (hval 1 3 v1 rfl rfl) h1
  obtain ⟨n2, rfl, _, _, wf2⟩ := open_int Try.underlying3 (hval 2 3 v2 rfl rfl) h2
  refine (fnExactIsFairPlan_walk v0 l0 n1 n2 W hs0 hm0 hq0).mono fun e W1 ⟨he, hg⟩ => ?_
  subst he
  exact ⟨_, rfl, law_post (tb := 4) laidOut (by kernel_rfl) hW rfl rfl (by kernel_rfl) Try.underlying4 hg⟩
theorem fnExactIsFairPlan_holds : Rows.FnExactIsFairPlanSaid :=
  OpenClaim.holds_of_wide 8 Try.f8 rfl rfl rfl rfl rfl rfl rfl ⟨rfl, rfl, rfl, rfl, rfl⟩ rfl rfl rfl rfl rfl (by kernel_rfl) Try.func8 (by kernel_rfl)
    (of_decide_eq_true (by kernel_rfl)) (by unfold Func.isWrapper; first | (rw [if_pos (by decide +kernel)]; kernel_rfl) | (rw [if_neg (by decide +kernel)]; exact ⟨rfl, rfl⟩))
    (fun os started H enc _ => fnExactIsFairPlan_lifted os started H enc)
#print axioms fnExactIsFairPlan_holds
end Go.Proofs.Ytdgfjlilgeoicaa
