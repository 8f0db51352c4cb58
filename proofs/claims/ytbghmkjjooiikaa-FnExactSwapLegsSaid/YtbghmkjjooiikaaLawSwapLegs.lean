/- FnExactSwapLegs returns true for every argument. No condition. -/
import Derived.Test.YtbghmkjjooiikaaSwapS
import Derived.Test.YtbghmkjjooiikaaSwapTot
import Derived.Test.YtbghmkjjooiikaaNestLaw
import Derived.Test.YtbghmkjjooiikaaNestTo
import Derived.Test.YtbghmkjjooiikaaNestEq
import Derived.Test.YtbghmkjjooiikaaNestSz
import Derived.Test.YtbghmkjjooiikaaNestRd
import Derived.Test.YtbghmkjjooiikaaNestMark
namespace Go
theorem gain_of_sl3 {w w' : World} {v : Value} {l : List (List (List Int))} (_ : w.sl3 v l) (hg : ∃ d, w' = w.ext d) : ∃ d, w' = w.ext d := hg
end Go
namespace Go.Proofs.Ytbghmkjjooiikaa
open Go.ChangeShapes Go.WideShapes Go.ChangeAt Go.RowKit Go.Ori
set_option maxHeartbeats 4000000 in
theorem fnExactSwapLegs_walk (v_plan : Value) (l_plan : List (List (List Int))) (legs : Int) (forks : Int) (team : Int) (a : Int) (b : Int) (w : World) (h_v_plan : w.sl3 v_plan l_plan) (hm_plan : l_plan.length ≤ 9223372036854775807) (hq_plan : ∀ x ∈ l_plan, x.length ≤ 9223372036854775807 ∧ ∀ y ∈ x, y.length ≤ 9223372036854775807) :
    Calls Try.prog 3 #[v_plan, .int .i64 legs, .int .i64 forks, .int .i64 team, .int .i64 a, .int .i64 b] w fun x w' => x = .returned (.bool true) ∧ ∃ d, w' = w.ext d := by
  obtain ⟨p_plan, c_plan, hv_plan⟩ := sl3_form h_v_plan
  subst hv_plan
  go_enter Try.func3, Try.ntmps3
  go_wp2_with fail
  refine (szIntSSS_any _ l_plan _ _ (sl3_up h_v_plan (by repeat (first | with_reducible (first | exact World.gained_refl _ | exact ⟨_, rfl⟩ | apply gain_ext | apply gain_alloc | apply gain_drewN | apply gain_drew) | (refine gain_setCell ?_ (by first | exact Nat.le_refl _ | exact World.size_ext _ _ | (simp; done) | (simp; omega)) _)))) hm_plan hq_plan (by omega) (by omega)).mono ?_
  rintro e w1 ⟨r_plan, rfl, rfl, hr_plan⟩
  by_cases hp_plan : ¬ 0 ≤ r_plan
  · go_wp2
    go_ret
    exact ⟨rfl, (by repeat (first | with_reducible (first | exact World.gained_refl _ | exact ⟨_, rfl⟩ | apply gain_ext | apply gain_alloc | apply gain_drewN | apply gain_drew) | (refine gain_setCell ?_ (by first | exact Nat.le_refl _ | exact World.size_ext _ _ | (simp; done) | (simp; omega)) _)))⟩
  replace hp_plan : 0 ≤ r_plan := by omega
  have hl_plan : tot3 l_plan ≤ 1048576 := by omega
  clear hm_plan
  go_wp2_with fail
  refine (toIntSSS_any _ l_plan _ (sl3_up h_v_plan (by repeat (first | with_reducible (first | exact World.gained_refl _ | exact ⟨_, rfl⟩ | apply gain_ext | apply gain_alloc | apply gain_drewN | apply gain_drew) | (refine gain_setCell ?_ (by first | exact Nat.le_refl _ | exact World.size_ext _ _ | (simp; done) | (simp; omega)) _)))) hl_plan).mono ?_
  rintro e w1 ⟨u_plan, rfl, ⟨d2, rfl⟩, h_u_plan⟩
  go_wp2_with fail
  refine (specSwapLegs_any _ l_plan legs forks team a b _ (sl3_up (sl3_of_own h_u_plan) (by repeat (first | with_reducible (first | exact World.gained_refl _ | exact ⟨_, rfl⟩ | apply gain_ext | apply gain_alloc | apply gain_drewN | apply gain_drew) | (refine gain_setCell ?_ (by first | exact Nat.le_refl _ | exact World.size_ext _ _ | (simp; done) | (simp; omega)) _)))) hl_plan).mono ?_
  rintro e w1 ⟨w0, rfl, ⟨d1, rfl⟩, h_w0⟩
  replace h_w0 := sl3_of_rows3p h_w0
  clear h_u_plan
  go_wp2_with fail
  refine (toIntSSS_any _ l_plan _ (sl3_up h_v_plan (by repeat (first | with_reducible (first | exact World.gained_refl _ | exact ⟨_, rfl⟩ | apply gain_ext | apply gain_alloc | apply gain_drewN | apply gain_drew) | (refine gain_setCell ?_ (by first | exact Nat.le_refl _ | exact World.size_ext _ _ | (simp; done) | (simp; omega)) _)))) hl_plan).mono ?_
  rintro e w1 ⟨x_plan, rfl, ⟨d3, rfl⟩, h_x_plan⟩
  have lv_x_plan := live3_of_own h_x_plan (Nat.le_refl _)
  go_wp2_with fail
  refine (swapLegs_any _ l_plan legs forks team a b _ (sl3_up (sl3_of_own h_x_plan) (by repeat (first | with_reducible (first | exact World.gained_refl _ | exact ⟨_, rfl⟩ | apply gain_ext | apply gain_alloc | apply gain_drewN | apply gain_drew) | (refine gain_setCell ?_ (by first | exact Nat.le_refl _ | exact World.size_ext _ _ | (simp; done) | (simp; omega)) _)))) hl_plan).mono ?_
  rintro e w1 ⟨g0, rfl, ⟨d4, rfl⟩, h_g0⟩
  go_wp2_with fail
  refine (eqIntSSS_same _ _ (swapL l_plan legs forks team a b) _ (sl3_up (sl3_of_rows3p h_g0) (by repeat (first | with_reducible (first | exact World.gained_refl _ | exact ⟨_, rfl⟩ | apply gain_ext | apply gain_alloc | apply gain_drewN | apply gain_drew) | (refine gain_setCell ?_ (by first | exact Nat.le_refl _ | exact World.size_ext _ _ | (simp; done) | (simp; omega)) _)))) (sl3_up h_w0 (by repeat (first | with_reducible (first | exact World.gained_refl _ | exact ⟨_, rfl⟩ | apply gain_ext | apply gain_alloc | apply gain_drewN | apply gain_drew) | (refine gain_setCell ?_ (by first | exact Nat.le_refl _ | exact World.size_ext _ _ | (simp; done) | (simp; omega)) _)))) (swapL_tot l_plan legs forks team a b)).mono ?_
  rintro e w1 ⟨rfl, d5, rfl⟩
  go_wp2_with fail
  refine (toIntSSS_any _ l_plan _ (sl3_up h_v_plan (by repeat (first | with_reducible (first | exact World.gained_refl _ | exact ⟨_, rfl⟩ | apply gain_ext | apply gain_alloc | apply gain_drewN | apply gain_drew) | (refine gain_setCell ?_ (by first | exact Nat.le_refl _ | exact World.size_ext _ _ | (simp; done) | (simp; omega)) _)))) hl_plan).mono ?_
  rintro e w1 ⟨t_plan, rfl, ⟨d6, rfl⟩, h_t_plan⟩
  go_wp2_with fail
  refine (eqIntSSS_same _ _ l_plan _ (sl3_up (sl3_of_own h_x_plan) (by repeat (first | with_reducible (first | exact World.gained_refl _ | exact ⟨_, rfl⟩ | apply gain_ext | apply gain_alloc | apply gain_drewN | apply gain_drew) | (refine gain_setCell ?_ (by first | exact Nat.le_refl _ | exact World.size_ext _ _ | (simp; done) | (simp; omega)) _)))) (sl3_up (sl3_of_own h_t_plan) (by repeat (first | with_reducible (first | exact World.gained_refl _ | exact ⟨_, rfl⟩ | apply gain_ext | apply gain_alloc | apply gain_drewN | apply gain_drew) | (refine gain_setCell ?_ (by first | exact Nat.le_refl _ | exact World.size_ext _ _ | (simp; done) | (simp; omega)) _)))) hl_plan).mono ?_
  rintro e w1 ⟨rfl, d7, rfl⟩
  clear h_t_plan
  go_wp2_with fail
  refine (markIntSSS_any w _ l_plan _ _ _ _ (by omega) (by omega) hl_plan (live3_up lv_x_plan (by repeat (first | with_reducible (first | exact World.gained_refl _ | exact ⟨_, rfl⟩ | apply gain_ext | apply gain_alloc | apply gain_drewN | apply gain_drew) | (refine gain_setCell ?_ (by first | exact Nat.le_refl _ | exact World.size_ext _ _ | (simp; done) | (simp; omega)) _)))) (by repeat (first | with_reducible (first | exact World.gained_refl _ | exact ⟨_, rfl⟩ | apply gain_ext | apply gain_alloc | apply gain_drewN | apply gain_drew) | (refine gain_setCell ?_ (by first | exact Nat.le_refl _ | exact World.size_ext _ _ | (simp; done) | (simp; omega)) _))) (gain_size (by repeat (first | with_reducible (first | exact World.gained_refl _ | exact ⟨_, rfl⟩ | apply gain_ext | apply gain_alloc | apply gain_drewN | apply gain_drew) | (refine gain_setCell ?_ (by first | exact Nat.le_refl _ | exact World.size_ext _ _ | (simp; done) | (simp; omega)) _))))).mono ?_
  rintro e w1 ⟨m_x_plan, rfl, hmb_x_plan, hrk, d8, rfl⟩
  have hgn_w0 := rk_gain (gain_of_sl3 h_w0 (by repeat (first | with_reducible (first | exact World.gained_refl _ | exact ⟨_, rfl⟩ | apply gain_ext | apply gain_alloc | apply gain_drewN | apply gain_drew) | (refine gain_setCell ?_ (by first | exact Nat.le_refl _ | exact World.size_ext _ _ | (simp; done) | (simp; omega)) _)))) (gain_size (by repeat (first | with_reducible (first | exact World.gained_refl _ | exact ⟨_, rfl⟩ | apply gain_ext | apply gain_alloc | apply gain_drewN | apply gain_drew) | (refine gain_setCell ?_ (by first | exact Nat.le_refl _ | exact World.size_ext _ _ | (simp; done) | (simp; omega)) _)))) hrk
  replace h_g0 := rows3p_hi (rows3p_up h_g0 (by repeat (first | with_reducible (first | exact World.gained_refl _ | exact ⟨_, rfl⟩ | apply gain_ext | apply gain_alloc | apply gain_drewN | apply gain_drew) | (refine gain_setCell ?_ (by first | exact Nat.le_refl _ | exact World.size_ext _ _ | (simp; done) | (simp; omega)) _)))) (gain_size (by repeat (first | with_reducible (first | exact World.gained_refl _ | exact ⟨_, rfl⟩ | apply gain_ext | apply gain_alloc | apply gain_drewN | apply gain_drew) | (refine gain_setCell ?_ (by first | exact Nat.le_refl _ | exact World.size_ext _ _ | (simp; done) | (simp; omega)) _)))) hrk
  clear h_x_plan
  clear lv_x_plan hrk
  go_wp2_with fail
  refine (eqIntSSS_same _ _ (swapL l_plan legs forks team a b) _ (sl3_up (sl3_of_rows3p h_g0) (by repeat (first | with_reducible (first | exact World.gained_refl _ | exact ⟨_, rfl⟩ | apply gain_ext | apply gain_alloc | apply gain_drewN | apply gain_drew) | (refine gain_setCell ?_ (by first | exact Nat.le_refl _ | exact World.size_ext _ _ | (simp; done) | (simp; omega)) _)))) (sl3_up h_w0 (gain_trans hgn_w0 (by repeat (first | with_reducible (first | exact World.gained_refl _ | exact ⟨_, rfl⟩ | apply gain_ext | apply gain_alloc | apply gain_drewN | apply gain_drew) | (refine gain_setCell ?_ (by first | exact Nat.le_refl _ | exact World.size_ext _ _ | (simp; done) | (simp; omega)) _))))) (swapL_tot l_plan legs forks team a b)).mono ?_
  rintro e w1 ⟨rfl, d9, rfl⟩
  go_wp2_with fail
  refine (markIntSSSP_any h_w0 _ (swapL l_plan legs forks team a b) _ _ 1 (by omega) (by omega) (swapL_tot l_plan legs forks team a b) (rows3p_up h_g0 (by repeat (first | with_reducible (first | exact World.gained_refl _ | exact ⟨_, rfl⟩ | apply gain_ext | apply gain_alloc | apply gain_drewN | apply gain_drew) | (refine gain_setCell ?_ (by first | exact Nat.le_refl _ | exact World.size_ext _ _ | (simp; done) | (simp; omega)) _)))) (gain_trans hgn_w0 (by repeat (first | with_reducible (first | exact World.gained_refl _ | exact ⟨_, rfl⟩ | apply gain_ext | apply gain_alloc | apply gain_drewN | apply gain_drew) | (refine gain_setCell ?_ (by first | exact Nat.le_refl _ | exact World.size_ext _ _ | (simp; done) | (simp; omega)) _)))) (gain_size (by repeat (first | with_reducible (first | exact World.gained_refl _ | exact ⟨_, rfl⟩ | apply gain_ext | apply gain_alloc | apply gain_drewN | apply gain_drew) | (refine gain_setCell ?_ (by first | exact Nat.le_refl _ | exact World.size_ext _ _ | (simp; done) | (simp; omega)) _))))).mono ?_
  rintro e w1 ⟨rfl, hm_g0, d10, rfl⟩
  clear h_g0
  go_wp2_with fail
  refine (heldIntSSS_any _ (swapL l_plan legs forks team a b) _ 1 (by omega) (by omega) (swapL_tot l_plan legs forks team a b) (sl3_up (sl3_of_rows3p hm_g0) (by repeat (first | with_reducible (first | exact World.gained_refl _ | exact ⟨_, rfl⟩ | apply gain_ext | apply gain_alloc | apply gain_drewN | apply gain_drew) | (refine gain_setCell ?_ (by first | exact Nat.le_refl _ | exact World.size_ext _ _ | (simp; done) | (simp; omega)) _))))).mono ?_
  rintro e w1 ⟨rfl, d11, rfl⟩
  go_wp2_with fail
  refine (toIntSSS_any _ l_plan _ (sl3_up h_v_plan (by repeat (first | with_reducible (first | exact World.gained_refl _ | exact ⟨_, rfl⟩ | apply gain_ext | apply gain_alloc | apply gain_drewN | apply gain_drew) | (refine gain_setCell ?_ (by first | exact Nat.le_refl _ | exact World.size_ext _ _ | (simp; done) | (simp; omega)) _)))) hl_plan).mono ?_
  rintro e w1 ⟨y_plan, rfl, ⟨d13, rfl⟩, h_y_plan⟩
  go_wp2_with fail
  refine (swapLegs_any _ l_plan legs forks team a b _ (sl3_up (sl3_of_own h_y_plan) (by repeat (first | with_reducible (first | exact World.gained_refl _ | exact ⟨_, rfl⟩ | apply gain_ext | apply gain_alloc | apply gain_drewN | apply gain_drew) | (refine gain_setCell ?_ (by first | exact Nat.le_refl _ | exact World.size_ext _ _ | (simp; done) | (simp; omega)) _)))) hl_plan).mono ?_
  rintro e w1 ⟨h0, rfl, ⟨d12, rfl⟩, h_h0⟩
  replace h_h0 := sl3_of_rows3p h_h0
  go_wp2_with fail
  refine (eqIntSSS_same _ _ (swapL l_plan legs forks team a b) _ (sl3_up h_h0 (by repeat (first | with_reducible (first | exact World.gained_refl _ | exact ⟨_, rfl⟩ | apply gain_ext | apply gain_alloc | apply gain_drewN | apply gain_drew) | (refine gain_setCell ?_ (by first | exact Nat.le_refl _ | exact World.size_ext _ _ | (simp; done) | (simp; omega)) _)))) (sl3_up h_w0 (by repeat (first | with_reducible (first | exact World.gained_refl _ | exact ⟨_, rfl⟩ | apply gain_ext | apply gain_alloc | apply gain_drewN | apply gain_drew) | (refine gain_setCell ?_ (by first | exact Nat.le_refl _ | exact World.size_ext _ _ | (simp; done) | (simp; omega)) _)))) (swapL_tot l_plan legs forks team a b)).mono ?_
  rintro e w1 ⟨rfl, d14, rfl⟩
  go_wp2_with fail
  refine (heldIntSSS_any _ (swapL l_plan legs forks team a b) _ 1 (by omega) (by omega) (swapL_tot l_plan legs forks team a b) (sl3_up (sl3_of_rows3p hm_g0) (by repeat (first | with_reducible (first | exact World.gained_refl _ | exact ⟨_, rfl⟩ | apply gain_ext | apply gain_alloc | apply gain_drewN | apply gain_drew) | (refine gain_setCell ?_ (by first | exact Nat.le_refl _ | exact World.size_ext _ _ | (simp; done) | (simp; omega)) _))))).mono ?_
  rintro e w1 ⟨rfl, d15, rfl⟩
  go_wp2
  go_ret
  exact ⟨rfl, (by repeat (first | with_reducible (first | exact World.gained_refl _ | exact ⟨_, rfl⟩ | apply gain_ext | apply gain_alloc | apply gain_drewN | apply gain_drew) | (refine gain_setCell ?_ (by first | exact Nat.le_refl _ | exact World.size_ext _ _ | (simp; done) | (simp; omega)) _)))⟩
set_option maxRecDepth 100000 in
theorem fnExactSwapLegs_lifted (os : Os) (started : os.Started) (H : Type) (enc : TypeId × Value → H) :
    ReturnsInHanded {} Try.checked os 3 .any (Rows.fnExactSwapLegsSpec.pre6 enc Try.prog Try.f3 Rows.fnExactSwapLegsRow.domain false) (Rows.fnExactSwapLegsSpec.post enc Try.prog Try.f3 false true false false) := by
  refine returnsInHanded_of_change (C := Try.checked) (by kernel_rfl) started (by kernel_rfl) Try.func3
    (ChangeSpec.witness6 (enc := enc) (C := Try.checked) false ⟨#[], #[.slice none 0 0, .int .i64 0, .int .i64 0, .int .i64 0, .int .i64 0, .int .i64 0], []⟩ 8 (by kernel_rfl) (by kernel_rfl) (by kernel_rfl) (by kernel_rfl)) ?_
  intro W base args ds gs before hval0 hW _ _
  have hval : ∀ (j : Nat) t v, Try.f3.params[j]? = some t → args[j]? = some v → Value.okWide Try.prog W .any base t v := hval0
  clear hval0
  have laidOut : laidOutB Try.prog = true := by as_aux_lemma => kernel_rfl
  have hWc := hW
  obtain ⟨p, q, hA0, hV, rfl, _, _⟩ := hWc
  have hA : DataW.TrodAll enc Try.prog W 0 (fun _ => true) true Try.f3.params.toList args.toList ds p := hA0
  clear hA0
  rw [Try.params3] at hA hval
  obtain ⟨v0, vs0, d0, ds0, p0, q0, hargs, rfl, rfl, h0, r0⟩ := trodAll_cons hA
  obtain ⟨v1, vs1, d1, ds1, p1, q1, rfl, rfl, rfl, h1, r1⟩ := trodAll_cons r0
  obtain ⟨v2, vs2, d2, ds2, p2, q2, rfl, rfl, rfl, h2, r2⟩ := trodAll_cons r1
  obtain ⟨v3, vs3, d3, ds3, p3, q3, rfl, rfl, rfl, h3, r3⟩ := trodAll_cons r2
  obtain ⟨v4, vs4, d4, ds4, p4, q4, rfl, rfl, rfl, h4, r4⟩ := trodAll_cons r3
  obtain ⟨v5, vs5, d5, ds5, p5, q5, rfl, rfl, rfl, h5, r5⟩ := trodAll_cons r4
  obtain ⟨rfl, rfl, rfl⟩ := trodAll_nil r5
  obtain rfl : args = #[v0, v1, v2, v3, v4, v5] := by cases args; simp_all
  obtain ⟨rfl, rfl⟩ := trodVars_none hV
  obtain ⟨l0, hs0, hm0, hq0⟩ := read_IntSSS (hval 0 22 v0 rfl rfl) h0
  obtain ⟨n1, rfl, _, _, wf1⟩ := open_int Try.underlying3 (hval 1 3 v1 rfl rfl) h1
  obtain ⟨n2, rfl, _, _, wf2⟩ := open_int Try.underlying3 (hval 2 3 v2 rfl rfl) h2
  obtain ⟨n3, rfl, _, _, wf3⟩ := open_int Try.underlying3 (hval 3 3 v3 rfl rfl) h3
  obtain ⟨n4, rfl, _, _, wf4⟩ := open_int Try.underlying3 (hval 4 3 v4 rfl rfl) h4
  obtain ⟨n5, rfl, _, _, wf5⟩ := open_int Try.underlying3 (hval 5 3 v5 rfl rfl) h5
  refine (fnExactSwapLegs_walk v0 l0 n1 n2 n3 n4 n5 W hs0 hm0 hq0).mono fun e W1 ⟨he, hg⟩ => ?_
  subst he
  exact ⟨_, rfl, law_post (tb := 4) laidOut (by kernel_rfl) hW rfl rfl (by kernel_rfl) Try.underlying4 hg⟩
theorem fnExactSwapLegs_holds : Rows.FnExactSwapLegsSaid :=
  OpenClaim.holds_of_wide 3 Try.f3 rfl rfl rfl rfl rfl rfl rfl ⟨rfl, rfl, rfl, rfl, rfl⟩ rfl rfl rfl rfl rfl (by kernel_rfl) Try.func3 (by kernel_rfl)
    (of_decide_eq_true (by kernel_rfl)) (by unfold Func.isWrapper; first | (rw [if_pos (by decide +kernel)]; kernel_rfl) | (rw [if_neg (by decide +kernel)]; exact ⟨rfl, rfl⟩))
    (fun os started H enc _ => fnExactSwapLegs_lifted os started H enc)
#print axioms fnExactSwapLegs_holds
end Go.Proofs.Ytbghmkjjooiikaa
