/- FnExactRotatedPlan returns true for every argument. No condition. -/
import Derived.Test.YtdgfjlilgeoicaaRotated
import Derived.Test.YtdgfjlilgeoicaaNestLaw
import Derived.Test.YtdgfjlilgeoicaaNestTo
import Derived.Test.YtdgfjlilgeoicaaNestEq
import Derived.Test.YtdgfjlilgeoicaaNestRd
namespace Go.Proofs.Ytdgfjlilgeoicaa
open Go.ChangeShapes Go.WideShapes Go.ChangeAt Go.RowKit Go.Ori
theorem rotatedPlan_law (teams legs forks : Int) (w : World) : Calls Try.prog 26 #[.int .i64 teams, .int .i64 legs, .int .i64 forks] w fun x w' => ∃ r, x = .returned (.tuple #[r, .bool (rotB teams legs forks)]) ∧ (∃ d, w' = w.ext d) ∧ World.rows3p 25 28 3 w' w.heap.size r (rotL teams legs forks) :=
  (rotatedPlan_any teams legs forks w).mono fun x w' ⟨r, us, vss, h1, h2, h3⟩ => ⟨r, h1, h2, us, vss, h3⟩
theorem specRotatedPlan_law (teams legs forks : Int) (w : World) : Calls Try.prog 27 #[.int .i64 teams, .int .i64 legs, .int .i64 forks] w fun x w' => ∃ r, x = .returned (.tuple #[r, .bool (rotB teams legs forks)]) ∧ (∃ d, w' = w.ext d) ∧ World.rows3p 25 28 3 w' w.heap.size r (rotL teams legs forks) :=
  (specRotatedPlan_any teams legs forks w).mono fun x w' ⟨r, us, vss, h1, h2, h3⟩ => ⟨r, h1, h2, us, vss, h3⟩
set_option maxHeartbeats 4000000 in
theorem fnExactRotatedPlan_walk (teams : Int) (legs : Int) (forks : Int) (w : World)  :
    Calls Try.prog 4 #[.int .i64 teams, .int .i64 legs, .int .i64 forks] w fun x w' => x = .returned (.bool true) ∧ ∃ d, w' = w.ext d := by
  go_enter Try.func4, Try.ntmps4
  go_wp2_with fail
  refine (specRotatedPlan_law teams legs forks _).mono ?_
  rintro e w1 ⟨w0, rfl, ⟨d1, rfl⟩, h_w0⟩
  replace h_w0 := sl3_of_rows3p h_w0
  go_wp2_with fail
  refine (rotatedPlan_law teams legs forks _).mono ?_
  rintro e w1 ⟨g0, rfl, ⟨d2, rfl⟩, h_g0⟩
  go_wp2_with fail
  refine (eqIntSSS_same _ _ (rotL teams legs forks) _ (sl3_up (sl3_of_rows3p h_g0) (by repeat (first | with_reducible (first | exact World.gained_refl _ | exact ⟨_, rfl⟩ | apply gain_ext | apply gain_alloc | apply gain_drewN | apply gain_drew) | (refine gain_setCell ?_ (by first | exact Nat.le_refl _ | exact World.size_ext _ _ | (simp; done) | (simp; omega)) _)))) (sl3_up h_w0 (by repeat (first | with_reducible (first | exact World.gained_refl _ | exact ⟨_, rfl⟩ | apply gain_ext | apply gain_alloc | apply gain_drewN | apply gain_drew) | (refine gain_setCell ?_ (by first | exact Nat.le_refl _ | exact World.size_ext _ _ | (simp; done) | (simp; omega)) _)))) (rotL_tot teams legs forks)).mono ?_
  rintro e w1 ⟨rfl, d3, rfl⟩
  go_wp2_with fail
  refine (markIntSSSP_any h_w0 _ (rotL teams legs forks) _ _ 1 (by omega) (by omega) (rotL_tot teams legs forks) (rows3p_up h_g0 (by repeat (first | with_reducible (first | exact World.gained_refl _ | exact ⟨_, rfl⟩ | apply gain_ext | apply gain_alloc | apply gain_drewN | apply gain_drew) | (refine gain_setCell ?_ (by first | exact Nat.le_refl _ | exact World.size_ext _ _ | (simp; done) | (simp; omega)) _)))) (by repeat (first | with_reducible (first | exact World.gained_refl _ | exact ⟨_, rfl⟩ | apply gain_ext | apply gain_alloc | apply gain_drewN | apply gain_drew) | (refine gain_setCell ?_ (by first | exact Nat.le_refl _ | exact World.size_ext _ _ | (simp; done) | (simp; omega)) _))) (gain_size (by repeat (first | with_reducible (first | exact World.gained_refl _ | exact ⟨_, rfl⟩ | apply gain_ext | apply gain_alloc | apply gain_drewN | apply gain_drew) | (refine gain_setCell ?_ (by first | exact Nat.le_refl _ | exact World.size_ext _ _ | (simp; done) | (simp; omega)) _))))).mono ?_
  rintro e w1 ⟨rfl, hm_g0, d4, rfl⟩
  clear h_g0
  go_wp2_with fail
  refine (heldIntSSS_any _ (rotL teams legs forks) _ 1 (by omega) (by omega) (rotL_tot teams legs forks) (sl3_up (sl3_of_rows3p hm_g0) (by repeat (first | with_reducible (first | exact World.gained_refl _ | exact ⟨_, rfl⟩ | apply gain_ext | apply gain_alloc | apply gain_drewN | apply gain_drew) | (refine gain_setCell ?_ (by first | exact Nat.le_refl _ | exact World.size_ext _ _ | (simp; done) | (simp; omega)) _))))).mono ?_
  rintro e w1 ⟨rfl, d5, rfl⟩
  go_wp2_with fail
  refine (rotatedPlan_law teams legs forks _).mono ?_
  rintro e w1 ⟨h0, rfl, ⟨d6, rfl⟩, h_h0⟩
  replace h_h0 := sl3_of_rows3p h_h0
  go_wp2_with fail
  refine (eqIntSSS_same _ _ (rotL teams legs forks) _ (sl3_up h_h0 (by repeat (first | with_reducible (first | exact World.gained_refl _ | exact ⟨_, rfl⟩ | apply gain_ext | apply gain_alloc | apply gain_drewN | apply gain_drew) | (refine gain_setCell ?_ (by first | exact Nat.le_refl _ | exact World.size_ext _ _ | (simp; done) | (simp; omega)) _)))) (sl3_up h_w0 (by repeat (first | with_reducible (first | exact World.gained_refl _ | exact ⟨_, rfl⟩ | apply gain_ext | apply gain_alloc | apply gain_drewN | apply gain_drew) | (refine gain_setCell ?_ (by first | exact Nat.le_refl _ | exact World.size_ext _ _ | (simp; done) | (simp; omega)) _)))) (rotL_tot teams legs forks)).mono ?_
  rintro e w1 ⟨rfl, d7, rfl⟩
  go_wp2_with fail
  refine (heldIntSSS_any _ (rotL teams legs forks) _ 1 (by omega) (by omega) (rotL_tot teams legs forks) (sl3_up (sl3_of_rows3p hm_g0) (by repeat (first | with_reducible (first | exact World.gained_refl _ | exact ⟨_, rfl⟩ | apply gain_ext | apply gain_alloc | apply gain_drewN | apply gain_drew) | (refine gain_setCell ?_ (by first | exact Nat.le_refl _ | exact World.size_ext _ _ | (simp; done) | (simp; omega)) _))))).mono ?_
  rintro e w1 ⟨rfl, d8, rfl⟩
  go_wp2
  go_ret
  exact ⟨rfl, (by repeat (first | with_reducible (first | exact World.gained_refl _ | exact ⟨_, rfl⟩ | apply gain_ext | apply gain_alloc | apply gain_drewN | apply gain_drew) | (refine gain_setCell ?_ (by first | exact Nat.le_refl _ | exact World.size_ext _ _ | (simp; done) | (simp; omega)) _)))⟩
set_option maxRecDepth 100000 in
theorem fnExactRotatedPlan_lifted (os : Os) (started : os.Started) (H : Type) (enc : TypeId × Value → H) :
    ReturnsInHanded {} Try.checked os 4 .any (Rows.fnExactRotatedPlanSpec.pre6 enc Try.prog Try.f4 Rows.fnExactRotatedPlanRow.domain false) (Rows.fnExactRotatedPlanSpec.post enc Try.prog Try.f4 false true false false) := by
  refine returnsInHanded_of_change (C := Try.checked) (by kernel_rfl) started (by kernel_rfl) Try.func4
    (ChangeSpec.witness6 (enc := enc) (C := Try.checked) false ⟨#[], #[.int .i64 0, .int .i64 0, .int .i64 0], []⟩ 8 (by kernel_rfl) (by kernel_rfl) (by kernel_rfl) (by kernel_rfl)) ?_
  intro W base args ds gs before hval0 hW _ _
  have hval : ∀ (j : Nat) t v, Try.f4.params[j]? = some t → args[j]? = some v → Value.okWide Try.prog W .any base t v := hval0
  clear hval0
  have laidOut : laidOutB Try.prog = true := by as_aux_lemma => kernel_rfl
  have hWc := hW
  obtain ⟨p, q, hA0, hV, rfl, _, _⟩ := hWc
  have hA : DataW.TrodAll enc Try.prog W 0 (fun _ => true) true Try.f4.params.toList args.toList ds p := hA0
  clear hA0
  rw [Try.params4] at hA hval
  obtain ⟨v0, vs0, d0, ds0, p0, q0, hargs, rfl, rfl, h0, r0⟩ := trodAll_cons hA
  obtain ⟨v1, vs1, d1, ds1, p1, q1, rfl, rfl, rfl, h1, r1⟩ := trodAll_cons r0
  obtain ⟨v2, vs2, d2, ds2, p2, q2, rfl, rfl, rfl, h2, r2⟩ := trodAll_cons r1
  obtain ⟨rfl, rfl, rfl⟩ := trodAll_nil r2
  obtain rfl : args = #[v0, v1, v2] := by cases args; simp_all
  obtain ⟨rfl, rfl⟩ := trodVars_none hV
  obtain ⟨n0, rfl, _, _, wf0⟩ := open_int Try.underlying3 (hval 0 3 v0 rfl rfl) h0
  obtain ⟨n1, rfl, _, _, wf1⟩ := open_int Try.underlying3 (hval 1 3 v1 rfl rfl) h1
  obtain ⟨n2, rfl, _, _, wf2⟩ := open_int Try.underlying3 (hval 2 3 v2 rfl rfl) h2
  refine (fnExactRotatedPlan_walk n0 n1 n2 W ).mono fun e W1 ⟨he, hg⟩ => ?_
  subst he
  exact ⟨_, rfl, law_post (tb := 4) laidOut (by kernel_rfl) hW rfl rfl (by kernel_rfl) Try.underlying4 hg⟩
theorem fnExactRotatedPlan_holds : Rows.FnExactRotatedPlanSaid :=
  OpenClaim.holds_of_wide 4 Try.f4 rfl rfl rfl rfl rfl rfl rfl ⟨rfl, rfl, rfl, rfl, rfl⟩ rfl rfl rfl rfl rfl (by kernel_rfl) Try.func4 (by kernel_rfl)
    (of_decide_eq_true (by kernel_rfl)) (by unfold Func.isWrapper; first | (rw [if_pos (by decide +kernel)]; kernel_rfl) | (rw [if_neg (by decide +kernel)]; exact ⟨rfl, rfl⟩))
    (fun os started H enc _ => fnExactRotatedPlan_lifted os started H enc)
#print axioms fnExactRotatedPlan_holds
end Go.Proofs.Ytdgfjlilgeoicaa
