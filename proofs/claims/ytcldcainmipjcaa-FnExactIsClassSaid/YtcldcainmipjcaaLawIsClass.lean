/- FnExactIsClass returns true for every argument. No condition. -/
import Derived.Test.YtcldcainmipjcaaOneClass
import Derived.Test.YtcldcainmipjcaaToCls
import Derived.Test.YtcldcainmipjcaaSzCls
import Derived.Test.YtcldcainmipjcaaRdCls
namespace Go.Proofs.Ytcldcainmipjcaa
open Go.ChangeShapes Go.WideShapes Go.ChangeAt Go.RowKit Go.Ori
theorem fnExactIsClass_walk (c : Cls) (w : World) (hn : c.ok) :
    Calls Try.prog 3 #[.agg #[.int .i64 c.id, .string c.name, .int .i64 c.low, .int .i64 c.high, .bool c.women, .bool c.men, .int .i64 c.course, .int .i64 c.most]] w fun x w' => x = .returned (.bool true) ∧ ∃ d, w' = w.ext d := by
  go_enter Try.func3, Try.ntmps3
  go_wp2_with fail
  refine (szClass_any c _ _ hn (by omega) (by omega)).mono ?_
  rintro e w1 ⟨r, rfl, ⟨d1, rfl⟩, hr, hx⟩
  by_cases hp : ¬ 0 ≤ r
  · go_wp2
    go_ret
    exact ⟨rfl, (by repeat (first | with_reducible (first | exact World.gained_refl _ | exact ⟨_, rfl⟩ | apply gain_ext | apply gain_alloc | apply gain_drewN | apply gain_drew) | (refine gain_setCell ?_ (by first | exact Nat.le_refl _ | exact World.size_ext _ _ | (simp; done) | (simp; omega)) _)))⟩
  replace hp : 0 ≤ r := by omega
  have hs := hx hp
  clear hx
  go_wp2_with (first | (go_at_call 15; refine (toClass_any _ _).mono ?_; rintro e w1 ⟨rfl, d1, rfl⟩) | (go_at_call 14; refine (specIsClass_any _ _ hs).mono ?_; rintro e w1 ⟨rfl, d1, rfl⟩) | (go_at_call 16; refine (isClass_any _ _ hs).mono ?_; rintro e w1 ⟨rfl, d1, rfl⟩))
  all_goals go_ret
  all_goals exact ⟨rfl, (by repeat (first | with_reducible (first | exact World.gained_refl _ | exact ⟨_, rfl⟩ | apply gain_ext | apply gain_alloc | apply gain_drewN | apply gain_drew) | (refine gain_setCell ?_ (by first | exact Nat.le_refl _ | exact World.size_ext _ _ | (simp; done) | (simp; omega)) _)))⟩
set_option maxRecDepth 100000 in
theorem fnExactIsClass_lifted (os : Os) (started : os.Started) (H : Type) (enc : TypeId × Value → H) :
    ReturnsInHanded {} Try.checked os 3 .any (Rows.fnExactIsClassSpec.pre6 enc Try.prog Try.f3 Rows.fnExactIsClassRow.domain false) (Rows.fnExactIsClassSpec.post enc Try.prog Try.f3 false true false false) := by
  refine returnsInHanded_of_change (C := Try.checked) (by kernel_rfl) started (by kernel_rfl) Try.func3
    (ChangeSpec.witness6 (enc := enc) (C := Try.checked) false ⟨#[], #[.agg #[.int .i64 0, .string .empty, .int .i64 0, .int .i64 0, .bool false, .bool false, .int .i64 0, .int .i64 0]], []⟩ 8 (by kernel_rfl) (by kernel_rfl) (by kernel_rfl) (by kernel_rfl)) ?_
  intro W base args ds gs before hval0 hW _ _
  have hval : ∀ (j : Nat) t v, Try.f3.params[j]? = some t → args[j]? = some v → Value.okWide Try.prog W .any base t v := hval0
  clear hval0
  have laidOut : laidOutB Try.prog = true := by as_aux_lemma => kernel_rfl
  have hWc := hW
  obtain ⟨p, q, hA0, hV, rfl, _, _⟩ := hWc
  have hA : DataW.TrodAll enc Try.prog W 0 (fun _ => true) true Try.f3.params.toList args.toList ds p := hA0
  clear hA0
  rw [Try.params3] at hA hval
  obtain ⟨v0, vs0, d0, ds0, p0, q0, hargs, rfl, rfl, h0, r0⟩ := trodAll_cons hA
  obtain ⟨rfl, rfl, rfl⟩ := trodAll_nil r0
  obtain rfl : args = #[v0] := by cases args; simp_all
  obtain ⟨rfl, rfl⟩ := trodVars_none hV
  obtain ⟨c, rfl, hok⟩ := read_Cls (hval 0 23 v0 rfl rfl) h0
  refine (fnExactIsClass_walk c W hok).mono fun e W1 ⟨he, hg⟩ => ?_
  subst he
  exact ⟨_, rfl, law_post (tb := 4) laidOut (by kernel_rfl) hW rfl rfl (by kernel_rfl) Try.underlying4 hg⟩
theorem fnExactIsClass_holds : Rows.FnExactIsClassSaid :=
  OpenClaim.holds_of_wide 3 Try.f3 rfl rfl rfl rfl rfl rfl rfl ⟨rfl, rfl, rfl, rfl, rfl⟩ rfl rfl rfl rfl rfl (by kernel_rfl) Try.func3 (by kernel_rfl)
    (of_decide_eq_true (by kernel_rfl)) (by unfold Func.isWrapper; first | (rw [if_pos (by decide +kernel)]; kernel_rfl) | (rw [if_neg (by decide +kernel)]; exact ⟨rfl, rfl⟩))
    (fun os started H enc _ => fnExactIsClass_lifted os started H enc)
#print axioms fnExactIsClass_holds
end Go.Proofs.Ytcldcainmipjcaa
