/- FnExactDoesAdmit returns true for every argument. No condition. -/
import Derived.Test.YtcldcainmipjcaaDoesAdmit
import Derived.Test.YtcldcainmipjcaaToCls
import Derived.Test.YtcldcainmipjcaaSzCls
import Derived.Test.YtcldcainmipjcaaRdCls
import Derived.Test.YtcldcainmipjcaaToRunner
import Derived.Test.YtcldcainmipjcaaSzRunner
import Derived.Test.YtcldcainmipjcaaRdRunner
namespace Go.Proofs.Ytcldcainmipjcaa
open Go.ChangeShapes Go.WideShapes Go.ChangeAt Go.RowKit Go.Ori
set_option maxHeartbeats 1000000 in
theorem fnExactDoesAdmit_walk (c : Cls) (r : Runner) (w : World) (hn : c.ok) (hm : r.ok) :
    Calls Try.prog 4 #[.agg #[.int .i64 c.id, .string c.name, .int .i64 c.low, .int .i64 c.high, .bool c.women, .bool c.men, .int .i64 c.course, .int .i64 c.most], .agg #[.int .i64 r.id, .string r.name, .string r.club, .int .i64 r.born, .bool r.woman, .int .i64 r.card]] w fun x w' => x = .returned (.bool true) ∧ ∃ d, w' = w.ext d := by
  go_enter Try.func4, Try.ntmps4
  go_wp2_with fail
  refine (szClass_any c _ _ hn (by omega) (by omega)).mono ?_
  rintro e w1 ⟨q, rfl, ⟨d1, rfl⟩, hq, hx⟩
  by_cases hp : ¬ 0 ≤ q
  · go_wp2
    go_ret
    exact ⟨rfl, (by repeat (first | with_reducible (first | exact World.gained_refl _ | exact ⟨_, rfl⟩ | apply gain_ext | apply gain_alloc | apply gain_drewN | apply gain_drew) | (refine gain_setCell ?_ (by first | exact Nat.le_refl _ | exact World.size_ext _ _ | (simp; done) | (simp; omega)) _)))⟩
  replace hp : 0 ≤ q := by omega
  have hs := hx hp
  clear hx
  go_wp2_with fail
  refine (szRunner_any r _ _ hm (by omega) (by omega)).mono ?_
  rintro e w1 ⟨q2, rfl, ⟨d2, rfl⟩, hq2, hx⟩
  by_cases hp2 : ¬ 0 ≤ q2
  · go_wp2
    go_ret
    exact ⟨rfl, (by repeat (first | with_reducible (first | exact World.gained_refl _ | exact ⟨_, rfl⟩ | apply gain_ext | apply gain_alloc | apply gain_drewN | apply gain_drew) | (refine gain_setCell ?_ (by first | exact Nat.le_refl _ | exact World.size_ext _ _ | (simp; done) | (simp; omega)) _)))⟩
  replace hp2 : 0 ≤ q2 := by omega
  have hs1 := (hx hp2).1
  have hs2 := (hx hp2).2
  clear hx
  have HS := Lib.hid (fun w => specDoesAdmit_any c r w hs hs1 hs2)
  have HI := Lib.hid (fun w => doesAdmit_any c r w hs hs1 hs2)
  generalize (doesB c r && admitB c r) = p at HS HI
  generalize doesB c r = q at HS HI
  go_wp2
  refine wp_region_gain (by kernel_rfl) (by kernel_rfl) ?_
  repeat (first | go_big_quiet_skip | (go_big_quiet_want; go_big_quiet_op; first | go_big_quiet_on | ((apply Exists.intro); (refine ⟨fun _ => ?_, ?_⟩); (· (first | (go_at_call 15; exact Calls.gain (toClass_any _ _)) | (go_at_call 19; exact Calls.gain (toRunner_any _ _)) | (go_at_call 18; exact Calls.gain (HS.out _)))); (go_big_quiet_on))))
  refine wpQuiet_nil ?_
  rintro _ ⟨d', rfl⟩
  go_wp2
  refine wp_region_gain (by kernel_rfl) (by kernel_rfl) ?_
  repeat (first | go_big_quiet_skip | (go_big_quiet_want; go_big_quiet_op; first | go_big_quiet_on | ((apply Exists.intro); (refine ⟨fun _ => ?_, ?_⟩); (· (first | (go_at_call 15; exact Calls.gain (toClass_any _ _)) | (go_at_call 19; exact Calls.gain (toRunner_any _ _)) | (go_at_call 20; exact Calls.gain (HI.out _)))); (go_big_quiet_on))))
  refine wpQuiet_nil ?_
  rintro _ ⟨d', rfl⟩
  go_wp2
  go_ret
  exact ⟨rfl, (by repeat (first | with_reducible (first | exact World.gained_refl _ | exact ⟨_, rfl⟩ | apply gain_ext | apply gain_alloc | apply gain_drewN | apply gain_drew) | (refine gain_setCell ?_ (by first | exact Nat.le_refl _ | exact World.size_ext _ _ | (simp; done) | (simp; omega)) _)))⟩
set_option maxRecDepth 100000 in
theorem fnExactDoesAdmit_lifted (os : Os) (started : os.Started) (H : Type) (enc : TypeId × Value → H) :
    ReturnsInHanded {} Try.checked os 4 .any (Rows.fnExactDoesAdmitSpec.pre6 enc Try.prog Try.f4 Rows.fnExactDoesAdmitRow.domain false) (Rows.fnExactDoesAdmitSpec.post enc Try.prog Try.f4 false true false false) := by
  refine returnsInHanded_of_change (C := Try.checked) (by kernel_rfl) started (by kernel_rfl) Try.func4
    (ChangeSpec.witness6 (enc := enc) (C := Try.checked) false ⟨#[], #[.agg #[.int .i64 0, .string .empty, .int .i64 0, .int .i64 0, .bool false, .bool false, .int .i64 0, .int .i64 0], .agg #[.int .i64 0, .string .empty, .string .empty, .int .i64 0, .bool false, .int .i64 0]], []⟩ 8 (by kernel_rfl) (by kernel_rfl) (by kernel_rfl) (by kernel_rfl)) ?_
  intro W base args ds gs before hval0 hW _ _
  have hval : ∀ (j : Nat) t v, Try.f4.params[j]? = some t → args[j]? = some v → Value.okWide Try.prog W .any base t v := hval0
  clear hval0
  have laidOut : laidOutB Try.prog = true := by as_aux_lemma => kernel_rfl
  have hWc := hW
  obtain ⟨p, q, hA0, hV, rfl, _, _⟩ := hWc
  have hA : DataW.TrodAll enc Try.prog W 0 (fun _ => true) true Try.f4.params.toList args.toList ds p := hA0
  clear hA0
  rw [Try.params4] at hA hval
  obtain ⟨v0, vs0, d0, ds0, p0, q0, hargs, rfl, rfl, h0, r0⟩ := trodAll_cons hA
  obtain ⟨v1, vs1, d1, ds1, p1, q1, rfl, rfl, rfl, h1, r1⟩ := trodAll_cons r0
  obtain ⟨rfl, rfl, rfl⟩ := trodAll_nil r1
  obtain rfl : args = #[v0, v1] := by cases args; simp_all
  obtain ⟨rfl, rfl⟩ := trodVars_none hV
  obtain ⟨c, rfl, hok⟩ := read_Cls (hval 0 23 v0 rfl rfl) h0
  obtain ⟨r, rfl, hok1⟩ := read_Runner (hval 1 30 v1 rfl rfl) h1
  refine (fnExactDoesAdmit_walk c r W hok hok1).mono fun e W1 ⟨he, hg⟩ => ?_
  subst he
  exact ⟨_, rfl, law_post (tb := 4) laidOut (by kernel_rfl) hW rfl rfl (by kernel_rfl) Try.underlying4 hg⟩
theorem fnExactDoesAdmit_holds : Rows.FnExactDoesAdmitSaid :=
  OpenClaim.holds_of_wide 4 Try.f4 rfl rfl rfl rfl rfl rfl rfl ⟨rfl, rfl, rfl, rfl, rfl⟩ rfl rfl rfl rfl rfl (by kernel_rfl) Try.func4 (by kernel_rfl)
    (of_decide_eq_true (by kernel_rfl)) (by unfold Func.isWrapper; first | (rw [if_pos (by decide +kernel)]; kernel_rfl) | (rw [if_neg (by decide +kernel)]; exact ⟨rfl, rfl⟩))
    (fun os started H enc _ => fnExactDoesAdmit_lifted os started H enc)
#print axioms fnExactDoesAdmit_holds
end Go.Proofs.Ytcldcainmipjcaa
