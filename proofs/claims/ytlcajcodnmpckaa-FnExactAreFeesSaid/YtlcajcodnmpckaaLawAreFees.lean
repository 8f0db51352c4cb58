/- FnExactAreFees returns true for every argument. No condition. -/
import Derived.Test.YtlcajcodnmpckaaFees
import Derived.Test.YtlcajcodnmpckaaLaw
namespace Go.Proofs.Ytlcajcodnmpckaa
open Go.ChangeShapes Go.WideShapes Go.ChangeAt Go.RowKit Go.Ori
theorem fnExactAreFees_walk (a c r l : Int) (w : World) :
    Calls Try.prog 3 #[.agg #[.int .i64 a, .int .i64 c, .int .i64 r, .int .i64 l]] w fun x w' => x = .returned (.bool true) ∧ ∃ d, w' = w.ext d := by
  go_enter Try.func3, Try.ntmps3
  go_wp2_with (first | (go_at_call 10; refine (toFees_any _ _ _ _ _).mono ?_; rintro e w1 ⟨rfl, d1, rfl⟩) | (go_at_call 9; refine (specAreFees_any _ _ _ _ _).mono ?_; rintro e w1 ⟨rfl, d1, rfl⟩) | (go_at_call 11; refine (areFees_any _ _ _ _ _).mono ?_; rintro e w1 ⟨rfl, d1, rfl⟩))
  all_goals go_ret
  all_goals refine ⟨rfl, ?_⟩
  all_goals (repeat (first | exact World.gained_refl _ | exact ⟨_, rfl⟩ | apply gain_ext | apply gain_alloc | apply gain_drewN | apply gain_drew | (refine gain_setCell ?_ (by first | exact Nat.le_refl _ | exact World.size_ext _ _ | (simp; done) | (simp; omega)) _)))
theorem dec_Fees {H : Type} {encH : TypeId × Value → H} {w : World} : ∀ n cs x, DataW.trod encH Try.prog w 0 (fun _ => true) true n 23 cs = some x → cs.length = 4 → ∃ a : Fees, a.cells = cs ∧ True := by
  intro n cs x hx hl
  have hf := dec_struct Try.underlying23 (by kernel_rfl) hx
  match cs, hl with
  | [c0, c1, c2, c3], _ =>
    obtain ⟨m0, y0, f0⟩ := hf 0 _ c0 rfl rfl
    obtain ⟨m1, y1, f1⟩ := hf 1 _ c1 rfl rfl
    obtain ⟨m2, y2, f2⟩ := hf 2 _ c2 rfl rfl
    obtain ⟨m3, y3, f3⟩ := hf 3 _ c3 rfl rfl
    obtain ⟨a0, e0, _, _⟩ := DataW.trod_int Try.underlying3 f0
    obtain ⟨a1, e1, _, _⟩ := DataW.trod_int Try.underlying3 f1
    obtain ⟨a2, e2, _, _⟩ := DataW.trod_int Try.underlying3 f2
    obtain ⟨a3, e3, _, _⟩ := DataW.trod_int Try.underlying3 f3
    simp only [List.cons.injEq, and_true] at e0 e1 e2 e3
    subst e0 e1 e2 e3
    exact ⟨⟨a0, a1, a2, a3⟩, rfl, trivial⟩
theorem read_Fees {H : Type} {encH : TypeId × Value → H} {w : World} {r : Reach} {b0 : Nat} {v : Value} {d : DataW H} {ps : List MemPlace} (hv : Value.okWide Try.prog w r b0 23 v)
    (h : DataW.Trod encH Try.prog w 0 (fun _ => true) true 23 v d ps) : ∃ a : Fees, v = .agg #[.int .i64 a.adult, .int .i64 a.child, .int .i64 a.rent, .int .i64 a.late] := by
  obtain ⟨cs, rfl, hlen, n, x, hx⟩ := open_struct Try.underlying23 hv h
  obtain ⟨a, rfl, _⟩ := dec_Fees n cs x hx (hlen.trans (by kernel_rfl))
  exact ⟨a, rfl⟩
set_option maxRecDepth 100000 in
theorem fnExactAreFees_lifted (os : Os) (started : os.Started) (H : Type) (enc : TypeId × Value → H) :
    ReturnsInHanded {} Try.checked os 3 .any (Rows.fnExactAreFeesSpec.pre6 enc Try.prog Try.f3 Rows.fnExactAreFeesRow.domain false) (Rows.fnExactAreFeesSpec.post enc Try.prog Try.f3 false true false false) := by
  refine returnsInHanded_of_change (C := Try.checked) (by kernel_rfl) started (by kernel_rfl) Try.func3
    (ChangeSpec.witness6 (enc := enc) (C := Try.checked) false ⟨#[], #[.agg #[.int .i64 0, .int .i64 0, .int .i64 0, .int .i64 0]], []⟩ 8 (by kernel_rfl) (by kernel_rfl) (by kernel_rfl) (by kernel_rfl)) ?_
  intro W base args ds gs before hval0 hW _ _
  have hval : ∀ (j : Nat) t v, Try.f3.params[j]? = some t → args[j]? = some v → Value.okWide Try.prog W .any base t v := hval0
  clear hval0
  have laidOut : laidOutB Try.prog = true := by as_aux_lemma => kernel_rfl
  have hWc := hW
  obtain ⟨p, q, hA0, hV, rfl, _, _⟩ := hWc
  have hA : DataW.TrodAll enc Try.prog W 0 (fun _ => true) true Try.f3.params.toList args.toList ds p := hA0
  clear hA0
  rw [Try.params3] at hA hval
  obtain ⟨v0, vs0, d0, ds0, p0, q0, hargs, rfl, rfl, h0, r0⟩ := trodAll_cons hA
  obtain ⟨rfl, rfl, rfl⟩ := trodAll_nil r0
  obtain rfl : args = #[v0] := by cases args; simp_all
  obtain ⟨rfl, rfl⟩ := trodVars_none hV
  obtain ⟨f, rfl⟩ := read_Fees (hval 0 23 v0 rfl rfl) h0
  refine (fnExactAreFees_walk f.adult f.child f.rent f.late W).mono fun e W' ⟨he, hg⟩ => ?_
  subst he
  exact ⟨_, rfl, law_post (tb := 4) laidOut (by kernel_rfl) hW rfl rfl (by kernel_rfl) Try.underlying4 hg⟩
theorem fnExactAreFees_holds : Rows.FnExactAreFeesSaid :=
  OpenClaim.holds_of_wide 3 Try.f3 rfl rfl rfl rfl rfl rfl rfl ⟨rfl, rfl, rfl, rfl, rfl⟩ rfl rfl rfl rfl rfl (by kernel_rfl) Try.func3 (by kernel_rfl)
    (of_decide_eq_true (by kernel_rfl)) (by unfold Func.isWrapper; first | (rw [if_pos (by decide +kernel)]; kernel_rfl) | (rw [if_neg (by decide +kernel)]; exact ⟨rfl, rfl⟩))
    (fun os started H enc _ => fnExactAreFees_lifted os started H enc)
#print axioms fnExactAreFees_holds
end Go.Proofs.Ytlcajcodnmpckaa
