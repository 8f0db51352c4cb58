/- FnExactAreEntries returns true for every argument. No condition. -/
import Derived.Test.YtlcajcodnmpckaaL11
import Derived.Test.YtlcajcodnmpckaaToEntS
import Derived.Test.YtlcajcodnmpckaaEqEntS
import Derived.Test.YtlcajcodnmpckaaSzEntS
import Derived.Test.YtlcajcodnmpckaaRdEnt
namespace Go.Proofs.Ytlcajcodnmpckaa
open Go.ChangeShapes Go.WideShapes Go.ChangeAt Go.RowKit Go.Ori
theorem fnExactAreEntries_walk (v : Value) (l : List Ent) (w : World) (h : w.sl Ent.cells 5 v l) (hm : l.length ≤ 9223372036854775807) :
    Calls Try.prog 6 #[v] w fun x w' => x = .returned (.bool true) ∧ ∃ d, w' = w.ext d := by
  have h' := h
  obtain ⟨p, c, rfl, _⟩ := h'
  by_cases hl : (l.length : Int) ≤ 1048576
  · have hl' : l.length ≤ 1048576 := by omega
    go_enter Try.func6, Try.ntmps6
    go_wp2_with (go_at_call 20; refine (szEntryS_yes _ _ _ _ _ hm (by omega) (by omega) hl).mono ?_; rintro e w1 ⟨rfl, rfl⟩)
    go_wp2_with fail
    refine (toEntryS_any _ l _ h hl').mono ?_
    rintro e w1 ⟨v1, rfl, ⟨d1, rfl⟩, o1⟩
    have s1 := World.sl_of_owns Ent.cells_length o1
    have h1 := World.sl_ext Ent.cells_length h d1
    clear o1 h
    go_wp2_with fail
    refine (specAreEntries_any _ l _ s1 hl').mono ?_
    rintro e w1 ⟨rfl, d2, rfl⟩
    have h2 := World.sl_ext Ent.cells_length h1 d2
    clear h1 s1
    go_wp2_with fail
    refine (toEntryS_any _ l _ h2 hl').mono ?_
    rintro e w1 ⟨v3, rfl, ⟨d3, rfl⟩, o3⟩
    have s3 := World.sl_of_owns Ent.cells_length o3
    have h3 := World.sl_ext Ent.cells_length h2 d3
    clear o3 h2
    go_wp2_with fail
    refine (areEntries_any _ l _ s3 hl').mono ?_
    rintro e w1 ⟨rfl, d4, rfl⟩
    have h4 := World.sl_ext Ent.cells_length h3 d4
    have s4 := World.sl_ext Ent.cells_length s3 d4
    clear h3 s3
    go_wp2_with fail
    refine (toEntryS_any _ l _ h4 hl').mono ?_
    rintro e w1 ⟨v5, rfl, ⟨d5, rfl⟩, o5⟩
    have s5 := World.sl_of_owns Ent.cells_length o5
    have s45 := World.sl_ext Ent.cells_length s4 d5
    clear o5 h4 s4
    go_wp2_with fail
    refine (eqEntryS_same _ _ l _ s45 s5 hl').mono ?_
    rintro e w1 ⟨rfl, d6, rfl⟩
    clear s5 s45
    go_wp2
    go_ret
    refine ⟨rfl, ?_⟩
    (repeat (first | exact World.gained_refl _ | exact ⟨_, rfl⟩ | apply gain_ext | apply gain_alloc | apply gain_drewN | apply gain_drew | (refine gain_setCell ?_ (by first | exact Nat.le_refl _ | exact World.size_ext _ _ | (simp; done) | (simp; omega)) _)))
  · go_enter Try.func6, Try.ntmps6
    go_wp2_with (go_at_call 20; refine (szEntryS_no _ _ _ _ _ hm (by omega) (by omega) hl).mono ?_; rintro e w1 ⟨rfl, rfl⟩)
    go_ret
    exact ⟨rfl, w.gained_refl⟩
set_option maxRecDepth 100000 in
theorem fnExactAreEntries_lifted (os : Os) (started : os.Started) (H : Type) (enc : TypeId × Value → H) :
    ReturnsInHanded {} Try.checked os 6 .any (Rows.fnExactAreEntriesSpec.pre6 enc Try.prog Try.f6 Rows.fnExactAreEntriesRow.domain false) (Rows.fnExactAreEntriesSpec.post enc Try.prog Try.f6 false true false false) := by
  refine returnsInHanded_of_change (C := Try.checked) (by kernel_rfl) started (by kernel_rfl) Try.func6
    (ChangeSpec.witness6 (enc := enc) (C := Try.checked) false ⟨#[], #[.slice none 0 0], []⟩ 8 (by kernel_rfl) (by kernel_rfl) (by kernel_rfl) (by kernel_rfl)) ?_
  intro W base args ds gs before hval0 hW _ _
  have hval : ∀ (j : Nat) t v, Try.f6.params[j]? = some t → args[j]? = some v → Value.okWide Try.prog W .any base t v := hval0
  clear hval0
  have laidOut : laidOutB Try.prog = true := by as_aux_lemma => kernel_rfl
  have hWc := hW
  obtain ⟨p, q, hA0, hV, rfl, _, _⟩ := hWc
  have hA : DataW.TrodAll enc Try.prog W 0 (fun _ => true) true Try.f6.params.toList args.toList ds p := hA0
  clear hA0
  rw [Try.params6] at hA hval
  obtain ⟨v0, vs0, d0, ds0, p0, q0, hargs, rfl, rfl, h0, r0⟩ := trodAll_cons hA
  obtain ⟨rfl, rfl, rfl⟩ := trodAll_nil r0
  obtain rfl : args = #[v0] := by cases args; simp_all
  obtain ⟨rfl, rfl⟩ := trodVars_none hV
  obtain ⟨l, hs, hm⟩ := read_Ents (hval 0 41 v0 rfl rfl) h0
  refine (fnExactAreEntries_walk v0 l W hs hm).mono fun e W' ⟨he, hg⟩ => ?_
  subst he
  exact ⟨_, rfl, law_post (tb := 4) laidOut (by kernel_rfl) hW rfl rfl (by kernel_rfl) Try.underlying4 hg⟩
theorem fnExactAreEntries_holds : Rows.FnExactAreEntriesSaid :=
  OpenClaim.holds_of_wide 6 Try.f6 rfl rfl rfl rfl rfl rfl rfl ⟨rfl, rfl, rfl, rfl, rfl⟩ rfl rfl rfl rfl rfl (by kernel_rfl) Try.func6 (by kernel_rfl)
    (of_decide_eq_true (by kernel_rfl)) (by unfold Func.isWrapper; first | (rw [if_pos (by decide +kernel)]; kernel_rfl) | (rw [if_neg (by decide +kernel)]; exact ⟨rfl, rfl⟩))
    (fun os started H enc _ => fnExactAreEntries_lifted os started H enc)
#print axioms fnExactAreEntries_holds
end Go.Proofs.Ytlcajcodnmpckaa
