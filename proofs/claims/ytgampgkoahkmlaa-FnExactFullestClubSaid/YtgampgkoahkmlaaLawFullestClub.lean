/- FnExactFullestClub returns true for every argument. No condition. -/
import Derived.Test.YtgampgkoahkmlaaFullestClub
import Derived.Test.YtgampgkoahkmlaaToIntS
import Derived.Test.YtgampgkoahkmlaaEqIntS
import Derived.Test.YtgampgkoahkmlaaRdInts
namespace Go.Proofs.Ytgampgkoahkmlaa
open Go.ChangeShapes Go.WideShapes Go.ChangeAt Go.RowKit Go.Ori
set_option maxHeartbeats 1000000 in
theorem fnExactFullestClub_walk (v_clubs : Value) (l_clubs : List Int) (w : World) (h_v_clubs : w.sl intC 1 v_clubs l_clubs) (hm_clubs : l_clubs.length ≤ 9223372036854775807) :
    Calls Try.prog 6 #[v_clubs] w fun x w' => x = .returned (.bool true) ∧ ∃ d, w' = w.ext d := by
  by_cases hc_clubs : ¬ (l_clubs.length : Int) ≤ 1048576
  · obtain ⟨p_clubs, c_clubs, rfl, _⟩ := id h_v_clubs
    go_enter Try.func6, Try.ntmps6
    go_wp2
    go_ret
    exact ⟨rfl, w.gained_refl⟩
  have hl_clubs : l_clubs.length ≤ 1048576 := by omega
  obtain ⟨p_clubs, c_clubs, hv_clubs, _⟩ := id h_v_clubs
  subst hv_clubs
  clear hm_clubs hc_clubs
  have hg := w.gained_refl
  go_enter Try.func6, Try.ntmps6
  go_wp2_with fail
  refine (toIntS_any _ l_clubs _ h_v_clubs hl_clubs).mono ?_
  rintro e w1 ⟨u_clubs, rfl, ⟨d1, rfl⟩, h_u_clubs⟩
  replace h_v_clubs := World.sl_ext intC_length h_v_clubs d1
  replace hg := gain_ext hg d1
  go_wp2_with fail
  refine (specFullestClub_any _ l_clubs _ (sl_of_own intC_length h_u_clubs) hl_clubs).mono ?_
  rintro e w1 ⟨rfl, d2, rfl⟩
  replace h_v_clubs := World.sl_ext intC_length h_v_clubs d2
  replace h_u_clubs := own_ext h_u_clubs d2
  replace hg := gain_ext hg d2
  clear h_u_clubs
  go_wp2_with fail
  refine (toIntS_any _ l_clubs _ h_v_clubs hl_clubs).mono ?_
  rintro e w1 ⟨x_clubs, rfl, ⟨d3, rfl⟩, h_x_clubs⟩
  replace h_v_clubs := World.sl_ext intC_length h_v_clubs d3
  replace hg := gain_ext hg d3
  go_wp2_with fail
  refine (fullestClub_any _ l_clubs _ (sl_of_own intC_length h_x_clubs) hl_clubs).mono ?_
  rintro e w1 ⟨rfl, d4, rfl⟩
  replace h_v_clubs := World.sl_ext intC_length h_v_clubs d4
  replace h_x_clubs := own_ext h_x_clubs d4
  replace hg := gain_ext hg d4
  go_wp2_with fail
  refine (toIntS_any _ l_clubs _ h_v_clubs hl_clubs).mono ?_
  rintro e w1 ⟨t_clubs, rfl, ⟨d5, rfl⟩, h_t_clubs⟩
  replace h_v_clubs := World.sl_ext intC_length h_v_clubs d5
  replace h_x_clubs := own_ext h_x_clubs d5
  replace hg := gain_ext hg d5
  go_wp2_with fail
  refine (eqIntS_same _ _ l_clubs _ (sl_of_own intC_length h_x_clubs) (sl_of_own intC_length h_t_clubs) hl_clubs).mono ?_
  rintro e w1 ⟨rfl, d6, rfl⟩
  replace h_v_clubs := World.sl_ext intC_length h_v_clubs d6
  replace h_x_clubs := own_ext h_x_clubs d6
  replace h_t_clubs := own_ext h_t_clubs d6
  replace hg := gain_ext hg d6
  clear h_t_clubs
  go_wp2
  go_ret
  exact ⟨rfl, hg⟩
set_option maxRecDepth 100000 in
theorem fnExactFullestClub_lifted (os : Os) (started : os.Started) (H : Type) (enc : TypeId × Value → H) :
    ReturnsInHanded {} Try.checked os 6 .any (Rows.fnExactFullestClubSpec.pre6 enc Try.prog Try.f6 Rows.fnExactFullestClubRow.domain false) (Rows.fnExactFullestClubSpec.post enc Try.prog Try.f6 false true false false) := by
  refine returnsInHanded_of_change (C := Try.checked) (by kernel_rfl) started (by kernel_rfl) Try.func6
    (ChangeSpec.witness6 (enc := enc) (C := Try.checked) false ⟨#[], #[.slice none 0 0], []⟩ 8 (by kernel_rfl) (by kernel_rfl) (by kernel_rfl) (by kernel_rfl)) ?_
  intro W base args ds gs before hval0 hW _ _
  have hval : ∀ (j : Nat) t v, Try.f6.params[j]? = some t → args[j]? = some v → Value.okWide Try.prog W .any base t v := hval0
  clear hval0
  have laidOut : laidOutB Try.prog = true := by as_aux_lemma => kernel_rfl
  have hWc := hW
  obtain ⟨p, q, hA0, hV, rfl, _, _⟩ := hWc
  have hA : DataW.TrodAll enc Try.prog W 0 (fun _ => true) true Try.f6.params.toList args.toList ds p := hA0
  clear hA0
  rw [Try.params6] at hA hval
  obtain ⟨v0, vs0, d0, ds0, p0, q0, hargs, rfl, rfl, h0, r0⟩ := trodAll_cons hA
  obtain ⟨rfl, rfl, rfl⟩ := trodAll_nil r0
  obtain rfl : args = #[v0] := by cases args; simp_all
  obtain ⟨rfl, rfl⟩ := trodVars_none hV
  obtain ⟨l0, hs0, hm0⟩ := read_Ints (hval 0 22 v0 rfl rfl) h0
  refine (fnExactFullestClub_walk v0 l0 W hs0 hm0).mono fun e W1 ⟨he, hg⟩ => ?_
  subst he
  exact ⟨_, rfl, law_post (tb := 4) laidOut (by kernel_rfl) hW rfl rfl (by kernel_rfl) Try.underlying4 hg⟩
theorem fnExactFullestClub_holds : Rows.FnExactFullestClubSaid :=
  OpenClaim.holds_of_wide 6 Try.f6 rfl rfl rfl rfl rfl rfl rfl ⟨rfl, rfl, rfl, rfl, rfl⟩ rfl rfl rfl rfl rfl (by kernel_rfl) Try.func6 (by kernel_rfl)
    (of_decide_eq_true (by kernel_rfl)) (by unfold Func.isWrapper; first | (rw [if_pos (by decide +kernel)]; kernel_rfl) | (rw [if_neg (by decide +kernel)]; exact ⟨rfl, rfl⟩))
    (fun os started H enc _ => fnExactFullestClub_lifted os started H enc)
#print axioms fnExactFullestClub_holds
end Go.Proofs.Ytgampgkoahkmlaa
