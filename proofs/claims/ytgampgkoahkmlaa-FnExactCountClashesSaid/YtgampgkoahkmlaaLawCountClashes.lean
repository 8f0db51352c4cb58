/- FnExactCountClashes returns true for every argument. No condition. -/
import Derived.Test.YtgampgkoahkmlaaCountClashes
import Derived.Test.YtgampgkoahkmlaaToIntS
import Derived.Test.YtgampgkoahkmlaaEqIntS
import Derived.Test.YtgampgkoahkmlaaRdInts
namespace Go.Proofs.Ytgampgkoahkmlaa
open Go.ChangeShapes Go.WideShapes Go.ChangeAt Go.RowKit Go.Ori
set_option maxHeartbeats 1000000 in
theorem fnExactCountClashes_walk (v_clubs : Value) (l_clubs : List Int) (v_list : Value) (l_list : List Int) (w : World) (h_v_clubs : w.sl intC 1 v_clubs l_clubs) (hm_clubs : l_clubs.length ≤ 9223372036854775807) (h_v_list : w.sl intC 1 v_list l_list) (hm_list : l_list.length ≤ 9223372036854775807) :
    Calls Try.prog 7 #[v_clubs, v_list] w fun x w' => x = .returned (.bool true) ∧ ∃ d, w' = w.ext d := by
  by_cases hc_clubs : ¬ (l_clubs.length : Int) ≤ 1048576
  · obtain ⟨p_clubs, c_clubs, rfl, _⟩ := id h_v_clubs
    go_enter Try.func7, Try.ntmps7
    go_wp2
    go_ret
    exact ⟨rfl, w.gained_refl⟩
  have hl_clubs : l_clubs.length ≤ 1048576 := by omega
  by_cases hc_list : ¬ (l_list.length : Int) ≤ 1048576
  · obtain ⟨p_list, c_list, rfl, _⟩ := id h_v_list
    obtain ⟨p_clubs, c_clubs, rfl, _⟩ := id h_v_clubs
    go_enter Try.func7, Try.ntmps7
    go_wp2
    go_ret
    exact ⟨rfl, w.gained_refl⟩
  have hl_list : l_list.length ≤ 1048576 := by omega
  obtain ⟨p_clubs, c_clubs, hv_clubs, _⟩ := id h_v_clubs
  subst hv_clubs
  clear hm_clubs hc_clubs
  obtain ⟨p_list, c_list, hv_list, _⟩ := id h_v_list
  subst hv_list
  clear hm_list hc_list
  have hg := w.gained_refl
  go_enter Try.func7, Try.ntmps7
  go_wp2_with fail
  refine (toIntS_any _ l_clubs _ h_v_clubs hl_clubs).mono ?_
  rintro e w1 ⟨u_clubs, rfl, ⟨d1, rfl⟩, h_u_clubs⟩
  replace h_v_clubs := World.sl_ext intC_length h_v_clubs d1
  replace h_v_list := World.sl_ext intC_length h_v_list d1
  replace hg := gain_ext hg d1
  go_wp2_with fail
  refine (toIntS_any _ l_list _ h_v_list hl_list).mono ?_
  rintro e w1 ⟨u_list, rfl, ⟨d2, rfl⟩, h_u_list⟩
  replace h_v_clubs := World.sl_ext intC_length h_v_clubs d2
  replace h_v_list := World.sl_ext intC_length h_v_list d2
  replace h_u_clubs := own_ext h_u_clubs d2
  replace hg := gain_ext hg d2
  go_wp2_with fail
  refine (specCountClashes_any _ _ l_clubs l_list _ (sl_of_own intC_length h_u_clubs) (sl_of_own intC_length h_u_list) hl_clubs hl_list).mono ?_
  rintro e w1 ⟨rfl, d3, rfl⟩
  replace h_v_clubs := World.sl_ext intC_length h_v_clubs d3
  replace h_v_list := World.sl_ext intC_length h_v_list d3
  replace h_u_clubs := own_ext h_u_clubs d3
  replace h_u_list := own_ext h_u_list d3
  replace hg := gain_ext hg d3
  clear h_u_clubs
  clear h_u_list
  go_wp2_with fail
  refine (toIntS_any _ l_clubs _ h_v_clubs hl_clubs).mono ?_
  rintro e w1 ⟨x_clubs, rfl, ⟨d4, rfl⟩, h_x_clubs⟩
  replace h_v_clubs := World.sl_ext intC_length h_v_clubs d4
  replace h_v_list := World.sl_ext intC_length h_v_list d4
  replace hg := gain_ext hg d4
  go_wp2_with fail
  refine (toIntS_any _ l_list _ h_v_list hl_list).mono ?_
  rintro e w1 ⟨x_list, rfl, ⟨d5, rfl⟩, h_x_list⟩
  replace h_v_clubs := World.sl_ext intC_length h_v_clubs d5
  replace h_v_list := World.sl_ext intC_length h_v_list d5
  replace h_x_clubs := own_ext h_x_clubs d5
  replace hg := gain_ext hg d5
  go_wp2_with fail
  refine (countClashes_any _ _ l_clubs l_list _ (sl_of_own intC_length h_x_clubs) (sl_of_own intC_length h_x_list) hl_clubs hl_list).mono ?_
  rintro e w1 ⟨rfl, d6, rfl⟩
  replace h_v_clubs := World.sl_ext intC_length h_v_clubs d6
  replace h_v_list := World.sl_ext intC_length h_v_list d6
  replace h_x_clubs := own_ext h_x_clubs d6
  replace h_x_list := own_ext h_x_list d6
  replace hg := gain_ext hg d6
  go_wp2_with fail
  refine (toIntS_any _ l_clubs _ h_v_clubs hl_clubs).mono ?_
  rintro e w1 ⟨t_clubs, rfl, ⟨d7, rfl⟩, h_t_clubs⟩
  replace h_v_clubs := World.sl_ext intC_length h_v_clubs d7
  replace h_v_list := World.sl_ext intC_length h_v_list d7
  replace h_x_clubs := own_ext h_x_clubs d7
  replace h_x_list := own_ext h_x_list d7
  replace hg := gain_ext hg d7
  go_wp2_with fail
  refine (eqIntS_same _ _ l_clubs _ (sl_of_own intC_length h_x_clubs) (sl_of_own intC_length h_t_clubs) hl_clubs).mono ?_
  rintro e w1 ⟨rfl, d8, rfl⟩
  replace h_v_clubs := World.sl_ext intC_length h_v_clubs d8
  replace h_v_list := World.sl_ext intC_length h_v_list d8
  replace h_x_clubs := own_ext h_x_clubs d8
  replace h_x_list := own_ext h_x_list d8
  replace h_t_clubs := own_ext h_t_clubs d8
  replace hg := gain_ext hg d8
  clear h_t_clubs
  go_wp2_with fail
  refine (toIntS_any _ l_list _ h_v_list hl_list).mono ?_
  rintro e w1 ⟨t_list, rfl, ⟨d9, rfl⟩, h_t_list⟩
  replace h_v_clubs := World.sl_ext intC_length h_v_clubs d9
  replace h_v_list := World.sl_ext intC_length h_v_list d9
  replace h_x_clubs := own_ext h_x_clubs d9
  replace h_x_list := own_ext h_x_list d9
  replace hg := gain_ext hg d9
  go_wp2_with fail
  refine (eqIntS_same _ _ l_list _ (sl_of_own intC_length h_x_list) (sl_of_own intC_length h_t_list) hl_list).mono ?_
  rintro e w1 ⟨rfl, d10, rfl⟩
  replace h_v_clubs := World.sl_ext intC_length h_v_clubs d10
  replace h_v_list := World.sl_ext intC_length h_v_list d10
  replace h_x_clubs := own_ext h_x_clubs d10
  replace h_x_list := own_ext h_x_list d10
  replace h_t_list := own_ext h_t_list d10
  replace hg := gain_ext hg d10
  clear h_t_list
  go_wp2
  go_ret
  exact ⟨rfl, hg⟩
set_option maxRecDepth 100000 in
theorem fnExactCountClashes_lifted (os : Os) (started : os.Started) (H : Type) (enc : TypeId × Value → H) :
    ReturnsInHanded {} Try.checked os 7 .any (Rows.fnExactCountClashesSpec.pre6 enc Try.prog Try.f7 Rows.fnExactCountClashesRow.domain false) (Rows.fnExactCountClashesSpec.post enc Try.prog Try.f7 false true false false) := by
  refine returnsInHanded_of_change (C := Try.checked) (by kernel_rfl) started (by kernel_rfl) Try.func7
    (ChangeSpec.witness6 (enc := enc) (C := Try.checked) false ⟨#[], #[.slice none 0 0, .slice none 0 0], []⟩ 8 (by kernel_rfl) (by kernel_rfl) (by kernel_rfl) (by kernel_rfl)) ?_
  intro W base args ds gs before hval0 hW _ _
  have hval : ∀ (j : Nat) t v, Try.f7.params[j]? = some t → args[j]? = some v → Value.okWide Try.prog W .any base t v := hval0
  clear hval0
  have laidOut : laidOutB Try.prog = true := by as_aux_lemma => kernel_rfl
  have hWc := hW
  obtain ⟨p, q, hA0, hV, rfl, _, _⟩ := hWc
  have hA : DataW.TrodAll enc Try.prog W 0 (fun _ => true) true Try.f7.params.toList args.toList ds p := hA0
  clear hA0
  rw [Try.params7] at hA hval
  obtain ⟨v0, vs0, d0, ds0, p0, q0, hargs, rfl, rfl, h0, r0⟩ := trodAll_cons hA
  obtain ⟨v1, vs1, d1, ds1, p1, q1, rfl, rfl, rfl, h1, r1⟩ := trodAll_cons r0
  obtain ⟨rfl, rfl, rfl⟩ := trodAll_nil r1
  obtain rfl : args = #[v0, v1] := by cases args; simp_all
  obtain ⟨rfl, rfl⟩ := trodVars_none hV
  obtain ⟨l0, hs0, hm0⟩ := read_Ints (hval 0 22 v0 rfl rfl) h0
  obtain ⟨l1, hs1, hm1⟩ := read_Ints (hval 1 22 v1 rfl rfl) h1
  refine (fnExactCountClashes_walk v0 l0 v1 l1 W hs0 hm0 hs1 hm1).mono fun e W1 ⟨he, hg⟩ => ?_
  subst he
  exact ⟨_, rfl, law_post (tb := 4) laidOut (by kernel_rfl) hW rfl rfl (by kernel_rfl) Try.underlying4 hg⟩
theorem fnExactCountClashes_holds : Rows.FnExactCountClashesSaid :=
  OpenClaim.holds_of_wide 7 Try.f7 rfl rfl rfl rfl rfl rfl rfl ⟨rfl, rfl, rfl, rfl, rfl⟩ rfl rfl rfl rfl rfl (by kernel_rfl) Try.func7 (by kernel_rfl)
    (of_decide_eq_true (by kernel_rfl)) (by unfold Func.isWrapper; first | (rw [if_pos (by decide +kernel)]; kernel_rfl) | (rw [if_neg (by decide +kernel)]; exact ⟨rfl, rfl⟩))
    (fun os started H enc _ => fnExactCountClashes_lifted os started H enc)
#print axioms fnExactCountClashes_holds
end Go.Proofs.Ytgampgkoahkmlaa
