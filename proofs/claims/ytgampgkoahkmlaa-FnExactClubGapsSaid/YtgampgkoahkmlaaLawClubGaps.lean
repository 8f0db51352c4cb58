/- FnExactClubGaps returns true for every argument. No condition. -/
import Derived.Test.YtgampgkoahkmlaaClubGaps
import Derived.Test.YtgampgkoahkmlaaToIntS
import Derived.Test.YtgampgkoahkmlaaEqIntS
import Derived.Test.YtgampgkoahkmlaaMarkIntS
import Derived.Test.YtgampgkoahkmlaaRdInts
namespace Go.Proofs.Ytgampgkoahkmlaa
open Go.ChangeShapes Go.WideShapes Go.ChangeAt Go.RowKit Go.Ori
set_option maxHeartbeats 1000000 in
theorem fnExactClubGaps_walk (v_clubs : Value) (l_clubs : List Int) (v_list : Value) (l_list : List Int) (w : World) (h_v_clubs : w.sl intC 1 v_clubs l_clubs) (hm_clubs : l_clubs.length ≤ 9223372036854775807) (h_v_list : w.sl intC 1 v_list l_list) (hm_list : l_list.length ≤ 9223372036854775807) :
    Calls Try.prog 10 #[v_clubs, v_list] w fun x w' => x = .returned (.bool true) ∧ ∃ d, w' = w.ext d := by
  by_cases hc_clubs : ¬ (l_clubs.length : Int) ≤ 1048576
  · obtain ⟨p_clubs, c_clubs, rfl, _⟩ := id h_v_clubs
    go_enter Try.func10, Try.ntmps10
    go_wp2
    go_ret
    exact ⟨rfl, w.gained_refl⟩
  have hl_clubs : l_clubs.length ≤ 1048576 := by omega
  by_cases hc_list : ¬ (l_list.length : Int) ≤ 1048576
  · obtain ⟨p_list, c_list, rfl, _⟩ := id h_v_list
    obtain ⟨p_clubs, c_clubs, rfl, _⟩ := id h_v_clubs
    go_enter Try.func10, Try.ntmps10
    go_wp2
    go_ret
    exact ⟨rfl, w.gained_refl⟩
  have hl_list : l_list.length ≤ 1048576 := by omega
  obtain ⟨p_clubs, c_clubs, hv_clubs, _⟩ := id h_v_clubs
  subst hv_clubs
  clear hm_clubs hc_clubs
  obtain ⟨p_list, c_list, hv_list, _⟩ := id h_v_list
  subst hv_list
  clear hm_list hc_list
  have hg := w.gained_refl
  go_enter Try.func10, Try.ntmps10
  go_wp2_with fail
  refine (toIntS_any _ l_clubs _ h_v_clubs hl_clubs).mono ?_
  rintro e w1 ⟨u_clubs, rfl, ⟨d1, rfl⟩, h_u_clubs⟩
  replace h_v_clubs := World.sl_ext intC_length h_v_clubs d1
  replace h_v_list := World.sl_ext intC_length h_v_list d1
  replace hg := gain_ext hg d1
  go_wp2_with fail
  refine (toIntS_any _ l_list _ h_v_list hl_list).mono ?_
  rintro e w1 ⟨u_list, rfl, ⟨d2, rfl⟩, h_u_list⟩
  replace h_v_clubs := World.sl_ext intC_length h_v_clubs d2
  replace h_v_list := World.sl_ext intC_length h_v_list d2
  replace h_u_clubs := own_ext h_u_clubs d2
  replace hg := gain_ext hg d2
  go_wp2_with fail
  refine (specClubGaps_any _ _ l_clubs l_list _ (sl_of_own intC_length h_u_clubs) (sl_of_own intC_length h_u_list) hl_clubs hl_list).mono ?_
  rintro e w1 ⟨w0, rfl, ⟨d3, rfl⟩, h_w0⟩
  replace h_v_clubs := World.sl_ext intC_length h_v_clubs d3
  replace h_v_list := World.sl_ext intC_length h_v_list d3
  replace h_u_clubs := own_ext h_u_clubs d3
  replace h_u_list := own_ext h_u_list d3
  replace hg := gain_ext hg d3
  clear h_u_clubs
  clear h_u_list
  go_wp2_with fail
  refine (toIntS_any _ l_clubs _ h_v_clubs hl_clubs).mono ?_
  rintro e w1 ⟨x_clubs, rfl, ⟨d4, rfl⟩, h_x_clubs⟩
  have b_x_clubs := gain_size hg
  have ap_v_clubs_x_clubs := apart_new intC_length (by omega) h_v_clubs h_x_clubs
  have ap_v_list_x_clubs := apart_new intC_length (by omega) h_v_list h_x_clubs
  have ap_w0_x_clubs := apart2_new h_w0 h_x_clubs
  replace h_v_clubs := World.sl_ext intC_length h_v_clubs d4
  replace h_v_list := World.sl_ext intC_length h_v_list d4
  replace h_w0 := own_ext h_w0 d4
  replace hg := gain_ext hg d4
  go_wp2_with fail
  refine (toIntS_any _ l_list _ h_v_list hl_list).mono ?_
  rintro e w1 ⟨x_list, rfl, ⟨d5, rfl⟩, h_x_list⟩
  have b_x_list := gain_size hg
  have ap_v_clubs_x_list := apart_new intC_length (by omega) h_v_clubs h_x_list
  have ap_v_list_x_list := apart_new intC_length (by omega) h_v_list h_x_list
  have ap_w0_x_list := apart2_new h_w0 h_x_list
  have ap_x_clubs_x_list := apart2_new h_x_clubs h_x_list
  replace h_v_clubs := World.sl_ext intC_length h_v_clubs d5
  replace h_v_list := World.sl_ext intC_length h_v_list d5
  replace h_w0 := own_ext h_w0 d5
  replace h_x_clubs := own_ext h_x_clubs d5
  replace hg := gain_ext hg d5
  go_wp2_with fail
  refine (clubGaps_any _ _ l_clubs l_list _ (sl_of_own intC_length h_x_clubs) (sl_of_own intC_length h_x_list) hl_clubs hl_list).mono ?_
  rintro e w1 ⟨g0, rfl, ⟨d6, rfl⟩, h_g0⟩
  have b_g0 := gain_size hg
  have ap_v_clubs_g0 := apart_new intC_length (by omega) h_v_clubs h_g0
  have ap_v_list_g0 := apart_new intC_length (by omega) h_v_list h_g0
  have ap_w0_g0 := apart2_new h_w0 h_g0
  have ap_x_clubs_g0 := apart2_new h_x_clubs h_g0
  have ap_x_list_g0 := apart2_new h_x_list h_g0
  replace h_v_clubs := World.sl_ext intC_length h_v_clubs d6
  replace h_v_list := World.sl_ext intC_length h_v_list d6
  replace h_w0 := own_ext h_w0 d6
  replace h_x_clubs := own_ext h_x_clubs d6
  replace h_x_list := own_ext h_x_list d6
  replace hg := gain_ext hg d6
  go_wp2_with fail
  refine (eqIntS_same _ _ (gapsL l_clubs l_list) _ (sl_of_own intC_length h_g0) (sl_of_own intC_length h_w0) (gapsL_length l_clubs l_list)).mono ?_
  rintro e w1 ⟨rfl, d7, rfl⟩
  replace h_v_clubs := World.sl_ext intC_length h_v_clubs d7
  replace h_v_list := World.sl_ext intC_length h_v_list d7
  replace h_w0 := own_ext h_w0 d7
  replace h_x_clubs := own_ext h_x_clubs d7
  replace h_x_list := own_ext h_x_list d7
  replace h_g0 := own_ext h_g0 d7
  replace hg := gain_ext hg d7
  go_wp2_with fail
  refine (toIntS_any _ l_clubs _ h_v_clubs hl_clubs).mono ?_
  rintro e w1 ⟨t_clubs, rfl, ⟨d8, rfl⟩, h_t_clubs⟩
  replace h_v_clubs := World.sl_ext intC_length h_v_clubs d8
  replace h_v_list := World.sl_ext intC_length h_v_list d8
  replace h_w0 := own_ext h_w0 d8
  replace h_x_clubs := own_ext h_x_clubs d8
  replace h_x_list := own_ext h_x_list d8
  replace h_g0 := own_ext h_g0 d8
  replace hg := gain_ext hg d8
  go_wp2_with fail
  refine (eqIntS_same _ _ l_clubs _ (sl_of_own intC_length h_x_clubs) (sl_of_own intC_length h_t_clubs) hl_clubs).mono ?_
  rintro e w1 ⟨rfl, d9, rfl⟩
  replace h_v_clubs := World.sl_ext intC_length h_v_clubs d9
  replace h_v_list := World.sl_ext intC_length h_v_list d9
  replace h_w0 := own_ext h_w0 d9
  replace h_x_clubs := own_ext h_x_clubs d9
  replace h_x_list := own_ext h_x_list d9
  replace h_g0 := own_ext h_g0 d9
  replace h_t_clubs := own_ext h_t_clubs d9
  replace hg := gain_ext hg d9
  clear h_t_clubs
  go_wp2_with fail
  refine (toIntS_any _ l_list _ h_v_list hl_list).mono ?_
  rintro e w1 ⟨t_list, rfl, ⟨d10, rfl⟩, h_t_list⟩
  replace h_v_clubs := World.sl_ext intC_length h_v_clubs d10
  replace h_v_list := World.sl_ext intC_length h_v_list d10
  replace h_w0 := own_ext h_w0 d10
  replace h_x_clubs := own_ext h_x_clubs d10
  replace h_x_list := own_ext h_x_list d10
  replace h_g0 := own_ext h_g0 d10
  replace hg := gain_ext hg d10
  go_wp2_with fail
  refine (eqIntS_same _ _ l_list _ (sl_of_own intC_length h_x_list) (sl_of_own intC_length h_t_list) hl_list).mono ?_
  rintro e w1 ⟨rfl, d11, rfl⟩
  replace h_v_clubs := World.sl_ext intC_length h_v_clubs d11
  replace h_v_list := World.sl_ext intC_length h_v_list d11
  replace h_w0 := own_ext h_w0 d11
  replace h_x_clubs := own_ext h_x_clubs d11
  replace h_x_list := own_ext h_x_list d11
  replace h_g0 := own_ext h_g0 d11
  replace h_t_list := own_ext h_t_list d11
  replace hg := gain_ext hg d11
  clear h_t_list
  go_wp2_with fail
  refine (markIntS_any w _ _ l_clubs _ _ _ (by omega) (by omega) hl_clubs rfl h_x_clubs hg b_x_clubs).mono ?_
  rintro e w1 ⟨rfl, hm_x_clubs, hgr, d12, rfl⟩
  replace h_v_clubs := sl_mark intC_length h_v_clubs hgr ap_v_clubs_x_clubs
  replace h_v_list := sl_mark intC_length h_v_list hgr ap_v_list_x_clubs
  replace h_w0 := own_mark h_w0 hgr ap_w0_x_clubs
  replace h_x_list := own_mark h_x_list hgr ap_x_clubs_x_list.symm
  replace h_g0 := own_mark h_g0 hgr ap_x_clubs_g0.symm
  replace hg : ∃ d, w.ext d12 = w.ext d := ⟨_, rfl⟩
  clear h_x_clubs hgr
  go_wp2_with fail
  refine (markIntS_any w _ _ l_list _ _ _ (by omega) (by omega) hl_list rfl h_x_list hg b_x_list).mono ?_
  rintro e w1 ⟨rfl, hm_x_list, hgr, d13, rfl⟩
  replace h_v_clubs := sl_mark intC_length h_v_clubs hgr ap_v_clubs_x_list
  replace h_v_list := sl_mark intC_length h_v_list hgr ap_v_list_x_list
  replace h_w0 := own_mark h_w0 hgr ap_w0_x_list
  replace hm_x_clubs := own_mark hm_x_clubs hgr ap_x_clubs_x_list
  replace h_g0 := own_mark h_g0 hgr ap_x_list_g0.symm
  replace hg : ∃ d, w.ext d13 = w.ext d := ⟨_, rfl⟩
  clear h_x_list hgr
  clear hm_x_clubs
  clear hm_x_list
  go_wp2_with fail
  refine (eqIntS_same _ _ (gapsL l_clubs l_list) _ (sl_of_own intC_length h_g0) (sl_of_own intC_length h_w0) (gapsL_length l_clubs l_list)).mono ?_
  rintro e w1 ⟨rfl, d14, rfl⟩
  replace h_v_clubs := World.sl_ext intC_length h_v_clubs d14
  replace h_v_list := World.sl_ext intC_length h_v_list d14
  replace h_w0 := own_ext h_w0 d14
  replace h_g0 := own_ext h_g0 d14
  replace hg := gain_ext hg d14
  go_wp2_with fail
  refine (markIntS_any w _ _ (gapsL l_clubs l_list) _ _ 1 (by omega) (by omega) (gapsL_length l_clubs l_list) rfl h_g0 hg b_g0).mono ?_
  rintro e w1 ⟨rfl, hm_g0, hgr, d15, rfl⟩
  replace h_v_clubs := sl_mark intC_length h_v_clubs hgr ap_v_clubs_g0
  replace h_v_list := sl_mark intC_length h_v_list hgr ap_v_list_g0
  replace h_w0 := own_mark h_w0 hgr ap_w0_g0
  replace hg : ∃ d, w.ext d15 = w.ext d := ⟨_, rfl⟩
  clear h_g0 hgr
  go_wp2_with fail
  refine (heldIntS_any _ _ _ 1 (by omega) (by omega) (gapsL_length l_clubs l_list) (sl_of_own intC_length hm_g0)).mono ?_
  rintro e w1 ⟨rfl, d16, rfl⟩
  replace h_v_clubs := World.sl_ext intC_length h_v_clubs d16
  replace h_v_list := World.sl_ext intC_length h_v_list d16
  replace h_w0 := own_ext h_w0 d16
  replace hm_g0 := own_ext hm_g0 d16
  replace hg := gain_ext hg d16
  go_wp2_with fail
  refine (toIntS_any _ l_clubs _ h_v_clubs hl_clubs).mono ?_
  rintro e w1 ⟨y_clubs, rfl, ⟨d17, rfl⟩, h_y_clubs⟩
  replace h_v_clubs := World.sl_ext intC_length h_v_clubs d17
  replace h_v_list := World.sl_ext intC_length h_v_list d17
  replace h_w0 := own_ext h_w0 d17
  replace hm_g0 := own_ext hm_g0 d17
  replace hg := gain_ext hg d17
  go_wp2_with fail
  refine (toIntS_any _ l_list _ h_v_list hl_list).mono ?_
  rintro e w1 ⟨y_list, rfl, ⟨d18, rfl⟩, h_y_list⟩
  replace h_v_clubs := World.sl_ext intC_length h_v_clubs d18
  replace h_v_list := World.sl_ext intC_length h_v_list d18
  replace h_w0 := own_ext h_w0 d18
  replace hm_g0 := own_ext hm_g0 d18
  replace h_y_clubs := own_ext h_y_clubs d18
  replace hg := gain_ext hg d18
  go_wp2_with fail
  refine (clubGaps_any _ _ l_clubs l_list _ (sl_of_own intC_length h_y_clubs) (sl_of_own intC_length h_y_list) hl_clubs hl_list).mono ?_
  rintro e w1 ⟨h0, rfl, ⟨d19, rfl⟩, h_h0⟩
  replace h_v_clubs := World.sl_ext intC_length h_v_clubs d19
  replace h_v_list := World.sl_ext intC_length h_v_list d19
  replace h_w0 := own_ext h_w0 d19
  replace hm_g0 := own_ext hm_g0 d19
  replace h_y_clubs := own_ext h_y_clubs d19
  replace h_y_list := own_ext h_y_list d19
  replace hg := gain_ext hg d19
  go_wp2_with fail
  refine (eqIntS_same _ _ (gapsL l_clubs l_list) _ (sl_of_own intC_length h_h0) (sl_of_own intC_length h_w0) (gapsL_length l_clubs l_list)).mono ?_
  rintro e w1 ⟨rfl, d20, rfl⟩
  replace h_v_clubs := World.sl_ext intC_length h_v_clubs d20
  replace h_v_list := World.sl_ext intC_length h_v_list d20
  replace h_w0 := own_ext h_w0 d20
  replace hm_g0 := own_ext hm_g0 d20
  replace h_y_clubs := own_ext h_y_clubs d20
  replace h_y_list := own_ext h_y_list d20
  replace h_h0 := own_ext h_h0 d20
  replace hg := gain_ext hg d20
  go_wp2_with fail
  refine (heldIntS_any _ _ _ 1 (by omega) (by omega) (gapsL_length l_clubs l_list) (sl_of_own intC_length hm_g0)).mono ?_
  rintro e w1 ⟨rfl, d21, rfl⟩
  replace h_v_clubs := World.sl_ext intC_length h_v_clubs d21
  replace h_v_list := World.sl_ext intC_length h_v_list d21
  replace h_w0 := own_ext h_w0 d21
  replace hm_g0 := own_ext hm_g0 d21
  replace h_y_clubs := own_ext h_y_clubs d21
  replace h_y_list := own_ext h_y_list d21
  replace h_h0 := own_ext h_h0 d21
  replace hg := gain_ext hg d21
  go_wp2
  go_ret
  exact ⟨rfl, hg⟩
set_option maxRecDepth 100000 in
theorem fnExactClubGaps_lifted (os : Os) (started : os.Started) (H : Type) (enc : TypeId × Value → H) :
    ReturnsInHanded {} Try.checked os 10 .any (Rows.fnExactClubGapsSpec.pre6 enc Try.prog Try.f10 Rows.fnExactClubGapsRow.domain false) (Rows.fnExactClubGapsSpec.post enc Try.prog Try.f10 false true false false) := by
  refine returnsInHanded_of_change (C := Try.checked) (by kernel_rfl) started (by kernel_rfl) Try.func10
    (ChangeSpec.witness6 (enc := enc) (C := Try.checked) false ⟨#[], #[.slice none 0 0, .slice none 0 0], []⟩ 8 (by kernel_rfl) (by kernel_rfl) (by kernel_rfl) (by kernel_rfl)) ?_
  intro W base args ds gs before hval0 hW _ _
  have hval : ∀ (j : Nat) t v, Try.f10.params[j]? = some t → args[j]? = some v → Value.okWide Try.prog W .any base t v := hval0
  clear hval0
  have laidOut : laidOutB Try.prog = true := by as_aux_lemma => kernel_rfl
  have hWc := hW
  obtain ⟨p, q, hA0, hV, rfl, _, _⟩ := hWc
  have hA : DataW.TrodAll enc Try.prog W 0 (fun _ => true) true Try.f10.params.toList args.toList ds p := hA0
  clear hA0
  rw [Try.params10] at hA hval
  obtain ⟨v0, vs0, d0, ds0, p0, q0, hargs, rfl, rfl, h0, r0⟩ := trodAll_cons hA
  obtain ⟨v1, vs1, d1, ds1, p1, q1, rfl, rfl, rfl, h1, r1⟩ := trodAll_cons r0
  obtain ⟨rfl, rfl, rfl⟩ := trodAll_nil r1
  obtain rfl : args = #[v0, v1] := by cases args; simp_all
  obtain ⟨rfl, rfl⟩ := trodVars_none hV
  obtain ⟨l0, hs0, hm0⟩ := read_Ints (hval 0 22 v0 rfl rfl) h0
  obtain ⟨l1, hs1, hm1⟩ := read_Ints (hval 1 22 v1 rfl rfl) h1
  refine (fnExactClubGaps_walk v0 l0 v1 l1 W hs0 hm0 hs1 hm1).mono fun e W1 ⟨he, hg⟩ => ?_
  subst he
  exact ⟨_, rfl, law_post (tb := 4) laidOut (by kernel_rfl) hW rfl rfl (by kernel_rfl) Try.underlying4 hg⟩
theorem fnExactClubGaps_holds : Rows.FnExactClubGapsSaid :=
  OpenClaim.holds_of_wide 10 Try.f10 rfl rfl rfl rfl rfl rfl rfl ⟨rfl, rfl, rfl, rfl, rfl⟩ rfl rfl rfl rfl rfl (by kernel_rfl) Try.func10 (by kernel_rfl)
    (of_decide_eq_true (by kernel_rfl)) (by unfold Func.isWrapper; first | (rw [if_pos (by decide +kernel)]; kernel_rfl) | (rw [if_neg (by decide +kernel)]; exact ⟨rfl, rfl⟩))
    (fun os started H enc _ => fnExactClubGaps_lifted os started H enc)
#print axioms fnExactClubGaps_holds
end Go.Proofs.Ytgampgkoahkmlaa
