/- FnExactCleanStartList returns true for every argument. No condition. -/
import Derived.Test.YtgampgkoahkmlaaClean
import Derived.Test.YtgampgkoahkmlaaToIntS
import Derived.Test.YtgampgkoahkmlaaEqIntS
import Derived.Test.YtgampgkoahkmlaaMarkIntS
import Derived.Test.YtgampgkoahkmlaaRdInts
namespace Go.Proofs.Ytgampgkoahkmlaa
open Go.ChangeShapes Go.WideShapes Go.ChangeAt Go.RowKit Go.Ori
set_option maxHeartbeats 1000000 in
theorem fnExactCleanStartList_walk (v_clubs : Value) (l_clubs : List Int) (w : World) (h_v_clubs : w.sl intC 1 v_clubs l_clubs) (hm_clubs : l_clubs.length ≤ 9223372036854775807) :
    Calls Try.prog 9 #[v_clubs] w fun x w' => x = .returned (.bool true) ∧ ∃ d, w' = w.ext d := by
  by_cases hc_clubs : ¬ (l_clubs.length : Int) ≤ 1048576
  · obtain ⟨p_clubs, c_clubs, rfl, _⟩ := id h_v_clubs
    go_enter Try.func9, Try.ntmps9
    go_wp2
    go_ret
    exact ⟨rfl, w.gained_refl⟩
  have hl_clubs : l_clubs.length ≤ 1048576 := by omega
  obtain ⟨p_clubs, c_clubs, hv_clubs, _⟩ := id h_v_clubs
  subst hv_clubs
  clear hm_clubs hc_clubs
  have hg := w.gained_refl
  go_enter Try.func9, Try.ntmps9
  go_wp2_with fail
  refine (toIntS_any _ l_clubs _ h_v_clubs hl_clubs).mono ?_
  rintro e w1 ⟨u_clubs, rfl, ⟨d1, rfl⟩, h_u_clubs⟩
  replace h_v_clubs := World.sl_ext intC_length h_v_clubs d1
  replace hg := gain_ext hg d1
  go_wp2_with fail
  refine (specCleanStartList_any _ l_clubs _ (sl_of_own intC_length h_u_clubs) hl_clubs).mono ?_
  rintro e w1 ⟨w0, rfl, ⟨d2, rfl⟩, h_w0⟩
  replace h_v_clubs := World.sl_ext intC_length h_v_clubs d2
  replace h_u_clubs := own_ext h_u_clubs d2
  replace hg := gain_ext hg d2
  clear h_u_clubs
  go_wp2_with fail
  refine (toIntS_any _ l_clubs _ h_v_clubs hl_clubs).mono ?_
  rintro e w1 ⟨x_clubs, rfl, ⟨d3, rfl⟩, h_x_clubs⟩
  have b_x_clubs := gain_size hg
  have ap_v_clubs_x_clubs := apart_new intC_length (by omega) h_v_clubs h_x_clubs
  have ap_w0_x_clubs := apart2_new h_w0 h_x_clubs
  replace h_v_clubs := World.sl_ext intC_length h_v_clubs d3
  replace h_w0 := own_ext h_w0 d3
  replace hg := gain_ext hg d3
  go_wp2_with fail
  refine (cleanStartList_any _ l_clubs _ (sl_of_own intC_length h_x_clubs) hl_clubs).mono ?_
  rintro e w1 ⟨g0, rfl, ⟨d4, rfl⟩, h_g0⟩
  have b_g0 := gain_size hg
  have ap_v_clubs_g0 := apart_new intC_length (by omega) h_v_clubs h_g0
  have ap_w0_g0 := apart2_new h_w0 h_g0
  have ap_x_clubs_g0 := apart2_new h_x_clubs h_g0
  replace h_v_clubs := World.sl_ext intC_length h_v_clubs d4
  replace h_w0 := own_ext h_w0 d4
  replace h_x_clubs := own_ext h_x_clubs d4
  replace hg := gain_ext hg d4
  go_wp2_with fail
  refine (eqIntS_same _ _ (cleanL l_clubs) _ (sl_of_own intC_length h_g0) (sl_of_own intC_length h_w0) (cleanL_length l_clubs)).mono ?_
  rintro e w1 ⟨rfl, d5, rfl⟩
  replace h_v_clubs := World.sl_ext intC_length h_v_clubs d5
  replace h_w0 := own_ext h_w0 d5
  replace h_x_clubs := own_ext h_x_clubs d5
  replace h_g0 := own_ext h_g0 d5
  replace hg := gain_ext hg d5
  go_wp2_with fail
  refine (toIntS_any _ l_clubs _ h_v_clubs hl_clubs).mono ?_
  rintro e w1 ⟨t_clubs, rfl, ⟨d6, rfl⟩, h_t_clubs⟩
  replace h_v_clubs := World.sl_ext intC_length h_v_clubs d6
  replace h_w0 := own_ext h_w0 d6
  replace h_x_clubs := own_ext h_x_clubs d6
  replace h_g0 := own_ext h_g0 d6
  replace hg := gain_ext hg d6
  go_wp2_with fail
  refine (eqIntS_same _ _ l_clubs _ (sl_of_own intC_length h_x_clubs) (sl_of_own intC_length h_t_clubs) hl_clubs).mono ?_
  rintro e w1 ⟨rfl, d7, rfl⟩
  replace h_v_clubs := World.sl_ext intC_length h_v_clubs d7
  replace h_w0 := own_ext h_w0 d7
  replace h_x_clubs := own_ext h_x_clubs d7
  replace h_g0 := own_ext h_g0 d7
  replace h_t_clubs := own_ext h_t_clubs d7
  replace hg := gain_ext hg d7
  clear h_t_clubs
  go_wp2_with fail
  refine (markIntS_any w _ _ l_clubs _ _ _ (by omega) (by omega) hl_clubs rfl h_x_clubs hg b_x_clubs).mono ?_
  rintro e w1 ⟨rfl, hm_x_clubs, hgr, d8, rfl⟩
  replace h_v_clubs := sl_mark intC_length h_v_clubs hgr ap_v_clubs_x_clubs
  replace h_w0 := own_mark h_w0 hgr ap_w0_x_clubs
  replace h_g0 := own_mark h_g0 hgr ap_x_clubs_g0.symm
  replace hg : ∃ d, w.ext d8 = w.ext d := ⟨_, rfl⟩
  clear h_x_clubs hgr
  clear hm_x_clubs
  go_wp2_with fail
  refine (eqIntS_same _ _ (cleanL l_clubs) _ (sl_of_own intC_length h_g0) (sl_of_own intC_length h_w0) (cleanL_length l_clubs)).mono ?_
  rintro e w1 ⟨rfl, d9, rfl⟩
  replace h_v_clubs := World.sl_ext intC_length h_v_clubs d9
  replace h_w0 := own_ext h_w0 d9
  replace h_g0 := own_ext h_g0 d9
  replace hg := gain_ext hg d9
  go_wp2_with fail
  refine (markIntS_any w _ _ (cleanL l_clubs) _ _ 1 (by omega) (by omega) (cleanL_length l_clubs) rfl h_g0 hg b_g0).mono ?_
  rintro e w1 ⟨rfl, hm_g0, hgr, d10, rfl⟩
  replace h_v_clubs := sl_mark intC_length h_v_clubs hgr ap_v_clubs_g0
  replace h_w0 := own_mark h_w0 hgr ap_w0_g0
  replace hg : ∃ d, w.ext d10 = w.ext d := ⟨_, rfl⟩
  clear h_g0 hgr
  go_wp2_with fail
  refine (heldIntS_any _ _ _ 1 (by omega) (by omega) (cleanL_length l_clubs) (sl_of_own intC_length hm_g0)).mono ?_
  rintro e w1 ⟨rfl, d11, rfl⟩
  replace h_v_clubs := World.sl_ext intC_length h_v_clubs d11
  replace h_w0 := own_ext h_w0 d11
  replace hm_g0 := own_ext hm_g0 d11
  replace hg := gain_ext hg d11
  go_wp2_with fail
  refine (toIntS_any _ l_clubs _ h_v_clubs hl_clubs).mono ?_
  rintro e w1 ⟨y_clubs, rfl, ⟨d12, rfl⟩, h_y_clubs⟩
  replace h_v_clubs := World.sl_ext intC_length h_v_clubs d12
  replace h_w0 := own_ext h_w0 d12
  replace hm_g0 := own_ext hm_g0 d12
  replace hg := gain_ext hg d12
  go_wp2_with fail
  refine (cleanStartList_any _ l_clubs _ (sl_of_own intC_length h_y_clubs) hl_clubs).mono ?_
  rintro e w1 ⟨h0, rfl, ⟨d13, rfl⟩, h_h0⟩
  replace h_v_clubs := World.sl_ext intC_length h_v_clubs d13
  replace h_w0 := own_ext h_w0 d13
  replace hm_g0 := own_ext hm_g0 d13
  replace h_y_clubs := own_ext h_y_clubs d13
  replace hg := gain_ext hg d13
  go_wp2_with fail
  refine (eqIntS_same _ _ (cleanL l_clubs) _ (sl_of_own intC_length h_h0) (sl_of_own intC_length h_w0) (cleanL_length l_clubs)).mono ?_
  rintro e w1 ⟨rfl, d14, rfl⟩
  replace h_v_clubs := World.sl_ext intC_length h_v_clubs d14
  replace h_w0 := own_ext h_w0 d14
  replace hm_g0 := own_ext hm_g0 d14
  replace h_y_clubs := own_ext h_y_clubs d14
  replace h_h0 := own_ext h_h0 d14
  replace hg := gain_ext hg d14
  go_wp2_with fail
  refine (heldIntS_any _ _ _ 1 (by omega) (by omega) (cleanL_length l_clubs) (sl_of_own intC_length hm_g0)).mono ?_
  rintro e w1 ⟨rfl, d15, rfl⟩
  replace h_v_clubs := World.sl_ext intC_length h_v_clubs d15
  replace h_w0 := own_ext h_w0 d15
  replace hm_g0 := own_ext hm_g0 d15
  replace h_y_clubs := own_ext h_y_clubs d15
  replace h_h0 := own_ext h_h0 d15
  replace hg := gain_ext hg d15
  go_wp2
  go_ret
  exact ⟨rfl, hg⟩
set_option maxRecDepth 100000 in
theorem fnExactCleanStartList_lifted (os : Os) (started : os.Started) (H : Type) (enc : TypeId × Value → H) :
    ReturnsInHanded {} Try.checked os 9 .any (Rows.fnExactCleanStartListSpec.pre6 enc Try.prog Try.f9 Rows.fnExactCleanStartListRow.domain false) (Rows.fnExactCleanStartListSpec.post enc Try.prog Try.f9 false true false false) := by
  refine returnsInHanded_of_change (C := Try.checked) (by kernel_rfl) started (by kernel_rfl) Try.func9
    (ChangeSpec.witness6 (enc := enc) (C := Try.checked) false ⟨#[], #[.slice none 0 0], []⟩ 8 (by kernel_rfl) (by kernel_rfl) (by kernel_rfl) (by kernel_rfl)) ?_
  intro W base args ds gs before hval0 hW _ _
  have hval : ∀ (j : Nat) t v, Try.f9.params[j]? = some t → args[j]? = some v → Value.okWide Try.prog W .any base t v := hval0
  clear hval0
  have laidOut : laidOutB Try.prog = true := by as_aux_lemma => kernel_rfl
  have hWc := hW
  obtain ⟨p, q, hA0, hV, rfl, _, _⟩ := hWc
  have hA : DataW.TrodAll enc Try.prog W 0 (fun _ => true) true Try.f9.params.toList args.toList ds p := hA0
  clear hA0
  rw [Try.params9] at hA hval
  obtain ⟨v0, vs0, d0, ds0, p0, q0, hargs, rfl, rfl, h0, r0⟩ := trodAll_cons hA
  obtain ⟨rfl, rfl, rfl⟩ := trodAll_nil r0
  obtain rfl : args = #[v0] := by cases args; simp_all
  obtain ⟨rfl, rfl⟩ := trodVars_none hV
  obtain ⟨l0, hs0, hm0⟩ := read_Ints (hval 0 22 v0 rfl rfl) h0
  refine (fnExactCleanStartList_walk v0 l0 W hs0 hm0).mono fun e W1 ⟨he, hg⟩ => ?_
  subst he
  exact ⟨_, rfl, law_post (tb := 4) laidOut (by kernel_rfl) hW rfl rfl (by kernel_rfl) Try.underlying4 hg⟩
theorem fnExactCleanStartList_holds : Rows.FnExactCleanStartListSaid :=
  OpenClaim.holds_of_wide 9 Try.f9 rfl rfl rfl rfl rfl rfl rfl ⟨rfl, rfl, rfl, rfl, rfl⟩ rfl rfl rfl rfl rfl (by kernel_rfl) Try.func9 (by kernel_rfl)
    (of_decide_eq_true (by kernel_rfl)) (by unfold Func.isWrapper; first | (rw [if_pos (by decide +kernel)]; kernel_rfl) | (rw [if_neg (by decide +kernel)]; exact ⟨rfl, rfl⟩))
    (fun os started H enc _ => fnExactCleanStartList_lifted os started H enc)
#print axioms fnExactCleanStartList_holds
end Go.Proofs.Ytgampgkoahkmlaa
