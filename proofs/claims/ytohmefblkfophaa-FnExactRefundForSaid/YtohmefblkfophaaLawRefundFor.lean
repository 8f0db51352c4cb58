/- FnExactRefundFor returns true for every argument. No condition. -/
import Derived.Test.YtohmefblkfophaaRefundFor
import Derived.Test.YtohmefblkfophaaToEntS
import Derived.Test.YtohmefblkfophaaEqEntS
import Derived.Test.YtohmefblkfophaaSzEntS
import Derived.Test.YtohmefblkfophaaMarkEntS
import Derived.Test.YtohmefblkfophaaMarkIntS
import Derived.Test.YtohmefblkfophaaEqIntS
import Derived.Test.YtohmefblkfophaaRdEnt
namespace Go.Proofs.Ytohmefblkfophaa
open Go.ChangeShapes Go.WideShapes Go.ChangeAt Go.RowKit Go.Ori
set_option maxHeartbeats 1000000 in
theorem fnExactRefundFor_walk (v_list : Value) (l_list : List Ent) (runner : Int) (day : Int) (w : World) (h_v_list : w.sl Ent.cells 5 v_list l_list) (hm_list : l_list.length ≤ 9223372036854775807) :
    Calls Try.prog 5 #[v_list, .int .i64 runner, .int .i64 day] w fun x w' => x = .returned (.bool true) ∧ ∃ d, w' = w.ext d := by
  obtain ⟨p_list, c_list, hv_list, _⟩ := id h_v_list
  subst hv_list
  have hg := w.gained_refl
  go_enter Try.func5, Try.ntmps5
  go_wp2_with fail
  refine (szEntryS_any _ _ _ _ _ hm_list (by omega) (by omega)).mono ?_
  rintro e w1 ⟨r_list, rfl, rfl, hr_list, hx_list⟩
  by_cases hp_list : ¬ 0 ≤ r_list
  · go_wp2
    go_ret
    exact ⟨rfl, w.gained_refl⟩
  have hl_list : l_list.length ≤ 1048576 := by have := hx_list (by omega); omega
  clear hm_list
  replace hp_list : 0 ≤ r_list := by omega
  clear hx_list
  go_wp2_with fail
  refine (toEntryS_any _ l_list _ h_v_list hl_list).mono ?_
  rintro e w1 ⟨u_list, rfl, ⟨d1, rfl⟩, h_u_list⟩
  replace h_v_list := World.sl_ext Ent.cells_length h_v_list d1
  replace hg := gain_ext hg d1
  go_wp2_with fail
  refine (specRefundFor_any _ l_list runner day _ (sl_of_own Ent.cells_length h_u_list) hl_list).mono ?_
  rintro e w1 ⟨w0, rfl, ⟨d2, rfl⟩, h_w0⟩
  replace h_v_list := World.sl_ext Ent.cells_length h_v_list d2
  replace h_u_list := own_ext h_u_list d2
  replace hg := gain_ext hg d2
  clear h_u_list
  go_wp2_with fail
  refine (toEntryS_any _ l_list _ h_v_list hl_list).mono ?_
  rintro e w1 ⟨x_list, rfl, ⟨d3, rfl⟩, h_x_list⟩
  have b_x_list := gain_size hg
  have ap_v_list_x_list := apart_new Ent.cells_length (by omega) h_v_list h_x_list
  have ap_w0_x_list := apart2_new h_w0 h_x_list
  replace h_v_list := World.sl_ext Ent.cells_length h_v_list d3
  replace h_w0 := own_ext h_w0 d3
  replace hg := gain_ext hg d3
  go_wp2_with fail
  refine (refundFor_any _ l_list runner day _ (sl_of_own Ent.cells_length h_x_list) hl_list).mono ?_
  rintro e w1 ⟨g0, rfl, ⟨d4, rfl⟩, h_g0⟩
  have b_g0 := gain_size hg
  have ap_v_list_g0 := apart_new Ent.cells_length (by omega) h_v_list h_g0
  have ap_w0_g0 := apart2_new h_w0 h_g0
  have ap_x_list_g0 := apart2_new h_x_list h_g0
  replace h_v_list := World.sl_ext Ent.cells_length h_v_list d4
  replace h_w0 := own_ext h_w0 d4
  replace h_x_list := own_ext h_x_list d4
  replace hg := gain_ext hg d4
  go_wp2_with fail
  refine (eqEntryS_same _ _ (refL l_list runner day) _ (sl_of_own Ent.cells_length h_g0) (sl_of_own Ent.cells_length h_w0) (refL_length l_list runner day hl_list)).mono ?_
  rintro e w1 ⟨rfl, d5, rfl⟩
  replace h_v_list := World.sl_ext Ent.cells_length h_v_list d5
  replace h_w0 := own_ext h_w0 d5
  replace h_x_list := own_ext h_x_list d5
  replace h_g0 := own_ext h_g0 d5
  replace hg := gain_ext hg d5
  go_wp2_with fail
  refine (toEntryS_any _ l_list _ h_v_list hl_list).mono ?_
  rintro e w1 ⟨t_list, rfl, ⟨d6, rfl⟩, h_t_list⟩
  replace h_v_list := World.sl_ext Ent.cells_length h_v_list d6
  replace h_w0 := own_ext h_w0 d6
  replace h_x_list := own_ext h_x_list d6
  replace h_g0 := own_ext h_g0 d6
  replace hg := gain_ext hg d6
  go_wp2_with fail
  refine (eqEntryS_same _ _ l_list _ (sl_of_own Ent.cells_length h_x_list) (sl_of_own Ent.cells_length h_t_list) hl_list).mono ?_
  rintro e w1 ⟨rfl, d7, rfl⟩
  replace h_v_list := World.sl_ext Ent.cells_length h_v_list d7
  replace h_w0 := own_ext h_w0 d7
  replace h_x_list := own_ext h_x_list d7
  replace h_g0 := own_ext h_g0 d7
  replace h_t_list := own_ext h_t_list d7
  replace hg := gain_ext hg d7
  clear h_t_list
  go_wp2_with fail
  refine (markEntryS_any w _ _ l_list _ _ _ (by omega) (by omega) hl_list rfl h_x_list hg b_x_list).mono ?_
  rintro e w1 ⟨rfl, hm_x_list, hgr, d8, rfl⟩
  replace h_v_list := sl_mark Ent.cells_length h_v_list hgr ap_v_list_x_list
  replace h_w0 := own_mark h_w0 hgr ap_w0_x_list
  replace h_g0 := own_mark h_g0 hgr ap_x_list_g0.symm
  replace hg : ∃ d, w.ext d8 = w.ext d := ⟨_, rfl⟩
  clear h_x_list hgr
  clear hm_x_list
  go_wp2_with fail
  refine (eqEntryS_same _ _ (refL l_list runner day) _ (sl_of_own Ent.cells_length h_g0) (sl_of_own Ent.cells_length h_w0) (refL_length l_list runner day hl_list)).mono ?_
  rintro e w1 ⟨rfl, d9, rfl⟩
  replace h_v_list := World.sl_ext Ent.cells_length h_v_list d9
  replace h_w0 := own_ext h_w0 d9
  replace h_g0 := own_ext h_g0 d9
  replace hg := gain_ext hg d9
  go_wp2_with fail
  refine (markEntryS_any w _ _ (refL l_list runner day) _ _ 1 (by omega) (by omega) (refL_length l_list runner day hl_list) rfl h_g0 hg b_g0).mono ?_
  rintro e w1 ⟨rfl, hm_g0, hgr, d10, rfl⟩
  replace h_v_list := sl_mark Ent.cells_length h_v_list hgr ap_v_list_g0
  replace h_w0 := own_mark h_w0 hgr ap_w0_g0
  replace hg : ∃ d, w.ext d10 = w.ext d := ⟨_, rfl⟩
  clear h_g0 hgr
  go_wp2_with fail
  refine (heldEntryS_any _ _ _ 1 (by omega) (by omega) (refL_length l_list runner day hl_list) (sl_of_own Ent.cells_length hm_g0)).mono ?_
  rintro e w1 ⟨rfl, d11, rfl⟩
  replace h_v_list := World.sl_ext Ent.cells_length h_v_list d11
  replace h_w0 := own_ext h_w0 d11
  replace hm_g0 := own_ext hm_g0 d11
  replace hg := gain_ext hg d11
  go_wp2_with fail
  refine (toEntryS_any _ l_list _ h_v_list hl_list).mono ?_
  rintro e w1 ⟨y_list, rfl, ⟨d12, rfl⟩, h_y_list⟩
  replace h_v_list := World.sl_ext Ent.cells_length h_v_list d12
  replace h_w0 := own_ext h_w0 d12
  replace hm_g0 := own_ext hm_g0 d12
  replace hg := gain_ext hg d12
  go_wp2_with fail
  refine (refundFor_any _ l_list runner day _ (sl_of_own Ent.cells_length h_y_list) hl_list).mono ?_
  rintro e w1 ⟨h0, rfl, ⟨d13, rfl⟩, h_h0⟩
  replace h_v_list := World.sl_ext Ent.cells_length h_v_list d13
  replace h_w0 := own_ext h_w0 d13
  replace hm_g0 := own_ext hm_g0 d13
  replace h_y_list := own_ext h_y_list d13
  replace hg := gain_ext hg d13
  go_wp2_with fail
  refine (eqEntryS_same _ _ (refL l_list runner day) _ (sl_of_own Ent.cells_length h_h0) (sl_of_own Ent.cells_length h_w0) (refL_length l_list runner day hl_list)).mono ?_
  rintro e w1 ⟨rfl, d14, rfl⟩
  replace h_v_list := World.sl_ext Ent.cells_length h_v_list d14
  replace h_w0 := own_ext h_w0 d14
  replace hm_g0 := own_ext hm_g0 d14
  replace h_y_list := own_ext h_y_list d14
  replace h_h0 := own_ext h_h0 d14
  replace hg := gain_ext hg d14
  go_wp2_with fail
  refine (heldEntryS_any _ _ _ 1 (by omega) (by omega) (refL_length l_list runner day hl_list) (sl_of_own Ent.cells_length hm_g0)).mono ?_
  rintro e w1 ⟨rfl, d15, rfl⟩
  replace h_v_list := World.sl_ext Ent.cells_length h_v_list d15
  replace h_w0 := own_ext h_w0 d15
  replace hm_g0 := own_ext hm_g0 d15
  replace h_y_list := own_ext h_y_list d15
  replace h_h0 := own_ext h_h0 d15
  replace hg := gain_ext hg d15
  go_wp2
  go_ret
  exact ⟨rfl, hg⟩
set_option maxRecDepth 100000 in
theorem fnExactRefundFor_lifted (os : Os) (started : os.Started) (H : Type) (enc : TypeId × Value → H) :
    ReturnsInHanded {} Try.checked os 5 .any (Rows.fnExactRefundForSpec.pre6 enc Try.prog Try.f5 Rows.fnExactRefundForRow.domain false) (Rows.fnExactRefundForSpec.post enc Try.prog Try.f5 false true false false) := by
  refine returnsInHanded_of_change (C := Try.checked) (by kernel_rfl) started (by kernel_rfl) Try.func5
    (ChangeSpec.witness6 (enc := enc) (C := Try.checked) false ⟨#[], #[.slice none 0 0, .int .i64 0, .int .i64 0], []⟩ 8 (by kernel_rfl) (by kernel_rfl) (by kernel_rfl) (by kernel_rfl)) ?_
  intro W base args ds gs before hval0 hW _ _
  have hval : ∀ (j : Nat) t v, Try.f5.params[j]? = some t → args[j]? = some v → Value.okWide Try.prog W .any base t v := hval0
  clear hval0
  have laidOut : laidOutB Try.prog = true := by as_aux_lemma => kernel_rfl
  have hWc := hW
  obtain ⟨p, q, hA0, hV, rfl, _, _⟩ := hWc
  have hA : DataW.TrodAll enc Try.prog W 0 (fun _ => true) true Try.f5.params.toList args.toList ds p := hA0
  clear hA0
  rw [Try.params5] at hA hval
  obtain ⟨v0, vs0, d0, ds0, p0, q0, hargs, rfl, rfl, h0, r0⟩ := trodAll_cons hA
  obtain ⟨v1, vs1, d1, ds1, p1, q1, rfl, rfl, rfl, h1, r1⟩ := trodAll_cons r0
  obtain ⟨v2, vs2, d2, ds2, p2, q2, rfl, rfl, rfl, h2, r2⟩ := trodAll_cons r1
  obtain ⟨rfl, rfl, rfl⟩ := trodAll_nil r2
  obtain rfl : args = #[v0, v1, v2] := by cases args; simp_all
  obtain ⟨rfl, rfl⟩ := trodVars_none hV
  obtain ⟨l0, hs0, hm0⟩ := read_Ents (hval 0 22 v0 rfl rfl) h0
  obtain ⟨n1, rfl, _, _, wf1⟩ := open_int Try.underlying3 (hval 1 3 v1 rfl rfl) h1
  obtain ⟨n2, rfl, _, _, wf2⟩ := open_int Try.underlying3 (hval 2 3 v2 rfl rfl) h2
  refine (fnExactRefundFor_walk v0 l0 n1 n2 W hs0 hm0).mono fun e W1 ⟨he, hg⟩ => ?_
  subst he
  exact ⟨_, rfl, law_post (tb := 4) laidOut (by kernel_rfl) hW rfl rfl (by kernel_rfl) Try.underlying4 hg⟩
theorem fnExactRefundFor_holds : Rows.FnExactRefundForSaid :=
  OpenClaim.holds_of_wide 5 Try.f5 rfl rfl rfl rfl rfl rfl rfl ⟨rfl, rfl, rfl, rfl, rfl⟩ rfl rfl rfl rfl rfl (by kernel_rfl) Try.func5 (by kernel_rfl)
    (of_decide_eq_true (by kernel_rfl)) (by unfold Func.isWrapper; first | (rw [if_pos (by decide +kernel)]; kernel_rfl) | (rw [if_neg (by decide +kernel)]; exact ⟨rfl, rfl⟩))
    (fun os started H enc _ => fnExactRefundFor_lifted os started H enc)
#print axioms fnExactRefundFor_holds
end Go.Proofs.Ytohmefblkfophaa
