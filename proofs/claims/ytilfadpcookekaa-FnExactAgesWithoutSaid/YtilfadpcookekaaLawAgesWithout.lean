/- FnExactAgesWithout returns true for every argument. No condition. -/
import Derived.Test.YtilfadpcookekaaAgesS
import Derived.Test.YtilfadpcookekaaNestLaw
import Derived.Test.YtilfadpcookekaaNestEq
import Derived.Test.YtilfadpcookekaaToClsS
import Derived.Test.YtilfadpcookekaaEqClsS
import Derived.Test.YtilfadpcookekaaSzClsS
import Derived.Test.YtilfadpcookekaaRdClsS
import Derived.Test.YtilfadpcookekaaMarkClsS
namespace Go
theorem gain_of_sl2 {w w' : World} {v : Value} {l : List (List Int)} (_ : w.sl2 v l) (hg : ∃ d, w' = w.ext d) : ∃ d, w' = w.ext d := hg
end Go
namespace Go.Proofs.Ytilfadpcookekaa
open Go.ChangeShapes Go.WideShapes Go.ChangeAt Go.RowKit Go.Ori
theorem agesWithout_law (v : Value) (l : List Cls) (woman : Bool) (w : World) (h : w.sl Cls.cells 8 v l) (hl : l.length ≤ 1048576) (hq : ∀ x ∈ l, Cls.small x) : Calls Try.prog 9 #[v, .bool woman] w fun x w' => ∃ r, x = .returned (.tuple #[r, .bool (clssB l)]) ∧ (∃ d, w' = w.ext d) ∧ World.rows2p 34 3 w' w.heap.size r (agesL l woman) :=
  (agesWithout_any v l woman w h hl hq).mono fun x w' ⟨r, vs, h1, h2, h3, h4⟩ => ⟨r, h1, h2, vs, h3, h4⟩
theorem specAgesWithout_law (v : Value) (l : List Cls) (woman : Bool) (w : World) (h : w.sl Cls.cells 8 v l) (hl : l.length ≤ 1048576) (hq : ∀ x ∈ l, Cls.small x) : Calls Try.prog 7 #[v, .bool woman] w fun x w' => ∃ r, x = .returned (.tuple #[r, .bool (clssB l)]) ∧ (∃ d, w' = w.ext d) ∧ World.rows2p 34 3 w' w.heap.size r (agesL l woman) :=
  (specAgesWithout_any v l woman w h hl hq).mono fun x w' ⟨r, vs, h1, h2, h3, h4⟩ => ⟨r, h1, h2, vs, h3, h4⟩
set_option maxHeartbeats 4000000 in
theorem fnExactAgesWithout_walk (v_list : Value) (l_list : List Cls) (woman : Bool) (w : World) (h_v_list : w.sl Cls.cells 8 v_list l_list) (hm_list : l_list.length ≤ 9223372036854775807) (hq_list : ∀ x ∈ l_list, Cls.ok x) :
    Calls Try.prog 3 #[v_list, .bool woman] w fun x w' => x = .returned (.bool true) ∧ ∃ d, w' = w.ext d := by
  obtain ⟨p_list, c_list, hv_list, _⟩ := id h_v_list
  subst hv_list
  go_enter Try.func3, Try.ntmps3
  go_wp2_with fail
  refine (szClassS_any _ l_list _ _ (sl_up Cls.cells_length h_v_list (by repeat (first | with_reducible (first | exact World.gained_refl _ | exact ⟨_, rfl⟩ | apply gain_ext | apply gain_alloc | apply gain_drewN | apply gain_drew) | (refine gain_setCell ?_ (by first | exact Nat.le_refl _ | exact World.size_ext _ _ | (simp; done) | (simp; omega)) _)))) hm_list hq_list (by omega) (by omega)).mono ?_
  rintro e w1 ⟨r_list, rfl, ⟨d1, rfl⟩, hr_list, hx_list⟩
  by_cases hp_list : ¬ 0 ≤ r_list
  · go_wp2
    go_ret
    exact ⟨rfl, (by repeat (first | with_reducible (first | exact World.gained_refl _ | exact ⟨_, rfl⟩ | apply gain_ext | apply gain_alloc | apply gain_drewN | apply gain_drew) | (refine gain_setCell ?_ (by first | exact Nat.le_refl _ | exact World.size_ext _ _ | (simp; done) | (simp; omega)) _)))⟩
  replace hp_list : 0 ≤ r_list := by omega
  have hl_list : l_list.length ≤ 1048576 := by have := hx_list hp_list; omega
  replace hq_list := (hx_list hp_list).2
  clear hx_list hm_list
  go_wp2_with fail
  refine (toClassS_any _ l_list _ (sl_up Cls.cells_length h_v_list (by repeat (first | with_reducible (first | exact World.gained_refl _ | exact ⟨_, rfl⟩ | apply gain_ext | apply gain_alloc | apply gain_drewN | apply gain_drew) | (refine gain_setCell ?_ (by first | exact Nat.le_refl _ | exact World.size_ext _ _ | (simp; done) | (simp; omega)) _)))) hl_list).mono ?_
  rintro e w1 ⟨u_list, rfl, ⟨d3, rfl⟩, h_u_list⟩
  go_wp2_with fail
  refine (specAgesWithout_law _ l_list woman _ (sl_up Cls.cells_length (sl_of_own Cls.cells_length h_u_list) (by repeat (first | with_reducible (first | exact World.gained_refl _ | exact ⟨_, rfl⟩ | apply gain_ext | apply gain_alloc | apply gain_drewN | apply gain_drew) | (refine gain_setCell ?_ (by first | exact Nat.le_refl _ | exact World.size_ext _ _ | (simp; done) | (simp; omega)) _)))) hl_list hq_list).mono ?_
  rintro e w1 ⟨w0, rfl, ⟨d2, rfl⟩, h_w0⟩
  replace h_w0 := sl2_of_rows2p h_w0
  clear h_u_list
  go_wp2_with fail
  refine (toClassS_any _ l_list _ (sl_up Cls.cells_length h_v_list (by repeat (first | with_reducible (first | exact World.gained_refl _ | exact ⟨_, rfl⟩ | apply gain_ext | apply gain_alloc | apply gain_drewN | apply gain_drew) | (refine gain_setCell ?_ (by first | exact Nat.le_refl _ | exact World.size_ext _ _ | (simp; done) | (simp; omega)) _)))) hl_list).mono ?_
  rintro e w1 ⟨x_list, rfl, ⟨d4, rfl⟩, h_x_list⟩
  have ap_v_list_x_list := apart_new Cls.cells_length (by omega) (sl_up Cls.cells_length h_v_list (by repeat (first | with_reducible (first | exact World.gained_refl _ | exact ⟨_, rfl⟩ | apply gain_ext | apply gain_alloc | apply gain_drewN | apply gain_drew) | (refine gain_setCell ?_ (by first | exact Nat.le_refl _ | exact World.size_ext _ _ | (simp; done) | (simp; omega)) _)))) h_x_list
  go_wp2_with fail
  refine (agesWithout_law _ l_list woman _ (sl_up Cls.cells_length (sl_of_own Cls.cells_length h_x_list) (by repeat (first | with_reducible (first | exact World.gained_refl _ | exact ⟨_, rfl⟩ | apply gain_ext | apply gain_alloc | apply gain_drewN | apply gain_drew) | (refine gain_setCell ?_ (by first | exact Nat.le_refl _ | exact World.size_ext _ _ | (simp; done) | (simp; omega)) _)))) hl_list hq_list).mono ?_
  rintro e w1 ⟨g0, rfl, ⟨d5, rfl⟩, h_g0⟩
  have lt_x_list_g0 : ∀ b, x_list.ownBlock = some b → b < _ := fun b hb => Nat.lt_of_lt_of_le (own_lt h_x_list b hb).2 (show _ ≤ _ from (gain_size (by repeat (first | with_reducible (first | exact World.gained_refl _ | exact ⟨_, rfl⟩ | apply gain_ext | apply gain_alloc | apply gain_drewN | apply gain_drew) | (refine gain_setCell ?_ (by first | exact Nat.le_refl _ | exact World.size_ext _ _ | (simp; done) | (simp; omega)) _)))))
  go_wp2_with fail
  refine (eqIntSS_same _ _ (agesL l_list woman) _ (sl2_up (sl2_of_rows2p h_g0) (by repeat (first | with_reducible (first | exact World.gained_refl _ | exact ⟨_, rfl⟩ | apply gain_ext | apply gain_alloc | apply gain_drewN | apply gain_drew) | (refine gain_setCell ?_ (by first | exact Nat.le_refl _ | exact World.size_ext _ _ | (simp; done) | (simp; omega)) _)))) (sl2_up h_w0 (by repeat (first | with_reducible (first | exact World.gained_refl _ | exact ⟨_, rfl⟩ | apply gain_ext | apply gain_alloc | apply gain_drewN | apply gain_drew) | (refine gain_setCell ?_ (by first | exact Nat.le_refl _ | exact World.size_ext _ _ | (simp; done) | (simp; omega)) _)))) (agesL_tot l_list woman)).mono ?_
  rintro e w1 ⟨rfl, d6, rfl⟩
  go_wp2_with fail
  refine (toClassS_any _ l_list _ (sl_up Cls.cells_length h_v_list (by repeat (first | with_reducible (first | exact World.gained_refl _ | exact ⟨_, rfl⟩ | apply gain_ext | apply gain_alloc | apply gain_drewN | apply gain_drew) | (refine gain_setCell ?_ (by first | exact Nat.le_refl _ | exact World.size_ext _ _ | (simp; done) | (simp; omega)) _)))) hl_list).mono ?_
  rintro e w1 ⟨t_list, rfl, ⟨d7, rfl⟩, h_t_list⟩
  go_wp2_with fail
  refine (eqClassS_same _ _ l_list _ (sl_up Cls.cells_length (sl_of_own Cls.cells_length h_x_list) (by repeat (first | with_reducible (first | exact World.gained_refl _ | exact ⟨_, rfl⟩ | apply gain_ext | apply gain_alloc | apply gain_drewN | apply gain_drew) | (refine gain_setCell ?_ (by first | exact Nat.le_refl _ | exact World.size_ext _ _ | (simp; done) | (simp; omega)) _)))) (sl_up Cls.cells_length (sl_of_own Cls.cells_length h_t_list) (by repeat (first | with_reducible (first | exact World.gained_refl _ | exact ⟨_, rfl⟩ | apply gain_ext | apply gain_alloc | apply gain_drewN | apply gain_drew) | (refine gain_setCell ?_ (by first | exact Nat.le_refl _ | exact World.size_ext _ _ | (simp; done) | (simp; omega)) _)))) hl_list).mono ?_
  rintro e w1 ⟨rfl, d8, rfl⟩
  clear h_t_list
  go_wp2_with fail
  refine (markClassS_any w _ _ l_list _ _ _ (by omega) (by omega) hl_list rfl (own_up h_x_list (by repeat (first | with_reducible (first | exact World.gained_refl _ | exact ⟨_, rfl⟩ | apply gain_ext | apply gain_alloc | apply gain_drewN | apply gain_drew) | (refine gain_setCell ?_ (by first | exact Nat.le_refl _ | exact World.size_ext _ _ | (simp; done) | (simp; omega)) _)))) (by repeat (first | with_reducible (first | exact World.gained_refl _ | exact ⟨_, rfl⟩ | apply gain_ext | apply gain_alloc | apply gain_drewN | apply gain_drew) | (refine gain_setCell ?_ (by first | exact Nat.le_refl _ | exact World.size_ext _ _ | (simp; done) | (simp; omega)) _))) (gain_size (by repeat (first | with_reducible (first | exact World.gained_refl _ | exact ⟨_, rfl⟩ | apply gain_ext | apply gain_alloc | apply gain_drewN | apply gain_drew) | (refine gain_setCell ?_ (by first | exact Nat.le_refl _ | exact World.size_ext _ _ | (simp; done) | (simp; omega)) _))))).mono ?_
  rintro e w1 ⟨rfl, hm_x_list, hgr, d9, rfl⟩
  have hgn_w0 := gain_grown (gain_of_sl2 h_w0 (by repeat (first | with_reducible (first | exact World.gained_refl _ | exact ⟨_, rfl⟩ | apply gain_ext | apply gain_alloc | apply gain_drewN | apply gain_drew) | (refine gain_setCell ?_ (by first | exact Nat.le_refl _ | exact World.size_ext _ _ | (simp; done) | (simp; omega)) _)))) hgr (fun b hb => Nat.le_trans (gain_size (by repeat (first | with_reducible (first | exact World.gained_refl _ | exact ⟨_, rfl⟩ | apply gain_ext | apply gain_alloc | apply gain_drewN | apply gain_drew) | (refine gain_setCell ?_ (by first | exact Nat.le_refl _ | exact World.size_ext _ _ | (simp; done) | (simp; omega)) _)))) (own_lt h_x_list b hb).1)
  replace h_g0 := rows2p_far (rows2p_up h_g0 (by repeat (first | with_reducible (first | exact World.gained_refl _ | exact ⟨_, rfl⟩ | apply gain_ext | apply gain_alloc | apply gain_drewN | apply gain_drew) | (refine gain_setCell ?_ (by first | exact Nat.le_refl _ | exact World.size_ext _ _ | (simp; done) | (simp; omega)) _)))) lt_x_list_g0 hgr
  clear h_x_list hgr
  clear hm_x_list
  go_wp2_with fail
  refine (eqIntSS_same _ _ (agesL l_list woman) _ (sl2_up (sl2_of_rows2p h_g0) (by repeat (first | with_reducible (first | exact World.gained_refl _ | exact ⟨_, rfl⟩ | apply gain_ext | apply gain_alloc | apply gain_drewN | apply gain_drew) | (refine gain_setCell ?_ (by first | exact Nat.le_refl _ | exact World.size_ext _ _ | (simp; done) | (simp; omega)) _)))) (sl2_up h_w0 (gain_trans hgn_w0 (by repeat (first | with_reducible (first | exact World.gained_refl _ | exact ⟨_, rfl⟩ | apply gain_ext | apply gain_alloc | apply gain_drewN | apply gain_drew) | (refine gain_setCell ?_ (by first | exact Nat.le_refl _ | exact World.size_ext _ _ | (simp; done) | (simp; omega)) _))))) (agesL_tot l_list woman)).mono ?_
  rintro e w1 ⟨rfl, d10, rfl⟩
  go_wp2_with fail
  refine (markIntSSP_any h_w0 _ (agesL l_list woman) _ _ 1 (by omega) (by omega) (agesL_tot l_list woman) (rows2p_up h_g0 (by repeat (first | with_reducible (first | exact World.gained_refl _ | exact ⟨_, rfl⟩ | apply gain_ext | apply gain_alloc | apply gain_drewN | apply gain_drew) | (refine gain_setCell ?_ (by first | exact Nat.le_refl _ | exact World.size_ext _ _ | (simp; done) | (simp; omega)) _)))) (gain_trans hgn_w0 (by repeat (first | with_reducible (first | exact World.gained_refl _ | exact ⟨_, rfl⟩ | apply gain_ext | apply gain_alloc | apply gain_drewN | apply gain_drew) | (refine gain_setCell ?_ (by first | exact Nat.le_refl _ | exact World.size_ext _ _ | (simp; done) | (simp; omega)) _)))) (gain_size (by repeat (first | with_reducible (first | exact World.gained_refl _ | exact ⟨_, rfl⟩ | apply gain_ext | apply gain_alloc | apply gain_drewN | apply gain_drew) | (refine gain_setCell ?_ (by first | exact Nat.le_refl _ | exact World.size_ext _ _ | (simp; done) | (simp; omega)) _))))).mono ?_
  rintro e w1 ⟨rfl, hm_g0, d11, rfl⟩
  clear h_g0
  go_wp2_with fail
  refine (heldIntSS_any _ (agesL l_list woman) _ 1 (by omega) (by omega) (agesL_tot l_list woman) (sl2_up (sl2_of_rows2p hm_g0) (by repeat (first | with_reducible (first | exact World.gained_refl _ | exact ⟨_, rfl⟩ | apply gain_ext | apply gain_alloc | apply gain_drewN | apply gain_drew) | (refine gain_setCell ?_ (by first | exact Nat.le_refl _ | exact World.size_ext _ _ | (simp; done) | (simp; omega)) _))))).mono ?_
  rintro e w1 ⟨rfl, d12, rfl⟩
  go_wp2_with fail
  refine (toClassS_any _ l_list _ (sl_up Cls.cells_length h_v_list (by repeat (first | with_reducible (first | exact World.gained_refl _ | exact ⟨_, rfl⟩ | apply gain_ext | apply gain_alloc | apply gain_drewN | apply gain_drew) | (refine gain_setCell ?_ (by first | exact Nat.le_refl _ | exact World.size_ext _ _ | (simp; done) | (simp; omega)) _)))) hl_list).mono ?_
  rintro e w1 ⟨y_list, rfl, ⟨d14, rfl⟩, h_y_list⟩
  go_wp2_with fail
  refine (agesWithout_law _ l_list woman _ (sl_up Cls.cells_length (sl_of_own Cls.cells_length h_y_list) (by repeat (first | with_reducible (first | exact World.gained_refl _ | exact ⟨_, rfl⟩ | apply gain_ext | apply gain_alloc | apply gain_drewN | apply gain_drew) | (refine gain_setCell ?_ (by first | exact Nat.le_refl _ | exact World.size_ext _ _ | (simp; done) | (simp; omega)) _)))) hl_list hq_list).mono ?_
  rintro e w1 ⟨h0, rfl, ⟨d13, rfl⟩, h_h0⟩
  replace h_h0 := sl2_of_rows2p h_h0
  go_wp2_with fail
  refine (eqIntSS_same _ _ (agesL l_list woman) _ (sl2_up h_h0 (by repeat (first | with_reducible (first | exact World.gained_refl _ | exact ⟨_, rfl⟩ | apply gain_ext | apply gain_alloc | apply gain_drewN | apply gain_drew) | (refine gain_setCell ?_ (by first | exact Nat.le_refl _ | exact World.size_ext _ _ | (simp; done) | (simp; omega)) _)))) (sl2_up h_w0 (by repeat (first | with_reducible (first | exact World.gained_refl _ | exact ⟨_, rfl⟩ | apply gain_ext | apply gain_alloc | apply gain_drewN | apply gain_drew) | (refine gain_setCell ?_ (by first | exact Nat.le_refl _ | exact World.size_ext _ _ | (simp; done) | (simp; omega)) _)))) (agesL_tot l_list woman)).mono ?_
  rintro e w1 ⟨rfl, d15, rfl⟩
  go_wp2_with fail
  refine (heldIntSS_any _ (agesL l_list woman) _ 1 (by omega) (by omega) (agesL_tot l_list woman) (sl2_up (sl2_of_rows2p hm_g0) (by repeat (first | with_reducible (first | exact World.gained_refl _ | exact ⟨_, rfl⟩ | apply gain_ext | apply gain_alloc | apply gain_drewN | apply gain_drew) | (refine gain_setCell ?_ (by first | exact Nat.le_refl _ | exact World.size_ext _ _ | (simp; done) | (simp; omega)) _))))).mono ?_
  rintro e w1 ⟨rfl, d16, rfl⟩
  go_wp2
  go_ret
  exact ⟨rfl, (by repeat (first | with_reducible (first | exact World.gained_refl _ | exact ⟨_, rfl⟩ | apply gain_ext | apply gain_alloc | apply gain_drewN | apply gain_drew) | (refine gain_setCell ?_ (by first | exact Nat.le_refl _ | exact World.size_ext _ _ | (simp; done) | (simp; omega)) _)))⟩
set_option maxRecDepth 100000 in
theorem fnExactAgesWithout_lifted (os : Os) (started : os.Started) (H : Type) (enc : TypeId × Value → H) :
    ReturnsInHanded {} Try.checked os 3 .any (Rows.fnExactAgesWithoutSpec.pre6 enc Try.prog Try.f3 Rows.fnExactAgesWithoutRow.domain false) (Rows.fnExactAgesWithoutSpec.post enc Try.prog Try.f3 false true false false) := by
  refine returnsInHanded_of_change (C := Try.checked) (by kernel_rfl) started (by kernel_rfl) Try.func3
    (ChangeSpec.witness6 (enc := enc) (C := Try.checked) false ⟨#[], #[.slice none 0 0, .bool false], []⟩ 8 (by kernel_rfl) (by kernel_rfl) (by kernel_rfl) (by kernel_rfl)) ?_
  intro W base args ds gs before hval0 hW _ _
  have hval : ∀ (j : Nat) t v, Try.f3.params[j]? = some t → args[j]? = some v → Value.okWide Try.prog W .any base t v := hval0
  clear hval0
  have laidOut : laidOutB Try.prog = true := by as_aux_lemma => kernel_rfl
  have hWc := hW
  obtain ⟨p, q, hA0, hV, rfl, _, _⟩ := hWc
  have hA : DataW.TrodAll enc Try.prog W 0 (fun _ => true) true Try.f3.params.toList args.toList ds p := hA0
  clear hA0
  rw [Try.params3] at hA hval
  obtain ⟨v0, vs0, d0, ds0, p0, q0, hargs, rfl, rfl, h0, r0⟩ := trodAll_cons hA
  obtain ⟨v1, vs1, d1, ds1, p1, q1, rfl, rfl, rfl, h1, r1⟩ := trodAll_cons r0
  obtain ⟨rfl, rfl, rfl⟩ := trodAll_nil r1
  obtain rfl : args = #[v0, v1] := by cases args; simp_all
  obtain ⟨rfl, rfl⟩ := trodVars_none hV
  obtain ⟨l0, hs0, hm0, hq0⟩ := read_Clss (hval 0 22 v0 rfl rfl) h0
  obtain ⟨n1, rfl, _, _⟩ := open_bool Try.underlying4 (hval 1 4 v1 rfl rfl) h1
  refine (fnExactAgesWithout_walk v0 l0 n1 W hs0 hm0 hq0).mono fun e W1 ⟨he, hg⟩ => ?_
  subst he
  exact ⟨_, rfl, law_post (tb := 4) laidOut (by kernel_rfl) hW rfl rfl (by kernel_rfl) Try.underlying4 hg⟩
theorem fnExactAgesWithout_holds : Rows.FnExactAgesWithoutSaid :=
  OpenClaim.holds_of_wide 3 Try.f3 rfl rfl rfl rfl rfl rfl rfl ⟨rfl, rfl, rfl, rfl, rfl⟩ rfl rfl rfl rfl rfl (by kernel_rfl) Try.func3 (by kernel_rfl)
    (of_decide_eq_true (by kernel_rfl)) (by unfold Func.isWrapper; first | (rw [if_pos (by decide +kernel)]; kernel_rfl) | (rw [if_neg (by decide +kernel)]; exact ⟨rfl, rfl⟩))
    (fun os started H enc _ => fnExactAgesWithout_lifted os started H enc)
#print axioms fnExactAgesWithout_holds
end Go.Proofs.Ytilfadpcookekaa
