/- FnExactClubBill returns true for every argument. No condition. -/
import Derived.Test.YtohmefblkfophaaClubBill
import Derived.Test.YtohmefblkfophaaToRunnerS
import Derived.Test.YtohmefblkfophaaEqRunnerS
import Derived.Test.YtohmefblkfophaaSzRunnerS
import Derived.Test.YtohmefblkfophaaRdRunnerS
import Derived.Test.YtohmefblkfophaaToEntS
import Derived.Test.YtohmefblkfophaaEqEntS
import Derived.Test.YtohmefblkfophaaSzEntS
import Derived.Test.YtohmefblkfophaaRdFees
import Derived.Test.YtohmefblkfophaaRdEnt
namespace Go.Proofs.Ytohmefblkfophaa
open Go.ChangeShapes Go.WideShapes Go.ChangeAt Go.RowKit Go.Ori
set_option maxHeartbeats 4000000 in
theorem fnExactClubBill_walk (f : Fees) (v_runners : Value) (l_runners : List Runner) (v_list : Value) (l_list : List Ent) (club : ByteArray) (w : World) (h_v_runners : w.sl Runner.cells 6 v_runners l_runners) (hm_runners : l_runners.length ≤ 9223372036854775807) (hq_runners : ∀ x ∈ l_runners, Runner.ok x) (h_v_list : w.sl Ent.cells 5 v_list l_list) (hm_list : l_list.length ≤ 9223372036854775807) (ho_club : club.size ≤ maxLen) :
    Calls Try.prog 12 #[.agg #[.int .i64 f.adult, .int .i64 f.child, .int .i64 f.rent, .int .i64 f.late], v_runners, v_list, .string club] w fun x w' => x = .returned (.bool true) ∧ ∃ d, w' = w.ext d := by
  obtain ⟨p_runners, c_runners, hv_runners, _⟩ := id h_v_runners
  subst hv_runners
  obtain ⟨p_list, c_list, hv_list, _⟩ := id h_v_list
  subst hv_list
  simp only [maxLen] at ho_club
  by_cases hc_club : ¬ (club.size : Int) ≤ 1048576
  · go_enter Try.func12, Try.ntmps12
    go_wp2
    go_ret
    exact ⟨rfl, (by repeat (first | with_reducible (first | exact World.gained_refl _ | exact ⟨_, rfl⟩ | apply gain_ext | apply gain_alloc | apply gain_drewN | apply gain_drew) | (refine gain_setCell ?_ (by first | exact Nat.le_refl _ | exact World.size_ext _ _ | (simp; done) | (simp; omega)) _)))⟩
  have hs_club : club.size ≤ 1048576 := by omega
  go_enter Try.func12, Try.ntmps12
  have h_b_f : (w.alloc (.cells #[.int .i64 f.adult, .int .i64 f.child, .int .i64 f.rent, .int .i64 f.late] 45)).sl Fees.cells 4 (.slice (some ⟨w.heap.size, 0, none⟩) 1 1) [f] := sl_lit (w := w) (l := [f]) Fees.cells_length rfl (by simp)
  replace h_b_f : (w.alloc (.cells #[.int .i64 f.adult, .int .i64 f.child, .int .i64 f.rent, .int .i64 f.late] 45)).sl Fees.cells 4 (.slice (some ⟨w.heap.size, 0, none⟩) 1 1) [f] := (sl_up Fees.cells_length h_b_f (by repeat (first | with_reducible (first | exact World.gained_refl _ | exact ⟨_, rfl⟩ | apply gain_ext | apply gain_alloc | apply gain_drewN | apply gain_drew) | (refine gain_setCell ?_ (by first | exact Nat.le_refl _ | exact World.size_ext _ _ | (simp; done) | (simp; omega)) _))))
  have c_f_0 : (w.alloc (.cells #[.int .i64 f.adult, .int .i64 f.child, .int .i64 f.rent, .int .i64 f.late] 45)).cell? ⟨w.heap.size, 0, none⟩ = some (.int .i64 f.adult) := by have := sl_cells h_b_f (k := 0) (by simp) (j := 0) (by omega); first | (simp; done) | simpa [Fees.cells] using this
  have c_f_1 : (w.alloc (.cells #[.int .i64 f.adult, .int .i64 f.child, .int .i64 f.rent, .int .i64 f.late] 45)).cell? ⟨w.heap.size, 1, none⟩ = some (.int .i64 f.child) := by have := sl_cells h_b_f (k := 0) (by simp) (j := 1) (by omega); first | (simp; done) | simpa [Fees.cells] using this
  have c_f_2 : (w.alloc (.cells #[.int .i64 f.adult, .int .i64 f.child, .int .i64 f.rent, .int .i64 f.late] 45)).cell? ⟨w.heap.size, 2, none⟩ = some (.int .i64 f.rent) := by have := sl_cells h_b_f (k := 0) (by simp) (j := 2) (by omega); first | (simp; done) | simpa [Fees.cells] using this
  have c_f_3 : (w.alloc (.cells #[.int .i64 f.adult, .int .i64 f.child, .int .i64 f.rent, .int .i64 f.late] 45)).cell? ⟨w.heap.size, 3, none⟩ = some (.int .i64 f.late) := by have := sl_cells h_b_f (k := 0) (by simp) (j := 3) (by omega); first | (simp; done) | simpa [Fees.cells] using this
  go_wp2_with fail
  refine (szRunnerS_any _ l_runners _ _ (sl_up Runner.cells_length h_v_runners (by repeat (first | with_reducible (first | exact World.gained_refl _ | exact ⟨_, rfl⟩ | apply gain_ext | apply gain_alloc | apply gain_drewN | apply gain_drew) | (refine gain_setCell ?_ (by first | exact Nat.le_refl _ | exact World.size_ext _ _ | (simp; done) | (simp; omega)) _)))) hm_runners hq_runners (by omega) (by omega)).mono ?_
  rintro e w1 ⟨r_runners, rfl, ⟨d1, rfl⟩, hr_runners, hx_runners⟩
  by_cases hp_runners : ¬ 0 ≤ r_runners
  · go_wp2
    go_ret
    exact ⟨rfl, (by repeat (first | with_reducible (first | exact World.gained_refl _ | exact ⟨_, rfl⟩ | apply gain_ext | apply gain_alloc | apply gain_drewN | apply gain_drew) | (refine gain_setCell ?_ (by first | exact Nat.le_refl _ | exact World.size_ext _ _ | (simp; done) | (simp; omega)) _)))⟩
  replace hp_runners : 0 ≤ r_runners := by omega
  have hl_runners : l_runners.length ≤ 1048576 := by have := hx_runners hp_runners; omega
  replace hq_runners := (hx_runners hp_runners).2
  clear hx_runners hm_runners
  go_wp2_with fail
  refine (szEntryS_any _ _ _ _ _ hm_list (by omega) (by omega)).mono ?_
  rintro e w1 ⟨r_list, rfl, rfl, hr_list, hx_list⟩
  by_cases hp_list : ¬ 0 ≤ r_list
  · go_wp2
    go_ret
    exact ⟨rfl, (by repeat (first | with_reducible (first | exact World.gained_refl _ | exact ⟨_, rfl⟩ | apply gain_ext | apply gain_alloc | apply gain_drewN | apply gain_drew) | (refine gain_setCell ?_ (by first | exact Nat.le_refl _ | exact World.size_ext _ _ | (simp; done) | (simp; omega)) _)))⟩
  replace hp_list : 0 ≤ r_list := by omega
  have hl_list : l_list.length ≤ 1048576 := by have := hx_list hp_list; omega
  clear hx_list hm_list
  go_wp2_with fail
  refine (toFees_any _ _ _ _ _).mono ?_
  rintro e w1 ⟨rfl, d3, rfl⟩
  go_wp2_with fail
  refine (toRunnerS_any _ l_runners _ (sl_up Runner.cells_length h_v_runners (by repeat (first | with_reducible (first | exact World.gained_refl _ | exact ⟨_, rfl⟩ | apply gain_ext | apply gain_alloc | apply gain_drewN | apply gain_drew) | (refine gain_setCell ?_ (by first | exact Nat.le_refl _ | exact World.size_ext _ _ | (simp; done) | (simp; omega)) _)))) hl_runners).mono ?_
  rintro e w1 ⟨u_runners, rfl, ⟨d4, rfl⟩, h_u_runners⟩
  go_wp2_with fail
  refine (toEntryS_any _ l_list _ (sl_up Ent.cells_length h_v_list (by repeat (first | with_reducible (first | exact World.gained_refl _ | exact ⟨_, rfl⟩ | apply gain_ext | apply gain_alloc | apply gain_drewN | apply gain_drew) | (refine gain_setCell ?_ (by first | exact Nat.le_refl _ | exact World.size_ext _ _ | (simp; done) | (simp; omega)) _)))) hl_list).mono ?_
  rintro e w1 ⟨u_list, rfl, ⟨d5, rfl⟩, h_u_list⟩
  go_wp2_with fail
  refine (specClubBill_any f _ _ l_runners l_list club _ (sl_up Runner.cells_length (sl_of_own Runner.cells_length h_u_runners) (by repeat (first | with_reducible (first | exact World.gained_refl _ | exact ⟨_, rfl⟩ | apply gain_ext | apply gain_alloc | apply gain_drewN | apply gain_drew) | (refine gain_setCell ?_ (by first | exact Nat.le_refl _ | exact World.size_ext _ _ | (simp; done) | (simp; omega)) _)))) hl_runners hq_runners (sl_up Ent.cells_length (sl_of_own Ent.cells_length h_u_list) (by repeat (first | with_reducible (first | exact World.gained_refl _ | exact ⟨_, rfl⟩ | apply gain_ext | apply gain_alloc | apply gain_drewN | apply gain_drew) | (refine gain_setCell ?_ (by first | exact Nat.le_refl _ | exact World.size_ext _ _ | (simp; done) | (simp; omega)) _)))) hl_list).mono ?_
  rintro e w1 ⟨rfl, d2, rfl⟩
  clear h_u_runners
  clear h_u_list
  go_wp2_with fail
  refine (toRunnerS_any _ l_runners _ (sl_up Runner.cells_length h_v_runners (by repeat (first | with_reducible (first | exact World.gained_refl _ | exact ⟨_, rfl⟩ | apply gain_ext | apply gain_alloc | apply gain_drewN | apply gain_drew) | (refine gain_setCell ?_ (by first | exact Nat.le_refl _ | exact World.size_ext _ _ | (simp; done) | (simp; omega)) _)))) hl_runners).mono ?_
  rintro e w1 ⟨x_runners, rfl, ⟨d6, rfl⟩, h_x_runners⟩
  go_wp2_with fail
  refine (toEntryS_any _ l_list _ (sl_up Ent.cells_length h_v_list (by repeat (first | with_reducible (first | exact World.gained_refl _ | exact ⟨_, rfl⟩ | apply gain_ext | apply gain_alloc | apply gain_drewN | apply gain_drew) | (refine gain_setCell ?_ (by first | exact Nat.le_refl _ | exact World.size_ext _ _ | (simp; done) | (simp; omega)) _)))) hl_list).mono ?_
  rintro e w1 ⟨x_list, rfl, ⟨d7, rfl⟩, h_x_list⟩
  go_wp2_with fail
  refine (toFees_any _ _ _ _ _).mono ?_
  rintro e w1 ⟨rfl, d9, rfl⟩
  go_wp2_with fail
  refine (clubBill_any f _ _ l_runners l_list club _ (sl_up Runner.cells_length (sl_of_own Runner.cells_length h_x_runners) (by repeat (first | with_reducible (first | exact World.gained_refl _ | exact ⟨_, rfl⟩ | apply gain_ext | apply gain_alloc | apply gain_drewN | apply gain_drew) | (refine gain_setCell ?_ (by first | exact Nat.le_refl _ | exact World.size_ext _ _ | (simp; done) | (simp; omega)) _)))) hl_runners hq_runners (sl_up Ent.cells_length (sl_of_own Ent.cells_length h_x_list) (by repeat (first | with_reducible (first | exact World.gained_refl _ | exact ⟨_, rfl⟩ | apply gain_ext | apply gain_alloc | apply gain_drewN | apply gain_drew) | (refine gain_setCell ?_ (by first | exact Nat.le_refl _ | exact World.size_ext _ _ | (simp; done) | (simp; omega)) _)))) hl_list).mono ?_
  rintro e w1 ⟨rfl, d8, rfl⟩
  go_wp2_with fail
  refine (toRunnerS_any _ l_runners _ (sl_up Runner.cells_length h_v_runners (by repeat (first | with_reducible (first | exact World.gained_refl _ | exact ⟨_, rfl⟩ | apply gain_ext | apply gain_alloc | apply gain_drewN | apply gain_drew) | (refine gain_setCell ?_ (by first | exact Nat.le_refl _ | exact World.size_ext _ _ | (simp; done) | (simp; omega)) _)))) hl_runners).mono ?_
  rintro e w1 ⟨t_runners, rfl, ⟨d10, rfl⟩, h_t_runners⟩
  go_wp2_with fail
  refine (eqRunnerS_same _ _ l_runners _ (sl_up Runner.cells_length (sl_of_own Runner.cells_length h_x_runners) (by repeat (first | with_reducible (first | exact World.gained_refl _ | exact ⟨_, rfl⟩ | apply gain_ext | apply gain_alloc | apply gain_drewN | apply gain_drew) | (refine gain_setCell ?_ (by first | exact Nat.le_refl _ | exact World.size_ext _ _ | (simp; done) | (simp; omega)) _)))) (sl_up Runner.cells_length (sl_of_own Runner.cells_length h_t_runners) (by repeat (first | with_reducible (first | exact World.gained_refl _ | exact ⟨_, rfl⟩ | apply gain_ext | apply gain_alloc | apply gain_drewN | apply gain_drew) | (refine gain_setCell ?_ (by first | exact Nat.le_refl _ | exact World.size_ext _ _ | (simp; done) | (simp; omega)) _)))) hl_runners).mono ?_
  rintro e w1 ⟨rfl, d11, rfl⟩
  clear h_t_runners
  go_wp2_with fail
  refine (toEntryS_any _ l_list _ (sl_up Ent.cells_length h_v_list (by repeat (first | with_reducible (first | exact World.gained_refl _ | exact ⟨_, rfl⟩ | apply gain_ext | apply gain_alloc | apply gain_drewN | apply gain_drew) | (refine gain_setCell ?_ (by first | exact Nat.le_refl _ | exact World.size_ext _ _ | (simp; done) | (simp; omega)) _)))) hl_list).mono ?_
  rintro e w1 ⟨t_list, rfl, ⟨d12, rfl⟩, h_t_list⟩
  go_wp2_with fail
  refine (eqEntryS_same _ _ l_list _ (sl_up Ent.cells_length (sl_of_own Ent.cells_length h_x_list) (by repeat (first | with_reducible (first | exact World.gained_refl _ | exact ⟨_, rfl⟩ | apply gain_ext | apply gain_alloc | apply gain_drewN | apply gain_drew) | (refine gain_setCell ?_ (by first | exact Nat.le_refl _ | exact World.size_ext _ _ | (simp; done) | (simp; omega)) _)))) (sl_up Ent.cells_length (sl_of_own Ent.cells_length h_t_list) (by repeat (first | with_reducible (first | exact World.gained_refl _ | exact ⟨_, rfl⟩ | apply gain_ext | apply gain_alloc | apply gain_drewN | apply gain_drew) | (refine gain_setCell ?_ (by first | exact Nat.le_refl _ | exact World.size_ext _ _ | (simp; done) | (simp; omega)) _)))) hl_list).mono ?_
  rintro e w1 ⟨rfl, d13, rfl⟩
  clear h_t_list
  go_wp2
  go_ret
  exact ⟨rfl, (by repeat (first | with_reducible (first | exact World.gained_refl _ | exact ⟨_, rfl⟩ | apply gain_ext | apply gain_alloc | apply gain_drewN | apply gain_drew) | (refine gain_setCell ?_ (by first | exact Nat.le_refl _ | exact World.size_ext _ _ | (simp; done) | (simp; omega)) _)))⟩
set_option maxRecDepth 100000 in
theorem fnExactClubBill_lifted (os : Os) (started : os.Started) (H : Type) (enc : TypeId × Value → H) :
    ReturnsInHanded {} Try.checked os 12 .any (Rows.fnExactClubBillSpec.pre6 enc Try.prog Try.f12 Rows.fnExactClubBillRow.domain false) (Rows.fnExactClubBillSpec.post enc Try.prog Try.f12 false true false false) := by
  refine returnsInHanded_of_change (C := Try.checked) (by kernel_rfl) started (by kernel_rfl) Try.func12
    (ChangeSpec.witness6 (enc := enc) (C := Try.checked) false ⟨#[], #[.agg #[.int .i64 0, .int .i64 0, .int .i64 0, .int .i64 0], .slice none 0 0, .slice none 0 0, .string .empty], []⟩ 8 (by kernel_rfl) (by kernel_rfl) (by kernel_rfl) (by kernel_rfl)) ?_
  intro W base args ds gs before hval0 hW _ _
  have hval : ∀ (j : Nat) t v, Try.f12.params[j]? = some t → args[j]? = some v → Value.okWide Try.prog W .any base t v := hval0
  clear hval0
  have laidOut : laidOutB Try.prog = true := by as_aux_lemma => kernel_rfl
  have hWc := hW
  obtain ⟨p, q, hA0, hV, rfl, _, _⟩ := hWc
  have hA : DataW.TrodAll enc Try.prog W 0 (fun _ => true) true Try.f12.params.toList args.toList ds p := hA0
  clear hA0
  rw [Try.params12] at hA hval
  obtain ⟨v0, vs0, d0, ds0, p0, q0, hargs, rfl, rfl, h0, r0⟩ := trodAll_cons hA
  obtain ⟨v1, vs1, d1, ds1, p1, q1, rfl, rfl, rfl, h1, r1⟩ := trodAll_cons r0
  obtain ⟨v2, vs2, d2, ds2, p2, q2, rfl, rfl, rfl, h2, r2⟩ := trodAll_cons r1
  obtain ⟨v3, vs3, d3, ds3, p3, q3, rfl, rfl, rfl, h3, r3⟩ := trodAll_cons r2
  obtain ⟨rfl, rfl, rfl⟩ := trodAll_nil r3
  obtain rfl : args = #[v0, v1, v2, v3] := by cases args; simp_all
  obtain ⟨rfl, rfl⟩ := trodVars_none hV
  obtain ⟨n0, rfl⟩ := read_Fees (hval 0 45 v0 rfl rfl) h0
  obtain ⟨l1, hs1, hm1, hq1⟩ := read_Runners (hval 1 46 v1 rfl rfl) h1
  obtain ⟨l2, hs2, hm2⟩ := read_Ents (hval 2 22 v2 rfl rfl) h2
  obtain ⟨n3, rfl, _, _, wf3⟩ := Go.ChangeMaps.open_string Try.underlying9 (hval 3 9 v3 rfl rfl) h3
  refine (fnExactClubBill_walk n0 v1 l1 v2 l2 n3 W hs1 hm1 hq1 hs2 hm2 wf3).mono fun e W1 ⟨he, hg⟩ => ?_
  subst he
  exact ⟨_, rfl, law_post (tb := 4) laidOut (by kernel_rfl) hW rfl rfl (by kernel_rfl) Try.underlying4 hg⟩
theorem fnExactClubBill_holds : Rows.FnExactClubBillSaid :=
  OpenClaim.holds_of_wide 12 Try.f12 rfl rfl rfl rfl rfl rfl rfl ⟨rfl, rfl, rfl, rfl, rfl⟩ rfl rfl rfl rfl rfl (by kernel_rfl) Try.func12 (by kernel_rfl)
    (of_decide_eq_true (by kernel_rfl)) (by unfold Func.isWrapper; first | (rw [if_pos (by decide +kernel)]; kernel_rfl) | (rw [if_neg (by decide +kernel)]; exact ⟨rfl, rfl⟩))
    (fun os started H enc _ => fnExactClubBill_lifted os started H enc)
#print axioms fnExactClubBill_holds
end Go.Proofs.Ytohmefblkfophaa
