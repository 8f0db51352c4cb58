/- FnExactClassText returns true for every argument, where the table of powers of ten holds what the program's text lays; the tied card. -/
import Derived.Test.YtoodomaecgankaaDoorTextI
import Derived.Test.YtoodomaecgankaaDoorToCls
import Derived.Test.YtoodomaecgankaaDoorSzCls
import Derived.Test.YtoodomaecgankaaDoorRdCls
import Derived.Test.YtoodomaecgankaaDoorCards
import Derived.Test.YtoodomaecgankaaDoorTie
import Derived.ProofKit
import Derived.OpenShut
import Derived.LaidMore
import Derived.Lay
import Derived.SevenTiedAt
import Derived.Stop.Joined
namespace Go.Proofs.YtoodomaecgankaaDoor
open Go.ChangeShapes Go.WideShapes Go.ChangeAt Go.RowKit Go.Ori
set_option maxHeartbeats 1000000 in
theorem fnExactClassText_walk (c : Cls) (w : World) (ht : Tab w) (hn : c.ok) :
    Calls Tryd.prog 3 #[.agg #[.int .i64 c.id, .string c.name, .int .i64 c.low, .int .i64 c.high, .bool c.women, .bool c.men, .int .i64 c.course, .int .i64 c.most]] w fun x w' => x = .returned (.bool true) ∧ ∃ d, w' = w.ext d := by
  have HT := Lib.hid (fun (h : c.name.size ≤ 1048576) W (hW : ∃ d, W = w.ext d) => (show Calls Tryd.prog 7 #[.agg #[.int .i64 c.id, .string c.name, .int .i64 c.low, .int .i64 c.high, .bool c.women, .bool c.men, .int .i64 c.course, .int .i64 c.most]] W _ from implClassText_any c W (by obtain ⟨d, rfl⟩ := hW; exact tab_ext ht d) h))
  have HS := Lib.hid (fun (h : c.name.size ≤ 1048576) W => specClassText_any c W h)
  clear ht
  go_enter Tryd.func3, Tryd.ntmps3
  go_wp2_with fail
  refine (szClass_any c _ _ hn (by omega) (by omega)).mono ?_
  rintro e w1 ⟨r, rfl, ⟨d1, rfl⟩, hr, hx⟩
  by_cases hp : ¬ 0 ≤ r
  · go_wp2
    go_ret
    exact ⟨rfl, (by repeat (first | with_reducible (first | exact World.gained_refl _ | exact ⟨_, rfl⟩ | apply gain_ext | apply gain_alloc | apply gain_drewN | apply gain_drew) | (refine gain_setCell ?_ (by first | exact Nat.le_refl _ | exact World.size_ext _ _ | (simp; done) | (simp; omega)) _)))⟩
  replace hp : 0 ≤ r := by omega
  have hs := hx hp
  clear hx
  replace HT := Lib.hid (HT.out hs)
  replace HS := Lib.hid (HS.out hs)
  generalize (if classB c = true then clsT c else ⟨#[]⟩ : ByteArray) = T at HT HS
  generalize classB c = B at HT HS
  have hBB : (B != B) = false := by simp
  go_wp2_with (first | (go_at_call 6; refine (toClass_any _ _).mono ?_; rintro e w1 ⟨rfl, d1, rfl⟩) | (go_at_call 5; refine (HS.out _).mono ?_; rintro e w1 ⟨rfl, d1, rfl⟩) | (go_at_call 7; refine (HT.out _ (by repeat (first | with_reducible (first | exact World.gained_refl _ | exact ⟨_, rfl⟩ | apply gain_ext | apply gain_alloc | apply gain_drewN | apply gain_drew) | (refine gain_setCell ?_ (by first | exact Nat.le_refl _ | exact World.size_ext _ _ | (simp; done) | (simp; omega)) _)))).mono ?_; rintro e w1 ⟨rfl, d1, rfl⟩))
  all_goals go_ret
  all_goals exact ⟨rfl, (by repeat (first | with_reducible (first | exact World.gained_refl _ | exact ⟨_, rfl⟩ | apply gain_ext | apply gain_alloc | apply gain_drewN | apply gain_drew) | (refine gain_setCell ?_ (by first | exact Nat.le_refl _ | exact World.size_ext _ _ | (simp; done) | (simp; omega)) _)))⟩
theorem classText_own : ownKnob Tryd.prog.godebug = none := by kernel_rfl
theorem tab_of_laid {W : World} (h : laidMetH Tryd.prog Rows.fnExactClassTextRow.laid W) : Tab W := by
  rw [MakeChecks.laidMetH_plain _ _ _ (by kernel_rfl)] at h
  obtain ⟨ps, ⟨g0, t0, cs0, f0, p0, q0, hg0, ht0, hv0, hd0, ⟨g1, t1, cs1, f1, p1, q1, hg1, ht1, hv1, hd1, ⟨g2, t2, cs2, f2, p2, q2, hg2, ht2, hv2, hd2, _, _⟩, _⟩, _⟩, _, _⟩ := h
  obtain rfl := Option.some.inj ((show Tryd.prog.globalNamed "internal/strconv.uint64pow10" = some 0 by kernel_rfl).symm.trans hg2)
  obtain rfl := Option.some.inj ((show (Tryd.prog.globals[0]?).map (·.type) = some 46 by kernel_rfl).symm.trans ht2)
  unfold Tab Lib.TabIs
  rw [hv2, ← Lib.cells_of_tab (k := .u64) (zs := Lib.pow10Tab) Tryd.underlying46 Tryd.underlying38 (by kernel_rfl) (by kernel_rfl) hd2]
set_option maxRecDepth 100000 in
theorem fnExactClassText_lifted (os : Os) (started : os.Started) (H : Type) (enc : TypeId × Value → H) :
    ReturnsInHanded {} Tryd.checked os 3 .any (fun w args => (Rows.fnExactClassTextSpec.pre enc Tryd.prog Tryd.f3 Rows.fnExactClassTextRow.domain false w args ∧ laidMetH Tryd.prog Rows.fnExactClassTextRow.laid w) ∧ sizedMet enc Tryd.prog Tryd.f3 (OpenSpec.ofChange Rows.fnExactClassTextSpec) false w args)
      (Rows.fnExactClassTextSpec.post enc Tryd.prog Tryd.f3 false true false false) := by
  refine returnsInHanded_of_change_and (C := Tryd.checked) (X := fun w _ => laidMetH Tryd.prog Rows.fnExactClassTextRow.laid w) (fun _ _ _ hh h => h.of_heap hh) classText_own started (by kernel_rfl) Tryd.func3
    (ChangeSpec.witness_shaped (enc := enc) (C := Tryd.checked) (os := os) (X := fun w _ => laidMetH Tryd.prog Rows.fnExactClassTextRow.laid w) false (World.laidAll Tryd.prog os Rows.fnExactClassTextRow.laid) #[.agg #[.int .i64 0, .string .empty, .int .i64 0, .int .i64 0, .bool false, .bool false, .int .i64 0, .int .i64 0]] 8 (World.laidAll_os _ _ _)
      (World.shaped_of_ZipB (by kernel_rfl) (by kernel_rfl)) (by kernel_rfl) (by kernel_rfl) (by kernel_rfl)
      (by rw [MakeChecks.laidMetH_plain _ _ _ (by kernel_rfl)]; exact laidMet_laidAll _ (by kernel_rfl) (by kernel_rfl))) ?_
  intro W base args ds gs before hval0 hW hc _ hL _
  have hval : ∀ (j : Nat) t v, Tryd.f3.params[j]? = some t → args[j]? = some v → Value.okWide Tryd.prog W .any base t v := hval0
  clear hval0
  have laidOut : laidOutB Tryd.prog = true := by as_aux_lemma => kernel_rfl
  have ht := tab_of_laid hL
  have hWc := hW
  obtain ⟨p, q, hA0, hV, rfl, _, _⟩ := hWc
  have hA : DataW.TrodAll enc Tryd.prog W 0 (fun _ => true) true Tryd.f3.params.toList args.toList ds p := hA0
  clear hA0
  rw [Tryd.params3] at hA hval
  obtain ⟨v0, vs0, d0, ds0, p0, q0, hargs, rfl, rfl, h0, r0⟩ := trodAll_cons hA
  obtain ⟨rfl, rfl, rfl⟩ := trodAll_nil r0
  obtain rfl : args = #[v0] := by cases args; simp_all
  obtain ⟨rfl, rfl⟩ := trodVars_none hV
  obtain ⟨c, rfl, hok⟩ := read_Cls (hval 0 23 v0 rfl rfl) h0
  refine (fnExactClassText_walk c W ht hok).mono fun e W1 ⟨he, hg⟩ => ?_
  subst he
  exact ⟨_, rfl, law_post (tb := 4) laidOut (by kernel_rfl) hW rfl rfl (by kernel_rfl) Tryd.underlying4 hg⟩
theorem fnExactClassText_holds : Rows.FnExactClassTextSaid :=
  OpenClaim.holds_of_wide 3 Tryd.f3 rfl rfl rfl rfl rfl rfl rfl ⟨rfl, rfl, rfl, rfl, rfl⟩ rfl rfl rfl rfl rfl (by kernel_rfl) Tryd.func3 (by kernel_rfl)
    (of_decide_eq_true (by kernel_rfl)) (by unfold Func.isWrapper; first | (rw [if_pos (by decide +kernel)]; kernel_rfl) | (rw [if_neg (by decide +kernel)]; exact ⟨rfl, rfl⟩))
    (fun os started H enc _ => fnExactClassText_lifted os started H enc)
#print axioms fnExactClassText_holds
/-- The tied card. -/
theorem fnExactClassText_card : Rows.FnExactClassTextCardSaid :=
  Claim7.holds_tied_plain_at .later [] [.data, .data, .data] true (true, "33268f6b9ba30e51a58177f78692ab5b41aa3b6d3d5aa02db31a05a3017486a2") false
    fnExactClassText_holds (fun _ h => by cases h) (by kernel_rfl) (fun _ h => by cases h) fnExactClassText_row_tie rfl ⟨rfl, rfl⟩ (by kernel_rfl) rfl
    (fun f fn hf hfn => by
      obtain rfl : f = 3 := Option.some.inj ((show Tryd.prog.funcNamed "loop.example/g00938/laws.FnExactClassText" = some 3 by kernel_rfl).symm.trans hf) |>.symm
      obtain rfl : fn = Tryd.f3 := (Option.some.inj (Tryd.func3.symm.trans hfn)).symm
      exact ⟨by kernel_rfl, fun j t ht => by
        rw [Tryd.params3] at ht
        have hm : t ∈ [(23 : TypeId)] := by simpa using Array.mem_of_getElem? ht
        have hall : ([(23 : TypeId)].all fun u => !Tryd.prog.wantsStandIn u) = true := by kernel_rfl
        exact (show Tryd.prog.wantsStandIn t = false by simpa using List.all_eq_true.1 hall t hm)⟩)
    (by kernel_rfl)
#print axioms fnExactClassText_card
end Go.Proofs.YtoodomaecgankaaDoor
