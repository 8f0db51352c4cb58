/- FnExactParseClass returns true for every argument, where the library's variables hold what the program's text lays; the tied card. -/
import Derived.Test.YtffkkchflohhaaaDoorParseI
import Derived.Test.YtffkkchflohhaaaDoorParseS
import Derived.Test.YtffkkchflohhaaaDoorTiedW
import Derived.Test.YtffkkchflohhaaaDoorLaw
import Derived.Test.YtffkkchflohhaaaDoorCards
import Derived.Test.YtffkkchflohhaaaDoorTie
import Derived.SevenTiedAt
import Derived.Stop.Joined
namespace Go.Proofs.YtffkkchflohhaaaDoor
open Go.ChangeShapes Go.WideShapes Go.ChangeAt Go.RowKit Go.Ori
set_option maxHeartbeats 400000 in
theorem eqClass_same (e : Cls) (w : World) :
    Calls Tryd.prog 6 #[.agg #[.int .i64 e.id, .string e.name, .int .i64 e.low, .int .i64 e.high, .bool e.women, .bool e.men, .int .i64 e.course, .int .i64 e.most], .agg #[.int .i64 e.id, .string e.name, .int .i64 e.low, .int .i64 e.high, .bool e.women, .bool e.men, .int .i64 e.course, .int .i64 e.most]] w fun x w1 => x = .returned (.bool true) ∧ ∃ d, w1 = w.ext d := by
  go_enter Tryd.func6, Tryd.ntmps6
  go_wp2
  go_ret
  refine ⟨rfl, ?_⟩
  (repeat (first | exact World.gained_refl _ | exact ⟨_, rfl⟩ | apply gain_ext | apply gain_alloc | apply gain_drewN | apply gain_drew | (refine gain_setCell ?_ (by first | exact Nat.le_refl _ | exact World.size_ext _ _ | (simp; done) | (simp; omega)) _)))
set_option maxHeartbeats 2000000 in
theorem fnExactParseClass_walk (s : ByteArray) (w : World) (he : Env w) (hn : s.size ≤ maxLen) :
    Calls Tryd.prog 3 #[.string s] w fun x w' => x = .returned (.bool true) ∧ ∃ d, w' = w.ext d := by
  by_cases hbig : 1048576 < s.size
  · have hd : decide ((1048576 : Int) < (s.size : Int)) = true := decide_eq_true (by omega)
    unfold maxLen at hn
    go_enter Tryd.func3, Tryd.ntmps3
    go_wp2_with fail
    go_ret
    exact ⟨rfl, (by repeat (first | with_reducible (first | exact World.gained_refl _ | exact ⟨_, rfl⟩ | apply gain_ext | apply gain_alloc | apply gain_drewN | apply gain_drew) | (refine gain_setCell ?_ (by first | exact Nat.le_refl _ | exact World.size_ext _ _ | (simp; done) | (simp; omega)) _)))⟩
  have hd : decide ((1048576 : Int) < (s.size : Int)) = false := decide_eq_false (by omega)
  have hs : s.size ≤ 1048576 := by omega
  have HE := Lib.hid he
  clear he
  go_enter Tryd.func3, Tryd.ntmps3
  go_wp2_with fail
  refine (specParse_any s _ hs).mono ?_
  rintro e w1 ⟨c, ok, rfl, hp1, d1, rfl⟩
  have HP1 := Lib.hid hp1
  clear hp1
  go_wp2_with fail
  refine (implParse_any s _ hs (HE.out.up (by repeat (first | with_reducible (first | exact World.gained_refl _ | exact ⟨_, rfl⟩ | apply gain_ext | apply gain_alloc | apply gain_drewN | apply gain_drew) | (refine gain_setCell ?_ (by first | exact Nat.le_refl _ | exact World.size_ext _ _ | (simp; done) | (simp; omega)) _))))).mono ?_
  rintro e w1 ⟨c2, ok2, rfl, hp2, d2, rfl⟩
  obtain ⟨rfl, rfl⟩ := parsed_same HP1.out hp2
  clear hp2 HP1
  have hbb : (ok != ok) = false := by simp
  go_wp2_with (go_at_call 6; refine (eqClass_same _ _).mono ?_; rintro e w1 ⟨rfl, d1, rfl⟩)
  all_goals go_ret
  all_goals exact ⟨rfl, (by repeat (first | with_reducible (first | exact World.gained_refl _ | exact ⟨_, rfl⟩ | apply gain_ext | apply gain_alloc | apply gain_drewN | apply gain_drew) | (refine gain_setCell ?_ (by first | exact Nat.le_refl _ | exact World.size_ext _ _ | (simp; done) | (simp; omega)) _)))⟩
theorem env_of_laid {W : World} (h : laidMetH Tryd.prog Rows.fnExactParseClassRow.laid W) (hsh : W.ShapedOpen Tryd.prog) : Env W := by
  rw [MakeChecks.laidMetH_plain _ _ _ (by kernel_rfl)] at h
  obtain ⟨ps, ⟨g0, t0, cs0, f0, p0, q0, hg0, ht0, hv0, hd0, ⟨g1, t1, cs1, f1, p1, q1, hg1, ht1, hv1, hd1, ⟨g2, t2, cs2, f2, p2, q2, hg2, ht2, hv2, hd2, ⟨g3, t3, cs3, f3, p3, q3, hg3, ht3, hv3, hd3, ⟨g4, t4, cs4, f4, p4, q4, hg4, ht4, hv4, hd4, ⟨g5, t5, cs5, f5, p5, q5, hg5, ht5, hv5, hd5, _, _⟩, _⟩, _⟩, _⟩, _⟩, _⟩, _, _⟩ := h
  obtain rfl := Option.some.inj ((show Tryd.prog.globalNamed "internal/strconv.uint64pow10" = some 5 by kernel_rfl).symm.trans hg2)
  obtain rfl := Option.some.inj ((show (Tryd.prog.globals[5]?).map (·.type) = some 86 by kernel_rfl).symm.trans ht2)
  obtain rfl := Option.some.inj ((show Tryd.prog.globalNamed "strconv.ErrSyntax" = some 3 by kernel_rfl).symm.trans hg5)
  obtain rfl := Option.some.inj ((show (Tryd.prog.globals[3]?).map (·.type) = some 48 by kernel_rfl).symm.trans ht5)
  refine ⟨?_, ?_, maxl_of_shape hsh⟩
  · unfold Tab Lib.TabIs
    rw [hv2, ← Lib.cells_of_tab (k := .u64) (zs := Lib.pow10Tab) Tryd.underlying86 Tryd.underlying70 (by kernel_rfl) (by kernel_rfl) hd2]
  · obtain ⟨fu, u, v, hcs, _, _⟩ := iface_of_trod Tryd.underlying48 hd5
    have hc := World.var?_cell hg5 hv5 0
    refine ⟨.iface u v, ?_, .inr ⟨u, v, rfl⟩⟩
    have e : cs5 = #[.iface u v] := by cases cs5; simp_all
    rw [e] at hc
    simpa using hc
set_option maxRecDepth 100000 in
theorem fnExactParseClass_lifted (os : Os) (started : os.Started) (H : Type) (enc : TypeId × Value → H) :
    ReturnsInHanded {} Tryd.checked os 3 .any (fun w args => (Rows.fnExactParseClassSpec.pre enc Tryd.prog Tryd.f3 Rows.fnExactParseClassRow.domain false w args ∧ laidMetH Tryd.prog Rows.fnExactParseClassRow.laid w) ∧ sizedMet enc Tryd.prog Tryd.f3 (OpenSpec.ofChange Rows.fnExactParseClassSpec) false w args)
      (Rows.fnExactParseClassSpec.post enc Tryd.prog Tryd.f3 false true false false) := by
  refine returnsInHanded_of_change_and_shaped (C := Tryd.checked) (X := fun w _ => laidMetH Tryd.prog Rows.fnExactParseClassRow.laid w) (fun _ _ _ hh h => h.of_heap hh) no_knob started (by kernel_rfl) Tryd.func3
    (ChangeSpec.witness_shaped (enc := enc) (C := Tryd.checked) (os := os) (X := fun w _ => laidMetH Tryd.prog Rows.fnExactParseClassRow.laid w) false (World.laidAll Tryd.prog os Rows.fnExactParseClassRow.laid) #[.string .empty] 8 (World.laidAll_os _ _ _)
      (World.shaped_of_ZipB (by kernel_rfl) (by kernel_rfl)) (by kernel_rfl) (by kernel_rfl) (by kernel_rfl)
      (by rw [MakeChecks.laidMetH_plain _ _ _ (by kernel_rfl)]; exact laidMet_laidAll _ (by kernel_rfl) (by kernel_rfl))) ?_
  intro W base args ds gs before hval0 hW hL hsh
  have hval : ∀ (j : Nat) t v, Tryd.f3.params[j]? = some t → args[j]? = some v → Value.okWide Tryd.prog W .any base t v := hval0
  clear hval0
  have laidOut : laidOutB Tryd.prog = true := by as_aux_lemma => kernel_rfl
  have he := env_of_laid hL hsh
  have hWc := hW
  obtain ⟨p, q, hA0, hV, rfl, _, _⟩ := hWc
  have hA : DataW.TrodAll enc Tryd.prog W 0 (fun _ => true) true Tryd.f3.params.toList args.toList ds p := hA0
  clear hA0
  rw [Tryd.params3] at hA hval
  obtain ⟨v0, vs0, d0, ds0, p0, q0, hargs, rfl, rfl, h0, r0⟩ := trodAll_cons hA
  obtain ⟨rfl, rfl, rfl⟩ := trodAll_nil r0
  obtain rfl : args = #[v0] := by cases args; simp_all
  obtain ⟨rfl, rfl⟩ := trodVars_none hV
  obtain ⟨s, rfl, _, _, wf⟩ := Go.ChangeMaps.open_string Tryd.underlying9 (hval 0 9 v0 rfl rfl) h0
  refine (fnExactParseClass_walk s W he wf).mono fun e W1 ⟨he, hg⟩ => ?_
  subst he
  exact ⟨_, rfl, law_post (tb := 4) laidOut (by kernel_rfl) hW rfl rfl (by kernel_rfl) Tryd.underlying4 hg⟩
theorem fnExactParseClass_holds : Rows.FnExactParseClassSaid :=
  OpenClaim.holds_of_wide 3 Tryd.f3 rfl rfl rfl rfl rfl rfl rfl ⟨rfl, rfl, rfl, rfl, rfl⟩ rfl rfl rfl rfl rfl (by kernel_rfl) Tryd.func3 (by kernel_rfl)
    (of_decide_eq_true (by kernel_rfl)) (by unfold Func.isWrapper; first | (rw [if_pos (by decide +kernel)]; kernel_rfl) | (rw [if_neg (by decide +kernel)]; exact ⟨rfl, rfl⟩))
    (fun os started H enc _ => fnExactParseClass_lifted os started H enc)
#print axioms fnExactParseClass_holds
/-- The tied card. -/
theorem fnExactParseClass_card : Rows.FnExactParseClassCardSaid :=
  Claim7.holds_tied_plain_at .later [] [.data, .data, .data, .data, .sentinel, .sentinel, .pinned] true (true, "141263cd40a772ab1e1a6f1d32dce302668cd9f38b8179b30112596b97db0944") true
    fnExactParseClass_holds (fun _ h => by cases h) (by kernel_rfl) (fun _ h => by cases h) fnExactParseClass_row_tie rfl ⟨rfl, rfl⟩ (by kernel_rfl) rfl
    (fun f fn hf hfn => by
      obtain rfl : f = 3 := Option.some.inj ((show Tryd.prog.funcNamed "loop.example/g00938/laws.FnExactParseClass" = some 3 by kernel_rfl).symm.trans hf) |>.symm
      obtain rfl : fn = Tryd.f3 := (Option.some.inj (Tryd.func3.symm.trans hfn)).symm
      exact ⟨by kernel_rfl, fun j t ht => by
        rw [Tryd.params3] at ht
        have hm : t ∈ [(9 : TypeId)] := by simpa using Array.mem_of_getElem? ht
        have hall : ([(9 : TypeId)].all fun u => !Tryd.prog.wantsStandIn u) = true := by kernel_rfl
        exact (show Tryd.prog.wantsStandIn t = false by simpa using List.all_eq_true.1 hall t hm)⟩)
    (by kernel_rfl)
#print axioms fnExactParseClass_card
end Go.Proofs.YtffkkchflohhaaaDoor
