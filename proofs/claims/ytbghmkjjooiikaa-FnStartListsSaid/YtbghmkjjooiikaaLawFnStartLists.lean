/- FnStartLists returns true for every argument. No condition. -/
import Derived.Test.YtbghmkjjooiikaaDraw10
import Derived.Test.YtbghmkjjooiikaaVLaws
import Derived.Test.YtbghmkjjooiikaaPStartL
import Derived.Test.YtbghmkjjooiikaaClean
import Derived.Test.YtbghmkjjooiikaaLeastClashes
import Derived.Test.YtbghmkjjooiikaaCountClashes
import Derived.Test.YtbghmkjjooiikaaFullestClub
import Derived.Test.YtbghmkjjooiikaaIsStartList
import Derived.Test.YtbghmkjjooiikaaL10List
import Derived.Test.YtbghmkjjooiikaaClubGaps
import Derived.Test.YtbghmkjjooiikaaRdBytes
import Derived.Deep.DeepCutAuto
namespace Go.Proofs.Ytbghmkjjooiikaa
open Go.ChangeShapes Go.WideShapes Go.ChangeAt Go.RowKit Go.Ori
set_option maxRecDepth 100000 in
set_option maxHeartbeats 2000000 in
theorem fnStartLists_walk (v : Value) (L : List Int) (w : World) (h : w.sl byteC 1 v L) (hq : ∀ x ∈ L, 0 ≤ x ∧ x ≤ 255) (hn : L.length ≤ 9223372036854775807) :
    Calls Try.prog 7 #[v] w fun x w' => x = .returned (.bool true) ∧ ∃ d, w' = w.ext d := by
  have hs := Lib.hid h
  have HQ := Lib.hid hq
  obtain ⟨p, c, rfl, _⟩ := h
  clear hq
  by_cases hbig : 65536 < L.length
  · have hbb : decide (65536 < L.length) = true := decide_eq_true hbig
    go_enter Try.func7, Try.ntmps7
    go_wp2_with (go_at_call 17; refine (vBig_any _ _ _ _ hn).mono ?_; rw [hbb]; rintro e w1 ⟨rfl, rfl⟩)
    go_ret
    exact ⟨rfl, (by repeat (first | with_reducible (first | exact World.gained_refl _ | exact ⟨_, rfl⟩ | apply gain_ext | apply gain_alloc | apply gain_drewN | apply gain_drew) | (refine gain_setCell ?_ (by first | exact Nat.le_refl _ | exact World.size_ext _ _ | (simp; done) | (simp; omega)) _)))⟩
  have hbb : decide (65536 < L.length) = false := decide_eq_false hbig
  have hl : L.length ≤ 1048576 := by omega
  go_enter Try.func7, Try.ntmps7
  go_wp2_with (go_at_call 17; refine (vBig_any _ _ _ _ hn).mono ?_; rw [hbb]; rintro e w1 ⟨rfl, rfl⟩)
  refine (drawClean_any _ L _ hs.out HQ.out hl).mono ?_
  rintro e w1 ⟨v1, l1, rfl, ⟨d1, rfl⟩, h1, n1⟩
  obtain ⟨p1, c1, rfl, _⟩ := id h1
  have H1 := Lib.hid h1
  clear h1
  go_wp2_with fail
  refine (cleanStartList_any _ l1 _ H1.out (by omega)).mono ?_
  rintro e w1 ⟨r1, rfl, ⟨d2, rfl⟩, o1⟩
  have HCL := Lib.hid (cleanL_length l1)
  obtain ⟨p3, c3, rfl, _⟩ := id (sl_of_own intC_length o1)
  have O1 := Lib.hid (sl_of_own intC_length o1)
  clear o1
  go_wp2_with fail
  refine (specCleanStartList_any _ l1 _ (by with_reducible (repeat (first | exact H1.out | refine World.sl_ext intC_length ?_ _ | refine sl_alloc intC_length ?_ _ | refine sl_drew ?_))) (by omega)).mono ?_
  rintro e w1 ⟨r2, rfl, ⟨d3, rfl⟩, o2⟩
  have O2 := Lib.hid (sl_of_own intC_length o2)
  clear o2
  have hCC : (cleanB l1 != cleanB l1) = false := by simp
  go_upto_if 61 with (go_at_call 21; refine (vInts_same _ _ (cleanL l1) _ (by with_reducible (repeat (first | exact O1.out | refine World.sl_ext intC_length ?_ _ | refine sl_alloc intC_length ?_ _ | refine sl_drew ?_))) (by with_reducible (repeat (first | exact O2.out | refine World.sl_ext intC_length ?_ _ | refine sl_alloc intC_length ?_ _ | refine sl_drew ?_))) HCL.out).mono ?_; rintro e w1 ⟨rfl, d4, rfl⟩)
  clear O2
  go_upto_region 10 with (first | (go_at_call 59; refine (leastClashes_any _ l1 _ (by with_reducible (repeat (first | exact H1.out | refine World.sl_ext intC_length ?_ _ | refine sl_alloc intC_length ?_ _ | refine sl_drew ?_))) (by omega)).mono ?_; rintro e w1 ⟨rfl, d5, rfl⟩) | (go_at_call 60; refine (specLeastClashes_any _ l1 _ (by with_reducible (repeat (first | exact H1.out | refine World.sl_ext intC_length ?_ _ | refine sl_alloc intC_length ?_ _ | refine sl_drew ?_))) (by omega)).mono ?_; rintro e w1 ⟨rfl, d6, rfl⟩))
  go_cut [5, 7, 8, 9, 10, 11, 88] (fun a _ _ _ _ _ t wx => a = .bool (cleanB l1) ∧ t = .bool false ∧ ∃ d, wx = ((w.ext d1).ext d2).ext d)
  case first =>
    cases hc : clubsB l1 with
    | false =>
      have hcb : cleanB l1 = false := by simp [cleanB, cleanL, hc]
      go_wp2_with fail
      go_meet
      exact ⟨by rw [hcb], rfl, (by repeat (first | with_reducible (first | exact World.gained_refl _ | exact ⟨_, rfl⟩ | apply gain_ext | apply gain_alloc | apply gain_drewN | apply gain_drew) | (refine gain_setCell ?_ (by first | exact Nat.le_refl _ | exact World.size_ext _ _ | (simp; done) | (simp; omega)) _)))⟩
    | true =>
      have hci := clean_iff hc
      by_cases h0 : leastI l1 = 0
      · have hcb : cleanB l1 = true := by rw [hci]; exact decide_eq_true h0
        clear hci
        go_wp2_with fail
        go_meet
        exact ⟨by rw [hcb], rfl, (by repeat (first | with_reducible (first | exact World.gained_refl _ | exact ⟨_, rfl⟩ | apply gain_ext | apply gain_alloc | apply gain_drewN | apply gain_drew) | (refine gain_setCell ?_ (by first | exact Nat.le_refl _ | exact World.size_ext _ _ | (simp; done) | (simp; omega)) _)))⟩
      · have hcb : cleanB l1 = false := by rw [hci]; exact decide_eq_false h0
        clear hci
        go_wp2_with fail
        go_meet
        exact ⟨by rw [hcb], by rw [beq_false_of_ne h0], (by repeat (first | with_reducible (first | exact World.gained_refl _ | exact ⟨_, rfl⟩ | apply gain_ext | apply gain_alloc | apply gain_drewN | apply gain_drew) | (refine gain_setCell ?_ (by first | exact Nat.le_refl _ | exact World.size_ext _ _ | (simp; done) | (simp; omega)) _)))⟩
  obtain ⟨rfl, rfl, dA, rfl⟩ := hcut
  go_upto_if 89 with fail
  go_cut [5] (fun _ wx => ∃ d, wx = w.ext d)
  case first =>
    cases hcb : cleanB l1 with
    | false =>
      go_wp2_with fail
      go_meet
      exact (by repeat (first | with_reducible (first | exact World.gained_refl _ | exact ⟨_, rfl⟩ | apply gain_ext | apply gain_alloc | apply gain_drewN | apply gain_drew) | (refine gain_setCell ?_ (by first | exact Nat.le_refl _ | exact World.size_ext _ _ | (simp; done) | (simp; omega)) _)))
    | true =>
      obtain ⟨e1, e2⟩ := clean_list hcb
      have e3 := (startsB_true e1).1
      go_wp2_with fail
      refine (implIsStartList_any _ _ l1 _ _ (by with_reducible (repeat (first | exact H1.out | refine World.sl_ext intC_length ?_ _ | refine sl_alloc intC_length ?_ _ | refine sl_drew ?_))) (by with_reducible (repeat (first | exact O1.out | refine World.sl_ext intC_length ?_ _ | refine sl_alloc intC_length ?_ _ | refine sl_drew ?_))) (by omega) HCL.out).mono ?_
      rw [e1, e3]
      rintro e w1 ⟨rfl, d5, rfl⟩
      go_wp2_with fail
      refine (countClashes_any _ _ l1 _ _ (by with_reducible (repeat (first | exact H1.out | refine World.sl_ext intC_length ?_ _ | refine sl_alloc intC_length ?_ _ | refine sl_drew ?_))) (by with_reducible (repeat (first | exact O1.out | refine World.sl_ext intC_length ?_ _ | refine sl_alloc intC_length ?_ _ | refine sl_drew ?_))) (by omega) HCL.out).mono ?_
      rw [e1, e2]
      rintro e w1 ⟨rfl, d6, rfl⟩
      clear e1 e2 e3
      go_wp2_with fail
      go_meet
      exact (by repeat (first | with_reducible (first | exact World.gained_refl _ | exact ⟨_, rfl⟩ | apply gain_ext | apply gain_alloc | apply gain_drewN | apply gain_drew) | (refine gain_setCell ?_ (by first | exact Nat.le_refl _ | exact World.size_ext _ _ | (simp; done) | (simp; omega)) _)))
  obtain ⟨dB, rfl⟩ := hcut
  clear O1 HCL H1 hCC
  go_wp2_with fail
  refine (drawClashes_any _ L _ (by with_reducible (repeat (first | exact hs.out | refine World.sl_ext byteC_length ?_ _ | refine sl_alloc byteC_length ?_ _ | refine sl_drew ?_))) HQ.out hl).mono ?_
  rintro e w1 ⟨v1, l3, v2, l2, rfl, ⟨d1, rfl⟩, h1, n3, h2, n2⟩
  obtain ⟨p4, c4, rfl, _⟩ := id h1
  obtain ⟨p2, c2, rfl, _⟩ := id h2
  have H1 := Lib.hid h1
  have H2 := Lib.hid h2
  clear h1 h2
  go_wp2_with fail
  refine (countClashes_any _ _ l3 l2 _ H1.out H2.out (by omega) (by omega)).mono ?_
  rintro e w1 ⟨rfl, d2, rfl⟩
  go_wp2_with fail
  refine (specCountClashes_any _ _ l3 l2 _ (by with_reducible (repeat (first | exact H1.out | refine World.sl_ext intC_length ?_ _ | refine sl_alloc intC_length ?_ _ | refine sl_drew ?_))) (by with_reducible (repeat (first | exact H2.out | refine World.sl_ext intC_length ?_ _ | refine sl_alloc intC_length ?_ _ | refine sl_drew ?_))) (by omega) (by omega)).mono ?_
  rintro e w1 ⟨rfl, d3, rfl⟩
  have HC := Lib.hid (fun (h : startsB l3 l2 = true) => And.intro (least_le h) (And.intro (gaps_one h) (startsB_true h).1))
  generalize clashI l3 l2 = CI at *
  generalize hT : startsB l3 l2 = T at *
  have hCC : (CI != CI) = false := by simp
  have hTT : (T != T) = false := by simp
  go_upto_if 141 with fail
  go_cut [18, 19, 20, 21] (fun _ _ _ _ wx => ∃ d, wx = w.ext d)
  case first =>
    cases T with
    | false =>
      go_wp2_with fail
      go_meet
      exact (by repeat (first | with_reducible (first | exact World.gained_refl _ | exact ⟨_, rfl⟩ | apply gain_ext | apply gain_alloc | apply gain_drewN | apply gain_drew) | (refine gain_setCell ?_ (by first | exact Nat.le_refl _ | exact World.size_ext _ _ | (simp; done) | (simp; omega)) _)))
    | true =>
      obtain ⟨e1, e2, e3⟩ := HC.out rfl
      clear HC
      go_wp2_with fail
      refine (leastClashes_any _ l3 _ (by with_reducible (repeat (first | exact H1.out | refine World.sl_ext intC_length ?_ _ | refine sl_alloc intC_length ?_ _ | refine sl_drew ?_))) (by omega)).mono ?_
      rw [e3]
      rintro e w1 ⟨rfl, d5, rfl⟩
      generalize leastI l3 = LI at *
      have hlt : ¬ CI < LI := by omega
      go_wp2_with fail
      refine (clubGaps_any _ _ l3 l2 _ (by with_reducible (repeat (first | exact H1.out | refine World.sl_ext intC_length ?_ _ | refine sl_alloc intC_length ?_ _ | refine sl_drew ?_))) (by with_reducible (repeat (first | exact H2.out | refine World.sl_ext intC_length ?_ _ | refine sl_alloc intC_length ?_ _ | refine sl_drew ?_))) (by omega) (by omega)).mono ?_
      rw [hT]
      rintro e w1 ⟨r1, rfl, ⟨d6, rfl⟩, o1⟩
      have O1 := Lib.hid (sl_of_own intC_length o1)
      have HGL := Lib.hid (gapsL_length l3 l2)
      clear o1
      have HV := Lib.hid (fun w' (h : w'.sl intC 1 r1 (gapsL l3 l2)) => e2 ▸ vHas_any r1 (gapsL l3 l2) 1 w' h (by have := HGL.out; omega))
      clear e1 e2 e3
      by_cases hpos : 0 < CI
      · have HV2 := Lib.hid (show decide (0 < CI) = true from decide_eq_true hpos)
        rw [HV2.out] at HV
        go_wp2_with (go_at_call 46; refine (HV.out _ (by with_reducible (repeat (first | exact O1.out | refine World.sl_ext intC_length ?_ _ | refine sl_alloc intC_length ?_ _ | refine sl_drew ?_)))).mono ?_; rintro e w1 ⟨rfl, d7, rfl⟩)
        go_meet
        exact (by repeat (first | with_reducible (first | exact World.gained_refl _ | exact ⟨_, rfl⟩ | apply gain_ext | apply gain_alloc | apply gain_drewN | apply gain_drew) | (refine gain_setCell ?_ (by first | exact Nat.le_refl _ | exact World.size_ext _ _ | (simp; done) | (simp; omega)) _)))
      · have HV2 := Lib.hid (show decide (0 < CI) = false from decide_eq_false hpos)
        rw [HV2.out] at HV
        go_wp2_with (go_at_call 46; refine (HV.out _ (by with_reducible (repeat (first | exact O1.out | refine World.sl_ext intC_length ?_ _ | refine sl_alloc intC_length ?_ _ | refine sl_drew ?_)))).mono ?_; rintro e w1 ⟨rfl, d7, rfl⟩)
        go_meet
        exact (by repeat (first | with_reducible (first | exact World.gained_refl _ | exact ⟨_, rfl⟩ | apply gain_ext | apply gain_alloc | apply gain_drewN | apply gain_drew) | (refine gain_setCell ?_ (by first | exact Nat.le_refl _ | exact World.size_ext _ _ | (simp; done) | (simp; omega)) _)))
  obtain ⟨dC, rfl⟩ := hcut
  clear H1 H2 HC hCC hTT
  go_wp2_with fail
  refine (drawIsList_any _ L _ (by with_reducible (repeat (first | exact hs.out | refine World.sl_ext byteC_length ?_ _ | refine sl_alloc byteC_length ?_ _ | refine sl_drew ?_))) HQ.out hl).mono ?_
  rintro e w1 ⟨v1, l5, v2, l6, rfl, ⟨d1, rfl⟩, h1, n5, h2, n6⟩
  obtain ⟨p5, c5, rfl, _⟩ := id h1
  obtain ⟨p6, c6, rfl, _⟩ := id h2
  have H1 := Lib.hid h1
  have H2 := Lib.hid h2
  clear h1 h2
  go_wp2_with fail
  refine (implIsStartList_any _ _ l5 l6 _ H1.out H2.out (by omega) (by omega)).mono ?_
  rintro e w1 ⟨rfl, d2, rfl⟩
  go_wp2_with fail
  refine (specIsStartList_any _ _ l5 l6 _ (by with_reducible (repeat (first | exact H1.out | refine World.sl_ext intC_length ?_ _ | refine sl_alloc intC_length ?_ _ | refine sl_drew ?_))) (by with_reducible (repeat (first | exact H2.out | refine World.sl_ext intC_length ?_ _ | refine sl_alloc intC_length ?_ _ | refine sl_drew ?_))) (by omega) (by omega)).mono ?_
  rintro e w1 ⟨rfl, d3, rfl⟩
  clear H1 H2
  generalize startsB l5 l6 = B1
  generalize clubsB l5 = B2
  have hB1 : (B1 != B1) = false := by simp
  have hB2 : (B2 != B2) = false := by simp
  go_wp2_with fail
  refine (drawFullest_any _ L _ (by with_reducible (repeat (first | exact hs.out | refine World.sl_ext byteC_length ?_ _ | refine sl_alloc byteC_length ?_ _ | refine sl_drew ?_))) HQ.out hl).mono ?_
  rintro e w1 ⟨v1, l7, rfl, ⟨d4, rfl⟩, h1, n7⟩
  obtain ⟨p7, c7, rfl, _⟩ := id h1
  have H1 := Lib.hid h1
  clear h1
  go_wp2_with fail
  refine (fullestClub_any _ l7 _ H1.out (by omega)).mono ?_
  rintro e w1 ⟨rfl, d5, rfl⟩
  go_wp2_with fail
  refine (specFullestClub_any _ l7 _ (by with_reducible (repeat (first | exact H1.out | refine World.sl_ext intC_length ?_ _ | refine sl_alloc intC_length ?_ _ | refine sl_drew ?_))) (by omega)).mono ?_
  rintro e w1 ⟨rfl, d6, rfl⟩
  generalize fullC l7 = F1
  generalize fullN l7 = F2
  generalize clubsB l7 = F3
  have hF1 : (F1 == F1) = true := by simp
  have hF2 : (F2 == F2) = true := by simp
  have hF3 : (F3 == F3) = true := by simp
  go_wp2_with fail
  go_ret
  exact ⟨rfl, (by repeat (first | with_reducible (first | exact World.gained_refl _ | exact ⟨_, rfl⟩ | apply gain_ext | apply gain_alloc | apply gain_drewN | apply gain_drew) | (refine gain_setCell ?_ (by first | exact Nat.le_refl _ | exact World.size_ext _ _ | (simp; done) | (simp; omega)) _)))⟩
set_option maxRecDepth 100000 in
theorem fnStartLists_lifted (os : Os) (started : os.Started) (H : Type) (enc : TypeId × Value → H) :
    ReturnsInHanded {} Try.checked os 7 .any (Rows.fnStartListsSpec.pre6 enc Try.prog Try.f7 Rows.fnStartListsRow.domain false) (Rows.fnStartListsSpec.post enc Try.prog Try.f7 false true false false) := by
  refine returnsInHanded_of_change (C := Try.checked) (by kernel_rfl) started (by kernel_rfl) Try.func7
    (ChangeSpec.witness6 (enc := enc) (C := Try.checked) false ⟨#[], #[.slice none 0 0], []⟩ 8 (by kernel_rfl) (by kernel_rfl) (by kernel_rfl) (by kernel_rfl)) ?_
  intro W base args ds gs before hval0 hW _ _
  have hval : ∀ (j : Nat) t v, Try.f7.params[j]? = some t → args[j]? = some v → Value.okWide Try.prog W .any base t v := hval0
  clear hval0
  have laidOut : laidOutB Try.prog = true := by as_aux_lemma => kernel_rfl
  have hWc := hW
  obtain ⟨p, q, hA0, hV, rfl, _, _⟩ := hWc
  have hA : DataW.TrodAll enc Try.prog W 0 (fun _ => true) true Try.f7.params.toList args.toList ds p := hA0
  clear hA0
  rw [Try.params7] at hA hval
  obtain ⟨v0, vs0, d0, ds0, p0, q0, hargs, rfl, rfl, h0, r0⟩ := trodAll_cons hA
  obtain ⟨rfl, rfl, rfl⟩ := trodAll_nil r0
  obtain rfl : args = #[v0] := by cases args; simp_all
  obtain ⟨rfl, rfl⟩ := trodVars_none hV
  obtain ⟨L, hs, hq, hn⟩ := read_Bytes (hval 0 29 v0 rfl rfl) h0
  refine (fnStartLists_walk v0 L W hs hq hn).mono fun e W1 ⟨he, hg⟩ => ?_
  subst he
  exact ⟨_, rfl, law_post (tb := 4) laidOut (by kernel_rfl) hW rfl rfl (by kernel_rfl) Try.underlying4 hg⟩
theorem fnStartLists_holds : Rows.FnStartListsSaid :=
  OpenClaim.holds_of_wide 7 Try.f7 rfl rfl rfl rfl rfl rfl rfl ⟨rfl, rfl, rfl, rfl, rfl⟩ rfl rfl rfl rfl rfl (by kernel_rfl) Try.func7 (by kernel_rfl)
    (of_decide_eq_true (by kernel_rfl)) (by unfold Func.isWrapper; first | (rw [if_pos (by decide +kernel)]; kernel_rfl) | (rw [if_neg (by decide +kernel)]; exact ⟨rfl, rfl⟩))
    (fun os started H enc _ => fnStartLists_lifted os started H enc)
#print axioms fnStartLists_holds
end Go.Proofs.Ytbghmkjjooiikaa
