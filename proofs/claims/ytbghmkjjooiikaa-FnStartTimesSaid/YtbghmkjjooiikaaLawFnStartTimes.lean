/- FnStartTimes returns true for every argument. No condition. -/
import Derived.Test.YtbghmkjjooiikaaDraw10
import Derived.Test.YtbghmkjjooiikaaVLaws
import Derived.Test.YtbghmkjjooiikaaPStartF
import Derived.Test.YtbghmkjjooiikaaStartTimes
import Derived.Test.YtbghmkjjooiikaaLastStart
import Derived.Test.YtbghmkjjooiikaaMoveToEnd
import Derived.Test.YtbghmkjjooiikaaIsStartList
import Derived.Test.YtbghmkjjooiikaaClubGaps
import Derived.Test.YtbghmkjjooiikaaRdBytes
import Derived.Deep.DeepCutAuto
namespace Go.Proofs.Ytbghmkjjooiikaa
open Go.ChangeShapes Go.WideShapes Go.ChangeAt Go.RowKit Go.Ori
set_option maxHeartbeats 8000000 in
set_option maxRecDepth 100000 in
set_option maxHeartbeats 2000000 in
theorem fnStartTimes_walk (v : Value) (L : List Int) (w : World) (h : w.sl byteC 1 v L) (hq : ∀ x ∈ L, 0 ≤ x ∧ x ≤ 255) (hn : L.length ≤ 9223372036854775807) :
    Calls Try.prog 6 #[v] w fun x w' => x = .returned (.bool true) ∧ ∃ d, w' = w.ext d := by
  have hs := Lib.hid h
  have HQ := Lib.hid hq
  obtain ⟨p, c, rfl, _⟩ := h
  clear hq
  by_cases hbig : 65536 < L.length
  · have hbb : decide (65536 < L.length) = true := decide_eq_true hbig
    go_enter Try.func6, Try.ntmps6
    go_wp2_with (go_at_call 17; refine (vBig_any _ _ _ _ hn).mono ?_; rw [hbb]; rintro e w1 ⟨rfl, rfl⟩)
    go_ret
    exact ⟨rfl, (by repeat (first | with_reducible (first | exact World.gained_refl _ | exact ⟨_, rfl⟩ | apply gain_ext | apply gain_alloc | apply gain_drewN | apply gain_drew) | (refine gain_setCell ?_ (by first | exact Nat.le_refl _ | exact World.size_ext _ _ | (simp; done) | (simp; omega)) _)))⟩
  have hbb : decide (65536 < L.length) = false := decide_eq_false hbig
  have hl : L.length ≤ 1048576 := by omega
  go_enter Try.func6, Try.ntmps6
  go_wp2_with (go_at_call 17; refine (vBig_any _ _ _ _ hn).mono ?_; rw [hbb]; rintro e w1 ⟨rfl, rfl⟩)
  refine (drawTimes_any _ L _ hs.out HQ.out hl).mono ?_
  rintro e w1 ⟨v1, l1, v2, l2, a, b, rfl, ⟨d1, rfl⟩, h1, n1, h2, n2⟩
  obtain ⟨p1, c1, rfl, _⟩ := id h1
  obtain ⟨p2, c2, rfl, _⟩ := id h2
  have H1 := Lib.hid h1
  have H2 := Lib.hid h2
  clear h1 h2
  go_wp2_with fail
  refine (startTimes_any _ _ l1 l2 a b _ H1.out H2.out (by omega) (by omega)).mono ?_
  rintro e w1 ⟨r1, rfl, ⟨d2, rfl⟩, o1⟩
  have HTL := Lib.hid (timesL_length l1 l2 a b)
  obtain ⟨p3, c3, rfl, _⟩ := sl_of_own intC_length o1
  have O1 := Lib.hid (sl_of_own intC_length o1)
  clear o1
  go_wp2_with fail
  refine (specStartTimes_any _ _ l1 l2 a b _ (by with_reducible (repeat (first | exact H1.out | refine World.sl_ext intC_length ?_ _ | refine sl_alloc intC_length ?_ _ | refine sl_drew ?_))) (by with_reducible (repeat (first | exact H2.out | refine World.sl_ext intC_length ?_ _ | refine sl_alloc intC_length ?_ _ | refine sl_drew ?_))) (by omega) (by omega)).mono ?_
  rintro e w1 ⟨r2, rfl, ⟨d3, rfl⟩, o2⟩
  have O2 := Lib.hid (sl_of_own intC_length o2)
  clear o2
  have HTA := Lib.hid (fun (hT : timesB l1 l2 a b = true) i (hi : i < l2.length) => timesL_at hT hi)
  have HTE := Lib.hid (fun (hT : timesB l1 l2 a b = true) => has_last hT)
  generalize hT : timesB l1 l2 a b = T at HTA HTE ⊢
  have hTT : (T != T) = false := by simp
  go_upto_if 72 with (go_at_call 21; refine (vInts_same _ _ (timesL l1 l2 a b) _ (by with_reducible (repeat (first | exact O1.out | refine World.sl_ext intC_length ?_ _ | refine sl_alloc intC_length ?_ _ | refine sl_drew ?_))) (by with_reducible (repeat (first | exact O2.out | refine World.sl_ext intC_length ?_ _ | refine sl_alloc intC_length ?_ _ | refine sl_drew ?_))) HTL.out).mono ?_; rintro e w1 ⟨rfl, d4, rfl⟩)
  clear O2
  go_cut [] (fun wx => ∃ d, wx = w.ext d)
  case first =>
    cases T with
    | false =>
      go_wp2_with fail
      go_meet
      exact (by repeat (first | with_reducible (first | exact World.gained_refl _ | exact ⟨_, rfl⟩ | apply gain_ext | apply gain_alloc | apply gain_drewN | apply gain_drew) | (refine gain_setCell ?_ (by first | exact Nat.le_refl _ | exact World.size_ext _ _ | (simp; done) | (simp; omega)) _)))
    | true =>
      obtain ⟨e1, e2, e3⟩ := HTE.out rfl
      go_wp2_with fail
      refine (lastStart_any _ l1 a b _ (by with_reducible (repeat (first | exact H1.out | refine World.sl_ext intC_length ?_ _ | refine sl_alloc intC_length ?_ _ | refine sl_drew ?_))) (by omega)).mono ?_
      rw [e1]
      rintro e w1 ⟨rfl, d5, rfl⟩
      have HV := Lib.hid (fun (n : Int) w' (h : w'.sl intC 1 (.slice p3 (timesL l1 l2 a b).length c3) (timesL l1 l2 a b)) (hn : n = lastI l1 a b ∨ n = a) => show Calls Try.prog 46 #[.slice p3 (timesL l1 l2 a b).length c3, .int .i64 n] w' fun x w'' => x = .returned (.bool true) ∧ ∃ d, w'' = w'.ext d from (show hasB (timesL l1 l2 a b) n = true by rcases hn with e | e <;> rw [e] <;> assumption) ▸ vHas_any _ (timesL l1 l2 a b) n w' h HTL.out)
      obtain ⟨⟨ha1, ha2⟩, hb1, hb2⟩ := minutesB_true (show minutesB a b = true by simp only [lastB, Bool.and_eq_true] at e1; exact e1.2)
      have hl28 : l2.length ≤ 11 := n2
      clear e1 e2 e3
      have HAT := Lib.hid (fun i hi => HTA.out trivial i hi)
      generalize timesL l1 l2 a b = TL at *
      generalize lastI l1 a b = LI at *
      go_wp2_with (go_at_call 46; refine (HV.out _ _ (by with_reducible (repeat (first | exact O1.out | refine World.sl_ext intC_length ?_ _ | refine sl_alloc intC_length ?_ _ | refine sl_drew ?_))) (by first | exact Or.inl rfl | exact Or.inr rfl)).mono ?_; rintro e w1 ⟨rfl, d6, rfl⟩)
      go_loopw [13] (fun i wr => ∃ k : Nat, k ≤ l2.length ∧ i = .int .i64 k ∧ ∃ d, wr = ((w.ext d1).ext d2).ext d) (fun i _ => l2.length - (intOf i).toNat)
      case atStart => exact ⟨0, by omega, rfl, (by repeat (first | with_reducible (first | exact World.gained_refl _ | exact ⟨_, rfl⟩ | apply gain_ext | apply gain_alloc | apply gain_drewN | apply gain_drew) | (refine gain_setCell ?_ (by first | exact Nat.le_refl _ | exact World.size_ext _ _ | (simp; done) | (simp; omega)) _)))⟩
      case round =>
        obtain ⟨k, hk, rfl, d8, rfl⟩ := hrel
        by_cases hlt : k < l2.length
        · obtain ⟨b2, o2, rfl⟩ := sl_some H2.out (by omega)
          have k2 := sl_int H2.out hlt
          obtain ⟨hat, hyl, hy0⟩ := HAT.out k hlt
          generalize l2[k] = y at *
          obtain ⟨m, rfl⟩ : ∃ m : Nat, y = (m : Int) := ⟨y.toNat, by omega⟩
          simp only [Int.toNat_natCast] at hat hyl
          obtain ⟨b3, o3, rfl⟩ := sl_some O1.out (by omega)
          have k3 := sl_int O1.out hyl
          have hat2 : TL[m] = a + (k : Int) * b := by rw [← hat, List.getD_eq_getElem?_getD, List.getElem?_eq_getElem hyl]; rfl
          rw [hat2] at k3
          have ob2 := World.oldB_of_cell k2
          have ob3 := World.oldB_of_cell k3
          have hp1 : 0 ≤ (k : Int) * b := Int.mul_nonneg (by omega) (by omega)
          have hp2 : (k : Int) * b ≤ 11 * 10 := Int.mul_le_mul (by omega) hb2 (by omega) (by omega)
          clear hat hat2 HAT HTA HTE HV HTL hy0
          go_wp2_with fail
          go_roundw
          case rel => exact ⟨k + 1, by omega, by go_num, (by repeat (first | with_reducible (first | exact World.gained_refl _ | exact ⟨_, rfl⟩ | apply gain_ext | apply gain_alloc | apply gain_drewN | apply gain_drew) | (refine gain_setCell ?_ (by first | exact Nat.le_refl _ | exact World.size_ext _ _ | (simp; done) | (simp; omega)) _)))⟩
          case measure => simp [intOf]; omega
        · go_wp2_with fail
          go_meet
          exact (by repeat (first | with_reducible (first | exact World.gained_refl _ | exact ⟨_, rfl⟩ | apply gain_ext | apply gain_alloc | apply gain_drewN | apply gain_drew) | (refine gain_setCell ?_ (by first | exact Nat.le_refl _ | exact World.size_ext _ _ | (simp; done) | (simp; omega)) _)))
  obtain ⟨dA, rfl⟩ := hcut
  clear O1 HTA HTE HTL H1 H2
  clear hT hTT
  go_wp2_with fail
  refine (drawMove_any _ L _ (by with_reducible (repeat (first | exact hs.out | refine World.sl_ext byteC_length ?_ _ | refine sl_alloc byteC_length ?_ _ | refine sl_drew ?_))) HQ.out hl).mono ?_
  rintro e w1 ⟨v1, l1, v2, l2, s, rfl, ⟨d1, rfl⟩, h1, n1, h2, n2⟩
  obtain ⟨p1, c1, rfl, _⟩ := id h1
  obtain ⟨p2, c2, rfl, _⟩ := id h2
  have H1 := Lib.hid h1
  have H2 := Lib.hid h2
  clear h1 h2
  go_wp2_with fail
  refine (moveToEnd_any _ _ l1 l2 s _ H1.out H2.out (by omega) (by omega)).mono ?_
  rintro e w1 ⟨r1, rfl, ⟨d2, rfl⟩, o1⟩
  have HML := Lib.hid (mvL_length l1 l2 s)
  obtain ⟨p3, c3, rfl, _⟩ := sl_of_own intC_length o1
  have O1 := Lib.hid (sl_of_own intC_length o1)
  clear o1
  go_wp2_with fail
  refine (specMoveToEnd_any _ _ l1 l2 s _ (by with_reducible (repeat (first | exact H1.out | refine World.sl_ext intC_length ?_ _ | refine sl_alloc intC_length ?_ _ | refine sl_drew ?_))) (by with_reducible (repeat (first | exact H2.out | refine World.sl_ext intC_length ?_ _ | refine sl_alloc intC_length ?_ _ | refine sl_drew ?_))) (by omega) (by omega)).mono ?_
  rintro e w1 ⟨r2, rfl, ⟨d3, rfl⟩, o2⟩
  have O2 := Lib.hid (sl_of_own intC_length o2)
  clear o2
  have HMF := Lib.hid (fun (hT : mvB l1 l2 s = true) => mv_facts hT)
  generalize hT : mvB l1 l2 s = T at HMF ⊢
  have hTT : (T != T) = false := by simp
  go_upto_if 142 with (go_at_call 21; refine (vInts_same _ _ (mvL l1 l2 s) _ (by with_reducible (repeat (first | exact O1.out | refine World.sl_ext intC_length ?_ _ | refine sl_alloc intC_length ?_ _ | refine sl_drew ?_))) (by with_reducible (repeat (first | exact O2.out | refine World.sl_ext intC_length ?_ _ | refine sl_alloc intC_length ?_ _ | refine sl_drew ?_))) HML.out).mono ?_; rintro e w1 ⟨rfl, d4, rfl⟩)
  clear O2
  go_cut [17] (fun _ wx => ∃ d, wx = w.ext d)
  case first =>
    cases T with
    | false =>
      go_wp2_with fail
      go_meet
      exact (by repeat (first | with_reducible (first | exact World.gained_refl _ | exact ⟨_, rfl⟩ | apply gain_ext | apply gain_alloc | apply gain_drewN | apply gain_drew) | (refine gain_setCell ?_ (by first | exact Nat.le_refl _ | exact World.size_ext _ _ | (simp; done) | (simp; omega)) _)))
    | true =>
      obtain ⟨M, e1, e2, e3, e4⟩ := HMF.out rfl
      clear HMF
      generalize mvL l1 l2 s = ML at *
      subst e1
      have hsc : clubsB l1 = true := (startsB_true e2).1
      have hm1 : (M ++ [s]).length = M.length + 1 := by simp
      obtain ⟨b3, o3, rfl⟩ := sl_some O1.out (by omega)
      have k3 := sl_int O1.out (k := M.length) (by omega)
      have hat : (M ++ [s])[M.length]'(by omega) = s := by simp
      rw [hat] at k3
      have ob3 := World.oldB_of_cell k3
      have hML := HML.out
      rw [hm1] at hML
      have O1' := O1.out
      rw [hm1] at O1'
      replace O1 := Lib.hid O1'
      clear O1' hat hm1
      go_wp2_with fail
      refine (implIsStartList_any _ _ l1 _ _ (by with_reducible (repeat (first | exact H1.out | refine World.sl_ext intC_length ?_ _ | refine sl_alloc intC_length ?_ _ | refine sl_drew ?_))) (by with_reducible (repeat (first | exact O1.out | refine World.sl_ext intC_length ?_ _ | refine sl_alloc intC_length ?_ _ | refine sl_drew ?_))) (by omega) HML.out).mono ?_
      rw [e2, hsc]
      rintro e w1 ⟨rfl, d5, rfl⟩
      go_wp2_with fail
      refine (moveToEnd_any _ _ l1 _ s _ (by with_reducible (repeat (first | exact H1.out | refine World.sl_ext intC_length ?_ _ | refine sl_alloc intC_length ?_ _ | refine sl_drew ?_))) (by with_reducible (repeat (first | exact O1.out | refine World.sl_ext intC_length ?_ _ | refine sl_alloc intC_length ?_ _ | refine sl_drew ?_))) (by omega) HML.out).mono ?_
      rw [e3, e4]
      rintro e w1 ⟨r3, rfl, ⟨d6, rfl⟩, o3⟩
      have O3 := Lib.hid (sl_of_own intC_length o3)
      clear o3 e2 e3 e4 hsc
      go_wp2_with (go_at_call 21; refine (vInts_same _ _ _ _ (by with_reducible (repeat (first | exact O3.out | refine World.sl_ext intC_length ?_ _ | refine sl_alloc intC_length ?_ _ | refine sl_drew ?_))) (by with_reducible (repeat (first | exact O1.out | refine World.sl_ext intC_length ?_ _ | refine sl_alloc intC_length ?_ _ | refine sl_drew ?_))) HML.out).mono ?_; rintro e w1 ⟨rfl, d7, rfl⟩)
      go_meet
      exact (by repeat (first | with_reducible (first | exact World.gained_refl _ | exact ⟨_, rfl⟩ | apply gain_ext | apply gain_alloc | apply gain_drewN | apply gain_drew) | (refine gain_setCell ?_ (by first | exact Nat.le_refl _ | exact World.size_ext _ _ | (simp; done) | (simp; omega)) _)))
  obtain ⟨dB, rfl⟩ := hcut
  clear O1 HMF HML H1 H2
  clear hT hTT
  go_wp2_with fail
  refine (drawLast_any _ L _ (by with_reducible (repeat (first | exact hs.out | refine World.sl_ext byteC_length ?_ _ | refine sl_alloc byteC_length ?_ _ | refine sl_drew ?_))) HQ.out hl).mono ?_
  rintro e w1 ⟨v1, l1, a, b, rfl, ⟨d1, rfl⟩, h1, n1⟩
  obtain ⟨p1, c1, rfl, _⟩ := id h1
  have H1 := Lib.hid h1
  clear h1
  go_wp2_with fail
  refine (lastStart_any _ l1 a b _ H1.out (by omega)).mono ?_
  rintro e w1 ⟨rfl, d2, rfl⟩
  go_wp2_with fail
  refine (specLastStart_any _ l1 a b _ (by with_reducible (repeat (first | exact H1.out | refine World.sl_ext intC_length ?_ _ | refine sl_alloc intC_length ?_ _ | refine sl_drew ?_))) (by omega)).mono ?_
  rintro e w1 ⟨rfl, d3, rfl⟩
  clear H1
  generalize lastI l1 a b = T
  generalize lastB l1 a b = B
  have hTT : (T != T) = false := by simp
  have hBB : (B != B) = false := by simp
  go_wp2_with fail
  refine (drawGaps_any _ L _ (by with_reducible (repeat (first | exact hs.out | refine World.sl_ext byteC_length ?_ _ | refine sl_alloc byteC_length ?_ _ | refine sl_drew ?_))) HQ.out hl).mono ?_
  rintro e w1 ⟨v1, l3, v2, l2, rfl, ⟨d4, rfl⟩, h1, m1, h2, m2⟩
  obtain ⟨p3, c3, rfl, _⟩ := id h1
  obtain ⟨p2, c2, rfl, _⟩ := id h2
  have H1 := Lib.hid h1
  have H2 := Lib.hid h2
  clear h1 h2
  go_wp2_with fail
  refine (clubGaps_any _ _ l3 l2 _ H1.out H2.out (by omega) (by omega)).mono ?_
  rintro e w1 ⟨r1, rfl, ⟨d5, rfl⟩, o1⟩
  have O1 := Lib.hid (sl_of_own intC_length o1)
  have HGL := Lib.hid (gapsL_length l3 l2)
  clear o1
  go_wp2_with fail
  refine (specClubGaps_any _ _ l3 l2 _ (by with_reducible (repeat (first | exact H1.out | refine World.sl_ext intC_length ?_ _ | refine sl_alloc intC_length ?_ _ | refine sl_drew ?_))) (by with_reducible (repeat (first | exact H2.out | refine World.sl_ext intC_length ?_ _ | refine sl_alloc intC_length ?_ _ | refine sl_drew ?_))) (by omega) (by omega)).mono ?_
  rintro e w1 ⟨r2, rfl, ⟨d6, rfl⟩, o2⟩
  have O2 := Lib.hid (sl_of_own intC_length o2)
  clear o2
  generalize hG : startsB l3 l2 = G
  have hGG : (G == G) = true := by simp
  go_wp2_with (go_at_call 21; refine (vInts_same _ _ (gapsL l3 l2) _ (by with_reducible (repeat (first | exact O1.out | refine World.sl_ext intC_length ?_ _ | refine sl_alloc intC_length ?_ _ | refine sl_drew ?_))) (by with_reducible (repeat (first | exact O2.out | refine World.sl_ext intC_length ?_ _ | refine sl_alloc intC_length ?_ _ | refine sl_drew ?_))) (by have := HGL.out; omega)).mono ?_; rintro e w1 ⟨rfl, d7, rfl⟩)
  go_ret
  exact ⟨rfl, (by repeat (first | with_reducible (first | exact World.gained_refl _ | exact ⟨_, rfl⟩ | apply gain_ext | apply gain_alloc | apply gain_drewN | apply gain_drew) | (refine gain_setCell ?_ (by first | exact Nat.le_refl _ | exact World.size_ext _ _ | (simp; done) | (simp; omega)) _)))⟩
set_option maxRecDepth 100000 in
theorem fnStartTimes_lifted (os : Os) (started : os.Started) (H : Type) (enc : TypeId × Value → H) :
    ReturnsInHanded {} Try.checked os 6 .any (Rows.fnStartTimesSpec.pre6 enc Try.prog Try.f6 Rows.fnStartTimesRow.domain false) (Rows.fnStartTimesSpec.post enc Try.prog Try.f6 false true false false) := by
  refine returnsInHanded_of_change (C := Try.checked) (by kernel_rfl) started (by kernel_rfl) Try.func6
    (ChangeSpec.witness6 (enc := enc) (C := Try.checked) false ⟨#[], #[.slice none 0 0], []⟩ 8 (by kernel_rfl) (by kernel_rfl) (by kernel_rfl) (by kernel_rfl)) ?_
  intro W base args ds gs before hval0 hW _ _
  have hval : ∀ (j : Nat) t v, Try.f6.params[j]? = some t → args[j]? = some v → Value.okWide Try.prog W .any base t v := hval0
  clear hval0
  have laidOut : laidOutB Try.prog = true := by as_aux_lemma => kernel_rfl
  have hWc := hW
  obtain ⟨p, q, hA0, hV, rfl, _, _⟩ := hWc
  have hA : DataW.TrodAll enc Try.prog W 0 (fun _ => true) true Try.f6.params.toList args.toList ds p := hA0
  clear hA0
  rw [Try.params6] at hA hval
  obtain ⟨v0, vs0, d0, ds0, p0, q0, hargs, rfl, rfl, h0, r0⟩ := trodAll_cons hA
  obtain ⟨rfl, rfl, rfl⟩ := trodAll_nil r0
  obtain rfl : args = #[v0] := by cases args; simp_all
  obtain ⟨rfl, rfl⟩ := trodVars_none hV
  obtain ⟨L, hs, hq, hn⟩ := read_Bytes (hval 0 29 v0 rfl rfl) h0
  refine (fnStartTimes_walk v0 L W hs hq hn).mono fun e W1 ⟨he, hg⟩ => ?_
  subst he
  exact ⟨_, rfl, law_post (tb := 4) laidOut (by kernel_rfl) hW rfl rfl (by kernel_rfl) Try.underlying4 hg⟩
theorem fnStartTimes_holds : Rows.FnStartTimesSaid :=
  OpenClaim.holds_of_wide 6 Try.f6 rfl rfl rfl rfl rfl rfl rfl ⟨rfl, rfl, rfl, rfl, rfl⟩ rfl rfl rfl rfl rfl (by kernel_rfl) Try.func6 (by kernel_rfl)
    (of_decide_eq_true (by kernel_rfl)) (by unfold Func.isWrapper; first | (rw [if_pos (by decide +kernel)]; kernel_rfl) | (rw [if_neg (by decide +kernel)]; exact ⟨rfl, rfl⟩))
    (fun os started H enc _ => fnStartTimes_lifted os started H enc)
#print axioms fnStartTimes_holds
end Go.Proofs.Ytbghmkjjooiikaa
