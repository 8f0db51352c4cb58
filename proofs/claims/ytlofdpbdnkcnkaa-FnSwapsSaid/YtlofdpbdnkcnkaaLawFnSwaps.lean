/- FnSwaps returns true for every argument. No condition. -/
import Derived.Test.YtlofdpbdnkcnkaaDrawPlans
import Derived.Test.YtlofdpbdnkcnkaaVPlan
import Derived.Test.YtlofdpbdnkcnkaaSwapS
import Derived.Test.YtlofdpbdnkcnkaaSwapTot
import Derived.Test.YtlofdpbdnkcnkaaFairPlan
import Derived.Test.YtlofdpbdnkcnkaaVarCount
import Derived.Test.YtlofdpbdnkcnkaaSameForks
import Derived.Test.YtlofdpbdnkcnkaaLegTimesOf2
import Derived.Test.YtlofdpbdnkcnkaaRdBytes
import Derived.Deep.DeepCutAuto
namespace Go.Ori
theorem vcL_bd (l : List (List (List Int))) (legs forks leg fork : Int) (hl : l.length ≤ 1048576) : ∀ x ∈ vcL l legs forks leg fork, 0 ≤ x ∧ x ≤ 1048576 := by
  intro x hx
  unfold vcL at hx
  split at hx
  · obtain ⟨i, hi, rfl⟩ := List.getElem_of_mem hx
    have := vcN_bd l legs.toNat leg.toNat fork.toNat l.length i
    rw [List.getD_eq_getElem?_getD, List.getElem?_eq_getElem hi, Option.getD_some] at this
    omega
  · simp at hx
end Go.Ori
namespace Go.Proofs.Ytlofdpbdnkcnkaa
open Go.ChangeShapes Go.WideShapes Go.ChangeAt Go.RowKit Go.Ori
set_option maxRecDepth 100000 in
set_option maxHeartbeats 2000000 in
theorem fnSwaps_walk (v : Value) (L : List Int) (w : World) (h : w.sl byteC 1 v L) (hq : ∀ x ∈ L, 0 ≤ x ∧ x ≤ 255) (hn : L.length ≤ 9223372036854775807) :
    Calls Try.prog 4 #[v] w fun x w' => x = .returned (.bool true) ∧ ∃ d, w' = w.ext d := by
  have hs := Lib.hid h
  have HQ := Lib.hid hq
  obtain ⟨p, c, rfl, _⟩ := h
  clear hq
  by_cases hbig : 65536 < L.length
  · have hbb : decide (65536 < L.length) = true := decide_eq_true hbig
    go_enter Try.func4, Try.ntmps4
    go_wp2_with (go_at_call 6; refine (vBig_any _ _ _ _ hn).mono ?_; rw [hbb]; rintro e w1 ⟨rfl, rfl⟩)
    go_ret
    exact ⟨rfl, (by repeat (first | with_reducible (first | exact World.gained_refl _ | exact ⟨_, rfl⟩ | apply gain_ext | apply gain_alloc | apply gain_drewN | apply gain_drew) | (refine gain_setCell ?_ (by first | exact Nat.le_refl _ | exact World.size_ext _ _ | (simp; done) | (simp; omega)) _)))⟩
  have hbb : decide (65536 < L.length) = false := decide_eq_false hbig
  have hl : L.length ≤ 1048576 := by omega
  go_enter Try.func4, Try.ntmps4
  go_wp2_with (go_at_call 6; refine (vBig_any _ _ _ _ hn).mono ?_; rw [hbb]; rintro e w1 ⟨rfl, rfl⟩)
  refine (drawSwap_any _ L _ hs.out HQ.out hl).mono ?_
  rintro e w1 ⟨v1, l1, legs, forks, team, a, b, rfl, ⟨d1, rfl⟩, h1, n1⟩
  obtain ⟨p1, c1, rfl⟩ := sl3_form h1
  have H1 := Lib.hid h1
  clear h1
  go_wp2_with fail
  refine (swapLegs_any _ l1 legs forks team a b _ H1.out (by omega)).mono ?_
  rintro e w1 ⟨r1, rfl, ⟨d2, rfl⟩, o1⟩
  have O1 := Lib.hid (sl3_of_rows3p o1)
  obtain ⟨p3, c3, rfl⟩ := sl3_form O1.out
  have HT := Lib.hid (swapL_tot l1 legs forks team a b)
  clear o1
  go_wp2_with fail
  refine (specSwapLegs_any _ l1 legs forks team a b _ (sl3_up H1.out (by repeat (first | with_reducible (first | exact World.gained_refl _ | exact ⟨_, rfl⟩ | apply gain_ext | apply gain_alloc | apply gain_drewN | apply gain_drew) | (refine gain_setCell ?_ (by first | exact Nat.le_refl _ | exact World.size_ext _ _ | (simp; done) | (simp; omega)) _)))) (by omega)).mono ?_
  rintro e w1 ⟨r2, rfl, ⟨d3, rfl⟩, o2⟩
  have O2 := Lib.hid (sl3_of_rows3p o2)
  clear o2
  have HSF := Lib.hid (fun (h : swapB l1 legs forks team a b = true) => swap_facts h)
  have HTT := Lib.hid n1
  clear n1
  generalize hS : swapB l1 legs forks team a b = T at HSF ⊢
  generalize swapL l1 legs forks team a b = sl at O1 O2 HT HSF ⊢
  have hTT : (T != T) = false := by simp
  go_upto_if 89 with (go_at_call 20; refine (vPlan_same _ _ sl _ (sl3_up O1.out (by repeat (first | with_reducible (first | exact World.gained_refl _ | exact ⟨_, rfl⟩ | apply gain_ext | apply gain_alloc | apply gain_drewN | apply gain_drew) | (refine gain_setCell ?_ (by first | exact Nat.le_refl _ | exact World.size_ext _ _ | (simp; done) | (simp; omega)) _)))) (sl3_up O2.out (by repeat (first | with_reducible (first | exact World.gained_refl _ | exact ⟨_, rfl⟩ | apply gain_ext | apply gain_alloc | apply gain_drewN | apply gain_drew) | (refine gain_setCell ?_ (by first | exact Nat.le_refl _ | exact World.size_ext _ _ | (simp; done) | (simp; omega)) _)))) HT.out).mono ?_; rintro e w1 ⟨rfl, d4, rfl⟩)
  clear O2
  go_cut [10, 12] (fun _ _ wx => ∃ d, wx = w.ext d)
  case first =>
    as_aux_lemma =>
      cases T with
      | false =>
        go_wp2_with fail
        go_meet
        exact (by repeat (first | with_reducible (first | exact World.gained_refl _ | exact ⟨_, rfl⟩ | apply gain_ext | apply gain_alloc | apply gain_drewN | apply gain_drew) | (refine gain_setCell ?_ (by first | exact Nat.le_refl _ | exact World.size_ext _ _ | (simp; done) | (simp; omega)) _)))
      | true =>
        obtain ⟨f1, f2, f3, f4, f5⟩ := HSF.out rfl
        clear HSF
        go_wp2_with fail
        refine (swapLegs_any _ sl legs forks team a b _ (sl3_up O1.out (by repeat (first | with_reducible (first | exact World.gained_refl _ | exact ⟨_, rfl⟩ | apply gain_ext | apply gain_alloc | apply gain_drewN | apply gain_drew) | (refine gain_setCell ?_ (by first | exact Nat.le_refl _ | exact World.size_ext _ _ | (simp; done) | (simp; omega)) _)))) HT.out).mono ?_
        rw [f3, f4]
        rintro e w1 ⟨r3, rfl, ⟨d5, rfl⟩, o3⟩
        have O3 := Lib.hid (sl3_of_rows3p o3)
        clear o3
        go_wp2_with fail
        refine (isFairPlan_any _ l1 legs forks _ (sl3_up H1.out (by repeat (first | with_reducible (first | exact World.gained_refl _ | exact ⟨_, rfl⟩ | apply gain_ext | apply gain_alloc | apply gain_drewN | apply gain_drew) | (refine gain_setCell ?_ (by first | exact Nat.le_refl _ | exact World.size_ext _ _ | (simp; done) | (simp; omega)) _)))) (by have := HTT.out; omega)).mono ?_
        rw [f1]
        rintro e w1 ⟨rfl, d6, rfl⟩
        go_wp2_with fail
        refine (isFairPlan_any _ sl legs forks _ (sl3_up O1.out (by repeat (first | with_reducible (first | exact World.gained_refl _ | exact ⟨_, rfl⟩ | apply gain_ext | apply gain_alloc | apply gain_drewN | apply gain_drew) | (refine gain_setCell ?_ (by first | exact Nat.le_refl _ | exact World.size_ext _ _ | (simp; done) | (simp; omega)) _)))) HT.out).mono ?_
        rw [f2, f5]
        rintro e w1 ⟨rfl, d7, rfl⟩
        clear f1 f2 f3 f4 f5
        generalize fairI l1 legs forks = FI
        have hFI : (FI != FI) = false := by simp
        go_wp2_with (go_at_call 20; refine (vPlan_same _ _ l1 _ (sl3_up O3.out (by repeat (first | with_reducible (first | exact World.gained_refl _ | exact ⟨_, rfl⟩ | apply gain_ext | apply gain_alloc | apply gain_drewN | apply gain_drew) | (refine gain_setCell ?_ (by first | exact Nat.le_refl _ | exact World.size_ext _ _ | (simp; done) | (simp; omega)) _)))) (sl3_up H1.out (by repeat (first | with_reducible (first | exact World.gained_refl _ | exact ⟨_, rfl⟩ | apply gain_ext | apply gain_alloc | apply gain_drewN | apply gain_drew) | (refine gain_setCell ?_ (by first | exact Nat.le_refl _ | exact World.size_ext _ _ | (simp; done) | (simp; omega)) _)))) (by have := HTT.out; omega)).mono ?_; rintro e w1 ⟨rfl, d8, rfl⟩)
        go_meet
        exact (by repeat (first | with_reducible (first | exact World.gained_refl _ | exact ⟨_, rfl⟩ | apply gain_ext | apply gain_alloc | apply gain_drewN | apply gain_drew) | (refine gain_setCell ?_ (by first | exact Nat.le_refl _ | exact World.size_ext _ _ | (simp; done) | (simp; omega)) _)))
  obtain ⟨dA, rfl⟩ := hcut
  clear O1 H1 HSF HT HTT hTT hS
  go_wp2_with fail
  refine (drawVariants_any _ L _ (by with_reducible (repeat (first | exact hs.out | refine World.sl_ext byteC_length ?_ _ | refine sl_alloc byteC_length ?_ _ | refine sl_drew ?_))) HQ.out hl).mono ?_
  rintro e w1 ⟨v2, l2, lg2, fk2, a2, b2, rfl, ⟨d1, rfl⟩, h2, n2⟩
  obtain ⟨p2, c2, rfl⟩ := sl3_form h2
  have hll2 : l2.length ≤ 1000 := Nat.le_trans (tot3_len l2) n2
  have H2 := Lib.hid h2
  clear h2
  go_wp2_with fail
  refine (variantCount_any _ l2 lg2 fk2 a2 b2 _ H2.out (by omega)).mono ?_
  rintro e w1 ⟨r1, rfl, ⟨d2, rfl⟩, o1⟩
  have O1 := Lib.hid (sl_of_own intC_length o1)
  have HVL := Lib.hid (vcL_length l2 lg2 fk2 a2 b2)
  have HVB := Lib.hid (vcL_bd l2 lg2 fk2 a2 b2 (by omega))
  have HVS := Lib.hid (fun (h : vcB l2 lg2 fk2 a2 b2 = true) => vc_sum h)
  clear o1
  go_wp2_with fail
  refine (specVariantCount_any _ l2 lg2 fk2 a2 b2 _ (sl3_up H2.out (by repeat (first | with_reducible (first | exact World.gained_refl _ | exact ⟨_, rfl⟩ | apply gain_ext | apply gain_alloc | apply gain_drewN | apply gain_drew) | (refine gain_setCell ?_ (by first | exact Nat.le_refl _ | exact World.size_ext _ _ | (simp; done) | (simp; omega)) _)))) (by omega)).mono ?_
  rintro e w1 ⟨r2, rfl, ⟨d3, rfl⟩, o2⟩
  have O2 := Lib.hid (sl_of_own intC_length o2)
  clear o2
  generalize vcB l2 lg2 fk2 a2 b2 = B at HVS ⊢
  generalize vcL l2 lg2 fk2 a2 b2 = V at O1 O2 HVL HVB HVS ⊢
  have HBB := Lib.hid (show (B != B) = false by simp)
  go_upto_region 17 with fail
  go_cut [25, 27, 179] (fun _ _ t wx => t = .bool false ∧ ∃ d, wx = w.ext d)
  case first =>
    as_aux_lemma =>
      cases B with
      | false =>
        go_wp2_with (go_at_call 10; refine (vInts_same _ _ V _ (by with_reducible (repeat (first | exact O1.out | refine World.sl_ext intC_length ?_ _ | refine sl_alloc intC_length ?_ _ | refine sl_drew ?_))) (by with_reducible (repeat (first | exact O2.out | refine World.sl_ext intC_length ?_ _ | refine sl_alloc intC_length ?_ _ | refine sl_drew ?_))) HVL.out).mono ?_; rintro e w1 ⟨rfl, d4, rfl⟩)
        go_meet
        exact ⟨rfl, (by repeat (first | with_reducible (first | exact World.gained_refl _ | exact ⟨_, rfl⟩ | apply gain_ext | apply gain_alloc | apply gain_drewN | apply gain_drew) | (refine gain_setCell ?_ (by first | exact Nat.le_refl _ | exact World.size_ext _ _ | (simp; done) | (simp; omega)) _)))⟩
      | true =>
        have HE := Lib.hid (HVS.out rfl)
        clear HVS
        go_wp2_with (first | (go_at_call 10; refine (vInts_same _ _ V _ (by with_reducible (repeat (first | exact O1.out | refine World.sl_ext intC_length ?_ _ | refine sl_alloc intC_length ?_ _ | refine sl_drew ?_))) (by with_reducible (repeat (first | exact O2.out | refine World.sl_ext intC_length ?_ _ | refine sl_alloc intC_length ?_ _ | refine sl_drew ?_))) HVL.out).mono ?_; rintro e w1 ⟨rfl, d4, rfl⟩) | (go_at_call 27; refine (vSum_any _ V _ (by with_reducible (repeat (first | exact O1.out | refine World.sl_ext intC_length ?_ _ | refine sl_alloc intC_length ?_ _ | refine sl_drew ?_))) HVL.out HVB.out).mono ?_; rw [HE.out]; rintro e w1 ⟨rfl, d5, rfl⟩))
        go_meet
        exact ⟨rfl, (by repeat (first | with_reducible (first | exact World.gained_refl _ | exact ⟨_, rfl⟩ | apply gain_ext | apply gain_alloc | apply gain_drewN | apply gain_drew) | (refine gain_setCell ?_ (by first | exact Nat.le_refl _ | exact World.size_ext _ _ | (simp; done) | (simp; omega)) _)))⟩
  obtain ⟨rfl, dB, rfl⟩ := hcut
  clear O1 O2 H2 HVL HVB HVS HBB
  go_wp2_with fail
  refine (drawSame_any _ L _ (by with_reducible (repeat (first | exact hs.out | refine World.sl_ext byteC_length ?_ _ | refine sl_alloc byteC_length ?_ _ | refine sl_drew ?_))) HQ.out hl).mono ?_
  rintro e w1 ⟨v3, l3, lg3, fk3, a3, b3, q3, rfl, ⟨d1, rfl⟩, h3, n3⟩
  obtain ⟨p4, c4, rfl⟩ := sl3_form h3
  have H3 := Lib.hid h3
  have HT3 := Lib.hid (show tot3 l3 ≤ 1048576 by omega)
  clear h3 n3
  go_wp2_with fail
  refine (sameForks_any _ l3 lg3 fk3 a3 b3 q3 _ H3.out HT3.out).mono ?_
  rintro e w1 ⟨rfl, d2, rfl⟩
  go_wp2_with fail
  refine (sameForks_any _ l3 lg3 fk3 b3 a3 q3 _ (sl3_up H3.out (by repeat (first | with_reducible (first | exact World.gained_refl _ | exact ⟨_, rfl⟩ | apply gain_ext | apply gain_alloc | apply gain_drewN | apply gain_drew) | (refine gain_setCell ?_ (by first | exact Nat.le_refl _ | exact World.size_ext _ _ | (simp; done) | (simp; omega)) _)))) HT3.out).mono ?_
  rw [(same_sym l3 lg3 fk3 a3 b3 q3).1, (same_sym l3 lg3 fk3 a3 b3 q3).2]
  rintro e w1 ⟨rfl, d3, rfl⟩
  go_wp2_with fail
  refine (specSameForks_any _ l3 lg3 fk3 a3 b3 q3 _ (sl3_up H3.out (by repeat (first | with_reducible (first | exact World.gained_refl _ | exact ⟨_, rfl⟩ | apply gain_ext | apply gain_alloc | apply gain_drewN | apply gain_drew) | (refine gain_setCell ?_ (by first | exact Nat.le_refl _ | exact World.size_ext _ _ | (simp; done) | (simp; omega)) _)))) HT3.out).mono ?_
  rintro e w1 ⟨rfl, d4, rfl⟩
  have HSL := Lib.hid (fun (h : 0 < sameI l3 lg3 fk3 a3 b3 q3) => same_le h)
  generalize sameI l3 lg3 fk3 a3 b3 q3 = N at HSL ⊢
  generalize legB l3 lg3 fk3 a3 b3 q3 = B3
  have hNN : (N != N) = false := by simp
  have hB3 : (B3 != B3) = false := by simp
  go_upto_region 23 with fail
  go_cut [245] (fun t wx => t = .bool false ∧ ∃ d, wx = w.ext d)
  case first =>
    as_aux_lemma =>
      by_cases hN : 0 < N
      · have hle := HSL.out hN
        have hlt : ¬ fk3 < N := by omega
        go_wp2_with fail
        go_meet
        exact ⟨by first | rfl | simp [hlt], (by repeat (first | with_reducible (first | exact World.gained_refl _ | exact ⟨_, rfl⟩ | apply gain_ext | apply gain_alloc | apply gain_drewN | apply gain_drew) | (refine gain_setCell ?_ (by first | exact Nat.le_refl _ | exact World.size_ext _ _ | (simp; done) | (simp; omega)) _)))⟩
      · go_wp2_with fail
        go_meet
        exact ⟨by first | rfl | simp [hN], (by repeat (first | with_reducible (first | exact World.gained_refl _ | exact ⟨_, rfl⟩ | apply gain_ext | apply gain_alloc | apply gain_drewN | apply gain_drew) | (refine gain_setCell ?_ (by first | exact Nat.le_refl _ | exact World.size_ext _ _ | (simp; done) | (simp; omega)) _)))⟩
  obtain ⟨rfl, dC, rfl⟩ := hcut
  clear H3 HT3 HSL hNN hB3
  go_wp2_with fail
  refine (drawLegTimesOf_any _ L _ (by with_reducible (repeat (first | exact hs.out | refine World.sl_ext byteC_length ?_ _ | refine sl_alloc byteC_length ?_ _ | refine sl_drew ?_))) HQ.out hl).mono ?_
  rintro e w1 ⟨v4, l4, lg4, fk4, v5, ts, a4, rfl, ⟨d1, rfl⟩, h4, n4, h5, n5⟩
  obtain ⟨p5, c5, rfl⟩ := sl3_form h4
  obtain ⟨p6, c6, rfl⟩ := sl2_form h5
  have H4 := Lib.hid h4
  have H5 := Lib.hid h5
  have hll4 : l4.length ≤ 1048576 := by have := tot3_len l4; omega
  clear h4 h5
  go_wp2_with fail
  refine (legTimesOf_any _ _ l4 ts lg4 fk4 a4 _ H4.out (by omega) H5.out (by omega)).mono ?_
  rintro e w1 ⟨r1, rfl, ⟨d2, rfl⟩, o1⟩
  have O1 := Lib.hid (sl_of_own intC_length o1)
  have HLL := Lib.hid (legL_length l4 lg4 fk4 ts a4 hll4)
  clear o1
  go_wp2_with fail
  refine (specLegTimesOf_any _ _ l4 ts lg4 fk4 a4 _ (sl3_up H4.out (by repeat (first | with_reducible (first | exact World.gained_refl _ | exact ⟨_, rfl⟩ | apply gain_ext | apply gain_alloc | apply gain_drewN | apply gain_drew) | (refine gain_setCell ?_ (by first | exact Nat.le_refl _ | exact World.size_ext _ _ | (simp; done) | (simp; omega)) _)))) (by omega) (sl2_up H5.out (by repeat (first | with_reducible (first | exact World.gained_refl _ | exact ⟨_, rfl⟩ | apply gain_ext | apply gain_alloc | apply gain_drewN | apply gain_drew) | (refine gain_setCell ?_ (by first | exact Nat.le_refl _ | exact World.size_ext _ _ | (simp; done) | (simp; omega)) _)))) (by omega)).mono ?_
  rintro e w1 ⟨r2, rfl, ⟨d3, rfl⟩, o2⟩
  have O2 := Lib.hid (sl_of_own intC_length o2)
  clear o2
  generalize legB' l4 lg4 fk4 ts a4 = G
  have hGG : (G == G) = true := by simp
  go_wp2_with (go_at_call 10; refine (vInts_same _ _ (legL l4 lg4 fk4 ts a4) _ (by with_reducible (repeat (first | exact O1.out | refine World.sl_ext intC_length ?_ _ | refine sl_alloc intC_length ?_ _ | refine sl_drew ?_))) (by with_reducible (repeat (first | exact O2.out | refine World.sl_ext intC_length ?_ _ | refine sl_alloc intC_length ?_ _ | refine sl_drew ?_))) HLL.out).mono ?_; rintro e w1 ⟨rfl, d7, rfl⟩)
  go_ret
  exact ⟨rfl, (by repeat (first | with_reducible (first | exact World.gained_refl _ | exact ⟨_, rfl⟩ | apply gain_ext | apply gain_alloc | apply gain_drewN | apply gain_drew) | (refine gain_setCell ?_ (by first | exact Nat.le_refl _ | exact World.size_ext _ _ | (simp; done) | (simp; omega)) _)))⟩
set_option maxRecDepth 100000 in
theorem fnSwaps_lifted (os : Os) (started : os.Started) (H : Type) (enc : TypeId × Value → H) :
    ReturnsInHanded {} Try.checked os 4 .any (Rows.fnSwapsSpec.pre6 enc Try.prog Try.f4 Rows.fnSwapsRow.domain false) (Rows.fnSwapsSpec.post enc Try.prog Try.f4 false true false false) := by
  refine returnsInHanded_of_change (C := Try.checked) (by kernel_rfl) started (by kernel_rfl) Try.func4
    (ChangeSpec.witness6 (enc := enc) (C := Try.checked) false ⟨#[], #[.slice none 0 0], []⟩ 8 (by kernel_rfl) (by kernel_rfl) (by kernel_rfl) (by kernel_rfl)) ?_
  intro W base args ds gs before hval0 hW _ _
  have hval : ∀ (j : Nat) t v, Try.f4.params[j]? = some t → args[j]? = some v → Value.okWide Try.prog W .any base t v := hval0
  clear hval0
  have laidOut : laidOutB Try.prog = true := by as_aux_lemma => kernel_rfl
  have hWc := hW
  obtain ⟨p, q, hA0, hV, rfl, _, _⟩ := hWc
  have hA : DataW.TrodAll enc Try.prog W 0 (fun _ => true) true Try.f4.params.toList args.toList ds p := hA0
  clear hA0
  rw [Try.params4] at hA hval
  obtain ⟨v0, vs0, d0, ds0, p0, q0, hargs, rfl, rfl, h0, r0⟩ := trodAll_cons hA
  obtain ⟨rfl, rfl, rfl⟩ := trodAll_nil r0
  obtain rfl : args = #[v0] := by cases args; simp_all
  obtain ⟨rfl, rfl⟩ := trodVars_none hV
  obtain ⟨L, hs, hq, hn⟩ := read_Bytes (hval 0 22 v0 rfl rfl) h0
  refine (fnSwaps_walk v0 L W hs hq hn).mono fun e W1 ⟨he, hg⟩ => ?_
  subst he
  exact ⟨_, rfl, law_post (tb := 4) laidOut (by kernel_rfl) hW rfl rfl (by kernel_rfl) Try.underlying4 hg⟩
theorem fnSwaps_holds : Rows.FnSwapsSaid :=
  OpenClaim.holds_of_wide 4 Try.f4 rfl rfl rfl rfl rfl rfl rfl ⟨rfl, rfl, rfl, rfl, rfl⟩ rfl rfl rfl rfl rfl (by kernel_rfl) Try.func4 (by kernel_rfl)
    (of_decide_eq_true (by kernel_rfl)) (by unfold Func.isWrapper; first | (rw [if_pos (by decide +kernel)]; kernel_rfl) | (rw [if_neg (by decide +kernel)]; exact ⟨rfl, rfl⟩))
    (fun os started H enc _ => fnSwaps_lifted os started H enc)
#print axioms fnSwaps_holds
end Go.Proofs.Ytlofdpbdnkcnkaa
