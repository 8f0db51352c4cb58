/- FnClassLists returns true for every argument. No condition. -/
import Derived.Test.YtfenempljjenpaaG16
import Derived.Test.YtfenempljjenpaaG20
import Derived.Test.YtfenempljjenpaaG21
import Derived.Test.YtfenempljjenpaaG22
import Derived.Test.YtfenempljjenpaaG19
import Derived.Test.YtfenempljjenpaaG23
import Derived.Test.YtfenempljjenpaaG26
import Derived.Test.YtfenempljjenpaaG27
import Derived.Test.YtfenempljjenpaaG8
import Derived.Test.YtfenempljjenpaaG28
import Derived.Deep.DeepCutAuto
import Derived.Deep.CutBlock
namespace Go.Ori
theorem cntO_at {F : List Int} {c : Int} {i : Nat} (h : i < F.length) : cntO (F.take (i + 1)) c = cntO (F.take i) c + if F[i] = c then 1 else 0 := by
  rw [List.take_succ_eq_append_getElem h, cntO_snoc]
end Go.Ori
namespace Go.Proofs.Ytfenempljjenpaa
open Go.ChangeShapes Go.WideShapes Go.ChangeAt Go.RowKit Go.Ori
set_option maxRecDepth 100000 in
set_option maxHeartbeats 16000000 in
theorem fnClassLists_walk (v : Value) (L : List Int) (w : World) (h : w.sl byteC 1 v L) (hq : ∀ x ∈ L, 0 ≤ x ∧ x ≤ 255) (hn : L.length ≤ 9223372036854775807) :
    Calls Try.prog 3 #[v] w fun x w' => x = .returned (.bool true) ∧ ∃ d, w' = w.ext d := by
  have hs := Lib.hid h
  have HQ := Lib.hid hq
  obtain ⟨p, c, rfl, _⟩ := h
  clear hq
  by_cases hbig : 65536 < L.length
  · have hbb : decide (65536 < L.length) = true := decide_eq_true hbig
    go_enter Try.func3, Try.ntmps3
    go_wp2_with (go_at_call 4; refine (rBig_any _ _ _ _ hn).mono ?_; rw [hbb]; rintro e w1 ⟨rfl, rfl⟩)
    go_ret
    exact ⟨rfl, (by repeat (first | with_reducible (first | exact World.gained_refl _ | exact ⟨_, rfl⟩ | apply gain_ext | apply gain_alloc | apply gain_drewN | apply gain_drew) | (refine gain_setCell ?_ (by first | exact Nat.le_refl _ | exact World.size_ext _ _ | (simp; done) | (simp; omega)) _)))⟩
  have hbb : decide (65536 < L.length) = false := decide_eq_false hbig
  have hl : L.length ≤ 1048576 := by omega
  go_enter Try.func3, Try.ntmps3
  go_wp2_with (go_at_call 4; refine (rBig_any _ _ _ _ hn).mono ?_; rw [hbb]; rintro e w1 ⟨rfl, rfl⟩)
  refine (drawFillClasses_any _ L _ hs.out HQ.out hl).mono ?_
  rintro e w1 ⟨lv, rv, l, rs, rfl, ⟨d1, rfl⟩, hsl, hsr, hll, hrl, hq1, hq2⟩
  have HSL := Lib.hid hsl
  have HSR := Lib.hid hsr
  have HQ1 := Lib.hid hq1
  have HQ2 := Lib.hid hq2
  obtain ⟨p1, c1, rfl, _⟩ := hsl
  obtain ⟨p2, c2, rfl, _⟩ := hsr
  clear hq1 hq2
  go_wp2_with fail
  refine (fillClasses_any _ _ l rs _ HSL.out (by omega) HQ1.out HSR.out (by omega) HQ2.out).mono ?_
  rintro e w2 ⟨v1, rfl, ⟨d2, rfl⟩, o1⟩
  have O1 := Lib.hid (sl_of_own intC_length o1)
  clear o1
  go_wp2_with fail
  refine (specFillClasses_any _ _ l rs _ (by with_reducible (repeat (first | exact HSL.out | refine World.sl_ext Cls.cells_length ?_ _ | refine sl_alloc Cls.cells_length ?_ _ | refine sl_drew ?_))) (by omega) HQ1.out (by with_reducible (repeat (first | exact HSR.out | refine World.sl_ext Runner.cells_length ?_ _ | refine sl_alloc Runner.cells_length ?_ _ | refine sl_drew ?_))) (by omega) HQ2.out).mono ?_
  rintro e w3 ⟨v2, rfl, ⟨d3, rfl⟩, o2⟩
  have O2 := Lib.hid (sl_of_own intC_length o2)
  clear o2
  have HFF := Lib.hid (fun h : fillB l rs = true => fill_facts h)
  have hfl := fillL_length l rs (by omega)
  obtain ⟨p3, c3, rfl, _⟩ := O1.out
  obtain ⟨p4, c4, rfl, _⟩ := O2.out
  generalize fillL l rs = F at O1 O2 HFF hfl ⊢
  generalize fillB l rs = FB at HFF ⊢
  have hFF : (FB != FB) = false := by simp
  go_upto_block 0 with (go_at_call 8; refine (rInts_same _ _ F _ (by with_reducible (repeat (first | exact O1.out | refine World.sl_ext intC_length ?_ _ | refine sl_alloc intC_length ?_ _ | refine sl_drew ?_))) (by with_reducible (repeat (first | exact O2.out | refine World.sl_ext intC_length ?_ _ | refine sl_alloc intC_length ?_ _ | refine sl_drew ?_))) hfl).mono ?_; rintro e w4 ⟨rfl, d4, rfl⟩)
  obtain ⟨dB, hdB⟩ : ∃ dB, (((w.ext d1).ext d2).ext d3).ext d4 = w.ext dB := (by repeat (first | with_reducible (first | exact World.gained_refl _ | exact ⟨_, rfl⟩ | apply gain_ext | apply gain_alloc | apply gain_drewN | apply gain_drew) | (refine gain_setCell ?_ (by first | exact Nat.le_refl _ | exact World.size_ext _ _ | (simp; done) | (simp; omega)) _)))
  have HSL2 := Lib.hid (sl_up (w' := (((w.ext d1).ext d2).ext d3).ext d4) Cls.cells_length HSL.out (by repeat (first | with_reducible (first | exact World.gained_refl _ | exact ⟨_, rfl⟩ | apply gain_ext | apply gain_alloc | apply gain_drewN | apply gain_drew) | (refine gain_setCell ?_ (by first | exact Nat.le_refl _ | exact World.size_ext _ _ | (simp; done) | (simp; omega)) _))))
  have HSR2 := Lib.hid (sl_up (w' := (((w.ext d1).ext d2).ext d3).ext d4) Runner.cells_length HSR.out (by repeat (first | with_reducible (first | exact World.gained_refl _ | exact ⟨_, rfl⟩ | apply gain_ext | apply gain_alloc | apply gain_drewN | apply gain_drew) | (refine gain_setCell ?_ (by first | exact Nat.le_refl _ | exact World.size_ext _ _ | (simp; done) | (simp; omega)) _))))
  have O3 := Lib.hid (sl_up (w' := (((w.ext d1).ext d2).ext d3).ext d4) intC_length O1.out (by repeat (first | with_reducible (first | exact World.gained_refl _ | exact ⟨_, rfl⟩ | apply gain_ext | apply gain_alloc | apply gain_drewN | apply gain_drew) | (refine gain_setCell ?_ (by first | exact Nat.le_refl _ | exact World.size_ext _ _ | (simp; done) | (simp; omega)) _))))
  rw [hdB] at HSL2 HSR2 O3 ⊢
  clear HSL HSR O1 O2 hdB hFF
  go_cut [9, 10, 11, 12, 13, 14] (fun _ _ _ _ _ _ wx => ∃ d, wx = w.ext d)
  case first =>
    cases FB with
    | false =>
      go_wp2_with fail
      go_loopw [9] (fun i_ wr => i_ = .int .i64 0 ∧ ∃ d, wr = w.ext d) (fun _ _ => 0)
      case atStart => exact ⟨rfl, (by repeat (first | with_reducible (first | exact World.gained_refl _ | exact ⟨_, rfl⟩ | apply gain_ext | apply gain_alloc | apply gain_drewN | apply gain_drew) | (refine gain_setCell ?_ (by first | exact Nat.le_refl _ | exact World.size_ext _ _ | (simp; done) | (simp; omega)) _)))⟩
      case round =>
        obtain ⟨rfl, d, rfl⟩ := hrel
        go_wp2_with fail
        all_goals (go_meet; exact (by repeat (first | with_reducible (first | exact World.gained_refl _ | exact ⟨_, rfl⟩ | apply gain_ext | apply gain_alloc | apply gain_drewN | apply gain_drew) | (refine gain_setCell ?_ (by first | exact Nat.le_refl _ | exact World.size_ext _ _ | (simp; done) | (simp; omega)) _))))
    | true =>
      obtain ⟨hFl, hfa⟩ := HFF.out rfl
      have HFA := Lib.hid hfa
      have hF20 : F.length ≤ 20 := by omega
      have HFL := Lib.hid hFl
      clear hfa HFF hFl hfl
      go_wp2_with fail
      go_loopw [9] (fun i_ wr => ∃ k : Nat, k ≤ l.length ∧ i_ = .int .i64 k ∧ ∃ d, wr = (w.ext dB).ext d) (fun i_ _ => l.length - (intOf i_).toNat)
      case atStart => exact ⟨0, by omega, rfl, (by repeat (first | with_reducible (first | exact World.gained_refl _ | exact ⟨_, rfl⟩ | apply gain_ext | apply gain_alloc | apply gain_drewN | apply gain_drew) | (refine gain_setCell ?_ (by first | exact Nat.le_refl _ | exact World.size_ext _ _ | (simp; done) | (simp; omega)) _)))⟩
      case round =>
        obtain ⟨k, hk, rfl, d, rfl⟩ := hrel
        by_cases hlt : k < l.length
        · obtain ⟨hcm, hfi⟩ := HFA.out k hlt
          have HFI := Lib.hid hfi
          have hsm := HQ1.out _ (List.getElem_mem hlt)
          obtain ⟨b1, o1, rfl⟩ := sl_some HSL2.out (by omega)
          have y0 := sl_cells HSL2.out hlt (j := 0) (by omega)
          have y1 := sl_cells HSL2.out hlt (j := 1) (by omega)
          have y2 := sl_cells HSL2.out hlt (j := 2) (by omega)
          have y3 := sl_cells HSL2.out hlt (j := 3) (by omega)
          have y4 := sl_cells HSL2.out hlt (j := 4) (by omega)
          have y5 := sl_cells HSL2.out hlt (j := 5) (by omega)
          have y6 := sl_cells HSL2.out hlt (j := 6) (by omega)
          have y7 := sl_cells HSL2.out hlt (j := 7) (by omega)
          have hkd : decide ((k : Int) < (l.length : Int)) = true := decide_eq_true (by omega)
          have hk0 : (0 : Int) ≤ (k : Int) := by omega
          have hk1 : (k : Int) < (l.length : Int) := by omega
          clear hfi
          generalize l[k] = ck at y0 y1 y2 y3 y4 y5 y6 y7 hcm HFI hsm
          simp only [Cls.cells, List.getElem?_cons_zero, List.getElem?_cons_succ, Nat.add_zero] at y0 y1 y2 y3 y4 y5 y6 y7
          have oby := World.oldB_of_cell y0
          go_wp2_with fail
          go_loopw [10, 11] (fun n_ i_ wr => ∃ i : Nat, i ≤ F.length ∧ i_ = .int .i64 i ∧ n_ = .int .i64 (cntO (F.take i) ck.id : Nat) ∧ ∃ d, wr = (w.ext dB).ext d) (fun _ i_ _ => F.length - (intOf i_).toNat)
          case atStart => exact ⟨0, by omega, rfl, by simp [cntO], (by repeat (first | with_reducible (first | exact World.gained_refl _ | exact ⟨_, rfl⟩ | apply gain_ext | apply gain_alloc | apply gain_drewN | apply gain_drew) | (refine gain_setCell ?_ (by first | exact Nat.le_refl _ | exact World.size_ext _ _ | (simp; done) | (simp; omega)) _)))⟩
          case round =>
            obtain ⟨i, hi, rfl, rfl, d, rfl⟩ := hrel
            by_cases hil : i < F.length
            · obtain ⟨b3, o3, rfl⟩ := sl_some O3.out (by omega)
              have f0 := sl_int O3.out hil
              have HS := Lib.hid (cntO_at (c := ck.id) hil)
              have hcn : cntO (F.take i) ck.id ≤ 20 := by
                have := cntO_le (F.take i) ck.id
                rw [List.length_take] at this
                omega
              have hi0 : (0 : Int) ≤ (i : Int) := by omega
              have hi1 : (i : Int) < (F.length : Int) := by omega
              generalize F[i] = fi at f0 HS
              have obf := World.oldB_of_cell f0
              generalize cntO (F.take i) ck.id = a at HS hcn ⊢
              by_cases he : fi = ck.id
              · rw [if_pos he] at HS
                have hbe : (fi == ck.id) = true := by simp [he]
                clear he
                go_wp2_with fail
                refine wp_region_gain (by kernel_rfl) (by kernel_rfl) ?_
                repeat (first | go_big_quiet_skip | (go_big_quiet_want; go_big_quiet_op; first | go_big_quiet_on))
                refine wpQuiet_nil ?_
                rintro _ ⟨d', rfl⟩
                go_wp2
                go_roundw
                case rel => exact ⟨i + 1, by omega, by go_num, by rw [HS.out, Int.natCast_add]; rfl, (by repeat (first | with_reducible (first | exact World.gained_refl _ | exact ⟨_, rfl⟩ | apply gain_ext | apply gain_alloc | apply gain_drewN | apply gain_drew) | (refine gain_setCell ?_ (by first | exact Nat.le_refl _ | exact World.size_ext _ _ | (simp; done) | (simp; omega)) _)))⟩
                case measure => simp [intOf]; omega
              · rw [if_neg he] at HS
                have hbe : (fi == ck.id) = false := by simpa using he
                clear he
                go_wp2_with fail
                refine wp_region_gain (by kernel_rfl) (by kernel_rfl) ?_
                repeat (first | go_big_quiet_skip | (go_big_quiet_want; go_big_quiet_op; first | go_big_quiet_on))
                refine wpQuiet_nil ?_
                rintro _ ⟨d', rfl⟩
                go_wp2
                go_roundw
                case rel => exact ⟨i + 1, by omega, by go_num, by rw [HS.out, Nat.add_zero], (by repeat (first | with_reducible (first | exact World.gained_refl _ | exact ⟨_, rfl⟩ | apply gain_ext | apply gain_alloc | apply gain_drewN | apply gain_drew) | (refine gain_setCell ?_ (by first | exact Nat.le_refl _ | exact World.size_ext _ _ | (simp; done) | (simp; omega)) _)))⟩
                case measure => simp [intOf]; omega
            · obtain rfl : i = F.length := by omega
              rw [List.take_length]
              generalize cntO F ck.id = N at hcm HFI ⊢
              have hmd : decide (ck.most < (N : Int)) = false := decide_eq_false (by omega)
              clear hil
              go_wp2_with fail
              go_loopw [12] (fun i_ wr => ∃ i : Nat, i ≤ F.length ∧ i_ = .int .i64 i ∧ ∃ d, wr = (w.ext dB).ext d) (fun i_ _ => F.length - (intOf i_).toNat)
              case atStart => exact ⟨0, by omega, rfl, (by repeat (first | with_reducible (first | exact World.gained_refl _ | exact ⟨_, rfl⟩ | apply gain_ext | apply gain_alloc | apply gain_drewN | apply gain_drew) | (refine gain_setCell ?_ (by first | exact Nat.le_refl _ | exact World.size_ext _ _ | (simp; done) | (simp; omega)) _)))⟩
              case round =>
                obtain ⟨i, hi, rfl, d, rfl⟩ := hrel
                by_cases hil : i < F.length
                · have hir : i < rs.length := by rw [← HFL.out]; exact hil
                  obtain ⟨hdo, hz0, hz1⟩ := HFI.out i hil hir
                  obtain ⟨hn1, hn2⟩ := HQ2.out _ (List.getElem_mem hir)
                  obtain ⟨b3, o3, rfl⟩ := sl_some O3.out (by omega)
                  have f0 := sl_int O3.out hil
                  obtain ⟨b2, o2, rfl⟩ := sl_some HSR2.out (by omega)
                  have r0 := sl_cells HSR2.out hir (j := 0) (by omega)
                  have r1 := sl_cells HSR2.out hir (j := 1) (by omega)
                  have r2 := sl_cells HSR2.out hir (j := 2) (by omega)
                  have r3 := sl_cells HSR2.out hir (j := 3) (by omega)
                  have r4 := sl_cells HSR2.out hir (j := 4) (by omega)
                  have r5 := sl_cells HSR2.out hir (j := 5) (by omega)
                  have hi0 : (0 : Int) ≤ (i : Int) := by omega
                  have hi1 : (i : Int) < (F.length : Int) := by omega
                  have hi2 : (i : Int) < (rs.length : Int) := by omega
                  generalize rs[i] = r at r0 r1 r2 r3 r4 r5 hdo hz0 hz1 hn1 hn2
                  simp only [Runner.cells, List.getElem?_cons_zero, List.getElem?_cons_succ, Nat.add_zero] at r0 r1 r2 r3 r4 r5
                  generalize F[i] = fi at f0 hz0 hz1
                  have obf := World.oldB_of_cell f0
                  have obr := World.oldB_of_cell r0
                  have HDA := Lib.hid (fun W => by
                    have h := doesAdmit_any ck r W hsm hn1 hn2
                    rw [hdo, Bool.true_and] at h
                    exact h)
                  clear hdo
                  generalize admitB ck r = AD at hz0 hz1 HDA
                  go_wp2_with fail
                  refine wp_region_gain (by kernel_rfl) (by kernel_rfl) ?_
                  repeat (first | go_big_quiet_skip | (go_big_quiet_want; go_big_quiet_op; first | go_big_quiet_on | ((apply Exists.intro); (refine ⟨fun _ => ?_, ?_⟩); (· (go_at_call 9; exact Calls.gain (HDA.out _))); (go_big_quiet_on))))
                  refine wpQuiet_nil ?_
                  rintro _ ⟨d', rfl⟩
                  have HF1 : Hid ((AD = true ∧ ((fi == 0) = false ∨ ((fi == 0) = true ∧ decide ((N : Int) < ck.most) = false))) ∨ (AD = false ∧ (fi == ck.id) = false)) := Lib.hid (by
                    cases AD with
                    | true =>
                      by_cases e0 : fi = 0
                      · have := hz0 e0 rfl
                        exact .inl ⟨rfl, .inr ⟨by simp [e0], decide_eq_false (by omega)⟩⟩
                      · exact .inl ⟨rfl, .inl (by simpa using e0)⟩
                    | false =>
                      by_cases e0 : fi = ck.id
                      · have := hz1 e0; cases this
                      · exact .inr ⟨rfl, by simpa using e0⟩)
                  clear hz0 hz1 HDA
                  rcases HF1.out with ⟨rfl, h1 | ⟨h1, h2⟩⟩ | ⟨rfl, h1⟩
                  · clear HF1
                    cases h3 : (fi == ck.id) with
                    | true =>
                      go_wp2_with fail
                      refine wp_region_gain (by kernel_rfl) (by kernel_rfl) ?_
                      repeat (first | go_big_quiet_skip | (go_big_quiet_want; go_big_quiet_op; first | go_big_quiet_on))
                      refine wpQuiet_nil ?_
                      rintro _ ⟨d', rfl⟩
                      go_wp2
                      go_roundw
                      case rel => exact ⟨i + 1, by omega, by go_num, (by repeat (first | with_reducible (first | exact World.gained_refl _ | exact ⟨_, rfl⟩ | apply gain_ext | apply gain_alloc | apply gain_drewN | apply gain_drew) | (refine gain_setCell ?_ (by first | exact Nat.le_refl _ | exact World.size_ext _ _ | (simp; done) | (simp; omega)) _)))⟩
                      case measure => simp [intOf]; omega
                    | false =>
                      go_wp2_with fail
                      refine wp_region_gain (by kernel_rfl) (by kernel_rfl) ?_
                      repeat (first | go_big_quiet_skip | (go_big_quiet_want; go_big_quiet_op; first | go_big_quiet_on))
                      refine wpQuiet_nil ?_
                      rintro _ ⟨d', rfl⟩
                      go_wp2
                      go_roundw
                      case rel => exact ⟨i + 1, by omega, by go_num, (by repeat (first | with_reducible (first | exact World.gained_refl _ | exact ⟨_, rfl⟩ | apply gain_ext | apply gain_alloc | apply gain_drewN | apply gain_drew) | (refine gain_setCell ?_ (by first | exact Nat.le_refl _ | exact World.size_ext _ _ | (simp; done) | (simp; omega)) _)))⟩
                      case measure => simp [intOf]; omega
                  · clear HF1
                    cases h3 : (fi == ck.id) with
                    | true =>
                      go_wp2_with fail
                      refine wp_region_gain (by kernel_rfl) (by kernel_rfl) ?_
                      repeat (first | go_big_quiet_skip | (go_big_quiet_want; go_big_quiet_op; first | go_big_quiet_on))
                      refine wpQuiet_nil ?_
                      rintro _ ⟨d', rfl⟩
                      go_wp2
                      go_roundw
                      case rel => exact ⟨i + 1, by omega, by go_num, (by repeat (first | with_reducible (first | exact World.gained_refl _ | exact ⟨_, rfl⟩ | apply gain_ext | apply gain_alloc | apply gain_drewN | apply gain_drew) | (refine gain_setCell ?_ (by first | exact Nat.le_refl _ | exact World.size_ext _ _ | (simp; done) | (simp; omega)) _)))⟩
                      case measure => simp [intOf]; omega
                    | false =>
                      go_wp2_with fail
                      refine wp_region_gain (by kernel_rfl) (by kernel_rfl) ?_
                      repeat (first | go_big_quiet_skip | (go_big_quiet_want; go_big_quiet_op; first | go_big_quiet_on))
                      refine wpQuiet_nil ?_
                      rintro _ ⟨d', rfl⟩
                      go_wp2
                      go_roundw
                      case rel => exact ⟨i + 1, by omega, by go_num, (by repeat (first | with_reducible (first | exact World.gained_refl _ | exact ⟨_, rfl⟩ | apply gain_ext | apply gain_alloc | apply gain_drewN | apply gain_drew) | (refine gain_setCell ?_ (by first | exact Nat.le_refl _ | exact World.size_ext _ _ | (simp; done) | (simp; omega)) _)))⟩
                      case measure => simp [intOf]; omega
                  · clear HF1
                    cases h3 : (fi == 0) with
                    | true =>
                      go_wp2_with fail
                      refine wp_region_gain (by kernel_rfl) (by kernel_rfl) ?_
                      repeat (first | go_big_quiet_skip | (go_big_quiet_want; go_big_quiet_op; first | go_big_quiet_on))
                      refine wpQuiet_nil ?_
                      rintro _ ⟨d', rfl⟩
                      go_wp2
                      go_roundw
                      case rel => exact ⟨i + 1, by omega, by go_num, (by repeat (first | with_reducible (first | exact World.gained_refl _ | exact ⟨_, rfl⟩ | apply gain_ext | apply gain_alloc | apply gain_drewN | apply gain_drew) | (refine gain_setCell ?_ (by first | exact Nat.le_refl _ | exact World.size_ext _ _ | (simp; done) | (simp; omega)) _)))⟩
                      case measure => simp [intOf]; omega
                    | false =>
                      go_wp2_with fail
                      refine wp_region_gain (by kernel_rfl) (by kernel_rfl) ?_
                      repeat (first | go_big_quiet_skip | (go_big_quiet_want; go_big_quiet_op; first | go_big_quiet_on))
                      refine wpQuiet_nil ?_
                      rintro _ ⟨d', rfl⟩
                      go_wp2
                      go_roundw
                      case rel => exact ⟨i + 1, by omega, by go_num, (by repeat (first | with_reducible (first | exact World.gained_refl _ | exact ⟨_, rfl⟩ | apply gain_ext | apply gain_alloc | apply gain_drewN | apply gain_drew) | (refine gain_setCell ?_ (by first | exact Nat.le_refl _ | exact World.size_ext _ _ | (simp; done) | (simp; omega)) _)))⟩
                      case measure => simp [intOf]; omega
                · go_wp2
                  go_roundw
                  case rel => exact ⟨k + 1, by omega, by go_num, (by repeat (first | with_reducible (first | exact World.gained_refl _ | exact ⟨_, rfl⟩ | apply gain_ext | apply gain_alloc | apply gain_drewN | apply gain_drew) | (refine gain_setCell ?_ (by first | exact Nat.le_refl _ | exact World.size_ext _ _ | (simp; done) | (simp; omega)) _)))⟩
                  case measure => simp [intOf]; omega
        · have hkd : decide ((k : Int) < (l.length : Int)) = false := decide_eq_false (by omega)
          go_wp2_with fail
          all_goals (go_meet; exact (by repeat (first | with_reducible (first | exact World.gained_refl _ | exact ⟨_, rfl⟩ | apply gain_ext | apply gain_alloc | apply gain_drewN | apply gain_drew) | (refine gain_setCell ?_ (by first | exact Nat.le_refl _ | exact World.size_ext _ _ | (simp; done) | (simp; omega)) _))))
  obtain ⟨dC, rfl⟩ := hcut
  clear HFF hfl HSL2 HSR2 O3 HQ1 HQ2 hll hrl
  go_wp2_with fail
  refine (drawAgesWithout_any _ L _ (by with_reducible (repeat (first | exact hs.out | refine World.sl_ext byteC_length ?_ _ | refine sl_alloc byteC_length ?_ _ | refine sl_drew ?_))) HQ.out hl).mono ?_
  rintro e w1 ⟨lv, l, woman, rfl, ⟨d1, rfl⟩, hsl, hll, hq1⟩
  have HSL := Lib.hid hsl
  have HQ1 := Lib.hid hq1
  obtain ⟨p1, c1, rfl, _⟩ := hsl
  clear hq1
  go_wp2_with fail
  refine (agesWithout_any _ l woman _ HSL.out (by omega) HQ1.out).mono ?_
  rintro e w2 ⟨r1, vs1, rfl, ⟨d2, rfl⟩, hr1, -⟩
  have R1 := Lib.hid (sl2_of_own (rows2_own hr1))
  clear hr1
  obtain ⟨p5, c5, rfl⟩ := sl2_form R1.out
  go_wp2_with fail
  refine (specAgesWithout_any _ l woman _ (by with_reducible (repeat (first | exact HSL.out | refine World.sl_ext Cls.cells_length ?_ _ | refine sl_alloc Cls.cells_length ?_ _ | refine sl_drew ?_))) (by omega) HQ1.out).mono ?_
  rintro e w3 ⟨r2, vs2, rfl, ⟨d3, rfl⟩, hr2, -⟩
  have R2 := Lib.hid (sl2_of_own (rows2_own hr2))
  clear hr2
  obtain ⟨p6, c6, rfl⟩ := sl2_form R2.out
  have HT := Lib.hid (agesL_tot l woman)
  obtain ⟨hA121, hAf⟩ := agesL_facts l woman
  have HAF := Lib.hid hAf
  clear hAf
  generalize agesL l woman = A at R1 R2 HT hA121 HAF ⊢
  generalize clssB l = CB
  have hCC : (CB != CB) = false := by simp
  go_upto_block 6 with (go_at_call 13; refine (rTable_same _ _ A _ (sl2_up R1.out (by repeat (first | with_reducible (first | exact World.gained_refl _ | exact ⟨_, rfl⟩ | apply gain_ext | apply gain_alloc | apply gain_drewN | apply gain_drew) | (refine gain_setCell ?_ (by first | exact Nat.le_refl _ | exact World.size_ext _ _ | (simp; done) | (simp; omega)) _)))) (sl2_up R2.out (by repeat (first | with_reducible (first | exact World.gained_refl _ | exact ⟨_, rfl⟩ | apply gain_ext | apply gain_alloc | apply gain_drewN | apply gain_drew) | (refine gain_setCell ?_ (by first | exact Nat.le_refl _ | exact World.size_ext _ _ | (simp; done) | (simp; omega)) _)))) HT.out).mono ?_; rintro e w1 ⟨rfl, d4, rfl⟩)
  obtain ⟨dB, hdB⟩ : ∃ dB, ((((w.ext dC).ext d1).ext d2).ext d3).ext d4 = w.ext dB := (by repeat (first | with_reducible (first | exact World.gained_refl _ | exact ⟨_, rfl⟩ | apply gain_ext | apply gain_alloc | apply gain_drewN | apply gain_drew) | (refine gain_setCell ?_ (by first | exact Nat.le_refl _ | exact World.size_ext _ _ | (simp; done) | (simp; omega)) _)))
  have HSL2 := Lib.hid (sl_up (w' := ((((w.ext dC).ext d1).ext d2).ext d3).ext d4) Cls.cells_length HSL.out (by repeat (first | with_reducible (first | exact World.gained_refl _ | exact ⟨_, rfl⟩ | apply gain_ext | apply gain_alloc | apply gain_drewN | apply gain_drew) | (refine gain_setCell ?_ (by first | exact Nat.le_refl _ | exact World.size_ext _ _ | (simp; done) | (simp; omega)) _))))
  have R3 := Lib.hid (sl2_up (w' := ((((w.ext dC).ext d1).ext d2).ext d3).ext d4) R1.out (by repeat (first | with_reducible (first | exact World.gained_refl _ | exact ⟨_, rfl⟩ | apply gain_ext | apply gain_alloc | apply gain_drewN | apply gain_drew) | (refine gain_setCell ?_ (by first | exact Nat.le_refl _ | exact World.size_ext _ _ | (simp; done) | (simp; omega)) _))))
  rw [hdB] at HSL2 R3 ⊢
  clear HSL R1 R2 hdB hCC HT
  go_cut [21, 22] (fun _ _ wx => ∃ d, wx = w.ext d)
  case first =>
    go_wp2_with fail
    go_loopw [21] (fun i_ wr => ∃ k : Nat, k ≤ A.length ∧ i_ = .int .i64 k ∧ ∃ d, wr = (w.ext dB).ext d) (fun i_ _ => A.length - (intOf i_).toNat)
    case atStart => exact ⟨0, by omega, rfl, (by repeat (first | with_reducible (first | exact World.gained_refl _ | exact ⟨_, rfl⟩ | apply gain_ext | apply gain_alloc | apply gain_drewN | apply gain_drew) | (refine gain_setCell ?_ (by first | exact Nat.le_refl _ | exact World.size_ext _ _ | (simp; done) | (simp; omega)) _)))⟩
    case round =>
      obtain ⟨k, hk, rfl, d, rfl⟩ := hrel
      by_cases hlt : k < A.length
      · obtain ⟨a, b, hab, hno⟩ := HAF.out _ (List.getElem_mem hlt)
        have HNO := Lib.hid hno
        obtain ⟨b5, o5, rfl⟩ := slOf_some R3.out (by omega)
        obtain ⟨u, cu, hu⟩ := slOf_at R3.out hlt
        rw [hab] at hu
        obtain ⟨pu, ku, rfl⟩ := sl1_form hu
        obtain ⟨bu, ou, rfl⟩ := sl_some (w := w.ext dB) (enc := intC) (sz := 1) (l := [a, b]) hu (by simp)
        have e0 := sl_int (w := w.ext dB) (l := [a, b]) hu (k := 0) (by simp)
        have e1 := sl_int (w := w.ext dB) (l := [a, b]) hu (k := 1) (by simp)
        simp only [List.getElem_cons_zero, List.getElem_cons_succ, Nat.add_zero, List.length_cons, List.length_nil] at e0 e1 cu
        have obu := World.oldB_of_cell cu
        have obe := World.oldB_of_cell e0
        have hk0 : (0 : Int) ≤ (k : Int) := by omega
        have hk1 : (k : Int) < (A.length : Int) := by omega
        clear hno hab hu
        go_wp2_with fail
        go_loopw [22] (fun i_ wr => ∃ j : Nat, j ≤ l.length ∧ i_ = .int .i64 j ∧ ∃ d, wr = (w.ext dB).ext d) (fun i_ _ => l.length - (intOf i_).toNat)
        case atStart => exact ⟨0, by omega, rfl, (by repeat (first | with_reducible (first | exact World.gained_refl _ | exact ⟨_, rfl⟩ | apply gain_ext | apply gain_alloc | apply gain_drewN | apply gain_drew) | (refine gain_setCell ?_ (by first | exact Nat.le_refl _ | exact World.size_ext _ _ | (simp; done) | (simp; omega)) _)))⟩
        case round =>
          obtain ⟨j, hj, rfl, d, rfl⟩ := hrel
          by_cases hjl : j < l.length
          · have HN := Lib.hid (HNO.out j hjl)
            obtain ⟨b1, o1, rfl⟩ := sl_some HSL2.out (by omega)
            have y2 := sl_cells HSL2.out hjl (j := 2) (by omega)
            have y3 := sl_cells HSL2.out hjl (j := 3) (by omega)
            have y4 := sl_cells HSL2.out hjl (j := 4) (by omega)
            have y5 := sl_cells HSL2.out hjl (j := 5) (by omega)
            have hj0 : (0 : Int) ≤ (j : Int) := by omega
            have hj1 : (j : Int) < (l.length : Int) := by omega
            generalize l[j] = ck at y2 y3 y4 y5 HN
            simp only [Cls.cells, List.getElem?_cons_zero, List.getElem?_cons_succ] at y2 y3 y4 y5
            have oby := World.oldB_of_cell y2
            obtain ⟨ci, cn, clo, chi, cw, cm, cc, cmo⟩ := ck
            simp only at y2 y3 y4 y5 HN
            cases woman with
            | true =>
              cases cw with
              | true =>
                by_cases h1 : clo ≤ b
                · have h2 := HN.out (by simp) h1
                  have hf : decide (clo ≤ b) = true := decide_eq_true h1
                  have hg : decide (a ≤ chi) = false := decide_eq_false (by omega)
                  clear h1 h2 HN
                  go_wp2_with fail
                  refine wp_region_gain (by kernel_rfl) (by kernel_rfl) ?_
                  repeat (first | go_big_quiet_skip | (go_big_quiet_want; go_big_quiet_op; first | go_big_quiet_on))
                  refine wpQuiet_nil ?_
                  rintro _ ⟨d', rfl⟩
                  go_wp2
                  go_roundw
                  case rel => exact ⟨j + 1, by omega, by go_num, (by repeat (first | with_reducible (first | exact World.gained_refl _ | exact ⟨_, rfl⟩ | apply gain_ext | apply gain_alloc | apply gain_drewN | apply gain_drew) | (refine gain_setCell ?_ (by first | exact Nat.le_refl _ | exact World.size_ext _ _ | (simp; done) | (simp; omega)) _)))⟩
                  case measure => simp [intOf]; omega
                · have hf : decide (clo ≤ b) = false := decide_eq_false h1
                  clear h1 HN
                  go_wp2_with fail
                  refine wp_region_gain (by kernel_rfl) (by kernel_rfl) ?_
                  repeat (first | go_big_quiet_skip | (go_big_quiet_want; go_big_quiet_op; first | go_big_quiet_on))
                  refine wpQuiet_nil ?_
                  rintro _ ⟨d', rfl⟩
                  go_wp2
                  go_roundw
                  case rel => exact ⟨j + 1, by omega, by go_num, (by repeat (first | with_reducible (first | exact World.gained_refl _ | exact ⟨_, rfl⟩ | apply gain_ext | apply gain_alloc | apply gain_drewN | apply gain_drew) | (refine gain_setCell ?_ (by first | exact Nat.le_refl _ | exact World.size_ext _ _ | (simp; done) | (simp; omega)) _)))⟩
                  case measure => simp [intOf]; omega
              | false =>
                clear HN
                go_wp2_with fail
                refine wp_region_gain (by kernel_rfl) (by kernel_rfl) ?_
                repeat (first | go_big_quiet_skip | (go_big_quiet_want; go_big_quiet_op; first | go_big_quiet_on))
                refine wpQuiet_nil ?_
                rintro _ ⟨d', rfl⟩
                go_wp2
                go_roundw
                case rel => exact ⟨j + 1, by omega, by go_num, (by repeat (first | with_reducible (first | exact World.gained_refl _ | exact ⟨_, rfl⟩ | apply gain_ext | apply gain_alloc | apply gain_drewN | apply gain_drew) | (refine gain_setCell ?_ (by first | exact Nat.le_refl _ | exact World.size_ext _ _ | (simp; done) | (simp; omega)) _)))⟩
                case measure => simp [intOf]; omega
            | false =>
              cases cm with
              | true =>
                by_cases h1 : clo ≤ b
                · have h2 := HN.out (by simp) h1
                  have hf : decide (clo ≤ b) = true := decide_eq_true h1
                  have hg : decide (a ≤ chi) = false := decide_eq_false (by omega)
                  clear h1 h2 HN
                  go_wp2_with fail
                  refine wp_region_gain (by kernel_rfl) (by kernel_rfl) ?_
                  repeat (first | go_big_quiet_skip | (go_big_quiet_want; go_big_quiet_op; first | go_big_quiet_on))
                  refine wpQuiet_nil ?_
                  rintro _ ⟨d', rfl⟩
                  go_wp2
                  go_roundw
                  case rel => exact ⟨j + 1, by omega, by go_num, (by repeat (first | with_reducible (first | exact World.gained_refl _ | exact ⟨_, rfl⟩ | apply gain_ext | apply gain_alloc | apply gain_drewN | apply gain_drew) | (refine gain_setCell ?_ (by first | exact Nat.le_refl _ | exact World.size_ext _ _ | (simp; done) | (simp; omega)) _)))⟩
                  case measure => simp [intOf]; omega
                · have hf : decide (clo ≤ b) = false := decide_eq_false h1
                  clear h1 HN
                  go_wp2_with fail
                  refine wp_region_gain (by kernel_rfl) (by kernel_rfl) ?_
                  repeat (first | go_big_quiet_skip | (go_big_quiet_want; go_big_quiet_op; first | go_big_quiet_on))
                  refine wpQuiet_nil ?_
                  rintro _ ⟨d', rfl⟩
                  go_wp2
                  go_roundw
                  case rel => exact ⟨j + 1, by omega, by go_num, (by repeat (first | with_reducible (first | exact World.gained_refl _ | exact ⟨_, rfl⟩ | apply gain_ext | apply gain_alloc | apply gain_drewN | apply gain_drew) | (refine gain_setCell ?_ (by first | exact Nat.le_refl _ | exact World.size_ext _ _ | (simp; done) | (simp; omega)) _)))⟩
                  case measure => simp [intOf]; omega
              | false =>
                clear HN
                go_wp2_with fail
                refine wp_region_gain (by kernel_rfl) (by kernel_rfl) ?_
                repeat (first | go_big_quiet_skip | (go_big_quiet_want; go_big_quiet_op; first | go_big_quiet_on))
                refine wpQuiet_nil ?_
                rintro _ ⟨d', rfl⟩
                go_wp2
                go_roundw
                case rel => exact ⟨j + 1, by omega, by go_num, (by repeat (first | with_reducible (first | exact World.gained_refl _ | exact ⟨_, rfl⟩ | apply gain_ext | apply gain_alloc | apply gain_drewN | apply gain_drew) | (refine gain_setCell ?_ (by first | exact Nat.le_refl _ | exact World.size_ext _ _ | (simp; done) | (simp; omega)) _)))⟩
                case measure => simp [intOf]; omega
          · go_wp2
            go_roundw
            case rel => exact ⟨k + 1, by omega, by go_num, (by repeat (first | with_reducible (first | exact World.gained_refl _ | exact ⟨_, rfl⟩ | apply gain_ext | apply gain_alloc | apply gain_drewN | apply gain_drew) | (refine gain_setCell ?_ (by first | exact Nat.le_refl _ | exact World.size_ext _ _ | (simp; done) | (simp; omega)) _)))⟩
            case measure => simp [intOf]; omega
      · go_wp2_with fail
        go_meet
        exact (by repeat (first | with_reducible (first | exact World.gained_refl _ | exact ⟨_, rfl⟩ | apply gain_ext | apply gain_alloc | apply gain_drewN | apply gain_drew) | (refine gain_setCell ?_ (by first | exact Nat.le_refl _ | exact World.size_ext _ _ | (simp; done) | (simp; omega)) _)))
  obtain ⟨dD, rfl⟩ := hcut
  clear HSL2 R3 HAF HQ1 hll hA121
  go_wp2_with fail
  refine (drawSharedCourses_any _ L _ (by with_reducible (repeat (first | exact hs.out | refine World.sl_ext byteC_length ?_ _ | refine sl_alloc byteC_length ?_ _ | refine sl_drew ?_))) HQ.out hl).mono ?_
  rintro e w1 ⟨lv, l, rfl, ⟨d1, rfl⟩, hsl, hll, hq1⟩
  have HSL := Lib.hid hsl
  have HQ1 := Lib.hid hq1
  obtain ⟨p1, c1, rfl, _⟩ := hsl
  clear hq1
  go_wp2_with fail
  refine (sharedCourses_any _ l _ HSL.out (by omega) HQ1.out).mono ?_
  rintro e w2 ⟨v1, rfl, ⟨d2, rfl⟩, o1⟩
  have O1 := Lib.hid (sl_of_own intC_length o1)
  clear o1
  go_wp2_with fail
  refine (specSharedCourses_any _ l _ (by with_reducible (repeat (first | exact HSL.out | refine World.sl_ext Cls.cells_length ?_ _ | refine sl_alloc Cls.cells_length ?_ _ | refine sl_drew ?_))) (by omega) HQ1.out).mono ?_
  rintro e w3 ⟨v2, rfl, ⟨d3, rfl⟩, o2⟩
  have O2 := Lib.hid (sl_of_own intC_length o2)
  clear o2
  have hsh := sharedL_length l
  have HAC := Lib.hid (fun W hW => areClasses_any (.slice p1 l.length c1) l W hW (by omega) HQ1.out)
  obtain ⟨p3, c3, rfl, _⟩ := O1.out
  obtain ⟨p4, c4, rfl, _⟩ := O2.out
  generalize sharedL l = S at O1 O2 hsh ⊢
  generalize clssB l = CB at HAC ⊢
  have hCC : (CB != CB) = false := by simp
  go_wp2_with (first | (go_at_call 8; refine (rInts_same _ _ S _ (by with_reducible (repeat (first | exact O1.out | refine World.sl_ext intC_length ?_ _ | refine sl_alloc intC_length ?_ _ | refine sl_drew ?_))) (by with_reducible (repeat (first | exact O2.out | refine World.sl_ext intC_length ?_ _ | refine sl_alloc intC_length ?_ _ | refine sl_drew ?_))) hsh).mono ?_; rintro e w4 ⟨rfl, d4, rfl⟩) | (go_at_call 17; refine (HAC.out _ (by with_reducible (repeat (first | exact HSL.out | refine World.sl_ext Cls.cells_length ?_ _ | refine sl_alloc Cls.cells_length ?_ _ | refine sl_drew ?_)))).mono ?_; rintro e w5 ⟨rfl, d5, rfl⟩))
  clear HAC O1 O2 HSL HQ1 hll hsh hCC
  refine (drawCourseOf_any _ L _ (by with_reducible (repeat (first | exact hs.out | refine World.sl_ext byteC_length ?_ _ | refine sl_alloc byteC_length ?_ _ | refine sl_drew ?_))) HQ.out hl).mono ?_
  rintro e w1 ⟨lv, l, id, rfl, ⟨d6, rfl⟩, hsl, hll, hq1⟩
  have HSL := Lib.hid hsl
  have HQ1 := Lib.hid hq1
  obtain ⟨p1, c1, rfl, _⟩ := hsl
  clear hq1
  go_wp2_with fail
  refine (courseOf_any _ l id _ HSL.out (by omega) HQ1.out).mono ?_
  rintro e w2 ⟨rfl, d7, rfl⟩
  go_wp2_with fail
  refine (specCourseOf_any _ l id _ (by with_reducible (repeat (first | exact HSL.out | refine World.sl_ext Cls.cells_length ?_ _ | refine sl_alloc Cls.cells_length ?_ _ | refine sl_drew ?_))) (by omega) HQ1.out).mono ?_
  rintro e w3 ⟨rfl, d8, rfl⟩
  generalize courseB l id = SB
  generalize courseI l id = SI
  have hBB : (SB == SB) = true := by simp
  have hII : (SI == SI) = true := by simp
  go_wp2
  go_ret
  exact ⟨rfl, (by repeat (first | with_reducible (first | exact World.gained_refl _ | exact ⟨_, rfl⟩ | apply gain_ext | apply gain_alloc | apply gain_drewN | apply gain_drew) | (refine gain_setCell ?_ (by first | exact Nat.le_refl _ | exact World.size_ext _ _ | (simp; done) | (simp; omega)) _)))⟩
set_option maxRecDepth 100000 in
theorem fnClassLists_lifted (os : Os) (started : os.Started) (H : Type) (enc : TypeId × Value → H) :
    ReturnsInHanded {} Try.checked os 3 .any (Rows.fnClassListsSpec.pre6 enc Try.prog Try.f3 Rows.fnClassListsRow.domain false) (Rows.fnClassListsSpec.post enc Try.prog Try.f3 false true false false) := by
  refine returnsInHanded_of_change (C := Try.checked) (by kernel_rfl) started (by kernel_rfl) Try.func3
    (ChangeSpec.witness6 (enc := enc) (C := Try.checked) false ⟨#[], #[.slice none 0 0], []⟩ 8 (by kernel_rfl) (by kernel_rfl) (by kernel_rfl) (by kernel_rfl)) ?_
  intro W base args ds gs before hval0 hW _ _
  have hval : ∀ (j : Nat) t v, Try.f3.params[j]? = some t → args[j]? = some v → Value.okWide Try.prog W .any base t v := hval0
  clear hval0
  have laidOut : laidOutB Try.prog = true := by as_aux_lemma => kernel_rfl
  have hWc := hW
  obtain ⟨p, q, hA0, hV, rfl, _, _⟩ := hWc
  have hA : DataW.TrodAll enc Try.prog W 0 (fun _ => true) true Try.f3.params.toList args.toList ds p := hA0
  clear hA0
  rw [Try.params3] at hA hval
  obtain ⟨v0, vs0, d0, ds0, p0, q0, hargs, rfl, rfl, h0, r0⟩ := trodAll_cons hA
  obtain ⟨rfl, rfl, rfl⟩ := trodAll_nil r0
  obtain rfl : args = #[v0] := by cases args; simp_all
  obtain ⟨rfl, rfl⟩ := trodVars_none hV
  obtain ⟨l1, hs1, hq1, hm1⟩ := read_Bytes (hval 0 22 v0 rfl rfl) h0
  refine (fnClassLists_walk v0 l1 W hs1 hq1 hm1).mono fun e W1 ⟨he, hg⟩ => ?_
  subst he
  exact ⟨_, rfl, law_post (tb := 4) laidOut (by kernel_rfl) hW rfl rfl (by kernel_rfl) Try.underlying4 hg⟩
theorem fnClassLists_holds : Rows.FnClassListsSaid :=
  OpenClaim.holds_of_wide 3 Try.f3 rfl rfl rfl rfl rfl rfl rfl ⟨rfl, rfl, rfl, rfl, rfl⟩ rfl rfl rfl rfl rfl (by kernel_rfl) Try.func3 (by kernel_rfl)
    (of_decide_eq_true (by kernel_rfl)) (by unfold Func.isWrapper; first | (rw [if_pos (by decide +kernel)]; kernel_rfl) | (rw [if_neg (by decide +kernel)]; exact ⟨rfl, rfl⟩))
    (fun os started H enc _ => fnClassLists_lifted os started H enc)
#print axioms fnClassLists_holds
end Go.Proofs.Ytfenempljjenpaa
