/- FnControls returns true for every argument. No condition. -/
import Derived.Test.YtedpckkoaioooaaDrawCtl
import Derived.Test.YtedpckkoaioooaaDrawCodeAt
import Derived.Test.YtedpckkoaioooaaCtlMovI
import Derived.Test.YtedpckkoaioooaaCtlMovS
import Derived.Test.YtedpckkoaioooaaCtlRecI
import Derived.Test.YtedpckkoaioooaaCtlRecS
import Derived.Test.YtedpckkoaioooaaCtlOps
import Derived.Test.YtedpckkoaioooaaPMov
import Derived.Test.YtedpckkoaioooaaVLaws
import Derived.Test.YtedpckkoaioooaaRdBytes
import Derived.Deep.DeepCutAuto
namespace Go.Ori
theorem movL_len (m : Mp) (l : List Ctl) (r s : Int) : (movL m l r s).length ≤ 1048576 := by
  cases h : movB m l r s with
  | false => rw [movL_no h]; simp
  | true =>
    have h0 := h
    simp only [movB, Bool.and_eq_true] at h
    have h2 := ctlsB_len h.2
    rw [movL, if_pos h0, wCL, if_pos h.2]
    omega
theorem recL_len (m : Mp) (l : List Ctl) (r s : Int) : (recL m l r s).length ≤ 1048576 := by
  cases h : recB m l r s with
  | false => rw [recL_no h]; simp
  | true =>
    have h0 := h
    simp only [recB, Bool.and_eq_true] at h
    have h2 := ctlsB_len h.2
    rw [recL, if_pos h0, wCL, if_pos h.2]
    omega
end Go.Ori
namespace Go.Proofs.Ytedpckkoaioooaa
open Go.ChangeShapes Go.WideShapes Go.ChangeAt Go.RowKit Go.Ori
set_option maxRecDepth 100000 in
set_option maxHeartbeats 8000000 in
theorem fnControls_walk (v : Value) (L : List Int) (w : World) (h : w.sl byteC 1 v L) (hq : ∀ x ∈ L, 0 ≤ x ∧ x ≤ 255) (hn : L.length ≤ 9223372036854775807) :
    Calls Try.prog 3 #[v] w fun x w' => x = .returned (.bool true) ∧ ∃ d, w' = w.ext d := by
  have hs := Lib.hid h
  have HQ := Lib.hid hq
  obtain ⟨p, c, rfl, _⟩ := h
  clear hq
  by_cases hbig : 65536 < L.length
  · have hbb : decide (65536 < L.length) = true := decide_eq_true hbig
    go_enter Try.func3, Try.ntmps3
    go_wp2_with (go_at_call 8; refine (vBig_any _ _ _ _ hn).mono ?_; rw [hbb]; rintro e w1 ⟨rfl, rfl⟩)
    go_ret
    exact ⟨rfl, (by repeat (first | with_reducible (first | exact World.gained_refl _ | exact ⟨_, rfl⟩ | apply gain_ext | apply gain_alloc | apply gain_drewN | apply gain_drew) | (refine gain_setCell ?_ (by first | exact Nat.le_refl _ | exact World.size_ext _ _ | (simp; done) | (simp; omega)) _)))⟩
  have hbb : decide (65536 < L.length) = false := decide_eq_false hbig
  have hl : L.length ≤ 1048576 := by omega
  go_enter Try.func3, Try.ntmps3
  go_wp2_with (go_at_call 8; refine (vBig_any _ _ _ _ hn).mono ?_; rw [hbb]; rintro e w1 ⟨rfl, rfl⟩)
  refine (drawMoveControl_any _ L _ hs.out HQ.out hl).mono ?_
  rintro e w1 ⟨m, rv, cv, lv, l, n1, n2, rfl, ⟨d1, rfl⟩, ho1, ho2, hrl, hcl, ho3, hll⟩
  have HM := Lib.hid (show World.mp (w.ext d1) _ _ m from ⟨sl_of_own intC_length ho1, sl_of_own intC_length ho2, by omega, by omega⟩)
  have HL := Lib.hid (sl_of_own Ctl.cells_length ho3)
  obtain ⟨p1, c1, p2, c2, rfl, rfl⟩ := mp_form HM.out
  obtain ⟨p3, c3, rfl, _⟩ := HL.out
  clear ho1 ho2 ho3
  go_wp2_with fail
  generalize hW0 : World.alloc (w.ext d1) (.cells #[.int .i64 m.wd, .int .i64 m.ht, .slice p1 m.rise.length c1, .slice p2 m.cost.length c2] 26) = W0
  have hbx : MBox (w.ext d1) W0 (w.ext d1).heap.size m (.slice p1 m.rise.length c1) (.slice p2 m.cost.length c2) := by rw [← hW0]; exact mbox
  have HGW : ∃ d, W0 = w.ext d := gain_trans (by repeat (first | with_reducible (first | exact World.gained_refl _ | exact ⟨_, rfl⟩ | apply gain_ext | apply gain_alloc | apply gain_drewN | apply gain_drew) | (refine gain_setCell ?_ (by first | exact Nat.le_refl _ | exact World.size_ext _ _ | (simp; done) | (simp; omega)) _))) hbx.up
  have HM0 := Lib.hid (mp_up HM.out hbx.up)
  have HL0 := Lib.hid (sl_up Ctl.cells_length HL.out hbx.up)
  have bx0 := hbx.c0
  have bx1 := hbx.c1
  have bx2 := hbx.c2
  have bx3 := hbx.c3
  have obx := hbx.ob
  generalize ((w.ext d1)).heap.size = gB at bx0 bx1 bx2 bx3 obx ⊢
  clear hW0 hbx HM HL
  obtain ⟨dz, rfl⟩ := HGW
  have hl20 : l.length ≤ 1048576 := by omega
  have HYES := Lib.hid (fun (h : movB m l n1 n2 = true) => mov_facts h)
  have HOL := Lib.hid (movL_len m l n1 n2)
  have HAC := Lib.hid (fun W hM hL => areControls_any m (.slice p1 m.rise.length c1) (.slice p2 m.cost.length c2) (.slice p3 l.length c3) l W hM hL hl20)
  have HSAC := Lib.hid (fun W hM hL => specAreControls_any m (.slice p1 m.rise.length c1) (.slice p2 m.cost.length c2) (.slice p3 l.length c3) l W hM hL hl20)
  have HMV := Lib.hid (fun W hM hL => moveControl_any m (.slice p1 m.rise.length c1) (.slice p2 m.cost.length c2) (.slice p3 l.length c3) l n1 n2 W hM hL hl20)
  have HSMV := Lib.hid (fun W hM hL => specMoveControl_any m (.slice p1 m.rise.length c1) (.slice p2 m.cost.length c2) (.slice p3 l.length c3) l n1 n2 W hM hL hl20)
  have HCC := Lib.hid (fun W hM hL => cellOfCode_any m (.slice p1 m.rise.length c1) (.slice p2 m.cost.length c2) (.slice p3 l.length c3) l n1 W hM hL hl20)
  have HMV2 := Lib.hid (fun W hM pq cq hB => moveControl_any m (.slice p1 m.rise.length c1) (.slice p2 m.cost.length c2) (.slice pq (movL m l n1 n2).length cq) (movL m l n1 n2) n1 (cellK l n1) W hM hB HOL.out)
  have HCA2 := Lib.hid (fun W hM pq cq hB => codeAt_any m (.slice p1 m.rise.length c1) (.slice p2 m.cost.length c2) (.slice pq (movL m l n1 n2).length cq) (movL m l n1 n2) n2 W hM hB HOL.out)
  generalize movB m l n1 n2 = G at HYES HMV HSMV
  refine (HMV.out _ (mp_up (HM0.out) (by repeat (first | with_reducible (first | exact World.gained_refl _ | exact ⟨_, rfl⟩ | apply gain_ext | apply gain_alloc | apply gain_drewN | apply gain_drew) | (refine gain_setCell ?_ (by first | exact Nat.le_refl _ | exact World.size_ext _ _ | (simp; done) | (simp; omega)) _)))) (by with_reducible (repeat (first | exact HL0.out | refine World.sl_ext Ctl.cells_length ?_ _ | refine sl_alloc Ctl.cells_length ?_ _ | refine sl_drew ?_)))).mono ?_
  rintro e w1 ⟨r1, rfl, ⟨d2, rfl⟩, o1⟩
  have O1 := Lib.hid (sl_of_own Ctl.cells_length o1)
  clear o1
  generalize movL m l n1 n2 = B at O1 HYES HOL HSMV HMV2 HCA2
  obtain ⟨p5, c5, rfl, _⟩ := O1.out
  go_wp2_with fail
  refine (HSMV.out _ (mp_up (HM0.out) (by repeat (first | with_reducible (first | exact World.gained_refl _ | exact ⟨_, rfl⟩ | apply gain_ext | apply gain_alloc | apply gain_drewN | apply gain_drew) | (refine gain_setCell ?_ (by first | exact Nat.le_refl _ | exact World.size_ext _ _ | (simp; done) | (simp; omega)) _)))) (by with_reducible (repeat (first | exact HL0.out | refine World.sl_ext Ctl.cells_length ?_ _ | refine sl_alloc Ctl.cells_length ?_ _ | refine sl_drew ?_)))).mono ?_
  rintro e w1 ⟨r2, rfl, ⟨d3, rfl⟩, o2⟩
  have O2 := Lib.hid (sl_of_own Ctl.cells_length o2)
  clear o2 HMV HSMV
  obtain ⟨p6, c6, rfl, _⟩ := O2.out
  generalize ctlsB m l = A at HAC HSAC
  have hGG : (G != G) = false := by simp
  have hAA : (A != A) = false := by simp
  have hN1 : (n1 != n1) = false := by simp
  go_wp2_with fail
  refine wp_region_gain (by kernel_rfl) (by kernel_rfl) ?_
  repeat (first | go_big_quiet_skip | (go_big_quiet_want; go_big_quiet_op; first | go_big_quiet_on | ((apply Exists.intro); (refine ⟨fun _ => ?_, ?_⟩); (· (first | (go_at_call 12; exact Calls.gain (vControls_same _ _ B _ (by with_reducible (repeat (first | exact O1.out | refine World.sl_ext Ctl.cells_length ?_ _ | refine sl_alloc Ctl.cells_length ?_ _ | refine sl_drew ?_))) (by with_reducible (repeat (first | exact O2.out | refine World.sl_ext Ctl.cells_length ?_ _ | refine sl_alloc Ctl.cells_length ?_ _ | refine sl_drew ?_))) HOL.out)) | (go_at_call 13; exact Calls.gain (HAC.out _ (mp_up (HM0.out) (by repeat (first | with_reducible (first | exact World.gained_refl _ | exact ⟨_, rfl⟩ | apply gain_ext | apply gain_alloc | apply gain_drewN | apply gain_drew) | (refine gain_setCell ?_ (by first | exact Nat.le_refl _ | exact World.size_ext _ _ | (simp; done) | (simp; omega)) _)))) (by with_reducible (repeat (first | exact HL0.out | refine World.sl_ext Ctl.cells_length ?_ _ | refine sl_alloc Ctl.cells_length ?_ _ | refine sl_drew ?_))))) | (go_at_call 14; exact Calls.gain (HSAC.out _ (mp_up (HM0.out) (by repeat (first | with_reducible (first | exact World.gained_refl _ | exact ⟨_, rfl⟩ | apply gain_ext | apply gain_alloc | apply gain_drewN | apply gain_drew) | (refine gain_setCell ?_ (by first | exact Nat.le_refl _ | exact World.size_ext _ _ | (simp; done) | (simp; omega)) _)))) (by with_reducible (repeat (first | exact HL0.out | refine World.sl_ext Ctl.cells_length ?_ _ | refine sl_alloc Ctl.cells_length ?_ _ | refine sl_drew ?_))))))); (go_big_quiet_on))))
  refine wpQuiet_nil ?_
  rintro _ ⟨d', rfl⟩
  clear O2 HAC HSAC
  go_upto_if 88 with fail
  go_cut [8, 10, 11, 12, 13, 14, 15, 16] (fun _ _ _ _ _ _ _ _ wx => ∃ d, wx = w.ext d)
  case first =>
    cases G with
    | false =>
      go_wp2_with fail
      go_meet
      exact (by repeat (first | with_reducible (first | exact World.gained_refl _ | exact ⟨_, rfl⟩ | apply gain_ext | apply gain_alloc | apply gain_drewN | apply gain_drew) | (refine gain_setCell ?_ (by first | exact Nat.le_refl _ | exact World.size_ext _ _ | (simp; done) | (simp; omega)) _)))
    | true =>
      obtain ⟨f1, f2, f3, f4, f5⟩ := HYES.out rfl
      have HCC2 : Hid (∀ W : World, W.mp (.slice p1 m.rise.length c1) (.slice p2 m.cost.length c2) m → W.sl Ctl.cells 2 (.slice p3 l.length c3) l → Calls Try.prog 15 #[.agg #[.int .i64 m.wd, .int .i64 m.ht, .slice p1 m.rise.length c1, .slice p2 m.cost.length c2], .slice p3 l.length c3, .int .i64 n1] W fun x w' => x = .returned (.tuple #[.int .i64 (cellK l n1), .bool true]) ∧ ∃ d, w' = W.ext d) := Lib.hid (fun W hM hL => by
        have h := HCC.out W hM hL
        rw [cocI_yes f1, f1] at h
        exact h)
      have HMV3 : Hid (∀ W : World, W.mp (.slice p1 m.rise.length c1) (.slice p2 m.cost.length c2) m → W.sl Ctl.cells 2 (.slice p5 B.length c5) B → Calls Try.prog 10 #[.agg #[.int .i64 m.wd, .int .i64 m.ht, .slice p1 m.rise.length c1, .slice p2 m.cost.length c2], .slice p5 B.length c5, .int .i64 n1, .int .i64 (cellK l n1)] W fun x w' => ∃ r, x = .returned (.tuple #[r, .bool true]) ∧ (∃ d, w' = W.ext d) ∧ w'.own W.heap.size 46 Ctl.cells 2 r l) := Lib.hid (fun W hM hB => by
        have h := HMV2.out W hM p5 c5 hB
        rw [f2, f3] at h
        exact h)
      have HCA3 : Hid (∀ W : World, W.mp (.slice p1 m.rise.length c1) (.slice p2 m.cost.length c2) m → W.sl Ctl.cells 2 (.slice p5 B.length c5) B → Calls Try.prog 16 #[.agg #[.int .i64 m.wd, .int .i64 m.ht, .slice p1 m.rise.length c1, .slice p2 m.cost.length c2], .slice p5 B.length c5, .int .i64 n2] W fun x w' => x = .returned (.tuple #[.int .i64 n1, .bool true]) ∧ ∃ d, w' = W.ext d) := Lib.hid (fun W hM hB => by
        have h := HCA2.out W hM p5 c5 hB
        rw [f4, f5] at h
        exact h)
      clear f1 f2 f3 f4 f5 HYES HCC HMV2 HCA2
      go_wp2_with (go_at_call 15; refine (HCC2.out _ (mp_up (HM0.out) (by repeat (first | with_reducible (first | exact World.gained_refl _ | exact ⟨_, rfl⟩ | apply gain_ext | apply gain_alloc | apply gain_drewN | apply gain_drew) | (refine gain_setCell ?_ (by first | exact Nat.le_refl _ | exact World.size_ext _ _ | (simp; done) | (simp; omega)) _)))) (by with_reducible (repeat (first | exact HL0.out | refine World.sl_ext Ctl.cells_length ?_ _ | refine sl_alloc Ctl.cells_length ?_ _ | refine sl_drew ?_)))).mono ?_; rintro e w1 ⟨rfl, d4, rfl⟩)
      refine (HMV3.out _ (mp_up (HM0.out) (by repeat (first | with_reducible (first | exact World.gained_refl _ | exact ⟨_, rfl⟩ | apply gain_ext | apply gain_alloc | apply gain_drewN | apply gain_drew) | (refine gain_setCell ?_ (by first | exact Nat.le_refl _ | exact World.size_ext _ _ | (simp; done) | (simp; omega)) _)))) (by with_reducible (repeat (first | exact O1.out | refine World.sl_ext Ctl.cells_length ?_ _ | refine sl_alloc Ctl.cells_length ?_ _ | refine sl_drew ?_)))).mono ?_
      rintro e w1 ⟨r7, rfl, ⟨d5, rfl⟩, o7⟩
      have O7 := Lib.hid (sl_of_own Ctl.cells_length o7)
      clear o7
      obtain ⟨p7, c7, rfl, _⟩ := O7.out
      go_wp2_with (first | (go_at_call 16; refine (HCA3.out _ (mp_up (HM0.out) (by repeat (first | with_reducible (first | exact World.gained_refl _ | exact ⟨_, rfl⟩ | apply gain_ext | apply gain_alloc | apply gain_drewN | apply gain_drew) | (refine gain_setCell ?_ (by first | exact Nat.le_refl _ | exact World.size_ext _ _ | (simp; done) | (simp; omega)) _)))) (by with_reducible (repeat (first | exact O1.out | refine World.sl_ext Ctl.cells_length ?_ _ | refine sl_alloc Ctl.cells_length ?_ _ | refine sl_drew ?_)))).mono ?_; rintro e w1 ⟨rfl, d6, rfl⟩) | (go_at_call 12; refine (vControls_same _ _ l _ (by with_reducible (repeat (first | exact O7.out | refine World.sl_ext Ctl.cells_length ?_ _ | refine sl_alloc Ctl.cells_length ?_ _ | refine sl_drew ?_))) (by with_reducible (repeat (first | exact HL0.out | refine World.sl_ext Ctl.cells_length ?_ _ | refine sl_alloc Ctl.cells_length ?_ _ | refine sl_drew ?_))) hl20).mono ?_; rintro e w1 ⟨rfl, d7, rfl⟩))
      go_meet
      exact (by repeat (first | with_reducible (first | exact World.gained_refl _ | exact ⟨_, rfl⟩ | apply gain_ext | apply gain_alloc | apply gain_drewN | apply gain_drew) | (refine gain_setCell ?_ (by first | exact Nat.le_refl _ | exact World.size_ext _ _ | (simp; done) | (simp; omega)) _)))
  obtain ⟨dB, rfl⟩ := hcut
  clear HYES HOL HCC HMV2 HCA2 hGG hAA hN1 HM0 HL0 O1 bx0 bx1 bx2 bx3 obx hl20 hrl hcl hll
  go_wp2_with fail
  refine (drawRecodeControl_any _ L _ (by with_reducible (repeat (first | exact hs.out | refine World.sl_ext byteC_length ?_ _ | refine sl_alloc byteC_length ?_ _ | refine sl_drew ?_))) HQ.out hl).mono ?_
  rintro e w1 ⟨m, rv, cv, lv, l, n1, n2, rfl, ⟨d1, rfl⟩, ho1, ho2, hrl, hcl, ho3, hll⟩
  have HM := Lib.hid (show World.mp ((w.ext dB).ext d1) _ _ m from ⟨sl_of_own intC_length ho1, sl_of_own intC_length ho2, by omega, by omega⟩)
  have HL := Lib.hid (sl_of_own Ctl.cells_length ho3)
  obtain ⟨p1, c1, p2, c2, rfl, rfl⟩ := mp_form HM.out
  obtain ⟨p3, c3, rfl, _⟩ := HL.out
  clear ho1 ho2 ho3
  go_wp2_with fail
  generalize hW0 : World.alloc ((w.ext dB).ext d1) (.cells #[.int .i64 m.wd, .int .i64 m.ht, .slice p1 m.rise.length c1, .slice p2 m.cost.length c2] 26) = W0
  have hbx : MBox ((w.ext dB).ext d1) W0 ((w.ext dB).ext d1).heap.size m (.slice p1 m.rise.length c1) (.slice p2 m.cost.length c2) := by rw [← hW0]; exact mbox
  have HGW : ∃ d, W0 = w.ext d := gain_trans (by repeat (first | with_reducible (first | exact World.gained_refl _ | exact ⟨_, rfl⟩ | apply gain_ext | apply gain_alloc | apply gain_drewN | apply gain_drew) | (refine gain_setCell ?_ (by first | exact Nat.le_refl _ | exact World.size_ext _ _ | (simp; done) | (simp; omega)) _))) hbx.up
  have HM0 := Lib.hid (mp_up HM.out hbx.up)
  have HL0 := Lib.hid (sl_up Ctl.cells_length HL.out hbx.up)
  have bx0 := hbx.c0
  have bx1 := hbx.c1
  have bx2 := hbx.c2
  have bx3 := hbx.c3
  have obx := hbx.ob
  generalize (((w.ext dB).ext d1)).heap.size = gB at bx0 bx1 bx2 bx3 obx ⊢
  clear hW0 hbx HM HL
  obtain ⟨dz, rfl⟩ := HGW
  have hl20 : l.length ≤ 1048576 := by omega
  have HYES := Lib.hid (fun (h : recB m l n1 n2 = true) => rec_facts h)
  have HOL := Lib.hid (recL_len m l n1 n2)
  have HMV := Lib.hid (fun W hM hL => recodeControl_any m (.slice p1 m.rise.length c1) (.slice p2 m.cost.length c2) (.slice p3 l.length c3) l n1 n2 W hM hL hl20)
  have HSMV := Lib.hid (fun W hM hL => specRecodeControl_any m (.slice p1 m.rise.length c1) (.slice p2 m.cost.length c2) (.slice p3 l.length c3) l n1 n2 W hM hL hl20)
  have HCC := Lib.hid (fun W hM hL => cellOfCode_any m (.slice p1 m.rise.length c1) (.slice p2 m.cost.length c2) (.slice p3 l.length c3) l n1 W hM hL hl20)
  have HMV2 := Lib.hid (fun W hM pq cq hB => recodeControl_any m (.slice p1 m.rise.length c1) (.slice p2 m.cost.length c2) (.slice pq (recL m l n1 n2).length cq) (recL m l n1 n2) n2 n1 W hM hB HOL.out)
  have HCA2 := Lib.hid (fun W hM pq cq hB => cellOfCode_any m (.slice p1 m.rise.length c1) (.slice p2 m.cost.length c2) (.slice pq (recL m l n1 n2).length cq) (recL m l n1 n2) n2 W hM hB HOL.out)
  generalize recB m l n1 n2 = G at HYES HMV HSMV
  refine (HMV.out _ (mp_up (HM0.out) (by repeat (first | with_reducible (first | exact World.gained_refl _ | exact ⟨_, rfl⟩ | apply gain_ext | apply gain_alloc | apply gain_drewN | apply gain_drew) | (refine gain_setCell ?_ (by first | exact Nat.le_refl _ | exact World.size_ext _ _ | (simp; done) | (simp; omega)) _)))) (by with_reducible (repeat (first | exact HL0.out | refine World.sl_ext Ctl.cells_length ?_ _ | refine sl_alloc Ctl.cells_length ?_ _ | refine sl_drew ?_)))).mono ?_
  rintro e w1 ⟨r1, rfl, ⟨d2, rfl⟩, o1⟩
  have O1 := Lib.hid (sl_of_own Ctl.cells_length o1)
  clear o1
  generalize recL m l n1 n2 = B at O1 HYES HOL HSMV HMV2 HCA2
  obtain ⟨p5, c5, rfl, _⟩ := O1.out
  go_wp2_with fail
  refine (HSMV.out _ (mp_up (HM0.out) (by repeat (first | with_reducible (first | exact World.gained_refl _ | exact ⟨_, rfl⟩ | apply gain_ext | apply gain_alloc | apply gain_drewN | apply gain_drew) | (refine gain_setCell ?_ (by first | exact Nat.le_refl _ | exact World.size_ext _ _ | (simp; done) | (simp; omega)) _)))) (by with_reducible (repeat (first | exact HL0.out | refine World.sl_ext Ctl.cells_length ?_ _ | refine sl_alloc Ctl.cells_length ?_ _ | refine sl_drew ?_)))).mono ?_
  rintro e w1 ⟨r2, rfl, ⟨d3, rfl⟩, o2⟩
  have O2 := Lib.hid (sl_of_own Ctl.cells_length o2)
  clear o2 HMV HSMV
  obtain ⟨p6, c6, rfl, _⟩ := O2.out
  have hGG : (G != G) = false := by simp
  have hNN : (cellK l n1 != cellK l n1) = false := by simp
  go_upto_if 164 with (go_at_call 12; refine (vControls_same _ _ B _ (by with_reducible (repeat (first | exact O1.out | refine World.sl_ext Ctl.cells_length ?_ _ | refine sl_alloc Ctl.cells_length ?_ _ | refine sl_drew ?_))) (by with_reducible (repeat (first | exact O2.out | refine World.sl_ext Ctl.cells_length ?_ _ | refine sl_alloc Ctl.cells_length ?_ _ | refine sl_drew ?_))) HOL.out).mono ?_; rintro e w1 ⟨rfl, d4, rfl⟩)
  clear O2
  go_cut [22, 24, 25, 26, 27, 28, 29, 30] (fun _ _ _ _ _ _ _ _ wx => ∃ d, wx = w.ext d)
  case first =>
    cases G with
    | false =>
      go_wp2_with fail
      go_meet
      exact (by repeat (first | with_reducible (first | exact World.gained_refl _ | exact ⟨_, rfl⟩ | apply gain_ext | apply gain_alloc | apply gain_drewN | apply gain_drew) | (refine gain_setCell ?_ (by first | exact Nat.le_refl _ | exact World.size_ext _ _ | (simp; done) | (simp; omega)) _)))
    | true =>
      obtain ⟨f1, f2, f3, f4, f5⟩ := HYES.out rfl
      have HCC2 : Hid (∀ W : World, W.mp (.slice p1 m.rise.length c1) (.slice p2 m.cost.length c2) m → W.sl Ctl.cells 2 (.slice p3 l.length c3) l → Calls Try.prog 15 #[.agg #[.int .i64 m.wd, .int .i64 m.ht, .slice p1 m.rise.length c1, .slice p2 m.cost.length c2], .slice p3 l.length c3, .int .i64 n1] W fun x w' => x = .returned (.tuple #[.int .i64 (cellK l n1), .bool true]) ∧ ∃ d, w' = W.ext d) := Lib.hid (fun W hM hL => by
        have h := HCC.out W hM hL
        rw [cocI_yes f1, f1] at h
        exact h)
      have HMV3 : Hid (∀ W : World, W.mp (.slice p1 m.rise.length c1) (.slice p2 m.cost.length c2) m → W.sl Ctl.cells 2 (.slice p5 B.length c5) B → Calls Try.prog 18 #[.agg #[.int .i64 m.wd, .int .i64 m.ht, .slice p1 m.rise.length c1, .slice p2 m.cost.length c2], .slice p5 B.length c5, .int .i64 n2, .int .i64 n1] W fun x w' => ∃ r, x = .returned (.tuple #[r, .bool true]) ∧ (∃ d, w' = W.ext d) ∧ w'.own W.heap.size 46 Ctl.cells 2 r l) := Lib.hid (fun W hM hB => by
        have h := HMV2.out W hM p5 c5 hB
        rw [f4, f5] at h
        exact h)
      have HCA3 : Hid (∀ W : World, W.mp (.slice p1 m.rise.length c1) (.slice p2 m.cost.length c2) m → W.sl Ctl.cells 2 (.slice p5 B.length c5) B → Calls Try.prog 15 #[.agg #[.int .i64 m.wd, .int .i64 m.ht, .slice p1 m.rise.length c1, .slice p2 m.cost.length c2], .slice p5 B.length c5, .int .i64 n2] W fun x w' => x = .returned (.tuple #[.int .i64 (cellK l n1), .bool true]) ∧ ∃ d, w' = W.ext d) := Lib.hid (fun W hM hB => by
        have h := HCA2.out W hM p5 c5 hB
        rw [cocI_yes f2, f2, f3] at h
        exact h)
      clear f1 f2 f3 f4 f5 HYES HCC HMV2 HCA2
      generalize cellK l n1 = z at HCC2 HCA3 hNN
      go_wp2_with fail
      refine (HCC2.out _ (mp_up (HM0.out) (by repeat (first | with_reducible (first | exact World.gained_refl _ | exact ⟨_, rfl⟩ | apply gain_ext | apply gain_alloc | apply gain_drewN | apply gain_drew) | (refine gain_setCell ?_ (by first | exact Nat.le_refl _ | exact World.size_ext _ _ | (simp; done) | (simp; omega)) _)))) (by with_reducible (repeat (first | exact HL0.out | refine World.sl_ext Ctl.cells_length ?_ _ | refine sl_alloc Ctl.cells_length ?_ _ | refine sl_drew ?_)))).mono ?_
      rintro e w1 ⟨rfl, d5, rfl⟩
      go_wp2_with fail
      refine (HCA3.out _ (mp_up (HM0.out) (by repeat (first | with_reducible (first | exact World.gained_refl _ | exact ⟨_, rfl⟩ | apply gain_ext | apply gain_alloc | apply gain_drewN | apply gain_drew) | (refine gain_setCell ?_ (by first | exact Nat.le_refl _ | exact World.size_ext _ _ | (simp; done) | (simp; omega)) _)))) (by with_reducible (repeat (first | exact O1.out | refine World.sl_ext Ctl.cells_length ?_ _ | refine sl_alloc Ctl.cells_length ?_ _ | refine sl_drew ?_)))).mono ?_
      rintro e w1 ⟨rfl, d6, rfl⟩
      go_wp2_with fail
      refine (HMV3.out _ (mp_up (HM0.out) (by repeat (first | with_reducible (first | exact World.gained_refl _ | exact ⟨_, rfl⟩ | apply gain_ext | apply gain_alloc | apply gain_drewN | apply gain_drew) | (refine gain_setCell ?_ (by first | exact Nat.le_refl _ | exact World.size_ext _ _ | (simp; done) | (simp; omega)) _)))) (by with_reducible (repeat (first | exact O1.out | refine World.sl_ext Ctl.cells_length ?_ _ | refine sl_alloc Ctl.cells_length ?_ _ | refine sl_drew ?_)))).mono ?_
      rintro e w1 ⟨r7, rfl, ⟨d7, rfl⟩, o7⟩
      have O7 := Lib.hid (sl_of_own Ctl.cells_length o7)
      clear o7
      obtain ⟨p7, c7, rfl, _⟩ := O7.out
      go_wp2_with (go_at_call 12; refine (vControls_same _ _ l _ (by with_reducible (repeat (first | exact O7.out | refine World.sl_ext Ctl.cells_length ?_ _ | refine sl_alloc Ctl.cells_length ?_ _ | refine sl_drew ?_))) (by with_reducible (repeat (first | exact HL0.out | refine World.sl_ext Ctl.cells_length ?_ _ | refine sl_alloc Ctl.cells_length ?_ _ | refine sl_drew ?_))) hl20).mono ?_; rintro e w1 ⟨rfl, d8, rfl⟩)
      go_meet
      exact (by repeat (first | with_reducible (first | exact World.gained_refl _ | exact ⟨_, rfl⟩ | apply gain_ext | apply gain_alloc | apply gain_drewN | apply gain_drew) | (refine gain_setCell ?_ (by first | exact Nat.le_refl _ | exact World.size_ext _ _ | (simp; done) | (simp; omega)) _)))
  obtain ⟨dC, rfl⟩ := hcut
  clear HYES HOL HCC HMV2 HCA2 hGG hNN HM0 HL0 O1 bx0 bx1 bx2 bx3 obx hl20 hrl hcl hll
  go_wp2_with fail
  refine (drawCellOfCode_any _ L _ (by with_reducible (repeat (first | exact hs.out | refine World.sl_ext byteC_length ?_ _ | refine sl_alloc byteC_length ?_ _ | refine sl_drew ?_))) HQ.out hl).mono ?_
  rintro e w1 ⟨m, rv, cv, lv, l, n1, rfl, ⟨d1, rfl⟩, ho1, ho2, hrl, hcl, ho3, hll⟩
  have HM := Lib.hid (show World.mp ((w.ext dC).ext d1) _ _ m from ⟨sl_of_own intC_length ho1, sl_of_own intC_length ho2, by omega, by omega⟩)
  have HL := Lib.hid (sl_of_own Ctl.cells_length ho3)
  obtain ⟨p1, c1, p2, c2, rfl, rfl⟩ := mp_form HM.out
  obtain ⟨p3, c3, rfl, _⟩ := HL.out
  clear ho1 ho2 ho3
  go_wp2_with fail
  generalize hW0 : World.alloc ((w.ext dC).ext d1) (.cells #[.int .i64 m.wd, .int .i64 m.ht, .slice p1 m.rise.length c1, .slice p2 m.cost.length c2] 26) = W0
  have hbx : MBox ((w.ext dC).ext d1) W0 ((w.ext dC).ext d1).heap.size m (.slice p1 m.rise.length c1) (.slice p2 m.cost.length c2) := by rw [← hW0]; exact mbox
  have HGW : ∃ d, W0 = w.ext d := gain_trans (by repeat (first | with_reducible (first | exact World.gained_refl _ | exact ⟨_, rfl⟩ | apply gain_ext | apply gain_alloc | apply gain_drewN | apply gain_drew) | (refine gain_setCell ?_ (by first | exact Nat.le_refl _ | exact World.size_ext _ _ | (simp; done) | (simp; omega)) _))) hbx.up
  have HM0 := Lib.hid (mp_up HM.out hbx.up)
  have HL0 := Lib.hid (sl_up Ctl.cells_length HL.out hbx.up)
  have bx0 := hbx.c0
  have bx1 := hbx.c1
  have bx2 := hbx.c2
  have bx3 := hbx.c3
  have obx := hbx.ob
  generalize (((w.ext dC).ext d1)).heap.size = gB at bx0 bx1 bx2 bx3 obx ⊢
  clear hW0 hbx HM HL
  obtain ⟨dz, rfl⟩ := HGW
  have hl20 : l.length ≤ 1048576 := by omega
  have HCC := Lib.hid (fun W hM hL => cellOfCode_any m (.slice p1 m.rise.length c1) (.slice p2 m.cost.length c2) (.slice p3 l.length c3) l n1 W hM hL hl20)
  have HSCC := Lib.hid (fun W hM hL => specCellOfCode_any m (.slice p1 m.rise.length c1) (.slice p2 m.cost.length c2) (.slice p3 l.length c3) l n1 W hM hL hl20)
  generalize cocB m l n1 = G at HCC HSCC
  generalize cocI m l n1 = N at HCC HSCC
  have hGG : (G != G) = false := by simp
  have hNN : (N != N) = false := by simp
  refine (HCC.out _ (mp_up (HM0.out) (by repeat (first | with_reducible (first | exact World.gained_refl _ | exact ⟨_, rfl⟩ | apply gain_ext | apply gain_alloc | apply gain_drewN | apply gain_drew) | (refine gain_setCell ?_ (by first | exact Nat.le_refl _ | exact World.size_ext _ _ | (simp; done) | (simp; omega)) _)))) (by with_reducible (repeat (first | exact HL0.out | refine World.sl_ext Ctl.cells_length ?_ _ | refine sl_alloc Ctl.cells_length ?_ _ | refine sl_drew ?_)))).mono ?_
  rintro e w1 ⟨rfl, d2, rfl⟩
  go_wp2_with fail
  refine (HSCC.out _ (mp_up (HM0.out) (by repeat (first | with_reducible (first | exact World.gained_refl _ | exact ⟨_, rfl⟩ | apply gain_ext | apply gain_alloc | apply gain_drewN | apply gain_drew) | (refine gain_setCell ?_ (by first | exact Nat.le_refl _ | exact World.size_ext _ _ | (simp; done) | (simp; omega)) _)))) (by with_reducible (repeat (first | exact HL0.out | refine World.sl_ext Ctl.cells_length ?_ _ | refine sl_alloc Ctl.cells_length ?_ _ | refine sl_drew ?_)))).mono ?_
  rintro e w1 ⟨rfl, d3, rfl⟩
  clear HCC HSCC HM0 HL0 bx0 bx1 bx2 bx3 obx hl20 hrl hcl hll
  go_wp2_with fail
  refine (drawCodeAt_any _ L _ (by with_reducible (repeat (first | exact hs.out | refine World.sl_ext byteC_length ?_ _ | refine sl_alloc byteC_length ?_ _ | refine sl_drew ?_))) HQ.out hl).mono ?_
  rintro e w1 ⟨m, rv, cv, lv, l, n1, rfl, ⟨d4, rfl⟩, ho1, ho2, hrl, hcl, ho3, hll⟩
  have HM := Lib.hid (show World.mp ((((w.ext dz).ext d2).ext d3).ext d4) _ _ m from ⟨sl_of_own intC_length ho1, sl_of_own intC_length ho2, by omega, by omega⟩)
  have HL := Lib.hid (sl_of_own Ctl.cells_length ho3)
  obtain ⟨p1, c1, p2, c2, rfl, rfl⟩ := mp_form HM.out
  obtain ⟨p3, c3, rfl, _⟩ := HL.out
  clear ho1 ho2 ho3
  go_wp2_with fail
  generalize hW0 : World.alloc ((((w.ext dz).ext d2).ext d3).ext d4) (.cells #[.int .i64 m.wd, .int .i64 m.ht, .slice p1 m.rise.length c1, .slice p2 m.cost.length c2] 26) = W0
  have hbx : MBox ((((w.ext dz).ext d2).ext d3).ext d4) W0 ((((w.ext dz).ext d2).ext d3).ext d4).heap.size m (.slice p1 m.rise.length c1) (.slice p2 m.cost.length c2) := by rw [← hW0]; exact mbox
  have HGW : ∃ d, W0 = w.ext d := gain_trans (by repeat (first | with_reducible (first | exact World.gained_refl _ | exact ⟨_, rfl⟩ | apply gain_ext | apply gain_alloc | apply gain_drewN | apply gain_drew) | (refine gain_setCell ?_ (by first | exact Nat.le_refl _ | exact World.size_ext _ _ | (simp; done) | (simp; omega)) _))) hbx.up
  have HM0 := Lib.hid (mp_up HM.out hbx.up)
  have HL0 := Lib.hid (sl_up Ctl.cells_length HL.out hbx.up)
  have bx0 := hbx.c0
  have bx1 := hbx.c1
  have bx2 := hbx.c2
  have bx3 := hbx.c3
  have obx := hbx.ob
  generalize (((((w.ext dz).ext d2).ext d3).ext d4)).heap.size = gB at bx0 bx1 bx2 bx3 obx ⊢
  clear hW0 hbx HM HL
  obtain ⟨dz, rfl⟩ := HGW
  have hl20 : l.length ≤ 1048576 := by omega
  have HCC := Lib.hid (fun W hM hL => codeAt_any m (.slice p1 m.rise.length c1) (.slice p2 m.cost.length c2) (.slice p3 l.length c3) l n1 W hM hL hl20)
  have HSCC := Lib.hid (fun W hM hL => specCodeAt_any m (.slice p1 m.rise.length c1) (.slice p2 m.cost.length c2) (.slice p3 l.length c3) l n1 W hM hL hl20)
  generalize codB m l n1 = G at HCC HSCC
  generalize codI m l n1 = N at HCC HSCC
  refine (HCC.out _ (mp_up (HM0.out) (by repeat (first | with_reducible (first | exact World.gained_refl _ | exact ⟨_, rfl⟩ | apply gain_ext | apply gain_alloc | apply gain_drewN | apply gain_drew) | (refine gain_setCell ?_ (by first | exact Nat.le_refl _ | exact World.size_ext _ _ | (simp; done) | (simp; omega)) _)))) (by with_reducible (repeat (first | exact HL0.out | refine World.sl_ext Ctl.cells_length ?_ _ | refine sl_alloc Ctl.cells_length ?_ _ | refine sl_drew ?_)))).mono ?_
  rintro e w1 ⟨rfl, d5, rfl⟩
  go_wp2_with fail
  refine (HSCC.out _ (mp_up (HM0.out) (by repeat (first | with_reducible (first | exact World.gained_refl _ | exact ⟨_, rfl⟩ | apply gain_ext | apply gain_alloc | apply gain_drewN | apply gain_drew) | (refine gain_setCell ?_ (by first | exact Nat.le_refl _ | exact World.size_ext _ _ | (simp; done) | (simp; omega)) _)))) (by with_reducible (repeat (first | exact HL0.out | refine World.sl_ext Ctl.cells_length ?_ _ | refine sl_alloc Ctl.cells_length ?_ _ | refine sl_drew ?_)))).mono ?_
  rintro e w1 ⟨rfl, d6, rfl⟩
  go_wp2
  go_ret
  exact ⟨rfl, (by repeat (first | with_reducible (first | exact World.gained_refl _ | exact ⟨_, rfl⟩ | apply gain_ext | apply gain_alloc | apply gain_drewN | apply gain_drew) | (refine gain_setCell ?_ (by first | exact Nat.le_refl _ | exact World.size_ext _ _ | (simp; done) | (simp; omega)) _)))⟩
set_option maxRecDepth 100000 in
theorem fnControls_lifted (os : Os) (started : os.Started) (H : Type) (enc : TypeId × Value → H) :
    ReturnsInHanded {} Try.checked os 3 .any (Rows.fnControlsSpec.pre6 enc Try.prog Try.f3 Rows.fnControlsRow.domain false) (Rows.fnControlsSpec.post enc Try.prog Try.f3 false true false false) := by
  refine returnsInHanded_of_change (C := Try.checked) (by kernel_rfl) started (by kernel_rfl) Try.func3
    (ChangeSpec.witness6 (enc := enc) (C := Try.checked) false ⟨#[], #[.slice none 0 0], []⟩ 8 (by kernel_rfl) (by kernel_rfl) (by kernel_rfl) (by kernel_rfl)) ?_
  intro W base args ds gs before hval0 hW _ _
  have hval : ∀ (j : Nat) t v, Try.f3.params[j]? = some t → args[j]? = some v → Value.okWide Try.prog W .any base t v := hval0
  clear hval0
  have laidOut : laidOutB Try.prog = true := by as_aux_lemma => kernel_rfl
  have hWc := hW
  obtain ⟨p, q, hA0, hV, rfl, _, _⟩ := hWc
  have hA : DataW.TrodAll enc Try.prog W 0 (fun _ => true) true Try.f3.params.toList args.toList ds p := hA0
  clear hA0
  rw [Try.params3] at hA hval
  obtain ⟨v0, vs0, d0, ds0, p0, q0, hargs, rfl, rfl, h0, r0⟩ := trodAll_cons hA
  obtain ⟨rfl, rfl, rfl⟩ := trodAll_nil r0
  obtain rfl : args = #[v0] := by cases args; simp_all
  obtain ⟨rfl, rfl⟩ := trodVars_none hV
  obtain ⟨l1, hs1, hq1, hm1⟩ := read_Bytes (hval 0 22 v0 rfl rfl) h0
  refine (fnControls_walk v0 l1 W hs1 hq1 hm1).mono fun e W1 ⟨he, hg⟩ => ?_
  subst he
  exact ⟨_, rfl, law_post (tb := 4) laidOut (by kernel_rfl) hW rfl rfl (by kernel_rfl) Try.underlying4 hg⟩
theorem fnControls_holds : Rows.FnControlsSaid :=
  OpenClaim.holds_of_wide 3 Try.f3 rfl rfl rfl rfl rfl rfl rfl ⟨rfl, rfl, rfl, rfl, rfl⟩ rfl rfl rfl rfl rfl (by kernel_rfl) Try.func3 (by kernel_rfl)
    (of_decide_eq_true (by kernel_rfl)) (by unfold Func.isWrapper; first | (rw [if_pos (by decide +kernel)]; kernel_rfl) | (rw [if_neg (by decide +kernel)]; exact ⟨rfl, rfl⟩))
    (fun os started H enc _ => fnControls_lifted os started H enc)
#print axioms fnControls_holds
end Go.Proofs.Ytedpckkoaioooaa
