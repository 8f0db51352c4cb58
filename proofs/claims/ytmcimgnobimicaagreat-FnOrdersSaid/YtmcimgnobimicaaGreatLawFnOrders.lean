/- FnOrders returns true for every argument. No condition. -/
import Derived.Test.YtmcimgnobimicaaGreatG19
import Derived.Test.YtmcimgnobimicaaGreatG20
import Derived.Test.YtmcimgnobimicaaGreatG38
import Derived.Test.YtmcimgnobimicaaGreatG41
import Derived.Test.YtmcimgnobimicaaGreatG42
import Derived.Test.YtmcimgnobimicaaGreatG30
import Derived.Test.YtmcimgnobimicaaGreatG43
import Derived.Test.YtmcimgnobimicaaGreatG47
import Derived.Test.YtmcimgnobimicaaGreatG48
import Derived.Deep.DeepCutAuto
namespace Go.Ori
theorem legRow_mem (a b : List Int) (i : Nat) : ∀ k (x : Int × Int), x ∈ legRow a b i k → ∃ j : Nat, x = ((i : Int), (j : Int)) ∧ j < k ∧ legEq a b i j = true
  | 0, x, h => by simp [legRow] at h
  | k + 1, x, h => by
    rw [legRow, List.mem_append] at h
    rcases h with h | h
    · obtain ⟨j, h1, h2, h3⟩ := legRow_mem a b i k x h
      exact ⟨j, h1, by omega, h3⟩
    · by_cases e : legEq a b i k = true
      · rw [if_pos e, List.mem_singleton] at h
        exact ⟨k, h, by omega, e⟩
      · rw [if_neg e] at h
        simp at h
theorem legAll_mem (a b : List Int) : ∀ n (x : Int × Int), x ∈ legAll a b n → ∃ i j : Nat, x = ((i : Int), (j : Int)) ∧ i < n ∧ j < b.length - 1 ∧ legEq a b i j = true
  | 0, x, h => by simp [legAll] at h
  | n + 1, x, h => by
    rw [legAll, List.mem_append] at h
    rcases h with h | h
    · obtain ⟨i, j, h1, h2, h3, h4⟩ := legAll_mem a b n x h
      exact ⟨i, j, h1, by omega, h3, h4⟩
    · obtain ⟨j, h1, h2, h3⟩ := legRow_mem a b n _ x h
      exact ⟨n, j, h1, by omega, h2, h3⟩
/-- Legs that two courses share take the same time in both. -/
theorem shared_leg {m : Mp} {l : List Ctl} {a b : List Int} (h : shlB m l a b = true) : crsB m l a = true ∧ crsB m l b = true ∧ (legTimesL m l a).length = a.length - 1 ∧ (legTimesL m l b).length = b.length - 1 ∧ 2 ≤ a.length ∧ 2 ≤ b.length ∧
    ∀ x ∈ shlL m l a b, ∃ (i j : Nat) (h1 : i < (legTimesL m l a).length) (h2 : j < (legTimesL m l b).length), x = ((i : Int), (j : Int)) ∧ (legTimesL m l a)[i] = (legTimesL m l b)[j] := by
  have h0 := h
  simp only [shlB, Bool.and_eq_true] at h
  obtain ⟨ha, hb⟩ := h
  have la := legTimes_yes ha
  have lb := legTimes_yes hb
  have n1 : (legTimesL m l a).length = a.length - 1 := by rw [la, legsT_length]
  have n2 : (legTimesL m l b).length = b.length - 1 := by rw [lb, legsT_length]
  refine ⟨ha, hb, n1, n2, (crsB_true ha).lo, (crsB_true hb).lo, fun x hx => ?_⟩
  rw [shlL, if_pos h0] at hx
  obtain ⟨i, j, rfl, h1, h2, h3⟩ := legAll_mem a b _ x hx
  refine ⟨i, j, by omega, by omega, rfl, ?_⟩
  simp only [legEq, Bool.and_eq_true, beq_iff_eq] at h3
  simp only [la, lb, legsT, List.getElem_map, List.getElem_range, legT, h3.1, h3.2]
theorem take_head {t : List Int} (h : 0 < t.length) : t.take 1 = [t[0]] := by
  cases t with
  | nil => simp at h
  | cons a b => simp
theorem take_first {l t : List Int} (h : l.take 1 = t.take 1) (h1 : 0 < l.length) (h2 : 0 < t.length) : l[0] = t[0] := by
  rw [take_head h1, take_head h2] at h
  simpa using h
theorem lastI_at {l : List Int} (h : 0 < l.length) : l[l.length - 1]'(by omega) = lastI l := by simp [lastI, List.getD_eq_getElem?_getD, (show l.length - 1 < l.length by omega)]
end Go.Ori
namespace Go.Proofs.YtmcimgnobimicaaGreat
open Go.ChangeShapes Go.WideShapes Go.ChangeAt Go.RowKit Go.Ori
theorem bo_law {m : Mp} {l : List Ctl} {t : List Int} (h : boB m l t = true) :
    boB m l (boL m l t) = true ∧ boI m l (boL m l t) = boI m l t ∧ boL m l (boL m l t) = boL m l t ∧ crsB m l (boL m l t) = true ∧ crsB m l t = true ∧ ctimeI m l (boL m l t) = boI m l t ∧ boI m l t ≤ ctimeI m l t ∧ (boL m l t).length = t.length ∧ 2 ≤ t.length ∧ (∀ x ∈ t, x ∈ boL m l t) ∧
    (∀ (h1 : 0 < (boL m l t).length) (h2 : 0 < t.length), (boL m l t)[0] = t[0]) ∧ ∀ (h1 : t.length - 1 < (boL m l t).length) (h2 : t.length - 1 < t.length), (boL m l t)[t.length - 1] = t[t.length - 1] := by
  obtain ⟨q1, q2, q3, q4, q5, q6, q7, q8, q9, q10, q11⟩ := bo_facts h
  have hlen := q8.length_eq
  refine ⟨q1, q2, q3, q4, q5, (ctime_sum q4).trans q6, by rw [show ctimeI m l t = sumT (tmT m l) t from ctime_sum q5]; exact q7, hlen, q9, fun x hx => q8.mem_iff.2 hx, fun h1 h2 => take_first q10 h1 h2, fun h1 h2 => ?_⟩
  have e1 := lastI_at (l := boL m l t) (by omega)
  have e2 := lastI_at (l := t) (by omega)
  rw [q11, ← e2] at e1
  rw [← e1]
  congr 1
  omega
set_option maxRecDepth 100000 in
set_option maxHeartbeats 8000000 in
theorem fnOrders_walk (v : Value) (L : List Int) (w : World) (h : w.sl byteC 1 v L) (hq : ∀ x ∈ L, 0 ≤ x ∧ x ≤ 255) (hn : L.length ≤ 9223372036854775807) :
    Calls Tryz.prog 3 #[v] w fun x w' => x = .returned (.bool true) ∧ ∃ d, w' = w.ext d := by
  have hs := Lib.hid h
  have HQ := Lib.hid hq
  obtain ⟨p, c, rfl, _⟩ := h
  clear hq
  by_cases hbig : 65536 < L.length
  · have hbb : decide (65536 < L.length) = true := decide_eq_true hbig
    go_enter Tryz.func3, Tryz.ntmps3
    go_wp2_with (go_at_call 4; refine (vBig_any _ _ _ _ hn).mono ?_; rw [hbb]; rintro e w1 ⟨rfl, rfl⟩)
    go_ret
    exact ⟨rfl, (by repeat (first | with_reducible (first | exact World.gained_refl _ | exact ⟨_, rfl⟩ | apply gain_ext | apply gain_alloc | apply gain_drewN | apply gain_drew) | (refine gain_setCell ?_ (by first | exact Nat.le_refl _ | exact World.size_ext _ _ | (simp; done) | (simp; omega)) _)))⟩
  have hbb : decide (65536 < L.length) = false := decide_eq_false hbig
  have hl : L.length ≤ 1048576 := by omega
  go_enter Tryz.func3, Tryz.ntmps3
  go_wp2_with (go_at_call 4; refine (vBig_any _ _ _ _ hn).mono ?_; rw [hbb]; rintro e w1 ⟨rfl, rfl⟩)
  refine (drawBestOrder_any _ L _ hs.out HQ.out hl).mono ?_
  rintro e w1 ⟨m, rv, cv, lv, l, x0, t, rfl, ⟨d1, rfl⟩, ho1, ho2, hrl, hcl, ho3, hll, ho4, htl⟩
  have HM := Lib.hid (show World.mp (w.ext d1) _ _ m from ⟨sl_of_own intC_length ho1, sl_of_own intC_length ho2, by omega, by omega⟩)
  have HL := Lib.hid (sl_of_own Ctl.cells_length ho3)
  have HT := Lib.hid (sl_of_own intC_length ho4)
  obtain ⟨p1, c1, p2, c2, rfl, rfl⟩ := mp_form HM.out
  obtain ⟨p3, c3, rfl, _⟩ := HL.out
  obtain ⟨p4, c4, rfl, _⟩ := HT.out
  clear ho1 ho2 ho3 ho4
  go_wp2_with fail
  generalize hW0 : World.alloc (w.ext d1) (.cells #[.int .i64 m.wd, .int .i64 m.ht, .slice p1 m.rise.length c1, .slice p2 m.cost.length c2] 26) = W0
  have hbx : MBox (w.ext d1) W0 (w.ext d1).heap.size m (.slice p1 m.rise.length c1) (.slice p2 m.cost.length c2) := by rw [← hW0]; exact mbox
  have HGW : ∃ d, W0 = w.ext d := gain_trans (by repeat (first | with_reducible (first | exact World.gained_refl _ | exact ⟨_, rfl⟩ | apply gain_ext | apply gain_alloc | apply gain_drewN | apply gain_drew) | (refine gain_setCell ?_ (by first | exact Nat.le_refl _ | exact World.size_ext _ _ | (simp; done) | (simp; omega)) _))) hbx.up
  have HM0 := Lib.hid (mp_up HM.out hbx.up)
  have HL0 := Lib.hid (sl_up Ctl.cells_length HL.out hbx.up)
  have HT0 := Lib.hid (sl_up intC_length HT.out hbx.up)
  have bx0 := hbx.c0
  have bx1 := hbx.c1
  have bx2 := hbx.c2
  have bx3 := hbx.c3
  have obx := hbx.ob
  generalize ((w.ext d1)).heap.size = gB at bx0 bx1 bx2 bx3 obx ⊢
  clear hW0 hbx HM HL HT
  obtain ⟨dz, rfl⟩ := HGW
  have hl20 : l.length ≤ 1048576 := by omega
  have ht20 : t.length ≤ 1048576 := by omega
  have HYES := Lib.hid (fun (h : boB m l t = true) => bo_law h)
  have HBL := Lib.hid (boL_length m l t)
  have HBO := Lib.hid (fun W hM hL hT => implBestOrder_any m (.slice p1 m.rise.length c1) (.slice p2 m.cost.length c2) (.slice p3 l.length c3) (.slice p4 t.length c4) l t W hM hL hl20 hT ht20)
  have HSBO := Lib.hid (fun W hM hL hT => specBestOrder_any m (.slice p1 m.rise.length c1) (.slice p2 m.cost.length c2) (.slice p3 l.length c3) (.slice p4 t.length c4) l t W hM hL hl20 hT ht20)
  have HBO2 := Lib.hid (fun W hM hL pq cq hB => implBestOrder_any m (.slice p1 m.rise.length c1) (.slice p2 m.cost.length c2) (.slice p3 l.length c3) (.slice pq (boL m l t).length cq) l (boL m l t) W hM hL hl20 hB HBL.out)
  have HCT := Lib.hid (fun W hM hL hT => courseTime_any m (.slice p1 m.rise.length c1) (.slice p2 m.cost.length c2) (.slice p3 l.length c3) (.slice p4 t.length c4) l t W hM hL hl20 hT ht20)
  have HCT2 := Lib.hid (fun W hM hL pq cq hB => courseTime_any m (.slice p1 m.rise.length c1) (.slice p2 m.cost.length c2) (.slice p3 l.length c3) (.slice pq (boL m l t).length cq) l (boL m l t) W hM hL hl20 hB HBL.out)
  generalize boB m l t = G at HYES HBO HSBO
  generalize boI m l t = N at HYES HBO HSBO
  have hGG : (G != G) = false := by simp
  have hNN : (N != N) = false := by simp
  refine (HBO.out _ (mp_up (HM0.out) (by repeat (first | with_reducible (first | exact World.gained_refl _ | exact ⟨_, rfl⟩ | apply gain_ext | apply gain_alloc | apply gain_drewN | apply gain_drew) | (refine gain_setCell ?_ (by first | exact Nat.le_refl _ | exact World.size_ext _ _ | (simp; done) | (simp; omega)) _)))) (by with_reducible (repeat (first | exact HL0.out | refine World.sl_ext Ctl.cells_length ?_ _ | refine sl_alloc Ctl.cells_length ?_ _ | refine sl_drew ?_))) (by with_reducible (repeat (first | exact HT0.out | refine World.sl_ext intC_length ?_ _ | refine sl_alloc intC_length ?_ _ | refine sl_drew ?_)))).mono ?_
  rintro e w1 ⟨r1, rfl, ⟨d2, rfl⟩, o1⟩
  have O1 := Lib.hid (sl_of_own intC_length o1)
  clear o1
  generalize boL m l t = B at O1 HYES HBL HSBO HBO2 HCT2
  obtain ⟨p5, c5, rfl, _⟩ := O1.out
  go_wp2_with fail
  refine (HSBO.out _ (mp_up (HM0.out) (by repeat (first | with_reducible (first | exact World.gained_refl _ | exact ⟨_, rfl⟩ | apply gain_ext | apply gain_alloc | apply gain_drewN | apply gain_drew) | (refine gain_setCell ?_ (by first | exact Nat.le_refl _ | exact World.size_ext _ _ | (simp; done) | (simp; omega)) _)))) (by with_reducible (repeat (first | exact HL0.out | refine World.sl_ext Ctl.cells_length ?_ _ | refine sl_alloc Ctl.cells_length ?_ _ | refine sl_drew ?_))) (by with_reducible (repeat (first | exact HT0.out | refine World.sl_ext intC_length ?_ _ | refine sl_alloc intC_length ?_ _ | refine sl_drew ?_)))).mono ?_
  rintro e w1 ⟨r2, rfl, ⟨d3, rfl⟩, o2⟩
  have O2 := Lib.hid (sl_of_own intC_length o2)
  clear o2 HBO HSBO
  go_upto_if 77 with (go_at_call 8; refine (vInts_same _ _ B _ (by with_reducible (repeat (first | exact O1.out | refine World.sl_ext intC_length ?_ _ | refine sl_alloc intC_length ?_ _ | refine sl_drew ?_))) (by with_reducible (repeat (first | exact O2.out | refine World.sl_ext intC_length ?_ _ | refine sl_alloc intC_length ?_ _ | refine sl_drew ?_))) HBL.out).mono ?_; rintro e w1 ⟨rfl, d4, rfl⟩)
  clear O2
  go_cut [12, 13, 14, 15, 16, 17, 18] (fun _ _ _ _ _ _ _ wx => ∃ d, wx = w.ext d)
  case first =>
    as_aux_lemma =>
      cases G with
      | false =>
        go_wp2_with fail
        go_meet
        exact (by repeat (first | with_reducible (first | exact World.gained_refl _ | exact ⟨_, rfl⟩ | apply gain_ext | apply gain_alloc | apply gain_drewN | apply gain_drew) | (refine gain_setCell ?_ (by first | exact Nat.le_refl _ | exact World.size_ext _ _ | (simp; done) | (simp; omega)) _)))
      | true =>
        obtain ⟨f1, f2, f3, f4, f5, f6, f7, f8, f9, f10, f11, f12⟩ := HYES.out rfl
        have HB2 : Hid (∀ W : World, W.mp (.slice p1 m.rise.length c1) (.slice p2 m.cost.length c2) m → W.sl Ctl.cells 2 (.slice p3 l.length c3) l → W.sl intC 1 (.slice p5 B.length c5) B → Calls Tryz.prog 6 #[.agg #[.int .i64 m.wd, .int .i64 m.ht, .slice p1 m.rise.length c1, .slice p2 m.cost.length c2], .slice p3 l.length c3, .slice p5 B.length c5] W fun x w' => ∃ r, x = .returned (.tuple #[r, .int .i64 N, .bool true]) ∧ (∃ d, w' = W.ext d) ∧ w'.own W.heap.size 3 intC 1 r B) := Lib.hid (fun W hM hL hB => by
          have h := HBO2.out W hM hL p5 c5 hB
          rw [f1, f2, f3] at h
          exact h)
        have HC2 : Hid (∀ W : World, W.mp (.slice p1 m.rise.length c1) (.slice p2 m.cost.length c2) m → W.sl Ctl.cells 2 (.slice p3 l.length c3) l → W.sl intC 1 (.slice p5 B.length c5) B → Calls Tryz.prog 9 #[.agg #[.int .i64 m.wd, .int .i64 m.ht, .slice p1 m.rise.length c1, .slice p2 m.cost.length c2], .slice p3 l.length c3, .slice p5 B.length c5] W fun x w' => x = .returned (.tuple #[.int .i64 N, .bool true]) ∧ ∃ d, w' = W.ext d) := Lib.hid (fun W hM hL hB => by
          have h := HCT2.out W hM hL p5 c5 hB
          rw [f4, f6] at h
          exact h)
        rw [f5] at HCT
        generalize ctimeI m l t = K at HCT f7
        have hKN : decide (K < N) = false := decide_eq_false (by omega)
        have HWI := Lib.hid f10
        have hb0 : 0 < B.length := by omega
        have ht0 : 0 < t.length := by omega
        obtain ⟨b4, o4, rfl⟩ := sl_some HT0.out ht0
        obtain ⟨b5, o5, rfl⟩ := sl_some O1.out hb0
        have y0 := sl_int HT0.out ht0
        have y1 := sl_int HT0.out (show t.length - 1 < t.length by omega)
        have z0 := sl_int O1.out hb0
        have z1 := sl_int O1.out (show t.length - 1 < B.length by omega)
        have e0 := f11 hb0 ht0
        have e1 := f12 (by omega) (by omega)
        rw [e0, Nat.add_zero] at z0
        rw [e1] at z1
        rw [Nat.add_zero] at y0
        generalize t[0] = a0 at y0 z0
        generalize t[t.length - 1] = a1 at y1 z1
        have oy := World.oldB_of_cell y0
        have oz := World.oldB_of_cell z0
        have hln : ((B.length : Int) != (t.length : Int)) = false := by rw [f8]; simp
        have hwn : IntKind.i64.wrap ((t.length : Int) - 1) = (t.length : Int) - 1 := IntWalk.i64_in _ (by omega)
        have hw2 : ((t.length : Int) - 1).toNat = t.length - 1 := by omega
        have hwm : IntKind.i64.wrap ((B.length : Int) - 1) = (t.length : Int) - 1 := by rw [f8]; exact hwn
        have hq0 : (0 : Int) ≤ (t.length : Int) - 1 := by omega
        have hq1 : (t.length : Int) - 1 < (t.length : Int) := by omega
        have hq2 : (t.length : Int) - 1 < (B.length : Int) := by omega
        have hq3 : (0 : Int) < (B.length : Int) := by omega
        have hq4 : (0 : Int) < (t.length : Int) := by omega
        clear f1 f2 f3 f4 f5 f6 f8 f9 f10 f11 f12 e0 e1 HYES HBO2 HCT2
        go_wp2_with fail
        refine (HCT.out _ (mp_up (HM0.out) (by repeat (first | with_reducible (first | exact World.gained_refl _ | exact ⟨_, rfl⟩ | apply gain_ext | apply gain_alloc | apply gain_drewN | apply gain_drew) | (refine gain_setCell ?_ (by first | exact Nat.le_refl _ | exact World.size_ext _ _ | (simp; done) | (simp; omega)) _)))) (by with_reducible (repeat (first | exact HL0.out | refine World.sl_ext Ctl.cells_length ?_ _ | refine sl_alloc Ctl.cells_length ?_ _ | refine sl_drew ?_))) (by with_reducible (repeat (first | exact HT0.out | refine World.sl_ext intC_length ?_ _ | refine sl_alloc intC_length ?_ _ | refine sl_drew ?_)))).mono ?_
        rintro e w1 ⟨rfl, d5, rfl⟩
        go_wp2_with fail
        refine (HC2.out _ (mp_up (HM0.out) (by repeat (first | with_reducible (first | exact World.gained_refl _ | exact ⟨_, rfl⟩ | apply gain_ext | apply gain_alloc | apply gain_drewN | apply gain_drew) | (refine gain_setCell ?_ (by first | exact Nat.le_refl _ | exact World.size_ext _ _ | (simp; done) | (simp; omega)) _)))) (by with_reducible (repeat (first | exact HL0.out | refine World.sl_ext Ctl.cells_length ?_ _ | refine sl_alloc Ctl.cells_length ?_ _ | refine sl_drew ?_))) (by with_reducible (repeat (first | exact O1.out | refine World.sl_ext intC_length ?_ _ | refine sl_alloc intC_length ?_ _ | refine sl_drew ?_)))).mono ?_
        rintro e w1 ⟨rfl, d6, rfl⟩
        go_wp2_with fail
        refine (HB2.out _ (mp_up (HM0.out) (by repeat (first | with_reducible (first | exact World.gained_refl _ | exact ⟨_, rfl⟩ | apply gain_ext | apply gain_alloc | apply gain_drewN | apply gain_drew) | (refine gain_setCell ?_ (by first | exact Nat.le_refl _ | exact World.size_ext _ _ | (simp; done) | (simp; omega)) _)))) (by with_reducible (repeat (first | exact HL0.out | refine World.sl_ext Ctl.cells_length ?_ _ | refine sl_alloc Ctl.cells_length ?_ _ | refine sl_drew ?_))) (by with_reducible (repeat (first | exact O1.out | refine World.sl_ext intC_length ?_ _ | refine sl_alloc intC_length ?_ _ | refine sl_drew ?_)))).mono ?_
        rintro e w1 ⟨r3, rfl, ⟨d7, rfl⟩, o3⟩
        have O3 := Lib.hid (sl_of_own intC_length o3)
        clear o3 HCT HC2 HB2
        obtain ⟨p6, c6, rfl, _⟩ := O3.out
        go_upto_region 14 with (go_at_call 8; refine (vInts_same _ _ B _ (by with_reducible (repeat (first | exact O3.out | refine World.sl_ext intC_length ?_ _ | refine sl_alloc intC_length ?_ _ | refine sl_drew ?_))) (by with_reducible (repeat (first | exact O1.out | refine World.sl_ext intC_length ?_ _ | refine sl_alloc intC_length ?_ _ | refine sl_drew ?_))) HBL.out).mono ?_; rintro e w1 ⟨rfl, d8, rfl⟩)
        refine wp_region_gain (by kernel_rfl) (by kernel_rfl) ?_
        repeat (first | go_big_quiet_skip | (go_big_quiet_want; go_big_quiet_op; first | go_big_quiet_on | ((apply Exists.intro); (refine ⟨fun _ => ?_, ?_⟩); (· (go_at_call 10; exact Calls.gain (vWithin_yes _ _ t B _ (by with_reducible (repeat (first | exact HT0.out | refine World.sl_ext intC_length ?_ _ | refine sl_alloc intC_length ?_ _ | refine sl_drew ?_))) (by with_reducible (repeat (first | exact O1.out | refine World.sl_ext intC_length ?_ _ | refine sl_alloc intC_length ?_ _ | refine sl_drew ?_))) ht20 HBL.out HWI.out))); (go_big_quiet_on))))
        refine wpQuiet_nil ?_
        rintro _ ⟨d', rfl⟩
        go_wp2_with fail
        go_meet
        exact (by repeat (first | with_reducible (first | exact World.gained_refl _ | exact ⟨_, rfl⟩ | apply gain_ext | apply gain_alloc | apply gain_drewN | apply gain_drew) | (refine gain_setCell ?_ (by first | exact Nat.le_refl _ | exact World.size_ext _ _ | (simp; done) | (simp; omega)) _)))
  obtain ⟨dB, rfl⟩ := hcut
  clear HYES HBL HBO2 HCT HCT2 hGG hNN HM0 HL0 HT0 O1 bx0 bx1 bx2 bx3 obx hl20 ht20 hrl hcl hll htl
  go_wp2_with fail
  refine (drawSharedLegs_any _ L _ (by with_reducible (repeat (first | exact hs.out | refine World.sl_ext byteC_length ?_ _ | refine sl_alloc byteC_length ?_ _ | refine sl_drew ?_))) HQ.out hl).mono ?_
  rintro e w1 ⟨m, rv, cv, lv, l, x0, a, x1, b, rfl, ⟨d1, rfl⟩, ho1, ho2, hrl, hcl, ho3, hll, ho4, htl, ho5, hbl⟩
  have HM := Lib.hid (show World.mp ((w.ext dB).ext d1) _ _ m from ⟨sl_of_own intC_length ho1, sl_of_own intC_length ho2, by omega, by omega⟩)
  have HL := Lib.hid (sl_of_own Ctl.cells_length ho3)
  have HT := Lib.hid (sl_of_own intC_length ho4)
  have HU := Lib.hid (sl_of_own intC_length ho5)
  obtain ⟨p1, c1, p2, c2, rfl, rfl⟩ := mp_form HM.out
  obtain ⟨p3, c3, rfl, _⟩ := HL.out
  obtain ⟨p4, c4, rfl, _⟩ := HT.out
  obtain ⟨p5, c5, rfl, _⟩ := HU.out
  clear ho1 ho2 ho3 ho4 ho5
  go_wp2_with fail
  generalize hW0 : World.alloc ((w.ext dB).ext d1) (.cells #[.int .i64 m.wd, .int .i64 m.ht, .slice p1 m.rise.length c1, .slice p2 m.cost.length c2] 26) = W0
  have hbx : MBox ((w.ext dB).ext d1) W0 ((w.ext dB).ext d1).heap.size m (.slice p1 m.rise.length c1) (.slice p2 m.cost.length c2) := by rw [← hW0]; exact mbox
  have HGW : ∃ d, W0 = w.ext d := gain_trans (by repeat (first | with_reducible (first | exact World.gained_refl _ | exact ⟨_, rfl⟩ | apply gain_ext | apply gain_alloc | apply gain_drewN | apply gain_drew) | (refine gain_setCell ?_ (by first | exact Nat.le_refl _ | exact World.size_ext _ _ | (simp; done) | (simp; omega)) _))) hbx.up
  have HM0 := Lib.hid (mp_up HM.out hbx.up)
  have HL0 := Lib.hid (sl_up Ctl.cells_length HL.out hbx.up)
  have HT0 := Lib.hid (sl_up intC_length HT.out hbx.up)
  have bx0 := hbx.c0
  have bx1 := hbx.c1
  have bx2 := hbx.c2
  have bx3 := hbx.c3
  have obx := hbx.ob
  have HU0 := Lib.hid (sl_up intC_length HU.out hbx.up)
  generalize ((w.ext dB).ext d1).heap.size = gB at bx0 bx1 bx2 bx3 obx ⊢
  clear hW0 hbx HM HL HT HU
  obtain ⟨dz, rfl⟩ := HGW
  have hl20 : l.length ≤ 1048576 := by omega
  have ha20 : a.length ≤ 1048576 := by omega
  have hb20 : b.length ≤ 1048576 := by omega
  have HYES := Lib.hid (fun (h : shlB m l a b = true) => shared_leg h)
  have HSH := Lib.hid (fun W hM hL hA hB => sharedLegs_any m (.slice p1 m.rise.length c1) (.slice p2 m.cost.length c2) (.slice p3 l.length c3) (.slice p4 a.length c4) (.slice p5 b.length c5) l a b W hM hL hl20 hA ha20 hB hb20)
  have HSSH := Lib.hid (fun W hM hL hA hB => specSharedLegs_any m (.slice p1 m.rise.length c1) (.slice p2 m.cost.length c2) (.slice p3 l.length c3) (.slice p4 a.length c4) (.slice p5 b.length c5) l a b W hM hL hl20 hA ha20 hB hb20)
  have HLA := Lib.hid (fun W hM hL hT => impLegTimes_any m (.slice p1 m.rise.length c1) (.slice p2 m.cost.length c2) (.slice p3 l.length c3) (.slice p4 a.length c4) l a W hM hL hl20 hT ha20)
  have HLB := Lib.hid (fun W hM hL hT => impLegTimes_any m (.slice p1 m.rise.length c1) (.slice p2 m.cost.length c2) (.slice p3 l.length c3) (.slice p5 b.length c5) l b W hM hL hl20 hT hb20)
  have HPL := Lib.hid (shlL_length m l a b)
  generalize shlB m l a b = G at HYES HSH HSSH
  have hGG : (G != G) = false := by simp
  refine (HSH.out _ (mp_up (HM0.out) (by repeat (first | with_reducible (first | exact World.gained_refl _ | exact ⟨_, rfl⟩ | apply gain_ext | apply gain_alloc | apply gain_drewN | apply gain_drew) | (refine gain_setCell ?_ (by first | exact Nat.le_refl _ | exact World.size_ext _ _ | (simp; done) | (simp; omega)) _)))) (by with_reducible (repeat (first | exact HL0.out | refine World.sl_ext Ctl.cells_length ?_ _ | refine sl_alloc Ctl.cells_length ?_ _ | refine sl_drew ?_))) (by with_reducible (repeat (first | exact HT0.out | refine World.sl_ext intC_length ?_ _ | refine sl_alloc intC_length ?_ _ | refine sl_drew ?_))) (by with_reducible (repeat (first | exact HU0.out | refine World.sl_ext intC_length ?_ _ | refine sl_alloc intC_length ?_ _ | refine sl_drew ?_)))).mono ?_
  rintro e w1 ⟨r1, rfl, ⟨d2, rfl⟩, o1⟩
  have O1 := Lib.hid (sl_of_own prC_length o1)
  clear o1
  generalize shlL m l a b = P at O1 HYES HPL HSSH
  obtain ⟨p6, c6, rfl, _⟩ := O1.out
  go_wp2_with fail
  refine (HSSH.out _ (mp_up (HM0.out) (by repeat (first | with_reducible (first | exact World.gained_refl _ | exact ⟨_, rfl⟩ | apply gain_ext | apply gain_alloc | apply gain_drewN | apply gain_drew) | (refine gain_setCell ?_ (by first | exact Nat.le_refl _ | exact World.size_ext _ _ | (simp; done) | (simp; omega)) _)))) (by with_reducible (repeat (first | exact HL0.out | refine World.sl_ext Ctl.cells_length ?_ _ | refine sl_alloc Ctl.cells_length ?_ _ | refine sl_drew ?_))) (by with_reducible (repeat (first | exact HT0.out | refine World.sl_ext intC_length ?_ _ | refine sl_alloc intC_length ?_ _ | refine sl_drew ?_))) (by with_reducible (repeat (first | exact HU0.out | refine World.sl_ext intC_length ?_ _ | refine sl_alloc intC_length ?_ _ | refine sl_drew ?_)))).mono ?_
  rintro e w1 ⟨r2, rfl, ⟨d3, rfl⟩, o2⟩
  have O2 := Lib.hid (sl_of_own prC_length o2)
  clear o2 HSH HSSH
  obtain ⟨p7, c7, rfl, _⟩ := O2.out
  go_upto_if 198 with (go_at_call 14; refine (vPairs_same _ _ P _ (by with_reducible (repeat (first | exact O1.out | refine World.sl_ext prC_length ?_ _ | refine sl_alloc prC_length ?_ _ | refine sl_drew ?_))) (by with_reducible (repeat (first | exact O2.out | refine World.sl_ext prC_length ?_ _ | refine sl_alloc prC_length ?_ _ | refine sl_drew ?_))) HPL.out).mono ?_; rintro e w1 ⟨rfl, d4, rfl⟩)
  clear O2
  go_cut [27, 28, 29, 30, 31] (fun _ _ _ _ _ wx => ∃ d, wx = w.ext d)
  case first =>
    cases G with
    | false =>
      go_wp2_with fail
      go_meet
      exact (by repeat (first | with_reducible (first | exact World.gained_refl _ | exact ⟨_, rfl⟩ | apply gain_ext | apply gain_alloc | apply gain_drewN | apply gain_drew) | (refine gain_setCell ?_ (by first | exact Nat.le_refl _ | exact World.size_ext _ _ | (simp; done) | (simp; omega)) _)))
    | true =>
      obtain ⟨f1, f2, f3, f4, f5, f6, f7⟩ := HYES.out rfl
      rw [f1] at HLA
      rw [f2] at HLB
      have F7 := Lib.hid f7
      clear f1 f2 f7 HYES
      go_wp2_with fail
      refine (HLA.out _ (mp_up (HM0.out) (by repeat (first | with_reducible (first | exact World.gained_refl _ | exact ⟨_, rfl⟩ | apply gain_ext | apply gain_alloc | apply gain_drewN | apply gain_drew) | (refine gain_setCell ?_ (by first | exact Nat.le_refl _ | exact World.size_ext _ _ | (simp; done) | (simp; omega)) _)))) (by with_reducible (repeat (first | exact HL0.out | refine World.sl_ext Ctl.cells_length ?_ _ | refine sl_alloc Ctl.cells_length ?_ _ | refine sl_drew ?_))) (by with_reducible (repeat (first | exact HT0.out | refine World.sl_ext intC_length ?_ _ | refine sl_alloc intC_length ?_ _ | refine sl_drew ?_)))).mono ?_
      rintro e w1 ⟨r3, rfl, ⟨d5, rfl⟩, o3⟩
      have O3 := Lib.hid (sl_of_own intC_length o3)
      clear o3
      go_wp2_with fail
      refine (HLB.out _ (mp_up (HM0.out) (by repeat (first | with_reducible (first | exact World.gained_refl _ | exact ⟨_, rfl⟩ | apply gain_ext | apply gain_alloc | apply gain_drewN | apply gain_drew) | (refine gain_setCell ?_ (by first | exact Nat.le_refl _ | exact World.size_ext _ _ | (simp; done) | (simp; omega)) _)))) (by with_reducible (repeat (first | exact HL0.out | refine World.sl_ext Ctl.cells_length ?_ _ | refine sl_alloc Ctl.cells_length ?_ _ | refine sl_drew ?_))) (by with_reducible (repeat (first | exact HU0.out | refine World.sl_ext intC_length ?_ _ | refine sl_alloc intC_length ?_ _ | refine sl_drew ?_)))).mono ?_
      rintro e w1 ⟨r4, rfl, ⟨d6, rfl⟩, o4⟩
      have O4 := Lib.hid (sl_of_own intC_length o4)
      clear o4 HLA HLB
      generalize legTimesL m l a = X at O3 F7 f3
      generalize legTimesL m l b = Y at O4 F7 f4
      obtain ⟨p8, c8, rfl, _⟩ := O3.out
      obtain ⟨p9, c9, rfl, _⟩ := O4.out
      have hX : ((X.length : Int) != (a.length : Int) - 1) = false := by simp; omega
      have hY : ((Y.length : Int) != (b.length : Int) - 1) = false := by simp; omega
      have hwa : IntKind.i64.wrap ((a.length : Int) - 1) = (a.length : Int) - 1 := IntWalk.i64_in _ (by omega)
      have hwb : IntKind.i64.wrap ((b.length : Int) - 1) = (b.length : Int) - 1 := IntWalk.i64_in _ (by omega)
      have O1' := Lib.hid (sl_up prC_length O1.out (w' := (((((w.ext dz).ext d2).ext d3).ext d4).ext d5).ext d6) (by repeat (first | with_reducible (first | exact World.gained_refl _ | exact ⟨_, rfl⟩ | apply gain_ext | apply gain_alloc | apply gain_drewN | apply gain_drew) | (refine gain_setCell ?_ (by first | exact Nat.le_refl _ | exact World.size_ext _ _ | (simp; done) | (simp; omega)) _))))
      have O3' := Lib.hid (sl_up intC_length O3.out (w' := (((((w.ext dz).ext d2).ext d3).ext d4).ext d5).ext d6) (by repeat (first | with_reducible (first | exact World.gained_refl _ | exact ⟨_, rfl⟩ | apply gain_ext | apply gain_alloc | apply gain_drewN | apply gain_drew) | (refine gain_setCell ?_ (by first | exact Nat.le_refl _ | exact World.size_ext _ _ | (simp; done) | (simp; omega)) _))))
      have HGZ : Hid (∃ d, (((((w.ext dz).ext d2).ext d3).ext d4).ext d5).ext d6 = w.ext d) := Lib.hid (by repeat (first | with_reducible (first | exact World.gained_refl _ | exact ⟨_, rfl⟩ | apply gain_ext | apply gain_alloc | apply gain_drewN | apply gain_drew) | (refine gain_setCell ?_ (by first | exact Nat.le_refl _ | exact World.size_ext _ _ | (simp; done) | (simp; omega)) _)))
      have hpl := HPL.out
      clear f3 f4
      clear O1 O3 HM0 HL0 HT0 HU0 bx0 bx1 bx2 bx3 obx HPL
      go_wp2_with fail
      generalize (((((w.ext dz).ext d2).ext d3).ext d4).ext d5).ext d6 = W6 at O1' O3' O4 HGZ ⊢
      go_loopw [31] (fun i_ wr => ∃ k : Nat, k ≤ P.length ∧ i_ = .int .i64 k ∧ ∃ d, wr = W6.ext d) (fun i_ _ => P.length - (intOf i_).toNat)
      case atStart => exact ⟨0, by omega, rfl, (by repeat (first | with_reducible (first | exact World.gained_refl _ | exact ⟨_, rfl⟩ | apply gain_ext | apply gain_alloc | apply gain_drewN | apply gain_drew) | (refine gain_setCell ?_ (by first | exact Nat.le_refl _ | exact World.size_ext _ _ | (simp; done) | (simp; omega)) _)))⟩
      case round =>
        obtain ⟨k, hk, rfl, d, rfl⟩ := hrel
        by_cases hlt : k < P.length
        · obtain ⟨i, j, h1, h2, e1, e2⟩ := F7.out _ (List.getElem_mem hlt)
          obtain ⟨b6, o6, rfl⟩ := sl_some O1'.out (by omega)
          obtain ⟨b8, o8, rfl⟩ := sl_some O3'.out (by omega)
          obtain ⟨b9, o9, rfl⟩ := sl_some O4.out (by omega)
          have k0 := sl_cells O1'.out hlt (j := 0) (by omega)
          have k1 := sl_cells O1'.out hlt (j := 1) (by omega)
          rw [e1] at k0 k1
          simp only [prC, List.getElem?_cons_zero, List.getElem?_cons_succ, Nat.add_zero] at k0 k1
          have x0 := sl_int O3'.out h1
          have y0 := sl_int O4.out h2
          rw [e2] at x0
          generalize Y[j] = z at x0 y0
          have ok0 := World.oldB_of_cell k0
          have ox0 := World.oldB_of_cell x0
          have oy0 := World.oldB_of_cell y0
          have hkd : decide ((k : Int) < (P.length : Int)) = true := decide_eq_true (by omega)
          have hi0 : (0 : Int) ≤ (i : Int) := by omega
          have hi1 : (i : Int) < (X.length : Int) := by omega
          have hj0 : (0 : Int) ≤ (j : Int) := by omega
          have hj1 : (j : Int) < (Y.length : Int) := by omega
          have hk0 : (0 : Int) ≤ (k : Int) := by omega
          have hk1 : (k : Int) < (P.length : Int) := by omega
          clear e1 e2
          go_upto_region 27 with fail
          refine wp_region_gain (by kernel_rfl) (by kernel_rfl) ?_
          repeat (first | go_big_quiet_skip | (go_big_quiet_want; go_big_quiet_op; first | go_big_quiet_on))
          refine wpQuiet_nil ?_
          rintro _ ⟨d', rfl⟩
          go_wp2_with fail
          go_roundw
          case rel => exact ⟨k + 1, by omega, by go_num, (by repeat (first | with_reducible (first | exact World.gained_refl _ | exact ⟨_, rfl⟩ | apply gain_ext | apply gain_alloc | apply gain_drewN | apply gain_drew) | (refine gain_setCell ?_ (by first | exact Nat.le_refl _ | exact World.size_ext _ _ | (simp; done) | (simp; omega)) _)))⟩
          case measure => simp [intOf]; omega
        · have hkd : decide ((k : Int) < (P.length : Int)) = false := decide_eq_false (by omega)
          go_wp2_with fail
          go_meet
          exact gain_trans HGZ.out ⟨_, rfl⟩
  obtain ⟨dC, rfl⟩ := hcut
  clear HYES HPL HLA HLB hGG HM0 HL0 HT0 HU0 O1 bx0 bx1 bx2 bx3 obx hl20 ha20 hb20 hrl hcl hll htl hbl
  go_wp2_with fail
  refine (drawBackLegs_any _ L _ (by with_reducible (repeat (first | exact hs.out | refine World.sl_ext byteC_length ?_ _ | refine sl_alloc byteC_length ?_ _ | refine sl_drew ?_))) HQ.out hl).mono ?_
  rintro e w1 ⟨m, rv, cv, lv, l, x0, t, rfl, ⟨d1, rfl⟩, ho1, ho2, hrl, hcl, ho3, hll, ho4, htl⟩
  have HM := Lib.hid (show World.mp ((w.ext dC).ext d1) _ _ m from ⟨sl_of_own intC_length ho1, sl_of_own intC_length ho2, by omega, by omega⟩)
  have HL := Lib.hid (sl_of_own Ctl.cells_length ho3)
  have HT := Lib.hid (sl_of_own intC_length ho4)
  obtain ⟨p1, c1, p2, c2, rfl, rfl⟩ := mp_form HM.out
  obtain ⟨p3, c3, rfl, _⟩ := HL.out
  obtain ⟨p4, c4, rfl, _⟩ := HT.out
  clear ho1 ho2 ho3 ho4
  go_wp2_with fail
  generalize hW0 : World.alloc ((w.ext dC).ext d1) (.cells #[.int .i64 m.wd, .int .i64 m.ht, .slice p1 m.rise.length c1, .slice p2 m.cost.length c2] 26) = W0
  have hbx : MBox ((w.ext dC).ext d1) W0 ((w.ext dC).ext d1).heap.size m (.slice p1 m.rise.length c1) (.slice p2 m.cost.length c2) := by rw [← hW0]; exact mbox
  have HGW : ∃ d, W0 = w.ext d := gain_trans (by repeat (first | with_reducible (first | exact World.gained_refl _ | exact ⟨_, rfl⟩ | apply gain_ext | apply gain_alloc | apply gain_drewN | apply gain_drew) | (refine gain_setCell ?_ (by first | exact Nat.le_refl _ | exact World.size_ext _ _ | (simp; done) | (simp; omega)) _))) hbx.up
  have HM0 := Lib.hid (mp_up HM.out hbx.up)
  have HL0 := Lib.hid (sl_up Ctl.cells_length HL.out hbx.up)
  have HT0 := Lib.hid (sl_up intC_length HT.out hbx.up)
  have bx0 := hbx.c0
  have bx1 := hbx.c1
  have bx2 := hbx.c2
  have bx3 := hbx.c3
  have obx := hbx.ob
  generalize (((w.ext dC).ext d1)).heap.size = gB at bx0 bx1 bx2 bx3 obx ⊢
  clear hW0 hbx HM HL HT
  obtain ⟨dz, rfl⟩ := HGW
  have hl20 : l.length ≤ 1048576 := by omega
  have ht20 : t.length ≤ 1048576 := by omega
  refine (impBackLegs_any m _ _ _ _ l t _ (mp_up (HM0.out) (by repeat (first | with_reducible (first | exact World.gained_refl _ | exact ⟨_, rfl⟩ | apply gain_ext | apply gain_alloc | apply gain_drewN | apply gain_drew) | (refine gain_setCell ?_ (by first | exact Nat.le_refl _ | exact World.size_ext _ _ | (simp; done) | (simp; omega)) _)))) (by with_reducible (repeat (first | exact HL0.out | refine World.sl_ext Ctl.cells_length ?_ _ | refine sl_alloc Ctl.cells_length ?_ _ | refine sl_drew ?_))) hl20 (by with_reducible (repeat (first | exact HT0.out | refine World.sl_ext intC_length ?_ _ | refine sl_alloc intC_length ?_ _ | refine sl_drew ?_))) ht20).mono ?_
  rintro e w1 ⟨r1, rfl, ⟨d2, rfl⟩, o1⟩
  have O1 := Lib.hid (sl_of_own intC_length o1)
  clear o1
  obtain ⟨p5, c5, rfl, _⟩ := O1.out
  go_wp2_with fail
  refine (specBackLegs_any m _ _ _ _ l t _ (mp_up (HM0.out) (by repeat (first | with_reducible (first | exact World.gained_refl _ | exact ⟨_, rfl⟩ | apply gain_ext | apply gain_alloc | apply gain_drewN | apply gain_drew) | (refine gain_setCell ?_ (by first | exact Nat.le_refl _ | exact World.size_ext _ _ | (simp; done) | (simp; omega)) _)))) (by with_reducible (repeat (first | exact HL0.out | refine World.sl_ext Ctl.cells_length ?_ _ | refine sl_alloc Ctl.cells_length ?_ _ | refine sl_drew ?_))) hl20 (by with_reducible (repeat (first | exact HT0.out | refine World.sl_ext intC_length ?_ _ | refine sl_alloc intC_length ?_ _ | refine sl_drew ?_))) ht20).mono ?_
  rintro e w1 ⟨r2, rfl, ⟨d3, rfl⟩, o2⟩
  have O2 := Lib.hid (sl_of_own intC_length o2)
  clear o2
  have HFL := Lib.hid (backC_length m l t)
  generalize crsB m l t = G
  have hG2 : (G == G) = true := by simp
  go_wp2_with (go_at_call 8; refine (vInts_same _ _ (backC m l t) _ (by with_reducible (repeat (first | exact O1.out | refine World.sl_ext intC_length ?_ _ | refine sl_alloc intC_length ?_ _ | refine sl_drew ?_))) (by with_reducible (repeat (first | exact O2.out | refine World.sl_ext intC_length ?_ _ | refine sl_alloc intC_length ?_ _ | refine sl_drew ?_))) HFL.out).mono ?_; rintro e w1 ⟨rfl, d4, rfl⟩)
  go_ret
  exact ⟨rfl, (by repeat (first | with_reducible (first | exact World.gained_refl _ | exact ⟨_, rfl⟩ | apply gain_ext | apply gain_alloc | apply gain_drewN | apply gain_drew) | (refine gain_setCell ?_ (by first | exact Nat.le_refl _ | exact World.size_ext _ _ | (simp; done) | (simp; omega)) _)))⟩
set_option maxRecDepth 100000 in
theorem fnOrders_lifted (os : Os) (started : os.Started) (H : Type) (enc : TypeId × Value → H) :
    ReturnsInHanded {} Tryz.checked os 3 .any (Rows.fnOrdersSpec.pre6 enc Tryz.prog Tryz.f3 Rows.fnOrdersRow.domain false) (Rows.fnOrdersSpec.post enc Tryz.prog Tryz.f3 false true false false) := by
  refine returnsInHanded_of_change (C := Tryz.checked) (by kernel_rfl) started (by kernel_rfl) Tryz.func3
    (ChangeSpec.witness6 (enc := enc) (C := Tryz.checked) false ⟨#[], #[.slice none 0 0], []⟩ 8 (by kernel_rfl) (by kernel_rfl) (by kernel_rfl) (by kernel_rfl)) ?_
  intro W base args ds gs before hval0 hW _ _
  have hval : ∀ (j : Nat) t v, Tryz.f3.params[j]? = some t → args[j]? = some v → Value.okWide Tryz.prog W .any base t v := hval0
  clear hval0
  have laidOut : laidOutB Tryz.prog = true := by as_aux_lemma => kernel_rfl
  have hWc := hW
  obtain ⟨p, q, hA0, hV, rfl, _, _⟩ := hWc
  have hA : DataW.TrodAll enc Tryz.prog W 0 (fun _ => true) true Tryz.f3.params.toList args.toList ds p := hA0
  clear hA0
  rw [Tryz.params3] at hA hval
  obtain ⟨v0, vs0, d0, ds0, p0, q0, hargs, rfl, rfl, h0, r0⟩ := trodAll_cons hA
  obtain ⟨rfl, rfl, rfl⟩ := trodAll_nil r0
  obtain rfl : args = #[v0] := by cases args; simp_all
  obtain ⟨rfl, rfl⟩ := trodVars_none hV
  obtain ⟨L, hs, hq, hn⟩ := read_Bytes (hval 0 22 v0 rfl rfl) h0
  refine (fnOrders_walk v0 L W hs hq hn).mono fun e W1 ⟨he, hg⟩ => ?_
  subst he
  exact ⟨_, rfl, law_post (tb := 4) laidOut (by kernel_rfl) hW rfl rfl (by kernel_rfl) Tryz.underlying4 hg⟩
theorem fnOrders_holds : Rows.FnOrdersSaid :=
  OpenClaim.holds_of_wide 3 Tryz.f3 rfl rfl rfl rfl rfl rfl rfl ⟨rfl, rfl, rfl, rfl, rfl⟩ rfl rfl rfl rfl rfl (by kernel_rfl) Tryz.func3 (by kernel_rfl)
    (of_decide_eq_true (by kernel_rfl)) (by unfold Func.isWrapper; first | (rw [if_pos (by decide +kernel)]; kernel_rfl) | (rw [if_neg (by decide +kernel)]; exact ⟨rfl, rfl⟩))
    (fun os started H enc _ => fnOrders_lifted os started H enc)
#print axioms fnOrders_holds
end Go.Proofs.YtmcimgnobimicaaGreat
