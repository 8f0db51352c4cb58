/- spec.SwapLegs. Condition: a size of at most 1048576. -/
import Derived.Test.YtlofdpbdnkcnkaaSwap
import Derived.Deep.DeepCutAuto
namespace Go
theorem cell_gain {w w' : World} {a : Addr} {v : Value} (h : w.cell? a = some v) (hg : ∃ d, w' = w.ext d) : w'.cell? a = some v := by
  obtain ⟨d, rfl⟩ := hg
  exact cell_ext h d
end Go
namespace Go.Proofs.Ytlofdpbdnkcnkaa
open Go.RowKit Go.Ori
set_option maxHeartbeats 4000000 in
theorem specSwapLegs_any (v : Value) (l : List (List (List Int))) (legs forks team a b : Int) (w : World) (h : w.sl3 v l) (hT : tot3 l ≤ 1048576) :
    Calls Try.prog 23 #[v, .int .i64 legs, .int .i64 forks, .int .i64 team, .int .i64 a, .int .i64 b] w fun x w' => ∃ r, x = .returned (.tuple #[r, .bool (swapB l legs forks team a b)]) ∧ (∃ d, w' = w.ext d) ∧ World.rows3p 25 28 3 w' w.heap.size r (swapL l legs forks team a b) := by
  have hs := Lib.hid h
  have hl : l.length ≤ 1048576 := by have := tot3_len l; omega
  obtain ⟨p, c, rfl⟩ := sl3_form h
  clear h
  have HG := Lib.hid (fun W hW => l9Good_any (.slice p l.length c) l legs forks W hW hT)
  cases hP : planB l legs forks with
  | false =>
    have HE := Lib.hid (swap_no (l := l) (legs := legs) (forks := forks) (team := team) (a := a) (b := b) (by simp [swapB, hP]))
    go_enter Try.func23, Try.ntmps23
    go_wp2_with (first | (go_at_call 45; refine (HG.out _ (sl3_up hs.out (by repeat (first | with_reducible (first | exact World.gained_refl _ | exact ⟨_, rfl⟩ | apply gain_ext | apply gain_alloc | apply gain_drewN | apply gain_drew) | (refine gain_setCell ?_ (by first | exact Nat.le_refl _ | exact World.size_ext _ _ | (simp; done) | (simp; omega)) _))))).mono ?_; rintro e w1 ⟨rfl, d1, rfl⟩) | (go_at_call 57; refine (l1In_any _ _ _ _).mono ?_; rintro e w1 ⟨rfl, rfl⟩))
    go_ret2
    rw [HE.out.1, HE.out.2]
    exact ⟨_, rfl, (by repeat (first | with_reducible (first | exact World.gained_refl _ | exact ⟨_, rfl⟩ | apply gain_ext | apply gain_alloc | apply gain_drewN | apply gain_drew) | (refine gain_setCell ?_ (by first | exact Nat.le_refl _ | exact World.size_ext _ _ | (simp; done) | (simp; omega)) _))), _, _, rows3_nil (own_lit' (l := ([] : List Value)) valC_length rfl rfl (gain_size (by repeat (first | with_reducible (first | exact World.gained_refl _ | exact ⟨_, rfl⟩ | apply gain_ext | apply gain_alloc | apply gain_drewN | apply gain_drew) | (refine gain_setCell ?_ (by first | exact Nat.le_refl _ | exact World.size_ext _ _ | (simp; done) | (simp; omega)) _)))))⟩
  | true =>
  obtain ⟨L, F, rfl, rfl, a1, a2, a3, a4, a5, -⟩ := planB_true hP
  have hw1 : IntKind.i64.wrap ((L : Int) - 1) = (L : Int) - 1 := IntWalk.i64_in _ (by omega)
  cases hA : insB team 0 ((l.length : Int) - 1) with
  | false =>
    have HE := Lib.hid (swap_no (l := l) (legs := L) (forks := F) (team := team) (a := a) (b := b) (by simp [swapB, hA]))
    go_enter Try.func23, Try.ntmps23
    go_wp2_with (first | (go_at_call 45; refine (HG.out _ (sl3_up hs.out (by repeat (first | with_reducible (first | exact World.gained_refl _ | exact ⟨_, rfl⟩ | apply gain_ext | apply gain_alloc | apply gain_drewN | apply gain_drew) | (refine gain_setCell ?_ (by first | exact Nat.le_refl _ | exact World.size_ext _ _ | (simp; done) | (simp; omega)) _))))).mono ?_; rintro e w1 ⟨rfl, d1, rfl⟩) | (go_at_call 57; refine (l1In_any _ _ _ _).mono ?_; rintro e w1 ⟨rfl, rfl⟩))
    go_ret2
    rw [HE.out.1, HE.out.2]
    exact ⟨_, rfl, (by repeat (first | with_reducible (first | exact World.gained_refl _ | exact ⟨_, rfl⟩ | apply gain_ext | apply gain_alloc | apply gain_drewN | apply gain_drew) | (refine gain_setCell ?_ (by first | exact Nat.le_refl _ | exact World.size_ext _ _ | (simp; done) | (simp; omega)) _))), _, _, rows3_nil (own_lit' (l := ([] : List Value)) valC_length rfl rfl (gain_size (by repeat (first | with_reducible (first | exact World.gained_refl _ | exact ⟨_, rfl⟩ | apply gain_ext | apply gain_alloc | apply gain_drewN | apply gain_drew) | (refine gain_setCell ?_ (by first | exact Nat.le_refl _ | exact World.size_ext _ _ | (simp; done) | (simp; omega)) _)))))⟩
  | true =>
  cases hB : insB a 0 ((L : Int) - 1) with
  | false =>
    have HE := Lib.hid (swap_no (l := l) (legs := L) (forks := F) (team := team) (a := a) (b := b) (by simp [swapB, hB]))
    go_enter Try.func23, Try.ntmps23
    go_wp2_with (first | (go_at_call 45; refine (HG.out _ (sl3_up hs.out (by repeat (first | with_reducible (first | exact World.gained_refl _ | exact ⟨_, rfl⟩ | apply gain_ext | apply gain_alloc | apply gain_drewN | apply gain_drew) | (refine gain_setCell ?_ (by first | exact Nat.le_refl _ | exact World.size_ext _ _ | (simp; done) | (simp; omega)) _))))).mono ?_; rintro e w1 ⟨rfl, d1, rfl⟩) | (go_at_call 57; refine (l1In_any _ _ _ _).mono ?_; rintro e w1 ⟨rfl, rfl⟩))
    go_ret2
    rw [HE.out.1, HE.out.2]
    exact ⟨_, rfl, (by repeat (first | with_reducible (first | exact World.gained_refl _ | exact ⟨_, rfl⟩ | apply gain_ext | apply gain_alloc | apply gain_drewN | apply gain_drew) | (refine gain_setCell ?_ (by first | exact Nat.le_refl _ | exact World.size_ext _ _ | (simp; done) | (simp; omega)) _))), _, _, rows3_nil (own_lit' (l := ([] : List Value)) valC_length rfl rfl (gain_size (by repeat (first | with_reducible (first | exact World.gained_refl _ | exact ⟨_, rfl⟩ | apply gain_ext | apply gain_alloc | apply gain_drewN | apply gain_drew) | (refine gain_setCell ?_ (by first | exact Nat.le_refl _ | exact World.size_ext _ _ | (simp; done) | (simp; omega)) _)))))⟩
  | true =>
  cases hC : insB b 0 ((L : Int) - 1) with
  | false =>
    have HE := Lib.hid (swap_no (l := l) (legs := L) (forks := F) (team := team) (a := a) (b := b) (by simp [swapB, hC]))
    go_enter Try.func23, Try.ntmps23
    go_wp2_with (first | (go_at_call 45; refine (HG.out _ (sl3_up hs.out (by repeat (first | with_reducible (first | exact World.gained_refl _ | exact ⟨_, rfl⟩ | apply gain_ext | apply gain_alloc | apply gain_drewN | apply gain_drew) | (refine gain_setCell ?_ (by first | exact Nat.le_refl _ | exact World.size_ext _ _ | (simp; done) | (simp; omega)) _))))).mono ?_; rintro e w1 ⟨rfl, d1, rfl⟩) | (go_at_call 57; refine (l1In_any _ _ _ _).mono ?_; rintro e w1 ⟨rfl, rfl⟩))
    go_ret2
    rw [HE.out.1, HE.out.2]
    exact ⟨_, rfl, (by repeat (first | with_reducible (first | exact World.gained_refl _ | exact ⟨_, rfl⟩ | apply gain_ext | apply gain_alloc | apply gain_drewN | apply gain_drew) | (refine gain_setCell ?_ (by first | exact Nat.le_refl _ | exact World.size_ext _ _ | (simp; done) | (simp; omega)) _))), _, _, rows3_nil (own_lit' (l := ([] : List Value)) valC_length rfl rfl (gain_size (by repeat (first | with_reducible (first | exact World.gained_refl _ | exact ⟨_, rfl⟩ | apply gain_ext | apply gain_alloc | apply gain_drewN | apply gain_drew) | (refine gain_setCell ?_ (by first | exact Nat.le_refl _ | exact World.size_ext _ _ | (simp; done) | (simp; omega)) _)))))⟩
  | true =>
    have hSB : swapB l L F team a b = true := by simp [swapB, hP, hA, hB, hC]
    obtain ⟨L', F', T, A, B, e1, e2, rfl, rfl, rfl, hS⟩ := swapB_true hSB
    obtain rfl : L = L' := by omega
    obtain rfl : F = F' := by omega
    clear e1 e2
    have HE := Lib.hid (swapL_yes hSB)
    have HS := Lib.hid hS
    have hl6 := hS.n6
    have hL4 := hS.l4
    have hL1 := hS.l1
    have hTl := hS.t
    have hAl := hS.a
    have hBl := hS.b
    clear hSB hS
    go_enter Try.func23, Try.ntmps23
    go_wp2_with (first | (go_at_call 45; refine (HG.out _ (sl3_up hs.out (by repeat (first | with_reducible (first | exact World.gained_refl _ | exact ⟨_, rfl⟩ | apply gain_ext | apply gain_alloc | apply gain_drewN | apply gain_drew) | (refine gain_setCell ?_ (by first | exact Nat.le_refl _ | exact World.size_ext _ _ | (simp; done) | (simp; omega)) _))))).mono ?_; rw [hP]; rintro e w1 ⟨rfl, d1, rfl⟩) | (go_at_call 57; refine (l1In_any _ _ _ _).mono ?_; rintro e w1 ⟨rfl, rfl⟩))
    refine (l9Own_any _ l _ (sl3_up hs.out (by repeat (first | with_reducible (first | exact World.gained_refl _ | exact ⟨_, rfl⟩ | apply gain_ext | apply gain_alloc | apply gain_drewN | apply gain_drew) | (refine gain_setCell ?_ (by first | exact Nat.le_refl _ | exact World.size_ext _ _ | (simp; done) | (simp; omega)) _)))) hT).mono ?_
    rintro e w1 ⟨r, us, vss, rfl, hg2, hr3⟩
    have HR3 := Lib.hid hr3
    have HGW := Lib.hid (show ∃ d, w1 = w.ext d from gain_trans (by repeat (first | with_reducible (first | exact World.gained_refl _ | exact ⟨_, rfl⟩ | apply gain_ext | apply gain_alloc | apply gain_drewN | apply gain_drew) | (refine gain_setCell ?_ (by first | exact Nat.le_refl _ | exact World.size_ext _ _ | (simp; done) | (simp; omega)) _))) hg2)
    clear hr3 hg2
    have hul := HR3.out.1.len
    have hvl := HR3.out.1.len2
    have hTu : T < us.length := by omega
    have hTv : T < vss.length := by omega
    obtain ⟨g0, cap0, rfl, _, _⟩ := own_addr HR3.out.1.out (by omega)
    have hrow := HR3.out.1.row T hTl hTu hTv
    have hlr := (HS.out.rows T hTl).1
    have hll := HS.out.rows T hTl
    obtain ⟨g, cap, hu, _, _⟩ := own_addr hrow.out (by rw [hrow.len]; omega)
    have hro := hrow.out
    rw [hu] at hro
    have hgg : w.heap.size ≤ g := Nat.le_trans (World.size_ext w d1) (own_lt hro g rfl).1
    have hpl : (w.ext d1).heap.size ≤ w1.heap.size := by
      obtain ⟨b, hb⟩ : ∃ b, (Value.slice (some ⟨g, 0, none⟩) l[T].length cap).ownBlock = some b := ⟨g, rfl⟩
      have := own_lt hro g rfl
      omega
    have hplL : l[T].length = L := hlr
    have hAl' : A < l[T].length := by omega
    have hBl' : B < l[T].length := by omega
    have HRA := Lib.hid (show (l[T][A]).length ≤ 1048576 by rw [hll.2 A hAl']; have := HS.out.f4; omega)
    have HRB := Lib.hid (show (l[T][B]).length ≤ 1048576 by rw [hll.2 B hBl']; have := HS.out.f4; omega)
    obtain ⟨b0, o0, rfl⟩ := slOf_some hs.out (by omega)
    obtain ⟨u, c0, hu2⟩ := slOf_at hs.out hTl
    obtain ⟨q1, c1, rfl⟩ := sl2_form hu2
    obtain ⟨b1, o1, rfl⟩ := slOf_some hu2 (by omega)
    obtain ⟨uA, eA, hA1⟩ := slOf_at hu2 hAl'
    obtain ⟨uB, eB, hB1⟩ := slOf_at hu2 hBl'
    obtain ⟨pA, kA, rfl⟩ := sl1_form hA1
    obtain ⟨pB, kB, rfl⟩ := sl1_form hB1
    have HA1 := Lib.hid hA1
    have HB1 := Lib.hid hB1
    have HE1 : Hid (swapL l L F T A B = l.set T (swap2 l[T] A B)) := Lib.hid (by rw [HE.out.1, List.getD_eq_getElem?_getD, List.getElem?_eq_getElem hTl]; rfl)
    have HSW : Hid (swap2 l[T] A B = (l[T].set A l[T][B]).set B l[T][A]) := Lib.hid (by
      rw [swap2, List.getD_eq_getElem?_getD, List.getD_eq_getElem?_getD, List.getElem?_eq_getElem hAl', List.getElem?_eq_getElem hBl']; rfl)
    have HE2 := Lib.hid HE.out.2
    clear hu2 hA1 hB1 hrow hlr hll hP hA hB hC HG HE
    have HC0 := Lib.hid c0
    have HCA := Lib.hid eA
    have HCB := Lib.hid eB
    clear c0 eA eB
    have HROW := Lib.hid hro
    have HU := Lib.hid hu
    have hvT : (vss[T]'hTv).length = L := by rw [(HR3.out.1.row T hTl hTu hTv).len]; exact hplL
    have LIVE := fun (W : World) (vs : List Value) (lo n : Nat) (hW : W.own lo 28 valC 1 (.slice (some ⟨g, 0, none⟩) n cap) vs) (k : Nat) (hk : k < vs.length) => (show ∃ x, W.cell? ⟨g, k, none⟩ = some x ∧ W.frozen? ⟨g, k, none⟩ = false from by
      obtain ⟨q1, q2, q3, _, _, q6⟩ := own_open hW (by omega)
      simp only [Value.slice.injEq, Option.some.injEq, Addr.mk.injEq, and_true] at q3
      obtain ⟨rfl, _⟩ := q3
      exact q6 k (by omega))
    have HLIVE := Lib.hid LIVE
    have hYS : us[T]'hTu = .slice (some ⟨g, 0, none⟩) L cap := by rw [hu, hvT]
    clear LIVE hro
    rw [hul] at HR3 ⊢
    have HUL := Lib.hid hul
    have HVL := Lib.hid hvl
    have HPL := Lib.hid hplL
    have HVT := Lib.hid hvT
    have HYS := Lib.hid hYS
    clear hul hvl hplL hvT hu hYS
    have x0 := cell_gain HC0.out HGW.out
    have xA := cell_gain HCA.out HGW.out
    have xB := cell_gain HCB.out HGW.out
    have obx0 := World.oldB_of_cell x0
    have obxA := World.oldB_of_cell xA
    have y0 := sl_cells (sl_of_own valC_length HR3.out.1.out) (k := T) hTu (j := 0) (by omega)
    simp only [valC, List.getElem?_cons_zero, Nat.add_zero, Nat.zero_add, Nat.mul_one] at y0
    rw [HYS.out] at y0
    have oby0 := World.oldB_of_cell y0
    obtain ⟨yA, tA, zA⟩ := HLIVE.out w1 _ _ _ HROW.out A (by have := HVT.out; omega)
    have obtA := World.oldB_of_cell tA
    have tA' : w1.drew.cell? ⟨g, A, none⟩ = some yA := tA
    have zA' : w1.drew.frozen? ⟨g, A, none⟩ = false := zA
    have obA' : w1.drew.oldB g := obtA
    have y0' : w1.drew.cell? _ = _ := y0
    have ob0' : w1.drew.oldB g0 := oby0
    have x0' : w1.drew.cell? _ = _ := x0
    have xA' : w1.drew.cell? _ = _ := xA
    have xB' : w1.drew.cell? _ = _ := xB
    have obx0' : w1.drew.oldB b0 := obx0
    have obxA' : w1.drew.oldB b1 := obxA
    go_upto_region 4 with fail
    go_cut [] (fun wx => (∃ d, wx = w.ext d) ∧ w1.heap.size ≤ wx.heap.size ∧ ∃ vss', World.rows3u 25 28 3 wx (w.ext d1).heap.size (.slice (some ⟨g0, 0, none⟩) l.length cap0) us vss' (l.set T (l[T].set A l[T][B])))
    case first =>
      go_region_law (go_simp; go_at_call 62; refine (l1Own_any _ l[T][B] _ (sl1_up HB1.out (gain_trans HGW.out (by repeat (first | with_reducible (first | exact World.gained_refl _ | exact ⟨_, rfl⟩ | apply gain_ext | apply gain_alloc | apply gain_drewN | apply gain_drew) | (refine gain_setCell ?_ (by first | exact Nat.le_refl _ | exact World.size_ext _ _ | (simp; done) | (simp; omega)) _))))) HRB.out).mono ?_; rintro e w9 ⟨r9, rfl, ⟨d9, rfl⟩, hro9⟩; obtain ⟨p9, c9, rfl, _⟩ := sl_of_own intC_length hro9)
      all_goals (
        go_wp2_with fail
        go_meet
        exact ⟨gain_setCell (gain_trans HGW.out (by repeat (first | with_reducible (first | exact World.gained_refl _ | exact ⟨_, rfl⟩ | apply gain_ext | apply gain_alloc | apply gain_drewN | apply gain_drew) | (refine gain_setCell ?_ (by first | exact Nat.le_refl _ | exact World.size_ext _ _ | (simp; done) | (simp; omega)) _)))) hgg _, by rw [World.size_setCell]; exact World.size_ext w1.drew d9, rows3_fresh HR3.out (by repeat (first | with_reducible (first | exact World.gained_refl _ | exact ⟨_, rfl⟩ | apply gain_ext | apply gain_alloc | apply gain_drewN | apply gain_drew) | (refine gain_setCell ?_ (by first | exact Nat.le_refl _ | exact World.size_ext _ _ | (simp; done) | (simp; omega)) _))) hpl hro9 (by decide) (by decide) hTl hTu HU.out hAl'⟩)
    clear x0 xA xB obx0 obxA y0 oby0 tA zA obtA tA' zA' obA' y0' ob0' x0' xA' xB' obx0' obxA'
    obtain ⟨hgx, hsx, vss2, hr4⟩ := hcut
    have HGX := Lib.hid hgx
    have HR4 := Lib.hid hr4
    clear hgx hr4
    have hl2 : T < (l.set T (l[T].set A l[T][B])).length := by simpa using hTl
    have hTv2 : T < vss2.length := by rw [HR4.out.1.len2]; exact hl2
    have hrow2 := HR4.out.1.row T hl2 hTu hTv2
    have HVT2 := Lib.hid (show (vss2[T]'hTv2).length = L by rw [hrow2.len, List.getElem_set_self, List.length_set]; exact HPL.out)
    have hro2 := hrow2.out
    rw [HYS.out] at hro2
    have HROW2 := Lib.hid hro2
    clear hro2 hrow2
    have hB2 : B < ((l.set T (l[T].set A l[T][B]))[T]'hl2).length := by rw [List.getElem_set_self, List.length_set]; exact hBl'
    have HFIN := Lib.hid (show (l.set T (l[T].set A l[T][B])).set T (((l.set T (l[T].set A l[T][B]))[T]'hl2).set B l[T][A]) = l.set T (swap2 l[T] A B) by rw [List.getElem_set_self, List.set_set, HSW.out])
    have hpl2 : (w.ext d1).heap.size ≤ wc.heap.size := Nat.le_trans hpl hsx
    have x0 := cell_gain HC0.out HGX.out
    have xA := cell_gain HCA.out HGX.out
    have xB := cell_gain HCB.out HGX.out
    have obx0 := World.oldB_of_cell x0
    have obxA := World.oldB_of_cell xA
    have y0 := sl_cells (sl_of_own valC_length HR4.out.1.out) (k := T) hTu (j := 0) (by omega)
    simp only [valC, List.getElem?_cons_zero, Nat.add_zero, Nat.zero_add, Nat.mul_one] at y0
    rw [HYS.out] at y0
    have oby0 := World.oldB_of_cell y0
    obtain ⟨yA, tA, zA⟩ := HLIVE.out wc _ _ _ HROW2.out B (by have := HVT2.out; omega)
    have obtA := World.oldB_of_cell tA
    have tA' : wc.drew.cell? ⟨g, B, none⟩ = some yA := tA
    have zA' : wc.drew.frozen? ⟨g, B, none⟩ = false := zA
    have obA' : wc.drew.oldB g := obtA
    have y0' : wc.drew.cell? _ = _ := y0
    have ob0' : wc.drew.oldB g0 := oby0
    have x0' : wc.drew.cell? _ = _ := x0
    have xA' : wc.drew.cell? _ = _ := xA
    have xB' : wc.drew.cell? _ = _ := xB
    have obx0' : wc.drew.oldB b0 := obx0
    have obxA' : wc.drew.oldB b1 := obxA
    go_upto_region 5 with fail
    go_cut [] (fun wx => (∃ d, wx = w.ext d) ∧ wc.heap.size ≤ wx.heap.size ∧ ∃ vss', World.rows3u 25 28 3 wx (w.ext d1).heap.size (.slice (some ⟨g0, 0, none⟩) l.length cap0) us vss' (l.set T (swap2 l[T] A B)))
    case first =>
      go_region_law (go_simp; go_at_call 62; refine (l1Own_any _ l[T][A] _ (sl1_up HA1.out (gain_trans HGX.out (by repeat (first | with_reducible (first | exact World.gained_refl _ | exact ⟨_, rfl⟩ | apply gain_ext | apply gain_alloc | apply gain_drewN | apply gain_drew) | (refine gain_setCell ?_ (by first | exact Nat.le_refl _ | exact World.size_ext _ _ | (simp; done) | (simp; omega)) _))))) HRA.out).mono ?_; rintro e w9 ⟨r9, rfl, ⟨d9, rfl⟩, hro9⟩; obtain ⟨p9, c9, rfl, _⟩ := sl_of_own intC_length hro9)
      all_goals (
        go_wp2_with fail
        go_meet
        exact ⟨gain_setCell (gain_trans HGX.out (by repeat (first | with_reducible (first | exact World.gained_refl _ | exact ⟨_, rfl⟩ | apply gain_ext | apply gain_alloc | apply gain_drewN | apply gain_drew) | (refine gain_setCell ?_ (by first | exact Nat.le_refl _ | exact World.size_ext _ _ | (simp; done) | (simp; omega)) _)))) hgg _, by rw [World.size_setCell]; exact World.size_ext wc.drew d9, by rw [← HFIN.out]; exact rows3_fresh HR4.out (by repeat (first | with_reducible (first | exact World.gained_refl _ | exact ⟨_, rfl⟩ | apply gain_ext | apply gain_alloc | apply gain_drewN | apply gain_drew) | (refine gain_setCell ?_ (by first | exact Nat.le_refl _ | exact World.size_ext _ _ | (simp; done) | (simp; omega)) _))) hpl2 hro9 (by decide) (by decide) hl2 hTu HYS.out hB2⟩)
    clear x0 xA xB obx0 obxA y0 oby0 tA zA obtA tA' zA' obA' y0' ob0' x0' xA' xB' obx0' obxA'
    obtain ⟨hgy, _, vss3, hr5⟩ := hcut
    go_wp2
    go_ret2
    rw [HE1.out, HE2.out]
    exact ⟨_, rfl, hgy, _, _, rows3_base hr5.1 (World.size_ext w d1)⟩
end Go.Proofs.Ytlofdpbdnkcnkaa
