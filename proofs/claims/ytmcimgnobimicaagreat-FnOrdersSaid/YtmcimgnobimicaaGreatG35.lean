/- impl.BestOrder's closure. Conditions: codes that stand for controls which can all be reached from one another, at most seven. -/
import Derived.Test.YtmcimgnobimicaaGreatG33
import Derived.Test.YtmcimgnobimicaaGreatG34
import Derived.Deep.DeepCutAuto
namespace Go.Proofs.YtmcimgnobimicaaGreat
open Go.RowKit Go.Ori Go.Maps
theorem lastI_get {l : List Int} (h : 0 < l.length) : l[l.length - 1]'(by omega) = lastI l := by simp [lastI, List.getD_eq_getElem?_getD, (show l.length - 1 < l.length by omega)]
/-- What the times are like. -/
structure TOk (T : Int → Int → Int) (Q : Int → Int → Prop) (all : List Int) (D : DataW Unit) : Prop where
  ok : TmOk T Q D
  q : ∀ a ∈ all, ∀ b ∈ all, Q a b
  wf : ∀ a ∈ all, wfI a
  pos : ∀ a b, 0 ≤ T a b
  le : ∀ a ∈ all, ∀ b ∈ all, T a b ≤ 1000
theorem TOk.at {T : Int → Int → Int} {Q : Int → Int → Prop} {all : List Int} {D : DataW Unit} (h : TOk T Q all D) {a b : Int} (ha : a ∈ all) (hb : b ∈ all) : D.atKey (kp a b) (.lit (.int .i64 0)) = .lit (.int .i64 (T a b)) := h.ok.2 a b (h.q a ha b hb) (h.wf a ha) (h.wf b hb)
def capV (A : VAt) : List Value := [.pointer (some ⟨A.gm, 0, none⟩), .pointer (some ⟨A.gv, 0, none⟩), .pointer (some ⟨A.gt, 0, none⟩), .pointer (some ⟨A.gc, 0, none⟩), .pointer (some ⟨A.gl, 0, none⟩), .pointer (some ⟨A.gs, 0, none⟩), .pointer (some ⟨A.gb, 0, none⟩)]
set_option maxHeartbeats 8000000 in
set_option maxRecDepth 20000 in
theorem visit0_any (T : Int → Int → Int) (Q : Int → Int → Prop) (all middle : List Int) (fin : Int) (D : DataW Unit) (hT : TOk T Q all D) (A : VAt) (pc : Option Addr) (cc ln : Nat) (hcv : A.cv = .slice pc ln cc) (hln : ln ≤ 7) (hmid : middle.length ≤ 7)
    (order : List Int) (ov : Value) (sum : Int) (st : List Int × Int) (best : Value) (w : World) (hV : VSt A middle fin D w best st) (ho : w.own A.lo 3 intC 1 ov order) (h0 : 0 < order.length) (hin : ∀ x ∈ order, x ∈ all) (hfin : fin ∈ all)
    (hall : ∀ x ∈ middle, x ∈ order) (hk : order.length + 1 = ln) (hs : 0 ≤ sum ∧ sum ≤ 1000000) :
    Calls Tryz.prog 26 #[ov, .int .i64 sum, .pointer (some ⟨A.gm, 0, none⟩), .pointer (some ⟨A.gv, 0, none⟩), .pointer (some ⟨A.gt, 0, none⟩), .pointer (some ⟨A.gc, 0, none⟩), .pointer (some ⟨A.gl, 0, none⟩), .pointer (some ⟨A.gs, 0, none⟩), .pointer (some ⟨A.gb, 0, none⟩)] w fun x w' =>
      x = .returned (.tuple #[]) ∧ w.kept2 w' A.gs A.gb ∧ ∃ best', VSt A middle fin D w' best' (better st (order ++ [fin], sum + T (lastI order) fin)) := by
  have HV := Lib.hid hV
  have HO := Lib.hid ho
  have HTO := Lib.hid hT
  have HALL := Lib.hid hall
  have HIN := Lib.hid hin
  have hlm : lastI order ∈ order := by rw [← lastI_get h0]; exact List.getElem_mem _
  obtain ⟨go, ko, rfl, _, _⟩ := own_addr ho h0
  have hlo := own_lt ho go rfl
  have y0 := sl_int (sl_of_own intC_length ho) (k := order.length - 1) (by omega)
  rw [lastI_get h0, Nat.zero_add] at y0
  have oby := World.oldB_of_cell y0
  have hwo : IntKind.i64.wrap ((order.length : Int) - 1) = (order.length : Int) - 1 := IntWalk.i64_in _ (by omega)
  have hwn : ((order.length : Int) - 1).toNat = order.length - 1 := by omega
  have hq0 : (0 : Int) ≤ (order.length : Int) - 1 := by omega
  have hq1 : (order.length : Int) - 1 < (order.length : Int) := by omega
  have x_m : w.cell? ⟨A.gm, 0, none⟩ = some A.mv := World.cell_of_heap hV.mid 0
  have x_t : w.cell? ⟨A.gt, 0, none⟩ = some (.map (some A.bM)) := World.cell_of_heap hV.tim 0
  have x_c : w.cell? ⟨A.gc, 0, none⟩ = some A.cv := World.cell_of_heap hV.crs 0
  have x_l : w.cell? ⟨A.gl, 0, none⟩ = some (.int .i64 fin) := World.cell_of_heap hV.las 0
  have x_s : w.cell? ⟨A.gs, 0, none⟩ = some (.int .i64 st.2) := World.cell_of_heap hV.lea 0
  have z_s : w.frozen? ⟨A.gs, 0, none⟩ = false := World.free_of_heap hV.lea 0
  have x_b : w.cell? ⟨A.gb, 0, none⟩ = some best := World.cell_of_heap hV.bes 0
  have z_b : w.frozen? ⟨A.gb, 0, none⟩ = false := World.free_of_heap hV.bes 0
  have o_m := World.oldB_of_cell x_m
  have o_t := World.oldB_of_cell x_t
  have o_c := World.oldB_of_cell x_c
  have o_l := World.oldB_of_cell x_l
  have o_s := World.oldB_of_cell x_s
  have o_b := World.oldB_of_cell x_b
  have hmids := hV.mids
  obtain ⟨pm, km, hmv, _⟩ := sl_of_own intC_length hmids
  rw [hcv] at x_c
  have HMV := Lib.hid hmv
  rw [hmv] at x_m hmids
  have HMS := Lib.hid hmids
  clear hV ho hT hall hmids hmv
  go_enter Tryz.func26, Tryz.ntmps26
  go_wp2_with fail
  go_loopw [22] (fun i_ wr => ∃ q : Nat, q ≤ middle.length ∧ i_ = .int .i64 q ∧ ∃ d, wr = w.ext d) (fun i_ _ => middle.length - (intOf i_).toNat)
  case atStart => exact ⟨0, by omega, rfl, (by repeat (first | with_reducible (first | exact World.gained_refl _ | exact ⟨_, rfl⟩ | apply gain_ext | apply gain_alloc | apply gain_drewN | apply gain_drew) | (refine gain_setCell ?_ (by first | exact Nat.le_refl _ | exact World.size_ext _ _ | (simp; done) | (simp; omega)) _)))⟩
  case round =>
    obtain ⟨q, hq, rfl, d, rfl⟩ := hrel
    by_cases hlt : q < middle.length
    · obtain ⟨bm, om, rfl⟩ := sl_some (sl_of_own intC_length HMS.out) (by omega)
      have c0 := sl_int (sl_of_own intC_length HMS.out) hlt
      have hin2 := HALL.out _ (List.getElem_mem hlt)
      have HCN := Lib.hid (fun W hW => by
        have h := contains_ints (.slice (some ⟨go, 0, none⟩) order.length ko) order middle[q] W hW (by omega)
        rw [hasB_iff.2 hin2] at h
        exact h)
      generalize middle[q] = c at c0 HCN
      have obc := World.oldB_of_cell c0
      clear hin2
      go_wp2_with (go_at_call 27; refine (HCN.out _ (by with_reducible (repeat (first | exact sl_of_own intC_length HO.out | refine World.sl_ext intC_length ?_ _ | refine sl_alloc intC_length ?_ _ | refine sl_drew ?_)))).mono ?_; rintro e w1 ⟨rfl, d1, rfl⟩)
      go_roundw
      case rel => exact ⟨q + 1, by omega, by go_num, (by repeat (first | with_reducible (first | exact World.gained_refl _ | exact ⟨_, rfl⟩ | apply gain_ext | apply gain_alloc | apply gain_drewN | apply gain_drew) | (refine gain_setCell ?_ (by first | exact Nat.le_refl _ | exact World.size_ext _ _ | (simp; done) | (simp; omega)) _)))⟩
      case measure => simp [intOf]; omega
    · have hVU := HV.out.up (wr' := w.ext d) ⟨_, rfl⟩
      have HVU := Lib.hid hVU
      have HMP := Lib.hid hVU.map
      have hatk := HTO.out.at (HIN.out _ hlm) hfin
      have hkey := key_pair (HTO.out.wf _ (HIN.out _ hlm)) (HTO.out.wf _ hfin)
      have hTl := HTO.out.le _ (HIN.out _ hlm) _ hfin
      have hTp := HTO.out.pos (lastI order) fin
      have hkd : decide ((order.length : Int) < (ln : Int) - 1) = false := decide_eq_false (by omega)
      have hw3 : IntKind.i64.wrap ((ln : Int) - 1) = (ln : Int) - 1 := IntWalk.i64_in _ (by omega)
      generalize hTT : T (lastI order) fin = tt at hatk hTl hTp
      have HTT := Lib.hid hTT
      clear hVU HV hTT
      by_cases hc1 : st.2 < 0 ∨ sum + tt < st.2
      case neg =>
        have hd1 : decide (st.2 < 0) = false := decide_eq_false (by omega)
        have hd2 : decide (sum + tt < st.2) = false := decide_eq_false (by omega)
        have HBK := Lib.hid (better_keep (s := st) (t := (order ++ [fin], sum + tt)) hc1)
        clear hc1
        go_wp2_with (at_lookup; refine wpList_lookup_own_int _ rfl _ _ 48 rfl 43 3 .i64 law_pair Tryz.underlying48 Tryz.underlying3 (zero_intP _) A.bM A.nM D rfl HMP.out _ _ rfl hkey ?_; intro cc hat hwc; obtain rfl : cc = tt := by (rw [hatk] at hat; injection hat with hat; injection hat with _ hat; exact hat.symm))
        refine bodyPost_end (results_none rfl _ _ _) rfl ?_
        exact ⟨rfl, kept2_ext ⟨_, rfl⟩, best, by rw [HTT.out, HBK.out]; exact HVU.out⟩
      have HBY := Lib.hid (better_yes (s := st) (t := (order ++ [fin], sum + tt)) hc1)
      go_upto_region 9 with (at_lookup; refine wpList_lookup_own_int _ rfl _ _ 48 rfl 43 3 .i64 law_pair Tryz.underlying48 Tryz.underlying3 (zero_intP _) A.bM A.nM D rfl HMP.out _ _ rfl hkey ?_; intro cc hat hwc; obtain rfl : cc = tt := by (rw [hatk] at hat; injection hat with hat; injection hat with _ hat; exact hat.symm))
      go_cut [64] (fun t wx => t = .bool true ∧ wx = w.ext d)
      case first =>
        by_cases hc2 : st.2 < 0
        · have hd1 : decide (st.2 < 0) = true := decide_eq_true hc2
          clear hc1
          go_wp2_with fail
          go_meet
          exact ⟨rfl, rfl⟩
        · have hd1 : decide (st.2 < 0) = false := decide_eq_false hc2
          have hd2 : decide (sum + cc < st.2) = true := decide_eq_true (by omega)
          clear hc1
          go_wp2_with fail
          go_meet
          exact ⟨rfl, rfl⟩
      obtain ⟨rfl, rfl⟩ := hcut
      clear hc1
      have HOX := Lib.hid (own_up (w' := w.ext d) HO.out ⟨_, rfl⟩)
      have x_l2 := cell_ext x_l d
      have n12 := HVU.out.n1.2.2.2.2.2.2.2.2.2.2.2.2
      have HKX := Lib.hid (kept2_ext (w := w) (w' := w.ext d) (a := A.gs) (b := A.gb) ⟨d, rfl⟩)
      have hloX := (own_lt (own_up (w' := w.ext d) HO.out ⟨_, rfl⟩) go rfl)
      clear x_m x_t x_c x_l x_s z_s x_b z_b o_m o_t o_c o_l o_s o_b y0 oby
      generalize w.ext d = X at HVU HMP HOX x_l2 HKX hloX ⊢
      have o_l2 := World.oldB_of_cell x_l2
      go_upto_region 10 with fail
      refine wp_region_held_drew (S := (fun w' => w'.cell? ⟨A.gl, 0, none⟩ = some (.int .i64 fin))) (by kernel_rfl) (by (try dsimp only); (with_reducible (repeat (first | assumption | refine cell_ext ?_ _ | refine cell_drew ?_ | refine cell_alloc ?_ _)))) (fun hHeld => ?_)
      refine wpAnyH_take (i := 0) (oi := ⟨_, _, _, _, _, _⟩) (v := ?_) rfl (by kernel_rfl) (by kernel_rfl) (by kernel_rfl) (fun _ _ _ h => h) (Or.inl ⟨by rfl, ?_⟩) (by assumption) ?_
      rotate_left
      · intro w hSw; (try dsimp only at hSw); go_simp; (try with_reducible rfl)
      try simp only [Act.put, List.setIfInBounds_toArray, List.set_cons_zero, List.set_cons_succ]
      refine wpAnyH_take (i := 2) (oi := ⟨_, _, _, _, _, _⟩) (v := ?_) rfl (by kernel_rfl) (by kernel_rfl) (by kernel_rfl) (fun _ _ _ h => h) (Or.inl ⟨by rfl, ?_⟩) (by assumption) ?_
      rotate_left
      · intro w hSw; (try dsimp only at hSw); go_simp; (try with_reducible rfl)
      try simp only [Act.put, List.setIfInBounds_toArray, List.set_cons_zero, List.set_cons_succ]
      refine wpAnyH_take (i := 5) (oi := ⟨_, _, _, _, _, _⟩) (v := ?_) rfl (by kernel_rfl) (by kernel_rfl) (by kernel_rfl) (fun _ _ _ h => h) (Or.inl ⟨by rfl, ?_⟩) (by assumption) ?_
      rotate_left
      · intro w hSw; (try dsimp only at hSw); go_simp; (try with_reducible rfl)
      try simp only [Act.put, List.setIfInBounds_toArray, List.set_cons_zero, List.set_cons_succ]
      refine wpAnyH_ready (rs := [1, 3]) (by kernel_rfl) (by simp) ?_
      refine AllReadyH.cons rfl (fun K hK => ?_) (AllReadyH.cons rfl (fun K hK => ?_) (AllReadyH.nil))
      · go_simp
        go_wp2_with (go_at_call 22; refine (copyInts_any _ order _ (by with_reducible (repeat (first | exact sl_of_own intC_length HOX.out | refine World.sl_ext intC_length ?_ _ | refine sl_alloc intC_length ?_ _ | refine sl_drew ?_))) (by omega)).mono ?_; rintro e w1 ⟨v1, rfl, ⟨d1, rfl⟩, ho1⟩; have HO1 := Lib.hid ho1; clear ho1)
        (try dsimp only)
        refine hK.out _ _ ?_ (fun hHeld => ?_)
        · (try dsimp only); (with_reducible (repeat (first | assumption | refine cell_ext ?_ _ | refine cell_drew ?_ | refine cell_alloc ?_ _)))
        clear hK K
        try simp only [Act.put, List.setIfInBounds_toArray]
        refine wpAnyH_ready (rs := [3]) (by kernel_rfl) (by simp) ?_
        refine AllReadyH.cons rfl (fun K hK => ?_) (AllReadyH.nil)
        go_simp
        have HU := Lib.hid (sl_lit (w := X.drew.ext d1) (e := 3) (l := [fin]) (C := #[.int .i64 fin]) (g := (X.drew.ext d1).heap.size) intC_length rfl rfl)
        (try dsimp only)
        refine hK.out _ _ ?_ (fun hHeld => ?_)
        · (try dsimp only); (with_reducible (repeat (first | assumption | refine cell_ext ?_ _ | refine cell_drew ?_ | refine cell_alloc ?_ _)))
        clear hK K
        try simp only [Act.put, List.setIfInBounds_toArray]
        refine wpAnyH_ready (rs := [4]) (by kernel_rfl) (by simp) ?_
        refine AllReadyH.cons rfl (fun K hK => ?_) (AllReadyH.nil)
        refine step_append_gain (W := X) (w := (X.drew.ext d1).alloc (.cells #[.int .i64 fin] 3)) (base := X.heap.size) (v := v1) (m := [fin]) (u := .slice (some ⟨(X.drew.ext d1).heap.size, 0, none⟩) 1 1) rfl (.tmp 66) (.tmp 68) rfl Tryz.underlying24 info_int (by rfl) (by omega) intC_length intC_one (by omega) (by repeat (first | with_reducible (first | exact World.gained_refl _ | exact ⟨_, rfl⟩ | apply gain_ext | apply gain_alloc | apply gain_drewN | apply gain_drew) | (refine gain_setCell ?_ (by first | exact Nat.le_refl _ | exact World.size_ext _ _ | (simp; done) | (simp; omega)) _))) (Nat.le_refl _) (gain_size (by repeat (first | with_reducible (first | exact World.gained_refl _ | exact ⟨_, rfl⟩ | apply gain_ext | apply gain_alloc | apply gain_drewN | apply gain_drew) | (refine gain_setCell ?_ (by first | exact Nat.le_refl _ | exact World.size_ext _ _ | (simp; done) | (simp; omega)) _)))) (by first | rfl | (simp; done)) (by first | rfl | (simp; done)) (own_up HO1.out (by repeat (first | with_reducible (first | exact World.gained_refl _ | exact ⟨_, rfl⟩ | apply gain_ext | apply gain_alloc | apply gain_drewN | apply gain_drew) | (refine gain_setCell ?_ (by first | exact Nat.le_refl _ | exact World.size_ext _ _ | (simp; done) | (simp; omega)) _)))) HU.out (by simp; omega) ?_
        intro v2 d2 ho2 hg2
        clear hg2 HU HO1
        obtain ⟨p2, n2, k2, rfl⟩ : ∃ p n c, v2 = .slice p n c := by
          obtain ⟨p, c, e, _⟩ := sl_of_own intC_length ho2
          exact ⟨p, _, c, e⟩
        have HV3 := Lib.hid (HVU.out.up (wr' := X.ext d2) ⟨_, rfl⟩)
        have HO2 := Lib.hid ho2
        have hgs := HVU.out.n3
        have hb2 : ∀ q, (Value.slice p2 n2 k2).ownBlock = some q → A.lo ≤ q := fun q e => Nat.le_trans HVU.out.n4 (own_lt ho2 q e).1
        clear ho2
        (try dsimp only)
        refine hK.out _ _ ?_ (fun hHeld => ?_)
        · (try dsimp only); (with_reducible (repeat (first | assumption | refine cell_ext ?_ _ | refine cell_drew ?_ | refine cell_alloc ?_ _)))
        clear hK K
        try simp only [Act.put, List.setIfInBounds_toArray]
        have x_b : (X.ext d2).cell? ⟨A.gb, 0, none⟩ = some best := World.cell_of_heap HV3.out.bes 0
        have z_b : (X.ext d2).frozen? ⟨A.gb, 0, none⟩ = false := World.free_of_heap HV3.out.bes 0
        have o_b := World.oldB_of_cell x_b
        have r_b := World.heap_setCell_row HV3.out.bes 0 (.slice p2 n2 k2)
        have r_s : ((X.ext d2).setCell ⟨A.gb, 0, none⟩ (.slice p2 n2 k2)).heap[A.gs]? = some (.cells #[.int .i64 st.2] 3 (0, 0)) := (World.heap_setCell_far (.slice p2 n2 k2) n12).trans HV3.out.lea
        have r_l : ((X.ext d2).setCell ⟨A.gb, 0, none⟩ (.slice p2 n2 k2)).heap[A.gl]? = some (.cells #[.int .i64 fin] 3 (0, 0)) := (World.heap_setCell_far (.slice p2 n2 k2) HVU.out.n1.2.2.2.2.2.2.2.2.2.1).trans HV3.out.las
        have x_s : ((X.ext d2).setCell ⟨A.gb, 0, none⟩ (.slice p2 n2 k2)).cell? ⟨A.gs, 0, none⟩ = some (.int .i64 st.2) := World.cell_of_heap r_s 0
        have z_s : ((X.ext d2).setCell ⟨A.gb, 0, none⟩ (.slice p2 n2 k2)).frozen? ⟨A.gs, 0, none⟩ = false := World.free_of_heap r_s 0
        have o_s := World.oldB_of_cell x_s
        have HKF := Lib.hid (kept2_set (kept2_set (kept2_ext (w := X) (w' := X.ext d2) (a := A.gs) (b := A.gb) ⟨_, rfl⟩) (i := 0) (.inr rfl) (.slice p2 n2 k2)) (i := 0) (.inl rfl) (.int .i64 (sum + cc)))
        have f_s := World.heap_setCell_row r_s 0 (.int .i64 (sum + cc))
        have f_b := (World.heap_setCell_far (a := ⟨A.gs, 0, none⟩) (.int .i64 (sum + cc)) (show A.gb ≠ A.gs from fun e => n12 e.symm)).trans r_b
        have f_l := (World.heap_setCell_far (a := ⟨A.gs, 0, none⟩) (.int .i64 (sum + cc)) (show A.gl ≠ A.gs from HVU.out.n1.2.2.2.2.2.2.2.2.1)).trans r_l
        simp only [List.setIfInBounds_toArray, List.set_cons_zero] at f_s f_b r_b
        refine wpAnyH_ready (rs := [6]) (by kernel_rfl) (by simp) ?_
        refine AllReadyH.cons rfl (fun K hK => ?_) (AllReadyH.nil)
        go_simp
        (try dsimp only)
        refine hK.out _ _ ?_ (fun hHeld => ?_)
        · exact World.cell_of_heap r_l 0
        clear hK K
        try simp only [Act.put, List.setIfInBounds_toArray, List.set_cons_zero, List.set_cons_succ]
        refine wpAnyH_ready (rs := [7]) (by kernel_rfl) (by simp) ?_
        refine AllReadyH.cons rfl (fun K hK => ?_) (AllReadyH.nil)
        go_simp
        (try dsimp only)
        refine hK.out _ _ ?_ (fun hHeld => ?_)
        · exact World.cell_of_heap f_l 0
        clear hK K
        try simp only [Act.put, List.setIfInBounds_toArray, List.set_cons_zero, List.set_cons_succ]
        refine wpAnyH_done (by kernel_rfl) ?_ _
        go_wp2
        refine bodyPost_end (results_none rfl _ _ _) rfl ?_
        refine ⟨rfl, kept2_trans HKX.out HKF.out, (.slice p2 n2 k2), ?_⟩
        rw [HTT.out, HBY.out]
        exact HVU.out.keep HKF.out f_s f_b (own_kept2 (own_base HO2.out (Nat.le_trans HVU.out.n6 HVU.out.n4)) (kept2_set (kept2_set (kept2_refl _ _ _) (.inr rfl) _) (.inl rfl) _) (fun q e => by have := hb2 q e; omega))
      · go_simp
        have HU := Lib.hid (sl_lit (w := X) (e := 3) (l := [fin]) (C := #[.int .i64 fin]) (g := X.heap.size) intC_length rfl rfl)
        have hsA : X.heap.size ≤ ((X.alloc (.cells #[.int .i64 fin] 3)).drew).heap.size := by
          show _ ≤ (X.alloc (.cells #[.int .i64 fin] 3)).heap.size
          rw [World.size_alloc]
          exact Nat.le_succ _
        (try dsimp only)
        refine hK.out _ _ ?_ (fun hHeld => ?_)
        · (try dsimp only); (with_reducible (repeat (first | assumption | refine cell_ext ?_ _ | refine cell_drew ?_ | refine cell_alloc ?_ _)))
        clear hK K
        try simp only [Act.put, List.setIfInBounds_toArray]
        refine wpAnyH_ready (rs := [1]) (by kernel_rfl) (by simp) ?_
        refine AllReadyH.cons rfl (fun K hK => ?_) (AllReadyH.nil)
        go_simp
        go_wp2_with (go_at_call 22; refine (copyInts_any _ order _ (by with_reducible (repeat (first | exact sl_of_own intC_length HOX.out | refine World.sl_ext intC_length ?_ _ | refine sl_alloc intC_length ?_ _ | refine sl_drew ?_))) (by omega)).mono ?_; rintro e w1 ⟨v1, rfl, ⟨d1, rfl⟩, ho1⟩; have HO1 := Lib.hid (own_base (b := X.heap.size) ho1 hsA); clear ho1)
        (try dsimp only)
        refine hK.out _ _ ?_ (fun hHeld => ?_)
        · (try dsimp only); (with_reducible (repeat (first | assumption | refine cell_ext ?_ _ | refine cell_drew ?_ | refine cell_alloc ?_ _)))
        clear hK K
        try simp only [Act.put, List.setIfInBounds_toArray]
        refine wpAnyH_ready (rs := [4]) (by kernel_rfl) (by simp) ?_
        refine AllReadyH.cons rfl (fun K hK => ?_) (AllReadyH.nil)
        refine step_append_gain (W := X) (w := ((X.alloc (.cells #[.int .i64 fin] 3)).drew).ext d1) (base := X.heap.size) (v := v1) (m := [fin]) (u := .slice (some ⟨X.heap.size, 0, none⟩) 1 1) rfl (.tmp 66) (.tmp 68) rfl Tryz.underlying24 info_int (by rfl) (by omega) intC_length intC_one (by omega) (by repeat (first | with_reducible (first | exact World.gained_refl _ | exact ⟨_, rfl⟩ | apply gain_ext | apply gain_alloc | apply gain_drewN | apply gain_drew) | (refine gain_setCell ?_ (by first | exact Nat.le_refl _ | exact World.size_ext _ _ | (simp; done) | (simp; omega)) _))) (Nat.le_refl _) (gain_size (by repeat (first | with_reducible (first | exact World.gained_refl _ | exact ⟨_, rfl⟩ | apply gain_ext | apply gain_alloc | apply gain_drewN | apply gain_drew) | (refine gain_setCell ?_ (by first | exact Nat.le_refl _ | exact World.size_ext _ _ | (simp; done) | (simp; omega)) _)))) (by first | rfl | (simp; done)) (by first | rfl | (simp; done)) HO1.out (World.sl_ext intC_length (sl_drew HU.out) _) (by simp; omega) ?_
        intro v2 d2 ho2 hg2
        clear hg2 HU HO1
        obtain ⟨p2, n2, k2, rfl⟩ : ∃ p n c, v2 = .slice p n c := by
          obtain ⟨p, c, e, _⟩ := sl_of_own intC_length ho2
          exact ⟨p, _, c, e⟩
        have HV3 := Lib.hid (HVU.out.up (wr' := X.ext d2) ⟨_, rfl⟩)
        have HO2 := Lib.hid ho2
        have hgs := HVU.out.n3
        have hb2 : ∀ q, (Value.slice p2 n2 k2).ownBlock = some q → A.lo ≤ q := fun q e => Nat.le_trans HVU.out.n4 (own_lt ho2 q e).1
        clear ho2
        (try dsimp only)
        refine hK.out _ _ ?_ (fun hHeld => ?_)
        · (try dsimp only); (with_reducible (repeat (first | assumption | refine cell_ext ?_ _ | refine cell_drew ?_ | refine cell_alloc ?_ _)))
        clear hK K
        try simp only [Act.put, List.setIfInBounds_toArray]
        have x_b : (X.ext d2).cell? ⟨A.gb, 0, none⟩ = some best := World.cell_of_heap HV3.out.bes 0
        have z_b : (X.ext d2).frozen? ⟨A.gb, 0, none⟩ = false := World.free_of_heap HV3.out.bes 0
        have o_b := World.oldB_of_cell x_b
        have r_b := World.heap_setCell_row HV3.out.bes 0 (.slice p2 n2 k2)
        have r_s : ((X.ext d2).setCell ⟨A.gb, 0, none⟩ (.slice p2 n2 k2)).heap[A.gs]? = some (.cells #[.int .i64 st.2] 3 (0, 0)) := (World.heap_setCell_far (.slice p2 n2 k2) n12).trans HV3.out.lea
        have r_l : ((X.ext d2).setCell ⟨A.gb, 0, none⟩ (.slice p2 n2 k2)).heap[A.gl]? = some (.cells #[.int .i64 fin] 3 (0, 0)) := (World.heap_setCell_far (.slice p2 n2 k2) HVU.out.n1.2.2.2.2.2.2.2.2.2.1).trans HV3.out.las
        have x_s : ((X.ext d2).setCell ⟨A.gb, 0, none⟩ (.slice p2 n2 k2)).cell? ⟨A.gs, 0, none⟩ = some (.int .i64 st.2) := World.cell_of_heap r_s 0
        have z_s : ((X.ext d2).setCell ⟨A.gb, 0, none⟩ (.slice p2 n2 k2)).frozen? ⟨A.gs, 0, none⟩ = false := World.free_of_heap r_s 0
        have o_s := World.oldB_of_cell x_s
        have HKF := Lib.hid (kept2_set (kept2_set (kept2_ext (w := X) (w' := X.ext d2) (a := A.gs) (b := A.gb) ⟨_, rfl⟩) (i := 0) (.inr rfl) (.slice p2 n2 k2)) (i := 0) (.inl rfl) (.int .i64 (sum + cc)))
        have f_s := World.heap_setCell_row r_s 0 (.int .i64 (sum + cc))
        have f_b := (World.heap_setCell_far (a := ⟨A.gs, 0, none⟩) (.int .i64 (sum + cc)) (show A.gb ≠ A.gs from fun e => n12 e.symm)).trans r_b
        have f_l := (World.heap_setCell_far (a := ⟨A.gs, 0, none⟩) (.int .i64 (sum + cc)) (show A.gl ≠ A.gs from HVU.out.n1.2.2.2.2.2.2.2.2.1)).trans r_l
        simp only [List.setIfInBounds_toArray, List.set_cons_zero] at f_s f_b r_b
        refine wpAnyH_ready (rs := [6]) (by kernel_rfl) (by simp) ?_
        refine AllReadyH.cons rfl (fun K hK => ?_) (AllReadyH.nil)
        go_simp
        (try dsimp only)
        refine hK.out _ _ ?_ (fun hHeld => ?_)
        · exact World.cell_of_heap r_l 0
        clear hK K
        try simp only [Act.put, List.setIfInBounds_toArray, List.set_cons_zero, List.set_cons_succ]
        refine wpAnyH_ready (rs := [7]) (by kernel_rfl) (by simp) ?_
        refine AllReadyH.cons rfl (fun K hK => ?_) (AllReadyH.nil)
        go_simp
        (try dsimp only)
        refine hK.out _ _ ?_ (fun hHeld => ?_)
        · exact World.cell_of_heap f_l 0
        clear hK K
        try simp only [Act.put, List.setIfInBounds_toArray, List.set_cons_zero, List.set_cons_succ]
        refine wpAnyH_done (by kernel_rfl) ?_ _
        go_wp2
        refine bodyPost_end (results_none rfl _ _ _) rfl ?_
        refine ⟨rfl, kept2_trans HKX.out HKF.out, (.slice p2 n2 k2), ?_⟩
        rw [HTT.out, HBY.out]
        exact HVU.out.keep HKF.out f_s f_b (own_kept2 (own_base HO2.out (Nat.le_trans HVU.out.n6 HVU.out.n4)) (kept2_set (kept2_set (kept2_refl _ _ _) (.inr rfl) _) (.inl rfl) _) (fun q e => by have := hb2 q e; omega))
end Go.Proofs.YtmcimgnobimicaaGreat
