/- FnCells returns true for every argument. No condition. -/
import Derived.Test.YtepjemfkmnpepaaDrawCells
import Derived.Test.YtepjemfkmnpepaaDrawMaps
import Derived.Test.YtepjemfkmnpepaaDrawStep
import Derived.Test.YtepjemfkmnpepaaOpenI
import Derived.Test.YtepjemfkmnpepaaOpenS
import Derived.Test.YtepjemfkmnpepaaHighC
import Derived.Test.YtepjemfkmnpepaaStepC
import Derived.Test.YtepjemfkmnpepaaVPlan
import Derived.Test.YtepjemfkmnpepaaRdBytes
import Derived.Deep.DeepCutAuto
namespace Go.Ori
theorem cnt_back {m : Mp} {x : Int} (h : cntB m x = true) : ∃ (W H c : Nat), MapOk m W H ∧ x = (c : Int) ∧ c < m.cost.length ∧ ∀ (k : Nat) (hk : k < (cntL m x).length), cntB m (cntL m x)[k] = true ∧ hasB (cntL m (cntL m x)[k]) x = decide (0 < costAt m c) := by
  obtain ⟨hM, c, rfl, hc⟩ := cellB_at h
  obtain ⟨W, H, hok⟩ := mapB_ok hM
  refine ⟨W, H, c, hok, rfl, hc, fun k hk => ?_⟩
  have e : cntL m (c : Int) = natL (nextL m c) := by simp [cntL, h]
  have hk2 : k < (nextL m c).length := by rw [e, natL_length] at hk; exact hk
  have ek : (cntL m (c : Int))[k] = (((nextL m c)[k] : Nat) : Int) := by
    simp only [e]
    exact natL_get _ _ _
  rw [ek]
  have hm := next_mem.1 (List.getElem_mem hk2)
  generalize (nextL m c)[k] = j at hm
  have hj : cntB m (j : Int) = true := by
    simp only [cntB, cellB, Bool.and_eq_true, insB_true]
    exact ⟨hM, by omega, by omega⟩
  refine ⟨hj, ?_⟩
  have e2 : cntL m (j : Int) = natL (nextL m j) := by simp [cntL, hj]
  rw [e2, Bool.eq_iff_iff, hasB_iff, decide_eq_true_eq, natL, List.mem_map]
  constructor
  · rintro ⟨i, hi, ei⟩
    obtain rfl : i = c := by omega
    exact (next_mem.1 hi).2.1
  · intro h0
    exact ⟨c, next_mem.2 ⟨hc, h0, by rw [gapN_symm]; exact hm.2.2⟩, rfl⟩
theorem cntL_len (m : Mp) (x : Int) : (cntL m x).length ≤ 36 := by
  cases h : cntB m x with
  | false => rw [cntL_no h]; simp
  | true =>
    obtain ⟨W, H, c, hok, rfl, hc, _⟩ := cnt_back h
    have := next_len m c
    have := hok.n36
    have e : cntL m (c : Int) = natL (nextL m c) := by simp [cntL, h]
    rw [e]
    omega
def opN (m : Mp) (k : Nat) : Nat := (List.range k).countP fun x => decide (0 < costAt m x)
theorem opN_succ (m : Mp) (k : Nat) : opN m (k + 1) = opN m k + if 0 < costAt m k then 1 else 0 := by
  unfold opN
  rw [List.range_succ, List.countP_append]
  simp [List.countP_cons]
theorem opN_le (m : Mp) (k : Nat) : opN m k ≤ k := by
  have := List.countP_le_length (p := fun x => decide (0 < costAt m x)) (l := List.range k)
  rw [List.length_range] at this
  exact this
theorem hiN_no {m : Mp} : ∀ {k : Nat}, hiN m k = none → opN m k = 0
  | 0, _ => rfl
  | k + 1, h => by
    cases hk : hiN m k with
    | none =>
      rw [hiN_none hk] at h
      rw [opN_succ, hiN_no hk]
      split at h
      · cases h
      · rename_i h2; simp [h2]
    | some b =>
      rw [hiN_some hk] at h
      split at h <;> cases h
theorem hi_facts {m : Mp} (hM : mapB m = true) : hgB m = decide (0 < opN m m.cost.length) ∧ (hgB m = true → ∃ b : Nat, hgI m = b ∧ b < m.cost.length ∧ ∀ i, i < m.cost.length → 0 < costAt m i → riseAt m i ≤ riseAt m b) := by
  cases h : hiN m m.cost.length with
  | none => simp [hgB, hM, h, hiN_no h]
  | some b =>
    obtain ⟨h1, h2⟩ := hiN_lt h
    have h3 : 0 < opN m m.cost.length := List.countP_pos_iff.2 ⟨b, by simpa using h1, by simpa using h2⟩
    refine ⟨by simp [hgB, hM, h, h3], fun _ => ⟨b, by simp [hgI, hM, h], h1, fun i hi h0 => hiN_top h hi h0⟩⟩
theorem parts_sum (m : Mp) : psum tot1 (partsZ m m.cost.length) (partsZ m m.cost.length).length = opN m m.cost.length := by
  have h := parts_total m
  unfold psum
  rw [List.take_length, partsZ, List.map_map]
  have e : (tot1 ∘ natL) = List.length := by
    funext l
    exact natL_length l
  rw [e, h]
  rfl
theorem openPL_len (m : Mp) : (openPL m).length ≤ 36 ∧ ∀ x ∈ openPL m, x.length ≤ 36 := by
  cases hM : mapB m with
  | false => simp [openPL, hM]
  | true =>
    obtain ⟨W, H, hok⟩ := mapB_ok hM
    have := hok.n36
    have e : openPL m = partsZ m m.cost.length := by simp [openPL, hM]
    rw [e]
    refine ⟨Nat.le_trans (partsZ_len m _) this, fun x hx => ?_⟩
    have hall : ∀ k, ∀ p ∈ partsN m k, p.length ≤ m.cost.length := by
      intro k
      induction k with
      | zero => intro p hp; cases hp
      | succ k ih =>
        intro p hp
        by_cases h : IsHead m k
        · rw [parts_head h, List.mem_append, List.mem_singleton] at hp
          rcases hp with hp | rfl
          · exact ih p hp
          · exact part_len m k
        · rw [parts_no h] at hp
          exact ih p hp
    rw [partsZ, List.mem_map] at hx
    obtain ⟨p, hp, rfl⟩ := hx
    rw [natL_length]
    exact Nat.le_trans (hall _ p hp) this
theorem openPL_tot (m : Mp) : tot2 (openPL m) ≤ 1048576 := by
  obtain ⟨h1, h2⟩ := openPL_len m
  have h3 := psum_bd tot1 (openPL m) 36 h2
  have h4 : (openPL m).length * 36 ≤ 36 * 36 := Nat.mul_le_mul_right _ h1
  unfold tot2
  omega
theorem stt_pos {m : Mp} {a b : Int} (h : sttB m a b = true) : 1 ≤ sttI m a b := by
  rw [sttI_yes h]
  simp only [sttB, Bool.and_eq_true] at h
  obtain ⟨⟨_, hb⟩, _⟩ := h
  obtain ⟨W, H, hok⟩ := mapB_ok (openB_map hb)
  have h1 := (stepZ_le hok a.toNat b.toNat).1
  simp only [openB, Bool.and_eq_true, decide_eq_true_eq] at hb
  omega
end Go.Ori
namespace Go.Proofs.Ytepjemfkmnpepaa
open Go.ChangeShapes Go.WideShapes Go.ChangeAt Go.RowKit Go.Ori
set_option maxRecDepth 100000 in
set_option maxHeartbeats 8000000 in
theorem fnCells_walk (v : Value) (L : List Int) (w : World) (h : w.sl byteC 1 v L) (hq : ∀ x ∈ L, 0 ≤ x ∧ x ≤ 255) (hn : L.length ≤ 9223372036854775807) :
    Calls Try.prog 3 #[v] w fun x w' => x = .returned (.bool true) ∧ ∃ d, w' = w.ext d := by
  have hs := Lib.hid h
  have HQ := Lib.hid hq
  obtain ⟨p, c, rfl, _⟩ := h
  clear hq
  by_cases hbig : 65536 < L.length
  · have hbb : decide (65536 < L.length) = true := decide_eq_true hbig
    go_enter Try.func3, Try.ntmps3
    go_wp2_with (go_at_call 4; refine (vBig_any _ _ _ _ hn).mono ?_; rw [hbb]; rintro e w1 ⟨rfl, rfl⟩)
    go_ret
    exact ⟨rfl, (by repeat (first | with_reducible (first | exact World.gained_refl _ | exact ⟨_, rfl⟩ | apply gain_ext | apply gain_alloc | apply gain_drewN | apply gain_drew) | (refine gain_setCell ?_ (by first | exact Nat.le_refl _ | exact World.size_ext _ _ | (simp; done) | (simp; omega)) _)))⟩
  have hbb : decide (65536 < L.length) = false := decide_eq_false hbig
  have hl : L.length ≤ 1048576 := by omega
  go_enter Try.func3, Try.ntmps3
  go_wp2_with (go_at_call 4; refine (vBig_any _ _ _ _ hn).mono ?_; rw [hbb]; rintro e w1 ⟨rfl, rfl⟩)
  refine (drawCellsNextTo_any _ L _ hs.out HQ.out hl).mono ?_
  rintro e w1 ⟨m, rv, cv, x0, rfl, ⟨d1, rfl⟩, hmp⟩
  obtain ⟨p1, c1, p2, c2, rfl, rfl⟩ := mp_form hmp
  have HM := Lib.hid hmp
  clear hmp
  go_wp2_with fail
  generalize hW0 : (w.ext d1).alloc (.cells #[.int .i64 m.wd, .int .i64 m.ht, .slice p1 m.rise.length c1, .slice p2 m.cost.length c2] 26) = W0
  have hbx : MBox (w.ext d1) W0 (w.ext d1).heap.size m (.slice p1 m.rise.length c1) (.slice p2 m.cost.length c2) := by rw [← hW0]; exact mbox
  have HGW : ∃ d, W0 = w.ext d := gain_trans (by repeat (first | with_reducible (first | exact World.gained_refl _ | exact ⟨_, rfl⟩ | apply gain_ext | apply gain_alloc | apply gain_drewN | apply gain_drew) | (refine gain_setCell ?_ (by first | exact Nat.le_refl _ | exact World.size_ext _ _ | (simp; done) | (simp; omega)) _))) hbx.up
  have HM0 := Lib.hid (mp_up HM.out hbx.up)
  have bx0 := hbx.c0
  have bx1 := hbx.c1
  have bx2 := hbx.c2
  have bx3 := hbx.c3
  have obx := hbx.ob
  generalize (w.ext d1).heap.size = gB at bx0 bx1 bx2 bx3 obx ⊢
  clear hW0 hbx HM
  obtain ⟨dz, rfl⟩ := HGW
  refine (impCellsNextTo_any m _ _ x0 _ (mp_up (HM0.out) (by repeat (first | with_reducible (first | exact World.gained_refl _ | exact ⟨_, rfl⟩ | apply gain_ext | apply gain_alloc | apply gain_drewN | apply gain_drew) | (refine gain_setCell ?_ (by first | exact Nat.le_refl _ | exact World.size_ext _ _ | (simp; done) | (simp; omega)) _))))).mono ?_
  rintro e w1 ⟨r1, rfl, ⟨d2, rfl⟩, o1⟩
  have O1 := Lib.hid (sl_of_own intC_length o1)
  clear o1
  obtain ⟨p3, c3, rfl, _⟩ := O1.out
  go_wp2_with fail
  refine (specCellsNextTo_any m _ _ x0 _ (mp_up (HM0.out) (by repeat (first | with_reducible (first | exact World.gained_refl _ | exact ⟨_, rfl⟩ | apply gain_ext | apply gain_alloc | apply gain_drewN | apply gain_drew) | (refine gain_setCell ?_ (by first | exact Nat.le_refl _ | exact World.size_ext _ _ | (simp; done) | (simp; omega)) _))))).mono ?_
  rintro e w1 ⟨r2, rfl, ⟨d3, rfl⟩, o2⟩
  have O2 := Lib.hid (sl_of_own intC_length o2)
  clear o2
  obtain ⟨p4, c4, rfl, _⟩ := O2.out
  have HLN := Lib.hid (cntL_len m x0)
  have HCN := Lib.hid (fun y W hW => impCellsNextTo_any m (.slice p1 m.rise.length c1) (.slice p2 m.cost.length c2) y W hW)
  have hLN := HLN.out
  have HBK := Lib.hid (fun (h : cntB m x0 = true) => cnt_back h)
  have HNO := Lib.hid (fun (h : cntB m x0 = false) => cntL_no h)
  generalize hNL : cntL m x0 = NL at O1 O2 hLN HNO HBK
  generalize cntB m x0 = CB at HBK HNO ⊢
  have hCC : (CB != CB) = false := by simp
  go_wp2_with (go_at_call 8; refine (vInts_same _ _ NL _ (by with_reducible (repeat (first | exact O1.out | refine World.sl_ext intC_length ?_ _ | refine sl_alloc intC_length ?_ _ | refine sl_drew ?_))) (by with_reducible (repeat (first | exact O2.out | refine World.sl_ext intC_length ?_ _ | refine sl_alloc intC_length ?_ _ | refine sl_drew ?_))) (by omega)).mono ?_; rintro e w1 ⟨rfl, d4, rfl⟩)
  have O3 := Lib.hid (sl_up (w' := (((w.ext dz).ext d2).ext d3).ext d4) intC_length O1.out (by repeat (first | with_reducible (first | exact World.gained_refl _ | exact ⟨_, rfl⟩ | apply gain_ext | apply gain_alloc | apply gain_drewN | apply gain_drew) | (refine gain_setCell ?_ (by first | exact Nat.le_refl _ | exact World.size_ext _ _ | (simp; done) | (simp; omega)) _))))
  clear O1 O2 HLN hNL
  go_loopw [9] (fun i_ wr => ∃ k : Nat, k ≤ NL.length ∧ i_ = .int .i64 k ∧ wr.sl intC 1 (.slice p3 NL.length c3) NL ∧ ∃ d, wr = (w.ext dz).ext d) (fun i_ _ => NL.length - (intOf i_).toNat)
  case atStart => exact ⟨0, by omega, rfl, O3.out, (by repeat (first | with_reducible (first | exact World.gained_refl _ | exact ⟨_, rfl⟩ | apply gain_ext | apply gain_alloc | apply gain_drewN | apply gain_drew) | (refine gain_setCell ?_ (by first | exact Nat.le_refl _ | exact World.size_ext _ _ | (simp; done) | (simp; omega)) _)))⟩
  case round =>
    clear O3
    obtain ⟨k, hk, rfl, hsl, d, rfl⟩ := hrel
    have HSL := Lib.hid hsl
    clear hsl
    by_cases hlt : k < NL.length
    · have hcb : CB = true := by
        cases CB with
        | true => rfl
        | false => rw [HNO.out rfl] at hlt; simp at hlt
      obtain ⟨MW, MH, cx, hok, rfl, hcx, hback⟩ := HBK.out hcb
      obtain ⟨hb1, hb2⟩ := hback k hlt
      obtain ⟨b1, o1, k1, b2, o2, k2, hin⟩ := mp_in HM0.out hok
      have hcv := hin.cv
      injection hcv with e1 e2 e3
      subst e1 e3
      have ck := hin.co cx hcx
      have ob2 := hin.ob2
      obtain ⟨b3, o3, rfl⟩ := sl_some HSL.out (by omega)
      have y0 := sl_int HSL.out hlt
      have oby := World.oldB_of_cell y0
      have hx1 : (0 : Int) ≤ (cx : Int) := by omega
      have hx2 : (cx : Int) < (m.cost.length : Int) := by omega
      generalize NL[k] = y at y0 hb1 hb2
      have HC2 := HCN.out y
      have hbl := cntL_len m y
      have HVH := Lib.hid (fun (v : Value) (W : World) (hW : W.sl intC 1 v (cntL m y)) => by
        have h := vHas_any v (cntL m y) (cx : Int) W hW (by omega)
        rw [hb2] at h
        exact h)
      rw [hb1] at HC2
      clear hb1 hb2 hback hok hin HBK HNO HCN hcb hCC
      generalize cntL m y = BL at HC2 HVH hbl
      have HC3 := Lib.hid HC2
      clear HC2
      generalize costAt m cx = cy at HVH ck
      have hDD : (decide (0 < cy) != decide (0 < cy)) = false := by simp
      go_upto_region 11 with fail
      refine wp_region_held_drew (S := (fun w' => w'.cell? ⟨gB, 0, none⟩ = some (.int .i64 m.wd) ∧ w'.cell? ⟨gB, 1, none⟩ = some (.int .i64 m.ht) ∧ w'.cell? ⟨gB, 2, none⟩ = some (.slice p1 m.rise.length c1) ∧ w'.cell? ⟨gB, 3, none⟩ = some (.slice (some ⟨b2, o2, none⟩) m.cost.length c2) ∧ w'.cell? ⟨b3, o3 + k, none⟩ = some (.int .i64 y))) (by kernel_rfl) (by (try dsimp only); (refine ⟨?_, ?_, ?_, ?_, ?_⟩ <;> (with_reducible (repeat (first | assumption | refine cell_ext ?_ _ | refine cell_drew ?_ | refine cell_alloc ?_ _))))) (fun hHeld => ?_)
      refine wpAnyH_take (i := 0) (oi := ⟨_, _, _, _, _, _⟩) (v := ?_) rfl (by kernel_rfl) (by kernel_rfl) (by kernel_rfl) (fun _ _ _ h => h) (Or.inl ⟨by rfl, ?_⟩) (by assumption) ?_
      rotate_left
      · intro w hSw; (try dsimp only at hSw); go_simp; (try with_reducible rfl)
      try simp only [Act.put, List.setIfInBounds_toArray, List.set_cons_zero, List.set_cons_succ]
      refine wpAnyH_take (i := 1) (oi := ⟨_, _, _, _, _, _⟩) (v := ?_) rfl (by kernel_rfl) (by kernel_rfl) (by kernel_rfl) (fun _ _ _ h => h) (Or.inl ⟨by rfl, ?_⟩) (by assumption) ?_
      rotate_left
      · intro w hSw; (try dsimp only at hSw); go_simp; (try with_reducible rfl)
      try simp only [Act.put, List.setIfInBounds_toArray, List.set_cons_zero, List.set_cons_succ]
      refine wpAnyH_take (i := 2) (oi := ⟨_, _, _, _, _, _⟩) (v := ?_) rfl (by kernel_rfl) (by kernel_rfl) (by kernel_rfl) (fun _ _ _ h => h) (Or.inl ⟨by rfl, ?_⟩) (by assumption) ?_
      rotate_left
      · intro w hSw; (try dsimp only at hSw); go_simp; (try with_reducible rfl)
      try simp only [Act.put, List.setIfInBounds_toArray, List.set_cons_zero, List.set_cons_succ]
      refine wpAnyH_take (i := 3) (oi := ⟨_, _, _, _, _, _⟩) (v := ?_) rfl (by kernel_rfl) (by kernel_rfl) (by kernel_rfl) (fun _ _ _ h => h) (Or.inl ⟨by rfl, ?_⟩) (by assumption) ?_
      rotate_left
      · intro w hSw; (try dsimp only at hSw); go_simp; (try with_reducible rfl)
      try simp only [Act.put, List.setIfInBounds_toArray, List.set_cons_zero, List.set_cons_succ]
      refine wpAnyH_take (i := 4) (oi := ⟨_, _, _, _, _, _⟩) (v := ?_) rfl (by kernel_rfl) (by kernel_rfl) (by kernel_rfl) (fun _ _ _ h => h) (Or.inl ⟨by rfl, ?_⟩) (by assumption) ?_
      rotate_left
      · intro w hSw; (try dsimp only at hSw); go_simp; (try with_reducible rfl)
      try simp only [Act.put, List.setIfInBounds_toArray, List.set_cons_zero, List.set_cons_succ]
      refine wpAnyH_ready (rs := [5]) (by kernel_rfl) (by simp) ?_
      refine AllReadyH.cons rfl (fun K hK => ?_) AllReadyH.nil
      go_simp
      go_wp2_with (go_at_call 6; refine (HC3.out _ (mp_up (HM0.out) (by repeat (first | with_reducible (first | exact World.gained_refl _ | exact ⟨_, rfl⟩ | apply gain_ext | apply gain_alloc | apply gain_drewN | apply gain_drew) | (refine gain_setCell ?_ (by first | exact Nat.le_refl _ | exact World.size_ext _ _ | (simp; done) | (simp; omega)) _))))).mono ?_; rintro e w1 ⟨r5, rfl, ⟨d9, rfl⟩, o5⟩; have O5 := Lib.hid (sl_of_own intC_length o5); clear o5; obtain ⟨p5, c5, rfl, _⟩ := O5.out)
      refine hK.out _ _ ?_ (fun hHeld => ?_)
      · (try dsimp only); (refine ⟨?_, ?_, ?_, ?_, ?_⟩ <;> (with_reducible (repeat (first | assumption | refine cell_ext ?_ _ | refine cell_drew ?_ | refine cell_alloc ?_ _))))
      clear hK K
      try simp only [Act.put, List.setIfInBounds_toArray, List.set_cons_zero, List.set_cons_succ]
      refine wpAnyH_take (i := 6) (oi := ⟨_, _, _, _, _, _⟩) (v := ?_) rfl (by kernel_rfl) (by kernel_rfl) (by kernel_rfl) (fun _ _ _ h => h) (Or.inl ⟨by rfl, ?_⟩) (by assumption) ?_
      rotate_left
      · intro w hSw; (try dsimp only at hSw); go_simp; (try with_reducible rfl)
      try simp only [Act.put, List.setIfInBounds_toArray, List.set_cons_zero, List.set_cons_succ]
      refine wpAnyH_take (i := 7) (oi := ⟨_, _, _, _, _, _⟩) (v := ?_) rfl (by kernel_rfl) (by kernel_rfl) (by kernel_rfl) (fun _ _ _ h => h) (Or.inl ⟨by rfl, ?_⟩) (by assumption) ?_
      rotate_left
      · intro w hSw; (try dsimp only at hSw); go_simp; (try with_reducible rfl)
      try simp only [Act.put, List.setIfInBounds_toArray, List.set_cons_zero, List.set_cons_succ]
      refine wpAnyH_take (i := 8) (oi := ⟨_, _, _, _, _, _⟩) (v := ?_) rfl (by kernel_rfl) (by kernel_rfl) (by kernel_rfl) (fun _ _ _ h => h) (Or.inl ⟨by rfl, ?_⟩) (by assumption) ?_
      rotate_left
      · intro w hSw; (try dsimp only at hSw); go_simp; (try with_reducible rfl)
      try simp only [Act.put, List.setIfInBounds_toArray, List.set_cons_zero, List.set_cons_succ]
      refine wpAnyH_take (i := 9) (oi := ⟨_, _, _, _, _, _⟩) (v := ?_) rfl (by kernel_rfl) (by kernel_rfl) (by kernel_rfl) (fun _ _ _ h => h) (Or.inl ⟨by rfl, ?_⟩) (by assumption) ?_
      rotate_left
      · intro w hSw; (try dsimp only at hSw); go_simp; (try with_reducible rfl)
      try simp only [Act.put, List.setIfInBounds_toArray, List.set_cons_zero, List.set_cons_succ]
      refine wpAnyH_take (i := 10) (oi := ⟨_, _, _, _, _, _⟩) (v := ?_) rfl (by kernel_rfl) (by kernel_rfl) (by kernel_rfl) (fun _ _ _ h => h) (Or.inl ⟨by rfl, ?_⟩) (by assumption) ?_
      rotate_left
      · intro w hSw; (try dsimp only at hSw); go_simp; (try with_reducible rfl)
      try simp only [Act.put, List.setIfInBounds_toArray, List.set_cons_zero, List.set_cons_succ]
      refine wpAnyH_done (by kernel_rfl) ?_ _
      obtain ⟨dq, hdq⟩ : ∃ dq, (((w.ext dz).ext d).drew).ext d9 = (w.ext dz).ext dq := (by repeat (first | with_reducible (first | exact World.gained_refl _ | exact ⟨_, rfl⟩ | apply gain_ext | apply gain_alloc | apply gain_drewN | apply gain_drew) | (refine gain_setCell ?_ (by first | exact Nat.le_refl _ | exact World.size_ext _ _ | (simp; done) | (simp; omega)) _)))
      have HSL2 := Lib.hid (sl_up (w' := (((w.ext dz).ext d).drew).ext d9) intC_length HSL.out (by repeat (first | with_reducible (first | exact World.gained_refl _ | exact ⟨_, rfl⟩ | apply gain_ext | apply gain_alloc | apply gain_drewN | apply gain_drew) | (refine gain_setCell ?_ (by first | exact Nat.le_refl _ | exact World.size_ext _ _ | (simp; done) | (simp; omega)) _))))
      rw [hdq] at O5 HSL2 ⊢
      clear HSL hdq
      go_wp2_with fail
      refine wp_region_gain (by kernel_rfl) (by kernel_rfl) ?_
      repeat (first | go_big_quiet_skip | (go_big_quiet_want; go_big_quiet_op; first | go_big_quiet_on | ((apply Exists.intro); (refine ⟨fun _ => ?_, ?_⟩); (· (go_at_call 9; exact Calls.gain (HVH.out _ _ (by with_reducible (repeat (first | exact O5.out | refine World.sl_ext intC_length ?_ _ | refine sl_alloc intC_length ?_ _ | refine sl_drew ?_)))))); (go_big_quiet_on))))
      refine wpQuiet_nil ?_
      rintro _ ⟨d', rfl⟩
      go_wp2
      go_roundw
      case rel => exact ⟨k + 1, by omega, by go_num, (by with_reducible (repeat (first | exact HSL2.out | refine World.sl_ext intC_length ?_ _ | refine sl_alloc intC_length ?_ _ | refine sl_drew ?_))), (by repeat (first | with_reducible (first | exact World.gained_refl _ | exact ⟨_, rfl⟩ | apply gain_ext | apply gain_alloc | apply gain_drewN | apply gain_drew) | (refine gain_setCell ?_ (by first | exact Nat.le_refl _ | exact World.size_ext _ _ | (simp; done) | (simp; omega)) _)))⟩
      case measure => simp [intOf]; omega
    clear HBK HNO HCN hCC HM0 HSL bx0 bx1 bx2 bx3 obx hLN
    go_wp2_with fail
    refine (drawOpenParts_any _ L _ (by with_reducible (repeat (first | exact hs.out | refine World.sl_ext byteC_length ?_ _ | refine sl_alloc byteC_length ?_ _ | refine sl_drew ?_))) HQ.out hl).mono ?_
    rintro e w1 ⟨m, rv, cv, rfl, ⟨d1, rfl⟩, ho1, ho2, hrl, hcl⟩
    have hmp : World.mp (((w.ext dz).ext d).ext d1) rv cv m := ⟨sl_of_own intC_length ho1, sl_of_own intC_length ho2, hrl, hcl⟩
    obtain ⟨p1, c1, p2, c2, rfl, rfl⟩ := mp_form hmp
    have HM := Lib.hid hmp
    clear hmp ho1 ho2
    go_wp2_with fail
    generalize hW0 : (((w.ext dz).ext d).ext d1).alloc (.cells #[.int .i64 m.wd, .int .i64 m.ht, .slice p1 m.rise.length c1, .slice p2 m.cost.length c2] 26) = W0
    have hbx : MBox (((w.ext dz).ext d).ext d1) W0 (((w.ext dz).ext d).ext d1).heap.size m (.slice p1 m.rise.length c1) (.slice p2 m.cost.length c2) := by rw [← hW0]; exact mbox
    have HGW : ∃ d, W0 = w.ext d := gain_trans (by repeat (first | with_reducible (first | exact World.gained_refl _ | exact ⟨_, rfl⟩ | apply gain_ext | apply gain_alloc | apply gain_drewN | apply gain_drew) | (refine gain_setCell ?_ (by first | exact Nat.le_refl _ | exact World.size_ext _ _ | (simp; done) | (simp; omega)) _))) hbx.up
    have HM0 := Lib.hid (mp_up HM.out hbx.up)
    have bx0 := hbx.c0
    have bx1 := hbx.c1
    have bx2 := hbx.c2
    have bx3 := hbx.c3
    have obx := hbx.ob
    generalize (((w.ext dz).ext d).ext d1).heap.size = gB at bx0 bx1 bx2 bx3 obx ⊢
    clear hW0 hbx HM
    obtain ⟨dz, rfl⟩ := HGW
    refine (impOpenParts_any m _ _ _ (mp_up (HM0.out) (by repeat (first | with_reducible (first | exact World.gained_refl _ | exact ⟨_, rfl⟩ | apply gain_ext | apply gain_alloc | apply gain_drewN | apply gain_drew) | (refine gain_setCell ?_ (by first | exact Nat.le_refl _ | exact World.size_ext _ _ | (simp; done) | (simp; omega)) _))))).mono ?_
    rintro e w1 ⟨r1, vs1, rfl, ⟨d2, rfl⟩, hr1⟩
    have R1 := Lib.hid (sl2_of_own (rows2_own hr1))
    clear hr1
    obtain ⟨p5, c5, rfl⟩ := sl2_form R1.out
    go_wp2_with fail
    refine (specOpenParts_any m _ _ _ (mp_up (HM0.out) (by repeat (first | with_reducible (first | exact World.gained_refl _ | exact ⟨_, rfl⟩ | apply gain_ext | apply gain_alloc | apply gain_drewN | apply gain_drew) | (refine gain_setCell ?_ (by first | exact Nat.le_refl _ | exact World.size_ext _ _ | (simp; done) | (simp; omega)) _))))).mono ?_
    rintro e w1 ⟨r2, vs2, rfl, ⟨d3, rfl⟩, hr2⟩
    have R2 := Lib.hid (sl2_of_own (rows2_own hr2))
    clear hr2
    obtain ⟨p6, c6, rfl⟩ := sl2_form R2.out
    have HT := Lib.hid (openPL_tot m)
    obtain ⟨hPL, hPL2⟩ := openPL_len m
    have HP36 := Lib.hid hPL2
    clear hPL2
    have HHC := Lib.hid (fun W hW => highestCell_any m (.slice p1 m.rise.length c1) (.slice p2 m.cost.length c2) W hW)
    have HPS : Hid (mapB m = true → psum tot1 (openPL m) (openPL m).length = opN m m.cost.length) := Lib.hid (fun h => by
      have e : openPL m = partsZ m m.cost.length := by simp [openPL, h]
      rw [e]
      exact parts_sum m)
    have HHF := Lib.hid (fun h : mapB m = true => And.intro (hi_facts h) (mapB_ok h))
    generalize openPL m = PL at R1 R2 HT hPL HP36 HPS
    generalize mapB m = MB at HPS HHF ⊢
    have hMM : (MB != MB) = false := by simp
    go_upto_if 114 with (go_at_call 13; refine (vTable_same _ _ PL _ (sl2_up R1.out (by repeat (first | with_reducible (first | exact World.gained_refl _ | exact ⟨_, rfl⟩ | apply gain_ext | apply gain_alloc | apply gain_drewN | apply gain_drew) | (refine gain_setCell ?_ (by first | exact Nat.le_refl _ | exact World.size_ext _ _ | (simp; done) | (simp; omega)) _)))) (sl2_up R2.out (by repeat (first | with_reducible (first | exact World.gained_refl _ | exact ⟨_, rfl⟩ | apply gain_ext | apply gain_alloc | apply gain_drewN | apply gain_drew) | (refine gain_setCell ?_ (by first | exact Nat.le_refl _ | exact World.size_ext _ _ | (simp; done) | (simp; omega)) _)))) HT.out).mono ?_; rintro e w1 ⟨rfl, d4, rfl⟩)
    have R3 := Lib.hid (sl2_up (w' := (((w.ext dz).ext d2).ext d3).ext d4) R1.out (by repeat (first | with_reducible (first | exact World.gained_refl _ | exact ⟨_, rfl⟩ | apply gain_ext | apply gain_alloc | apply gain_drewN | apply gain_drew) | (refine gain_setCell ?_ (by first | exact Nat.le_refl _ | exact World.size_ext _ _ | (simp; done) | (simp; omega)) _))))
    clear R1 R2 HT
    go_cut [17, 18, 19, 20, 21, 22, 23] (fun _ _ _ _ _ _ _ wx => ∃ d, wx = w.ext d)
    case first =>
      cases MB with
      | false =>
        go_wp2_with fail
        go_meet
        exact (by repeat (first | with_reducible (first | exact World.gained_refl _ | exact ⟨_, rfl⟩ | apply gain_ext | apply gain_alloc | apply gain_drewN | apply gain_drew) | (refine gain_setCell ?_ (by first | exact Nat.le_refl _ | exact World.size_ext _ _ | (simp; done) | (simp; omega)) _)))
      | true =>
        have HPS := Lib.hid (HPS.out rfl)
        obtain ⟨⟨hg1, hg2⟩, MW, MH, hok⟩ := HHF.out rfl
        obtain ⟨b1, o1, k1, b2, o2, k2, hin⟩ := mp_in HM0.out hok
        have hcv := hin.cv
        injection hcv with e1 e2 e3
        subst e1 e3
        have hrv := hin.rv
        injection hrv with e1 hrc e3
        subst e1 e3
        have HIN := Lib.hid hin
        have ob1 := hin.ob1
        have ob2 := hin.ob2
        have hn36 := hok.n36
        have HCR := Lib.hid (fun k => (hok.cr k).1)
        rw [hrc] at HM0 HHC bx2
        have HG2 := Lib.hid hg2
        rw [hg1] at HHC HG2
        have HBD := Lib.hid (fun k (hk : k ≤ PL.length) => Nat.le_trans (psum_le tot1 PL hk) (Nat.le_trans (psum_bd tot1 PL 36 HP36.out) (Nat.mul_le_mul_right 36 hPL)))
        clear hg1 hg2 hin hok HHF hMM hrc e2
        generalize hgI m = HI at HHC HG2
        go_wp2_with fail
        go_loopw [17, 19] (fun n_ i_ wr => ∃ k : Nat, k ≤ PL.length ∧ i_ = .int .i64 k ∧ n_ = .int .i64 (psum tot1 PL k : Nat) ∧ wr.sl2 (.slice p5 PL.length c5) PL ∧ ∃ d, wr = (w.ext dz).ext d) (fun _ i_ _ => PL.length - (intOf i_).toNat)
        case atStart => exact ⟨0, by omega, rfl, by rw [psum_zero]; rfl, R3.out, (by repeat (first | with_reducible (first | exact World.gained_refl _ | exact ⟨_, rfl⟩ | apply gain_ext | apply gain_alloc | apply gain_drewN | apply gain_drew) | (refine gain_setCell ?_ (by first | exact Nat.le_refl _ | exact World.size_ext _ _ | (simp; done) | (simp; omega)) _)))⟩
        case round =>
          clear R3
          obtain ⟨k, hk, rfl, rfl, hsl, d, rfl⟩ := hrel
          have HSL := Lib.hid hsl
          clear hsl
          by_cases hlt : k < PL.length
          · obtain ⟨b5, o5, rfl⟩ := slOf_some HSL.out (by omega)
            obtain ⟨u, cu, hu⟩ := slOf_at HSL.out hlt
            obtain ⟨pu, ku, rfl⟩ := sl1_form hu
            have hul := HP36.out _ (List.getElem_mem hlt)
            have HS := Lib.hid (psum_succ tot1 PL hlt)
            have hbd := HBD.out k hk
            have obu := World.oldB_of_cell cu
            simp only [tot1] at HS
            generalize PL[k].length = ul at cu hul HS
            generalize psum tot1 PL k = a at HS hbd ⊢
            clear hu
            go_wp2
            go_roundw
            case rel => exact ⟨k + 1, by omega, by go_num, by rw [HS.out, Int.natCast_add], HSL.out, _, rfl⟩
            case measure => simp [intOf]; omega
          obtain rfl : k = PL.length := by omega
          rw [HPS.out]
          clear HSL HBD HPS HP36
          go_wp2_with fail
          try (rotate_left; exact trivial)
          go_loopw [18, 20] (fun n_ i_ wr => ∃ k : Nat, k ≤ m.cost.length ∧ i_ = .int .i64 k ∧ n_ = .int .i64 (opN m k : Nat) ∧ ∃ d, wr = (w.ext dz).ext d) (fun _ i_ _ => m.cost.length - (intOf i_).toNat)
          case atStart => exact ⟨0, by omega, rfl, rfl, (by repeat (first | with_reducible (first | exact World.gained_refl _ | exact ⟨_, rfl⟩ | apply gain_ext | apply gain_alloc | apply gain_drewN | apply gain_drew) | (refine gain_setCell ?_ (by first | exact Nat.le_refl _ | exact World.size_ext _ _ | (simp; done) | (simp; omega)) _)))⟩
          case round =>
            obtain ⟨k, hk, rfl, rfl, d, rfl⟩ := hrel
            by_cases hlt : k < m.cost.length
            · have ck := HIN.out.co k hlt
              have HS := Lib.hid (opN_succ m k)
              have hbd := opN_le m k
              have hk0 : (0 : Int) ≤ (k : Int) := by omega
              have hk1 : (k : Int) < (m.cost.length : Int) := by omega
              by_cases h1 : 0 < costAt m k
              · rw [if_pos h1] at HS
                generalize costAt m k = cy at ck h1
                generalize opN m k = a at HS hbd ⊢
                go_wp2
                go_roundw
                case rel => exact ⟨k + 1, by omega, by go_num, by rw [HS.out, Int.natCast_add]; rfl, (by repeat (first | with_reducible (first | exact World.gained_refl _ | exact ⟨_, rfl⟩ | apply gain_ext | apply gain_alloc | apply gain_drewN | apply gain_drew) | (refine gain_setCell ?_ (by first | exact Nat.le_refl _ | exact World.size_ext _ _ | (simp; done) | (simp; omega)) _)))⟩
                case measure => simp [intOf]; omega
              · rw [if_neg h1] at HS
                generalize costAt m k = cy at ck h1
                generalize opN m k = a at HS hbd ⊢
                go_wp2
                go_roundw
                case rel => exact ⟨k + 1, by omega, by go_num, by rw [HS.out, Nat.add_zero], (by repeat (first | with_reducible (first | exact World.gained_refl _ | exact ⟨_, rfl⟩ | apply gain_ext | apply gain_alloc | apply gain_drewN | apply gain_drew) | (refine gain_setCell ?_ (by first | exact Nat.le_refl _ | exact World.size_ext _ _ | (simp; done) | (simp; omega)) _)))⟩
                case measure => simp [intOf]; omega
            obtain rfl : k = m.cost.length := by omega
            generalize opN m m.cost.length = N at HHC HG2 ⊢
            have hNN : ((N : Int) != (N : Int)) = false := by simp
            by_cases hp : 0 < N
            · have hd : decide (0 < N) = true := decide_eq_true hp
              rw [hd] at HHC HG2
              obtain ⟨b, rfl, hb, htop⟩ := HG2.out rfl
              have HTOP := Lib.hid htop
              have hb0 : decide ((b : Int) < 0) = false := decide_eq_false (by omega)
              have hb1 : decide ((m.cost.length : Int) ≤ (b : Int)) = false := decide_eq_false (by omega)
              have hb2 : (0 : Int) ≤ (b : Int) := by omega
              have hb4 : (b : Int) < (m.cost.length : Int) := by omega
              have hd2 : decide (0 < (N : Int)) = true := decide_eq_true (by omega)
              clear HG2 htop hd hn36 hlt hk
              go_wp2_with (go_at_call 14; refine (HHC.out _ (mp_up (HM0.out) (by repeat (first | with_reducible (first | exact World.gained_refl _ | exact ⟨_, rfl⟩ | apply gain_ext | apply gain_alloc | apply gain_drewN | apply gain_drew) | (refine gain_setCell ?_ (by first | exact Nat.le_refl _ | exact World.size_ext _ _ | (simp; done) | (simp; omega)) _))))).mono ?_; rintro e w1 ⟨rfl, d6, rfl⟩)
              try (rotate_left; exact trivial)
              go_loopw [23] (fun i_ wr => ∃ k : Nat, k ≤ m.cost.length ∧ i_ = .int .i64 k ∧ ∃ d, wr = (w.ext dz).ext d) (fun i_ _ => m.cost.length - (intOf i_).toNat)
              case atStart => exact ⟨0, by omega, rfl, (by repeat (first | with_reducible (first | exact World.gained_refl _ | exact ⟨_, rfl⟩ | apply gain_ext | apply gain_alloc | apply gain_drewN | apply gain_drew) | (refine gain_setCell ?_ (by first | exact Nat.le_refl _ | exact World.size_ext _ _ | (simp; done) | (simp; omega)) _)))⟩
              case round =>
                obtain ⟨k, hk, rfl, d, rfl⟩ := hrel
                by_cases hlt : k < m.cost.length
                · have ck := HIN.out.co k hlt
                  have rk := HIN.out.ro k hlt
                  have rb := HIN.out.ro b hb
                  have ht := HTOP.out k hlt
                  have hcr := HCR.out k
                  have hk0 : (0 : Int) ≤ (k : Int) := by omega
                  have hk1 : (k : Int) < (m.cost.length : Int) := by omega
                  generalize costAt m k = cy at ck ht hcr
                  generalize riseAt m k = rx at rk ht
                  generalize riseAt m b = ry at rb ht
                  by_cases h1 : 0 < cy
                  · have h2 := ht h1
                    have hf : decide (ry < rx) = false := decide_eq_false (by omega)
                    have hf1 : decide (0 < cy) = true := decide_eq_true h1
                    clear ht
                    go_wp2_with fail
                    refine wp_region_gain (by kernel_rfl) (by kernel_rfl) ?_
                    repeat (first | go_big_quiet_skip | (go_big_quiet_want; go_big_quiet_op; first | go_big_quiet_on))
                    refine wpQuiet_nil ?_
                    rintro _ ⟨d', rfl⟩
                    go_wp2
                    go_roundw
                    case rel => exact ⟨k + 1, by omega, by go_num, (by repeat (first | with_reducible (first | exact World.gained_refl _ | exact ⟨_, rfl⟩ | apply gain_ext | apply gain_alloc | apply gain_drewN | apply gain_drew) | (refine gain_setCell ?_ (by first | exact Nat.le_refl _ | exact World.size_ext _ _ | (simp; done) | (simp; omega)) _)))⟩
                    case measure => simp [intOf]; omega
                  · obtain rfl : cy = 0 := by omega
                    clear ht h1 hcr
                    go_wp2_with fail
                    refine wp_region_gain (by kernel_rfl) (by kernel_rfl) ?_
                    repeat (first | go_big_quiet_skip | (go_big_quiet_want; go_big_quiet_op; first | go_big_quiet_on))
                    refine wpQuiet_nil ?_
                    rintro _ ⟨d', rfl⟩
                    go_wp2
                    go_roundw
                    case rel => exact ⟨k + 1, by omega, by go_num, (by repeat (first | with_reducible (first | exact World.gained_refl _ | exact ⟨_, rfl⟩ | apply gain_ext | apply gain_alloc | apply gain_drewN | apply gain_drew) | (refine gain_setCell ?_ (by first | exact Nat.le_refl _ | exact World.size_ext _ _ | (simp; done) | (simp; omega)) _)))⟩
                    case measure => simp [intOf]; omega
                · go_wp2_with fail
                  go_meet
                  exact (by repeat (first | with_reducible (first | exact World.gained_refl _ | exact ⟨_, rfl⟩ | apply gain_ext | apply gain_alloc | apply gain_drewN | apply gain_drew) | (refine gain_setCell ?_ (by first | exact Nat.le_refl _ | exact World.size_ext _ _ | (simp; done) | (simp; omega)) _)))
            · have hd : decide (0 < N) = false := decide_eq_false hp
              rw [hd] at HHC
              have hd2 : decide (0 < (N : Int)) = false := decide_eq_false (by omega)
              clear HG2 hd hn36
              go_wp2_with (go_at_call 14; refine (HHC.out _ (mp_up (HM0.out) (by repeat (first | with_reducible (first | exact World.gained_refl _ | exact ⟨_, rfl⟩ | apply gain_ext | apply gain_alloc | apply gain_drewN | apply gain_drew) | (refine gain_setCell ?_ (by first | exact Nat.le_refl _ | exact World.size_ext _ _ | (simp; done) | (simp; omega)) _))))).mono ?_; rintro e w1 ⟨rfl, d6, rfl⟩)
              try (rotate_left; exact trivial)
              go_loopw [23] (fun i_ wr => i_ = .int .i64 0 ∧ ∃ d, wr = (w.ext dz).ext d) (fun _ _ => 0)
              case atStart => exact ⟨rfl, (by repeat (first | with_reducible (first | exact World.gained_refl _ | exact ⟨_, rfl⟩ | apply gain_ext | apply gain_alloc | apply gain_drewN | apply gain_drew) | (refine gain_setCell ?_ (by first | exact Nat.le_refl _ | exact World.size_ext _ _ | (simp; done) | (simp; omega)) _)))⟩
              case round =>
                obtain ⟨rfl, d, rfl⟩ := hrel
                go_wp2_with fail
                all_goals (go_meet; exact (by repeat (first | with_reducible (first | exact World.gained_refl _ | exact ⟨_, rfl⟩ | apply gain_ext | apply gain_alloc | apply gain_drewN | apply gain_drew) | (refine gain_setCell ?_ (by first | exact Nat.le_refl _ | exact World.size_ext _ _ | (simp; done) | (simp; omega)) _))))
    obtain ⟨dB, rfl⟩ := hcut
    clear HPS HHF HHC HP36 hPL R3 hMM HM0 bx0 bx1 bx2 bx3 obx hrl hcl
    go_wp2_with fail
    refine (drawStepTime_any _ L _ (by with_reducible (repeat (first | exact hs.out | refine World.sl_ext byteC_length ?_ _ | refine sl_alloc byteC_length ?_ _ | refine sl_drew ?_))) HQ.out hl).mono ?_
    rintro e w1 ⟨m, rv, cv, x0, x1, rfl, ⟨d1, rfl⟩, hmp⟩
    obtain ⟨p1, c1, p2, c2, rfl, rfl⟩ := mp_form hmp
    have HM := Lib.hid hmp
    clear hmp
    go_wp2_with fail
    generalize hW0 : ((w.ext dB).ext d1).alloc (.cells #[.int .i64 m.wd, .int .i64 m.ht, .slice p1 m.rise.length c1, .slice p2 m.cost.length c2] 26) = W0
    have hbx : MBox ((w.ext dB).ext d1) W0 ((w.ext dB).ext d1).heap.size m (.slice p1 m.rise.length c1) (.slice p2 m.cost.length c2) := by rw [← hW0]; exact mbox
    have HGW : ∃ d, W0 = w.ext d := gain_trans (by repeat (first | with_reducible (first | exact World.gained_refl _ | exact ⟨_, rfl⟩ | apply gain_ext | apply gain_alloc | apply gain_drewN | apply gain_drew) | (refine gain_setCell ?_ (by first | exact Nat.le_refl _ | exact World.size_ext _ _ | (simp; done) | (simp; omega)) _))) hbx.up
    have HM0 := Lib.hid (mp_up HM.out hbx.up)
    have bx0 := hbx.c0
    have bx1 := hbx.c1
    have bx2 := hbx.c2
    have bx3 := hbx.c3
    have obx := hbx.ob
    generalize ((w.ext dB).ext d1).heap.size = gB at bx0 bx1 bx2 bx3 obx ⊢
    clear hW0 hbx HM
    obtain ⟨dz, rfl⟩ := HGW
    have HA := Lib.hid (fun W hW => impStepTime_any m (.slice p1 m.rise.length c1) (.slice p2 m.cost.length c2) x0 x1 W hW)
    have HB := Lib.hid (fun W hW => specStepTime_any m (.slice p1 m.rise.length c1) (.slice p2 m.cost.length c2) x0 x1 W hW)
    have HPO := Lib.hid (fun (h : sttB m x0 x1 = true) => stt_pos h)
    generalize sttB m x0 x1 = SB at HA HB HPO
    generalize sttI m x0 x1 = SI at HA HB HPO
    refine (HA.out _ (mp_up (HM0.out) (by repeat (first | with_reducible (first | exact World.gained_refl _ | exact ⟨_, rfl⟩ | apply gain_ext | apply gain_alloc | apply gain_drewN | apply gain_drew) | (refine gain_setCell ?_ (by first | exact Nat.le_refl _ | exact World.size_ext _ _ | (simp; done) | (simp; omega)) _))))).mono ?_
    rintro e w1 ⟨rfl, d2, rfl⟩
    go_wp2_with fail
    refine (HB.out _ (mp_up (HM0.out) (by repeat (first | with_reducible (first | exact World.gained_refl _ | exact ⟨_, rfl⟩ | apply gain_ext | apply gain_alloc | apply gain_drewN | apply gain_drew) | (refine gain_setCell ?_ (by first | exact Nat.le_refl _ | exact World.size_ext _ _ | (simp; done) | (simp; omega)) _))))).mono ?_
    rintro e w1 ⟨rfl, d3, rfl⟩
    have hBB : (SB != SB) = false := by simp
    have hII : (SI != SI) = false := by simp
    have hSI : (SB && decide (SI < 1)) = false := by
      cases SB with
      | false => rfl
      | true => have := HPO.out rfl; simp; omega
    clear HA HB HM0 bx0 bx1 bx2 bx3 obx
    go_upto_region 41 with fail
    go_cut [227, 228, 229, 230, 231, 232, 233, 234] (fun _ _ _ _ _ _ _ t wx => t = .bool false ∧ ∃ d, wx = w.ext d)
    case first =>
      cases SB with
      | false =>
        go_wp2_with fail
        go_meet
        exact ⟨rfl, (by repeat (first | with_reducible (first | exact World.gained_refl _ | exact ⟨_, rfl⟩ | apply gain_ext | apply gain_alloc | apply gain_drewN | apply gain_drew) | (refine gain_setCell ?_ (by first | exact Nat.le_refl _ | exact World.size_ext _ _ | (simp; done) | (simp; omega)) _)))⟩
      | true =>
        have h1 : decide (SI < 1) = false := by have := HPO.out rfl; exact decide_eq_false (by omega)
        go_wp2_with fail
        go_meet
        exact ⟨rfl, (by repeat (first | with_reducible (first | exact World.gained_refl _ | exact ⟨_, rfl⟩ | apply gain_ext | apply gain_alloc | apply gain_drewN | apply gain_drew) | (refine gain_setCell ?_ (by first | exact Nat.le_refl _ | exact World.size_ext _ _ | (simp; done) | (simp; omega)) _)))⟩
    obtain ⟨rfl, dC, rfl⟩ := hcut
    clear HPO hSI hBB hII
    go_wp2_with fail
    refine (drawHighestCell_any _ L _ (by with_reducible (repeat (first | exact hs.out | refine World.sl_ext byteC_length ?_ _ | refine sl_alloc byteC_length ?_ _ | refine sl_drew ?_))) HQ.out hl).mono ?_
    rintro e w1 ⟨m, rv, cv, rfl, ⟨d1, rfl⟩, ho1, ho2, hrl, hcl⟩
    have hmp : World.mp ((w.ext dC).ext d1) rv cv m := ⟨sl_of_own intC_length ho1, sl_of_own intC_length ho2, hrl, hcl⟩
    obtain ⟨p1, c1, p2, c2, rfl, rfl⟩ := mp_form hmp
    have HM := Lib.hid hmp
    clear hmp ho1 ho2
    go_wp2_with fail
    generalize hW0 : ((w.ext dC).ext d1).alloc (.cells #[.int .i64 m.wd, .int .i64 m.ht, .slice p1 m.rise.length c1, .slice p2 m.cost.length c2] 26) = W0
    have hbx : MBox ((w.ext dC).ext d1) W0 ((w.ext dC).ext d1).heap.size m (.slice p1 m.rise.length c1) (.slice p2 m.cost.length c2) := by rw [← hW0]; exact mbox
    have HGW : ∃ d, W0 = w.ext d := gain_trans (by repeat (first | with_reducible (first | exact World.gained_refl _ | exact ⟨_, rfl⟩ | apply gain_ext | apply gain_alloc | apply gain_drewN | apply gain_drew) | (refine gain_setCell ?_ (by first | exact Nat.le_refl _ | exact World.size_ext _ _ | (simp; done) | (simp; omega)) _))) hbx.up
    have HM0 := Lib.hid (mp_up HM.out hbx.up)
    have bx0 := hbx.c0
    have bx1 := hbx.c1
    have bx2 := hbx.c2
    have bx3 := hbx.c3
    have obx := hbx.ob
    generalize ((w.ext dC).ext d1).heap.size = gB at bx0 bx1 bx2 bx3 obx ⊢
    clear hW0 hbx HM
    obtain ⟨dz, rfl⟩ := HGW
    have HA := Lib.hid (fun W hW => highestCell_any m (.slice p1 m.rise.length c1) (.slice p2 m.cost.length c2) W hW)
    have HB := Lib.hid (fun W hW => specHighestCell_any m (.slice p1 m.rise.length c1) (.slice p2 m.cost.length c2) W hW)
    generalize hgB m = SB at HA HB
    generalize hgI m = SI at HA HB
    have hBB : (SB == SB) = true := by simp
    have hII : (SI == SI) = true := by simp
    refine (HA.out _ (mp_up (HM0.out) (by repeat (first | with_reducible (first | exact World.gained_refl _ | exact ⟨_, rfl⟩ | apply gain_ext | apply gain_alloc | apply gain_drewN | apply gain_drew) | (refine gain_setCell ?_ (by first | exact Nat.le_refl _ | exact World.size_ext _ _ | (simp; done) | (simp; omega)) _))))).mono ?_
    rintro e w1 ⟨rfl, d2, rfl⟩
    go_wp2_with fail
    refine (HB.out _ (mp_up (HM0.out) (by repeat (first | with_reducible (first | exact World.gained_refl _ | exact ⟨_, rfl⟩ | apply gain_ext | apply gain_alloc | apply gain_drewN | apply gain_drew) | (refine gain_setCell ?_ (by first | exact Nat.le_refl _ | exact World.size_ext _ _ | (simp; done) | (simp; omega)) _))))).mono ?_
    rintro e w1 ⟨rfl, d3, rfl⟩
    go_wp2
    go_ret
    exact ⟨rfl, (by repeat (first | with_reducible (first | exact World.gained_refl _ | exact ⟨_, rfl⟩ | apply gain_ext | apply gain_alloc | apply gain_drewN | apply gain_drew) | (refine gain_setCell ?_ (by first | exact Nat.le_refl _ | exact World.size_ext _ _ | (simp; done) | (simp; omega)) _)))⟩
set_option maxRecDepth 100000 in
theorem fnCells_lifted (os : Os) (started : os.Started) (H : Type) (enc : TypeId × Value → H) :
    ReturnsInHanded {} Try.checked os 3 .any (Rows.fnCellsSpec.pre6 enc Try.prog Try.f3 Rows.fnCellsRow.domain false) (Rows.fnCellsSpec.post enc Try.prog Try.f3 false true false false) := by
  refine returnsInHanded_of_change (C := Try.checked) (by kernel_rfl) started (by kernel_rfl) Try.func3
    (ChangeSpec.witness6 (enc := enc) (C := Try.checked) false ⟨#[], #[.slice none 0 0], []⟩ 8 (by kernel_rfl) (by kernel_rfl) (by kernel_rfl) (by kernel_rfl)) ?_
  intro W base args ds gs before hval0 hW _ _
  have hval : ∀ (j : Nat) t v, Try.f3.params[j]? = some t → args[j]? = some v → Value.okWide Try.prog W .any base t v := hval0
  clear hval0
  have laidOut : laidOutB Try.prog = true := by as_aux_lemma => kernel_rfl
  have hWc := hW
  obtain ⟨p, q, hA0, hV, rfl, _, _⟩ := hWc
  have hA : DataW.TrodAll enc Try.prog W 0 (fun _ => true) true Try.f3.params.toList args.toList ds p := hA0
  clear hA0
  rw [Try.params3] at hA hval
  obtain ⟨v0, vs0, d0, ds0, p0, q0, hargs, rfl, rfl, h0, r0⟩ := trodAll_cons hA
  obtain ⟨rfl, rfl, rfl⟩ := trodAll_nil r0
  obtain rfl : args = #[v0] := by cases args; simp_all
  obtain ⟨rfl, rfl⟩ := trodVars_none hV
  obtain ⟨l1, hs1, hq1, hm1⟩ := read_Bytes (hval 0 22 v0 rfl rfl) h0
  refine (fnCells_walk v0 l1 W hs1 hq1 hm1).mono fun e W1 ⟨he, hg⟩ => ?_
  subst he
  exact ⟨_, rfl, law_post (tb := 4) laidOut (by kernel_rfl) hW rfl rfl (by kernel_rfl) Try.underlying4 hg⟩
theorem fnCells_holds : Rows.FnCellsSaid :=
  OpenClaim.holds_of_wide 3 Try.f3 rfl rfl rfl rfl rfl rfl rfl ⟨rfl, rfl, rfl, rfl, rfl⟩ rfl rfl rfl rfl rfl (by kernel_rfl) Try.func3 (by kernel_rfl)
    (of_decide_eq_true (by kernel_rfl)) (by unfold Func.isWrapper; first | (rw [if_pos (by decide +kernel)]; kernel_rfl) | (rw [if_neg (by decide +kernel)]; exact ⟨rfl, rfl⟩))
    (fun os started H enc _ => fnCells_lifted os started H enc)
#print axioms fnCells_holds
end Go.Proofs.Ytepjemfkmnpepaa
