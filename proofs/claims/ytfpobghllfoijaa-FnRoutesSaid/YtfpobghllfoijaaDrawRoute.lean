/- spec.l1Cur's route; the draws of routes. Condition: the reader has been asked less than a thousand times. -/
import Derived.Test.YtfpobghllfoijaaDrawMap
import Derived.Test.YtfpobghllfoijaaDrawR
import Derived.Test.YtfpobghllfoijaaRouteB
import Derived.Test.YtfpobghllfoijaaMapY
namespace Go.Ori
theorem bestL_len {m : Mp} {a b : Int} : (bestL m a b).length ≤ 36 := by
  by_cases h : goB m a b = true
  · obtain ⟨A, B, rfl, rfl, a1, a2, b1, b2, hi, hmb⟩ := goB_true h
    obtain ⟨W, H, hm⟩ := mapB_ok hmb
    rw [bestL_yes h, natL_length]
    exact rt_len hm (route_rt hm a1 a2 b1 hi)
  · rw [bestL, if_neg h]; simp
theorem next_len36 {m : Mp} (c : Nat) (h : m.cost.length ≤ 36) : (natL (nextL m c)).length ≤ 36 := by
  rw [natL_length]
  exact Nat.le_trans (List.length_filter_le _ _) (by simpa using h)
end Go.Ori
namespace Go.Proofs.Ytfpobghllfoijaa
open Go.RowKit Go.Ori
set_option maxHeartbeats 8000000 in
set_option maxRecDepth 100000 in
theorem route_any (W w : World) (g n lo : Nat) (m : Mp) (rv cv : Value) (h : Cur 52 W w g n) (hn : n ≤ 1000) (hlo : g < lo) (hr : w.own lo 3 intC 1 rv m.rise) (hc : w.own lo 3 intC 1 cv m.cost) (hrl : m.rise.length ≤ 1048576) (hcl : m.cost.length ≤ 1048576) :
    Calls Try.prog 36 #[.pointer (some ⟨g, 0, none⟩), .agg #[.int .i64 m.wd, .int .i64 m.ht, rv, cv]] w fun x w' => ∃ v l, x = .returned v ∧ w'.own w.heap.size 3 intC 1 v l ∧ l.length ≤ 40 ∧ Cur 52 W w' g (n + 60) ∧ w.grownBy w' (some g) := by
  have hgw := h.lt
  have hWw : W.heap.size ≤ w.heap.size := Nat.le_trans h.ge (Nat.le_of_lt hgw)
  have HS0 := Lib.hid (RSt.start (tM := 26) h hlo hr hc (by decide))
  obtain ⟨pr, kr, rfl, _⟩ := sl_of_own intC_length hr
  obtain ⟨pc, kc, rfl, _⟩ := sl_of_own intC_length hc
  clear h hr hc
  go_enter Try.func36, Try.ntmps36
  go_upto_region 1 with fail
  generalize w.alloc (.cells #[.int .i64 m.wd, .int .i64 m.ht, .slice pr m.rise.length kr, .slice pc m.cost.length kc] 26) = ww0 at HS0 ⊢
  refine wp_region_held_drew (S := (fun w' => w'.cell? ⟨w.heap.size, 0, none⟩ = some (.int .i64 m.wd) ∧ w'.cell? ⟨w.heap.size, 1, none⟩ = some (.int .i64 m.ht) ∧ w'.cell? ⟨w.heap.size, 2, none⟩ = some (.slice pr m.rise.length kr) ∧ w'.cell? ⟨w.heap.size, 3, none⟩ = some (.slice pc m.cost.length kc))) (by kernel_rfl) ⟨World.cell_of_heap HS0.out.box 0, World.cell_of_heap HS0.out.box 1, World.cell_of_heap HS0.out.box 2, World.cell_of_heap HS0.out.box 3⟩ (fun hHeld => ?_)
  refine wpAnyH_take (i := 0) (oi := ⟨_, _, _, _, _, _⟩) (v := ?_) rfl (by kernel_rfl) (by kernel_rfl) (by kernel_rfl) (fun _ _ _ h => h) (Or.inl ⟨by rfl, ?_⟩) (by assumption) ?_
  rotate_left
  · intro w hSw; (try dsimp only at hSw); go_simp; (try with_reducible rfl)
  try simp only [Act.put, List.setIfInBounds_toArray, List.set_cons_zero, List.set_cons_succ]
  refine wpAnyH_take (i := 1) (oi := ⟨_, _, _, _, _, _⟩) (v := ?_) rfl (by kernel_rfl) (by kernel_rfl) (by kernel_rfl) (fun _ _ _ h => h) (Or.inl ⟨by rfl, ?_⟩) (by assumption) ?_
  rotate_left
  · intro w hSw; (try dsimp only at hSw); go_simp; (try with_reducible rfl)
  try simp only [Act.put, List.setIfInBounds_toArray, List.set_cons_zero, List.set_cons_succ]
  refine wpAnyH_take (i := 3) (oi := ⟨_, _, _, _, _, _⟩) (v := ?_) rfl (by kernel_rfl) (by kernel_rfl) (by kernel_rfl) (fun _ _ _ h => h) (Or.inl ⟨by rfl, ?_⟩) (by assumption) ?_
  rotate_left
  · intro w hSw; (try dsimp only at hSw); go_simp; (try with_reducible rfl)
  try simp only [Act.put, List.setIfInBounds_toArray, List.set_cons_zero, List.set_cons_succ]
  refine wpAnyH_take (i := 4) (oi := ⟨_, _, _, _, _, _⟩) (v := ?_) rfl (by kernel_rfl) (by kernel_rfl) (by kernel_rfl) (fun _ _ _ h => h) (Or.inl ⟨by rfl, ?_⟩) (by assumption) ?_
  rotate_left
  · intro w hSw; (try dsimp only at hSw); go_simp; (try with_reducible rfl)
  try simp only [Act.put, List.setIfInBounds_toArray, List.set_cons_zero, List.set_cons_succ]
  refine wpAnyH_ready (rs := [2]) (by kernel_rfl) (by simp) ?_
  refine AllReadyH.cons rfl (fun K hK => ?_) AllReadyH.nil
  go_simp
  go_wp2_with fail
  refine (openCell_any _ _ g _ lo m _ _ (HS0.out.cur.gain (by repeat (first | with_reducible (first | exact World.gained_refl _ | exact ⟨_, rfl⟩ | apply gain_ext | apply gain_alloc | apply gain_drewN | apply gain_drew) | (refine gain_setCell ?_ (by first | exact Nat.le_refl _ | exact World.size_ext _ _ | (simp; done) | (simp; omega)) _)))) (by omega) hlo (own_up HS0.out.r (by repeat (first | with_reducible (first | exact World.gained_refl _ | exact ⟨_, rfl⟩ | apply gain_ext | apply gain_alloc | apply gain_drewN | apply gain_drew) | (refine gain_setCell ?_ (by first | exact Nat.le_refl _ | exact World.size_ext _ _ | (simp; done) | (simp; omega)) _)))) (own_up HS0.out.c (by repeat (first | with_reducible (first | exact World.gained_refl _ | exact ⟨_, rfl⟩ | apply gain_ext | apply gain_alloc | apply gain_drewN | apply gain_drew) | (refine gain_setCell ?_ (by first | exact Nat.le_refl _ | exact World.size_ext _ _ | (simp; done) | (simp; omega)) _)))) hrl hcl).mono ?_
  rintro e ww1 ⟨x0, rfl, hc1, hg1⟩
  have HS1 := Lib.hid ((HS0.out.up (by repeat (first | with_reducible (first | exact World.gained_refl _ | exact ⟨_, rfl⟩ | apply gain_ext | apply gain_alloc | apply gain_drewN | apply gain_drew) | (refine gain_setCell ?_ (by first | exact Nat.le_refl _ | exact World.size_ext _ _ | (simp; done) | (simp; omega)) _)))).on hc1 hg1)
  clear hc1 hg1
  (try dsimp only)
  refine hK.out _ _ ?_ (fun hHeld => ?_)
  · exact ⟨World.cell_of_heap HS1.out.box 0, World.cell_of_heap HS1.out.box 1, World.cell_of_heap HS1.out.box 2, World.cell_of_heap HS1.out.box 3⟩
  clear hK K
  try simp only [Act.put, List.setIfInBounds_toArray, List.set_cons_zero, List.set_cons_succ]
  refine wpAnyH_ready (rs := [5]) (by kernel_rfl) (by simp) ?_
  refine AllReadyH.cons rfl (fun K hK => ?_) AllReadyH.nil
  go_simp
  go_wp2_with fail
  refine (openCell_any _ _ g _ lo m _ _ (HS1.out.cur.gain (by repeat (first | with_reducible (first | exact World.gained_refl _ | exact ⟨_, rfl⟩ | apply gain_ext | apply gain_alloc | apply gain_drewN | apply gain_drew) | (refine gain_setCell ?_ (by first | exact Nat.le_refl _ | exact World.size_ext _ _ | (simp; done) | (simp; omega)) _)))) (by omega) hlo (own_up HS1.out.r (by repeat (first | with_reducible (first | exact World.gained_refl _ | exact ⟨_, rfl⟩ | apply gain_ext | apply gain_alloc | apply gain_drewN | apply gain_drew) | (refine gain_setCell ?_ (by first | exact Nat.le_refl _ | exact World.size_ext _ _ | (simp; done) | (simp; omega)) _)))) (own_up HS1.out.c (by repeat (first | with_reducible (first | exact World.gained_refl _ | exact ⟨_, rfl⟩ | apply gain_ext | apply gain_alloc | apply gain_drewN | apply gain_drew) | (refine gain_setCell ?_ (by first | exact Nat.le_refl _ | exact World.size_ext _ _ | (simp; done) | (simp; omega)) _)))) hrl hcl).mono ?_
  rintro e ww2 ⟨x1, rfl, hc1, hg1⟩
  have HS2 := Lib.hid ((HS1.out.up (by repeat (first | with_reducible (first | exact World.gained_refl _ | exact ⟨_, rfl⟩ | apply gain_ext | apply gain_alloc | apply gain_drewN | apply gain_drew) | (refine gain_setCell ?_ (by first | exact Nat.le_refl _ | exact World.size_ext _ _ | (simp; done) | (simp; omega)) _)))).on hc1 hg1)
  clear hc1 hg1
  (try dsimp only)
  refine hK.out _ _ ?_ (fun hHeld => ?_)
  · exact ⟨World.cell_of_heap HS2.out.box 0, World.cell_of_heap HS2.out.box 1, World.cell_of_heap HS2.out.box 2, World.cell_of_heap HS2.out.box 3⟩
  clear hK K
  try simp only [Act.put, List.setIfInBounds_toArray, List.set_cons_zero, List.set_cons_succ]
  refine wpAnyH_take (i := 6) (oi := ⟨_, _, _, _, _, _⟩) (v := ?_) rfl (by kernel_rfl) (by kernel_rfl) (by kernel_rfl) (fun _ _ _ h => h) (Or.inl ⟨by rfl, ?_⟩) (by assumption) ?_
  rotate_left
  · intro w hSw; (try dsimp only at hSw); go_simp; (try with_reducible rfl)
  try simp only [Act.put, List.setIfInBounds_toArray, List.set_cons_zero, List.set_cons_succ]
  refine wpAnyH_take (i := 7) (oi := ⟨_, _, _, _, _, _⟩) (v := ?_) rfl (by kernel_rfl) (by kernel_rfl) (by kernel_rfl) (fun _ _ _ h => h) (Or.inl ⟨by rfl, ?_⟩) (by assumption) ?_
  rotate_left
  · intro w hSw; (try dsimp only at hSw); go_simp; (try with_reducible rfl)
  try simp only [Act.put, List.setIfInBounds_toArray, List.set_cons_zero, List.set_cons_succ]
  refine wpAnyH_done (by kernel_rfl) ?_ _
  have bx0 : ww2.cell? ⟨w.heap.size, 0, none⟩ = some (.int .i64 m.wd) := World.cell_of_heap HS2.out.box 0
  have bx1 : ww2.cell? ⟨w.heap.size, 1, none⟩ = some (.int .i64 m.ht) := World.cell_of_heap HS2.out.box 1
  have bx2 : ww2.cell? ⟨w.heap.size, 2, none⟩ = some (.slice pr m.rise.length kr) := World.cell_of_heap HS2.out.box 2
  have bx3 : ww2.cell? ⟨w.heap.size, 3, none⟩ = some (.slice pc m.cost.length kc) := World.cell_of_heap HS2.out.box 3
  have obx := World.oldB_of_cell bx0
  have HBL := Lib.hid (bestL_len (m := m) (a := x0) (b := x1))
  go_wp2_with fail
  refine (specBestRoute_any m _ _ x0 x1 _ (HS2.out.mp hrl hcl)).mono ?_
  rintro e w1 ⟨br, rfl, ⟨d1, rfl⟩, hbr⟩
  have HBR := Lib.hid (own_base hbr HS2.out.size)
  obtain ⟨pb, kb, rfl, _⟩ := sl_of_own intC_length hbr
  clear hbr bx0 bx1 bx2 bx3 obx
  cases hG : goB m x0 x1 with
  | false =>
    have HSA := Lib.hid (HS2.out.up (wr' := ww2.ext d1) (by repeat (first | with_reducible (first | exact World.gained_refl _ | exact ⟨_, rfl⟩ | apply gain_ext | apply gain_alloc | apply gain_drewN | apply gain_drew) | (refine gain_setCell ?_ (by first | exact Nat.le_refl _ | exact World.size_ext _ _ | (simp; done) | (simp; omega)) _))))
    generalize ww2.ext d1 = wa at HSA ⊢
    go_wp2_with fail
    refine (pick_any W _ g _ _ (HSA.out.cur.gain (by repeat (first | with_reducible (first | exact World.gained_refl _ | exact ⟨_, rfl⟩ | apply gain_ext | apply gain_alloc | apply gain_drewN | apply gain_drew) | (refine gain_setCell ?_ (by first | exact Nat.le_refl _ | exact World.size_ext _ _ | (simp; done) | (simp; omega)) _)))) (by omega)).mono ?_
    rintro e wp ⟨rp, rfl, k1, k2, hcp, hgp⟩
    have HSP := Lib.hid ((HSA.out.up (by repeat (first | with_reducible (first | exact World.gained_refl _ | exact ⟨_, rfl⟩ | apply gain_ext | apply gain_alloc | apply gain_drewN | apply gain_drew) | (refine gain_setCell ?_ (by first | exact Nat.le_refl _ | exact World.size_ext _ _ | (simp; done) | (simp; omega)) _)))).on hcp hgp)
    have HOP := Lib.hid (own_cur (own_up (own_lit' (w := wa) (C := #[.int .i64 x0]) (l := [x0]) intC_length rfl rfl HSA.out.size) (by repeat (first | with_reducible (first | exact World.gained_refl _ | exact ⟨_, rfl⟩ | apply gain_ext | apply gain_alloc | apply gain_drewN | apply gain_drew) | (refine gain_setCell ?_ (by first | exact Nat.le_refl _ | exact World.size_ext _ _ | (simp; done) | (simp; omega)) _)))) hgw hgp)
    obtain ⟨k0, rfl⟩ : ∃ k0 : Nat, rp = (k0 : Int) := ⟨rp.toNat, by omega⟩
    have hk0 : k0 ≤ 4 := by omega
    clear hcp hgp k1 k2
    go_wp2_with fail
    go_loopw [7, 9] (fun ov i wr => ∃ (k : Nat) (l : List Int), k ≤ 4 ∧ i = .int .i64 k ∧ 0 < l.length ∧ l.length + k ≤ 5 ∧ wr.own w.heap.size 3 intC 1 ov l ∧ RSt 52 26 3 W w wr g lo w.heap.size (n + 36 - 4 * k) m (.slice pr m.rise.length kr) (.slice pc m.cost.length kc)) (fun _ i _ => (intOf i).toNat)
    case atStart => exact ⟨k0, [x0], hk0, rfl, by simp, by simp; omega, HOP.out, HSP.out.le (by omega)⟩
    case round =>
      obtain ⟨k, l, hk, rfl, hl0, hlk, ho, hst⟩ := hrel
      have HS := Lib.hid hst
      have HO := Lib.hid ho
      obtain ⟨gl, cap, rfl, _, _⟩ := own_addr ho hl0
      have cl := sl_int (sl_of_own intC_length ho) (k := l.length - 1) (by omega)
      rw [Nat.zero_add] at cl
      have obl := World.oldB_of_cell cl
      have bx0 : wr.cell? ⟨w.heap.size, 0, none⟩ = some (.int .i64 m.wd) := World.cell_of_heap hst.box 0
      have bx1 : wr.cell? ⟨w.heap.size, 1, none⟩ = some (.int .i64 m.ht) := World.cell_of_heap hst.box 1
      have bx2 : wr.cell? ⟨w.heap.size, 2, none⟩ = some (.slice pr m.rise.length kr) := World.cell_of_heap hst.box 2
      have bx3 : wr.cell? ⟨w.heap.size, 3, none⟩ = some (.slice pc m.cost.length kc) := World.cell_of_heap hst.box 3
      have obx := World.oldB_of_cell bx0
      have HMP := Lib.hid (hst.mp hrl hcl)
      clear hst ho
      by_cases hlt : 0 < k
      · have hkd : decide (0 < (k : Int)) = true := decide_eq_true (by omega)
        cases hB : mapB m with
        | false =>
          generalize l[l.length - 1]'(by omega) = y at cl
          go_upto_region 14 with (go_at_call 32; refine (l2Map_any m _ _ _ (mp_up (HMP.out) (by repeat (first | with_reducible (first | exact World.gained_refl _ | exact ⟨_, rfl⟩ | apply gain_ext | apply gain_alloc | apply gain_drewN | apply gain_drew) | (refine gain_setCell ?_ (by first | exact Nat.le_refl _ | exact World.size_ext _ _ | (simp; done) | (simp; omega)) _))))).mono ?_; rw [hB]; rintro e w1 ⟨rfl, d1, rfl⟩)
          have HSF := Lib.hid (HS.out.up (wr' := wr.ext d1) (by repeat (first | with_reducible (first | exact World.gained_refl _ | exact ⟨_, rfl⟩ | apply gain_ext | apply gain_alloc | apply gain_drewN | apply gain_drew) | (refine gain_setCell ?_ (by first | exact Nat.le_refl _ | exact World.size_ext _ _ | (simp; done) | (simp; omega)) _))))
          have HOF := Lib.hid (own_up HO.out (w' := wr.ext d1) (by repeat (first | with_reducible (first | exact World.gained_refl _ | exact ⟨_, rfl⟩ | apply gain_ext | apply gain_alloc | apply gain_drewN | apply gain_drew) | (refine gain_setCell ?_ (by first | exact Nat.le_refl _ | exact World.size_ext _ _ | (simp; done) | (simp; omega)) _))))
          go_wp2_with fail
          refine (one_any W _ g _ _ HSF.out.cur (by omega)).mono ?_
          rintro e wz ⟨bz, rfl, hcz, hgz⟩
          have HSZ := Lib.hid (HSF.out.on hcz hgz)
          have HOZ := Lib.hid (own_cur HOF.out hgw hgz)
          clear hcz hgz
          cases bz with
          | false =>
            go_wp2
            go_ret
            exact ⟨_, _, rfl, HOZ.out, by omega, HSZ.out.cur.le (by omega), HSZ.out.gr⟩
          | true =>
            have bz0 : wz.cell? ⟨w.heap.size, 0, none⟩ = some (.int .i64 m.wd) := World.cell_of_heap HSZ.out.box 0
            have bz1 : wz.cell? ⟨w.heap.size, 1, none⟩ = some (.int .i64 m.ht) := World.cell_of_heap HSZ.out.box 1
            have bz2 : wz.cell? ⟨w.heap.size, 2, none⟩ = some (.slice pr m.rise.length kr) := World.cell_of_heap HSZ.out.box 2
            have bz3 : wz.cell? ⟨w.heap.size, 3, none⟩ = some (.slice pc m.cost.length kc) := World.cell_of_heap HSZ.out.box 3
            have obz := World.oldB_of_cell bz0
            go_wp2_with fail
            refine (cellOfD_any W _ g _ m pr pc kr kc HSZ.out.cur (by omega) hcl).mono ?_
            rintro e wy ⟨ry, rfl, -, -, hcy, hgy⟩
            have HSY := Lib.hid (HSZ.out.on hcy hgy)
            have HOY := Lib.hid (own_cur HOZ.out hgw hgy)
            have HUP := Lib.hid hcy.up
            clear hcy hgy bz0 bz1 bz2 bz3 obz
            go_wp2_with (at_builtin; go_must (refine wpList_append_gain (W := W) (base := w.heap.size) (m := [ry]) rfl (.tmp 71) (.tmp 75) rfl Try.underlying24 info_int (by rfl) (by omega) intC_length intC_one (by omega) (gain_trans HUP.out (by repeat (first | with_reducible (first | exact World.gained_refl _ | exact ⟨_, rfl⟩ | apply gain_ext | apply gain_alloc | apply gain_drewN | apply gain_drew) | (refine gain_setCell ?_ (by first | exact Nat.le_refl _ | exact World.size_ext _ _ | (simp; done) | (simp; omega)) _)))) hWw (Nat.le_trans HSY.out.size (gain_size (by repeat (first | with_reducible (first | exact World.gained_refl _ | exact ⟨_, rfl⟩ | apply gain_ext | apply gain_alloc | apply gain_drewN | apply gain_drew) | (refine gain_setCell ?_ (by first | exact Nat.le_refl _ | exact World.size_ext _ _ | (simp; done) | (simp; omega)) _))))) rfl rfl (own_up (HOY.out) (by repeat (first | with_reducible (first | exact World.gained_refl _ | exact ⟨_, rfl⟩ | apply gain_ext | apply gain_alloc | apply gain_drewN | apply gain_drew) | (refine gain_setCell ?_ (by first | exact Nat.le_refl _ | exact World.size_ext _ _ | (simp; done) | (simp; omega)) _)))) (sl_lit (l := [ry]) intC_length rfl (by simp)) (by simp; omega) ?_); intro v' d' ho hg)
            have HSX := Lib.hid ((HSY.out.up (by repeat (first | with_reducible (first | exact World.gained_refl _ | exact ⟨_, rfl⟩ | apply gain_ext | apply gain_alloc | apply gain_drewN | apply gain_drew) | (refine gain_setCell ?_ (by first | exact Nat.le_refl _ | exact World.size_ext _ _ | (simp; done) | (simp; omega)) _)))).grown (own_up HOY.out (by repeat (first | with_reducible (first | exact World.gained_refl _ | exact ⟨_, rfl⟩ | apply gain_ext | apply gain_alloc | apply gain_drewN | apply gain_drew) | (refine gain_setCell ?_ (by first | exact Nat.le_refl _ | exact World.size_ext _ _ | (simp; done) | (simp; omega)) _)))) (by decide) hg ⟨_, rfl⟩)
            go_ret
            exact ⟨_, _, rfl, ho, by simp; omega, HSX.out.cur.le (by omega), HSX.out.gr⟩
        | true =>
          obtain ⟨WW, HH, hok⟩ := mapB_ok hB
          have HOK := Lib.hid hok
          have hn36 := hok.n36
          have hwl : IntKind.i64.wrap ((l.length : Int) - 1) = (l.length : Int) - 1 := IntWalk.i64_in _ (by omega)
          have hwn : ((l.length : Int) - 1).toNat = l.length - 1 := by omega
          have hwk : IntKind.i64.wrap ((k : Int) - 1) = (k : Int) - 1 := IntWalk.i64_in _ (by omega)
          have hl1 : (1 : Int) ≤ (l.length : Int) := by omega
          generalize l[l.length - 1]'(by omega) = y at cl
          have HCE := Lib.hid (fun W' => l2Cell_any m (.slice pr m.rise.length kr) (.slice pc m.cost.length kc) y W' hB)
          cases hce : cellB m y with
          | false =>
            rw [hce] at HCE
            clear hok
            go_wp2_with (first | (go_at_call 32; refine (l2Map_any m _ _ _ (mp_up (HMP.out) (by repeat (first | with_reducible (first | exact World.gained_refl _ | exact ⟨_, rfl⟩ | apply gain_ext | apply gain_alloc | apply gain_drewN | apply gain_drew) | (refine gain_setCell ?_ (by first | exact Nat.le_refl _ | exact World.size_ext _ _ | (simp; done) | (simp; omega)) _))))).mono ?_; rw [hB]; rintro e w1 ⟨rfl, d1, rfl⟩) | (go_at_call 58; refine (HCE.out _).mono ?_; rintro e w1 ⟨rfl, d2, rfl⟩))
            go_roundw
            case rel => exact ⟨k - 1, l, by omega, by go_num, hl0, by omega, (own_up (HO.out) (by repeat (first | with_reducible (first | exact World.gained_refl _ | exact ⟨_, rfl⟩ | apply gain_ext | apply gain_alloc | apply gain_drewN | apply gain_drew) | (refine gain_setCell ?_ (by first | exact Nat.le_refl _ | exact World.size_ext _ _ | (simp; done) | (simp; omega)) _)))), (HS.out.up (by repeat (first | with_reducible (first | exact World.gained_refl _ | exact ⟨_, rfl⟩ | apply gain_ext | apply gain_alloc | apply gain_drewN | apply gain_drew) | (refine gain_setCell ?_ (by first | exact Nat.le_refl _ | exact World.size_ext _ _ | (simp; done) | (simp; omega)) _)))).le (by omega)⟩
            case measure => simp [intOf]; omega
          | true =>
            obtain ⟨c, rfl, hc⟩ : ∃ c : Nat, y = c ∧ c < m.cost.length := by
              simp only [cellB, Bool.and_eq_true, insB_true] at hce
              exact ⟨y.toNat, by omega, by omega⟩
            rw [hce] at HCE
            have HNX := Lib.hid (fun W' hW' => l2Next_any m (.slice pr m.rise.length kr) (.slice pc m.cost.length kc) WW HH c W' hok hW' hc)
            have hnl := next_len36 c hn36
            generalize natL (nextL m c) = nx at HNX hnl
            clear hok hce
            go_wp2_with (first | (go_at_call 32; refine (l2Map_any m _ _ _ (mp_up (HMP.out) (by repeat (first | with_reducible (first | exact World.gained_refl _ | exact ⟨_, rfl⟩ | apply gain_ext | apply gain_alloc | apply gain_drewN | apply gain_drew) | (refine gain_setCell ?_ (by first | exact Nat.le_refl _ | exact World.size_ext _ _ | (simp; done) | (simp; omega)) _))))).mono ?_; rw [hB]; rintro e w1 ⟨rfl, d1, rfl⟩) | (go_at_call 58; refine (HCE.out _).mono ?_; rintro e w1 ⟨rfl, d2, rfl⟩))
            refine (HNX.out _ (mp_up (HMP.out) (by repeat (first | with_reducible (first | exact World.gained_refl _ | exact ⟨_, rfl⟩ | apply gain_ext | apply gain_alloc | apply gain_drewN | apply gain_drew) | (refine gain_setCell ?_ (by first | exact Nat.le_refl _ | exact World.size_ext _ _ | (simp; done) | (simp; omega)) _))))).mono ?_
            rintro e w1 ⟨nv, rfl, ⟨d3, rfl⟩, hnx⟩
            have HNV := Lib.hid (own_base hnx (Nat.le_trans HS.out.size (gain_size (by repeat (first | with_reducible (first | exact World.gained_refl _ | exact ⟨_, rfl⟩ | apply gain_ext | apply gain_alloc | apply gain_drewN | apply gain_drew) | (refine gain_setCell ?_ (by first | exact Nat.le_refl _ | exact World.size_ext _ _ | (simp; done) | (simp; omega)) _))))))
            by_cases hn0 : 0 < nx.length
            · have hn0d : decide (0 < nx.length) = true := decide_eq_true hn0
              obtain ⟨gn, cn, rfl, _, _⟩ := own_addr hnx hn0
              clear hnx
              go_wp2_with fail
              refine (pick_any W _ g _ _ (HS.out.cur.gain (by repeat (first | with_reducible (first | exact World.gained_refl _ | exact ⟨_, rfl⟩ | apply gain_ext | apply gain_alloc | apply gain_drewN | apply gain_drew) | (refine gain_setCell ?_ (by first | exact Nat.le_refl _ | exact World.size_ext _ _ | (simp; done) | (simp; omega)) _)))) (by omega)).mono ?_
              rintro e wq ⟨rq, rfl, q1, q2, hcq, hgq⟩
              obtain ⟨j, rfl⟩ : ∃ j : Nat, rq = (j : Int) := ⟨rq.toNat, by omega⟩
              have hj : j < nx.length := by omega
              have HSQ := Lib.hid ((HS.out.up (by repeat (first | with_reducible (first | exact World.gained_refl _ | exact ⟨_, rfl⟩ | apply gain_ext | apply gain_alloc | apply gain_drewN | apply gain_drew) | (refine gain_setCell ?_ (by first | exact Nat.le_refl _ | exact World.size_ext _ _ | (simp; done) | (simp; omega)) _)))).on hcq hgq)
              have HOQ := Lib.hid (own_cur (own_up HO.out (by repeat (first | with_reducible (first | exact World.gained_refl _ | exact ⟨_, rfl⟩ | apply gain_ext | apply gain_alloc | apply gain_drewN | apply gain_drew) | (refine gain_setCell ?_ (by first | exact Nat.le_refl _ | exact World.size_ext _ _ | (simp; done) | (simp; omega)) _)))) hgw hgq)
              have HNQ := Lib.hid (own_cur (own_up HNV.out (by repeat (first | with_reducible (first | exact World.gained_refl _ | exact ⟨_, rfl⟩ | apply gain_ext | apply gain_alloc | apply gain_drewN | apply gain_drew) | (refine gain_setCell ?_ (by first | exact Nat.le_refl _ | exact World.size_ext _ _ | (simp; done) | (simp; omega)) _)))) hgw hgq)
              have cn0 := sl_int (sl_of_own intC_length HNQ.out) (k := j) hj
              rw [Nat.zero_add] at cn0
              have obn := World.oldB_of_cell cn0
              have HUP := Lib.hid hcq.up
              generalize nx[j] = z at cn0
              clear hcq hgq q1 q2 cl obl bx0 bx1 bx2 bx3 obx
              go_wp2_with (at_builtin; go_must (refine wpList_append_gain (W := W) (base := w.heap.size) (m := [z]) rfl (.tmp 59) (.tmp 67) rfl Try.underlying24 info_int (by rfl) (by omega) intC_length intC_one (by omega) (gain_trans HUP.out (by repeat (first | with_reducible (first | exact World.gained_refl _ | exact ⟨_, rfl⟩ | apply gain_ext | apply gain_alloc | apply gain_drewN | apply gain_drew) | (refine gain_setCell ?_ (by first | exact Nat.le_refl _ | exact World.size_ext _ _ | (simp; done) | (simp; omega)) _)))) hWw (Nat.le_trans HSQ.out.size (gain_size (by repeat (first | with_reducible (first | exact World.gained_refl _ | exact ⟨_, rfl⟩ | apply gain_ext | apply gain_alloc | apply gain_drewN | apply gain_drew) | (refine gain_setCell ?_ (by first | exact Nat.le_refl _ | exact World.size_ext _ _ | (simp; done) | (simp; omega)) _))))) rfl rfl (own_up (HOQ.out) (by repeat (first | with_reducible (first | exact World.gained_refl _ | exact ⟨_, rfl⟩ | apply gain_ext | apply gain_alloc | apply gain_drewN | apply gain_drew) | (refine gain_setCell ?_ (by first | exact Nat.le_refl _ | exact World.size_ext _ _ | (simp; done) | (simp; omega)) _)))) (sl_lit (l := [z]) intC_length rfl (by simp)) (by simp; omega) ?_); intro v' d' ho hg)
              have HSX := Lib.hid ((HSQ.out.up (by repeat (first | with_reducible (first | exact World.gained_refl _ | exact ⟨_, rfl⟩ | apply gain_ext | apply gain_alloc | apply gain_drewN | apply gain_drew) | (refine gain_setCell ?_ (by first | exact Nat.le_refl _ | exact World.size_ext _ _ | (simp; done) | (simp; omega)) _)))).grown (own_up HOQ.out (by repeat (first | with_reducible (first | exact World.gained_refl _ | exact ⟨_, rfl⟩ | apply gain_ext | apply gain_alloc | apply gain_drewN | apply gain_drew) | (refine gain_setCell ?_ (by first | exact Nat.le_refl _ | exact World.size_ext _ _ | (simp; done) | (simp; omega)) _)))) (by decide) hg ⟨_, rfl⟩)
              go_roundw
              case rel => exact ⟨k - 1, l ++ [z], by omega, by go_num, by simp, by simp; omega, ho, HSX.out.le (by omega)⟩
              case measure => simp [intOf]; omega
            · have hn0d : decide (0 < nx.length) = false := decide_eq_false hn0
              obtain ⟨pn, cn, rfl, _⟩ := sl_of_own intC_length hnx
              clear hnx
              go_wp2
              go_roundw
              case rel => exact ⟨k - 1, l, by omega, by go_num, hl0, by omega, (own_up (HO.out) (by repeat (first | with_reducible (first | exact World.gained_refl _ | exact ⟨_, rfl⟩ | apply gain_ext | apply gain_alloc | apply gain_drewN | apply gain_drew) | (refine gain_setCell ?_ (by first | exact Nat.le_refl _ | exact World.size_ext _ _ | (simp; done) | (simp; omega)) _)))), (HS.out.up (by repeat (first | with_reducible (first | exact World.gained_refl _ | exact ⟨_, rfl⟩ | apply gain_ext | apply gain_alloc | apply gain_drewN | apply gain_drew) | (refine gain_setCell ?_ (by first | exact Nat.le_refl _ | exact World.size_ext _ _ | (simp; done) | (simp; omega)) _)))).le (by omega)⟩
              case measure => simp [intOf]; omega
      · obtain rfl : k = 0 := by omega
        clear cl obl bx0 bx1 bx2 bx3 obx
        go_wp2_with fail
        refine (one_any W _ g _ _ HS.out.cur (by omega)).mono ?_
        rintro e wz ⟨bz, rfl, hcz, hgz⟩
        have HSZ := Lib.hid (HS.out.on hcz hgz)
        have HOZ := Lib.hid (own_cur HO.out hgw hgz)
        clear hcz hgz
        cases bz with
        | false =>
          go_wp2
          go_ret
          exact ⟨_, _, rfl, HOZ.out, by omega, HSZ.out.cur.le (by omega), HSZ.out.gr⟩
        | true =>
          have bz0 : wz.cell? ⟨w.heap.size, 0, none⟩ = some (.int .i64 m.wd) := World.cell_of_heap HSZ.out.box 0
          have bz1 : wz.cell? ⟨w.heap.size, 1, none⟩ = some (.int .i64 m.ht) := World.cell_of_heap HSZ.out.box 1
          have bz2 : wz.cell? ⟨w.heap.size, 2, none⟩ = some (.slice pr m.rise.length kr) := World.cell_of_heap HSZ.out.box 2
          have bz3 : wz.cell? ⟨w.heap.size, 3, none⟩ = some (.slice pc m.cost.length kc) := World.cell_of_heap HSZ.out.box 3
          have obz := World.oldB_of_cell bz0
          go_wp2_with fail
          refine (cellOfD_any W _ g _ m pr pc kr kc HSZ.out.cur (by omega) hcl).mono ?_
          rintro e wy ⟨ry, rfl, -, -, hcy, hgy⟩
          have HSY := Lib.hid (HSZ.out.on hcy hgy)
          have HOY := Lib.hid (own_cur HOZ.out hgw hgy)
          have HUP := Lib.hid hcy.up
          clear hcy hgy bz0 bz1 bz2 bz3 obz
          go_wp2_with (at_builtin; go_must (refine wpList_append_gain (W := W) (base := w.heap.size) (m := [ry]) rfl (.tmp 71) (.tmp 75) rfl Try.underlying24 info_int (by rfl) (by omega) intC_length intC_one (by omega) (gain_trans HUP.out (by repeat (first | with_reducible (first | exact World.gained_refl _ | exact ⟨_, rfl⟩ | apply gain_ext | apply gain_alloc | apply gain_drewN | apply gain_drew) | (refine gain_setCell ?_ (by first | exact Nat.le_refl _ | exact World.size_ext _ _ | (simp; done) | (simp; omega)) _)))) hWw (Nat.le_trans HSY.out.size (gain_size (by repeat (first | with_reducible (first | exact World.gained_refl _ | exact ⟨_, rfl⟩ | apply gain_ext | apply gain_alloc | apply gain_drewN | apply gain_drew) | (refine gain_setCell ?_ (by first | exact Nat.le_refl _ | exact World.size_ext _ _ | (simp; done) | (simp; omega)) _))))) rfl rfl (own_up (HOY.out) (by repeat (first | with_reducible (first | exact World.gained_refl _ | exact ⟨_, rfl⟩ | apply gain_ext | apply gain_alloc | apply gain_drewN | apply gain_drew) | (refine gain_setCell ?_ (by first | exact Nat.le_refl _ | exact World.size_ext _ _ | (simp; done) | (simp; omega)) _)))) (sl_lit (l := [ry]) intC_length rfl (by simp)) (by simp; omega) ?_); intro v' d' ho hg)
          have HSX := Lib.hid ((HSY.out.up (by repeat (first | with_reducible (first | exact World.gained_refl _ | exact ⟨_, rfl⟩ | apply gain_ext | apply gain_alloc | apply gain_drewN | apply gain_drew) | (refine gain_setCell ?_ (by first | exact Nat.le_refl _ | exact World.size_ext _ _ | (simp; done) | (simp; omega)) _)))).grown (own_up HOY.out (by repeat (first | with_reducible (first | exact World.gained_refl _ | exact ⟨_, rfl⟩ | apply gain_ext | apply gain_alloc | apply gain_drewN | apply gain_drew) | (refine gain_setCell ?_ (by first | exact Nat.le_refl _ | exact World.size_ext _ _ | (simp; done) | (simp; omega)) _)))) (by decide) hg ⟨_, rfl⟩)
          go_ret
          exact ⟨_, _, rfl, ho, by simp; omega, HSX.out.cur.le (by omega), HSX.out.gr⟩
  | true =>
    go_wp2_with fail
    refine (one_any W _ g _ _ (HS2.out.cur.gain (by repeat (first | with_reducible (first | exact World.gained_refl _ | exact ⟨_, rfl⟩ | apply gain_ext | apply gain_alloc | apply gain_drewN | apply gain_drew) | (refine gain_setCell ?_ (by first | exact Nat.le_refl _ | exact World.size_ext _ _ | (simp; done) | (simp; omega)) _)))) (by omega)).mono ?_
    rintro e wb ⟨b5, rfl, hcb, hgb⟩
    have HSB := Lib.hid ((HS2.out.up (by repeat (first | with_reducible (first | exact World.gained_refl _ | exact ⟨_, rfl⟩ | apply gain_ext | apply gain_alloc | apply gain_drewN | apply gain_drew) | (refine gain_setCell ?_ (by first | exact Nat.le_refl _ | exact World.size_ext _ _ | (simp; done) | (simp; omega)) _)))).on hcb hgb)
    have HBB := Lib.hid (own_cur HBR.out hgw hgb)
    clear hcb hgb
    cases b5 with
    | false =>
      go_wp2
      go_ret
      exact ⟨_, _, rfl, HBB.out, by have := HBL.out; omega, HSB.out.cur.le (by omega), HSB.out.gr⟩
    | true =>
      go_wp2_with fail
      refine (pick_any W _ g _ _ (HSB.out.cur.gain (by repeat (first | with_reducible (first | exact World.gained_refl _ | exact ⟨_, rfl⟩ | apply gain_ext | apply gain_alloc | apply gain_drewN | apply gain_drew) | (refine gain_setCell ?_ (by first | exact Nat.le_refl _ | exact World.size_ext _ _ | (simp; done) | (simp; omega)) _)))) (by omega)).mono ?_
      rintro e wp ⟨rp, rfl, k1, k2, hcp, hgp⟩
      have HSP := Lib.hid ((HSB.out.up (by repeat (first | with_reducible (first | exact World.gained_refl _ | exact ⟨_, rfl⟩ | apply gain_ext | apply gain_alloc | apply gain_drewN | apply gain_drew) | (refine gain_setCell ?_ (by first | exact Nat.le_refl _ | exact World.size_ext _ _ | (simp; done) | (simp; omega)) _)))).on hcp hgp)
      have HOP := Lib.hid (own_cur (own_up (own_lit' (w := wb) (C := #[.int .i64 x0]) (l := [x0]) intC_length rfl rfl HSB.out.size) (by repeat (first | with_reducible (first | exact World.gained_refl _ | exact ⟨_, rfl⟩ | apply gain_ext | apply gain_alloc | apply gain_drewN | apply gain_drew) | (refine gain_setCell ?_ (by first | exact Nat.le_refl _ | exact World.size_ext _ _ | (simp; done) | (simp; omega)) _)))) hgw hgp)
      obtain ⟨k0, rfl⟩ : ∃ k0 : Nat, rp = (k0 : Int) := ⟨rp.toNat, by omega⟩
      have hk0 : k0 ≤ 4 := by omega
      clear hcp hgp k1 k2
      go_wp2_with fail
      go_loopw [7, 9] (fun ov i wr => ∃ (k : Nat) (l : List Int), k ≤ 4 ∧ i = .int .i64 k ∧ 0 < l.length ∧ l.length + k ≤ 5 ∧ wr.own w.heap.size 3 intC 1 ov l ∧ RSt 52 26 3 W w wr g lo w.heap.size (n + 36 - 4 * k) m (.slice pr m.rise.length kr) (.slice pc m.cost.length kc)) (fun _ i _ => (intOf i).toNat)
      case atStart => exact ⟨k0, [x0], hk0, rfl, by simp, by simp; omega, HOP.out, HSP.out.le (by omega)⟩
      case round =>
        obtain ⟨k, l, hk, rfl, hl0, hlk, ho, hst⟩ := hrel
        have HS := Lib.hid hst
        have HO := Lib.hid ho
        obtain ⟨gl, cap, rfl, _, _⟩ := own_addr ho hl0
        have cl := sl_int (sl_of_own intC_length ho) (k := l.length - 1) (by omega)
        rw [Nat.zero_add] at cl
        have obl := World.oldB_of_cell cl
        have bx0 : wr.cell? ⟨w.heap.size, 0, none⟩ = some (.int .i64 m.wd) := World.cell_of_heap hst.box 0
        have bx1 : wr.cell? ⟨w.heap.size, 1, none⟩ = some (.int .i64 m.ht) := World.cell_of_heap hst.box 1
        have bx2 : wr.cell? ⟨w.heap.size, 2, none⟩ = some (.slice pr m.rise.length kr) := World.cell_of_heap hst.box 2
        have bx3 : wr.cell? ⟨w.heap.size, 3, none⟩ = some (.slice pc m.cost.length kc) := World.cell_of_heap hst.box 3
        have obx := World.oldB_of_cell bx0
        have HMP := Lib.hid (hst.mp hrl hcl)
        clear hst ho
        by_cases hlt : 0 < k
        · have hkd : decide (0 < (k : Int)) = true := decide_eq_true (by omega)
          cases hB : mapB m with
          | false =>
            generalize l[l.length - 1]'(by omega) = y at cl
            go_upto_region 14 with (go_at_call 32; refine (l2Map_any m _ _ _ (mp_up (HMP.out) (by repeat (first | with_reducible (first | exact World.gained_refl _ | exact ⟨_, rfl⟩ | apply gain_ext | apply gain_alloc | apply gain_drewN | apply gain_drew) | (refine gain_setCell ?_ (by first | exact Nat.le_refl _ | exact World.size_ext _ _ | (simp; done) | (simp; omega)) _))))).mono ?_; rw [hB]; rintro e w1 ⟨rfl, d1, rfl⟩)
            have HSF := Lib.hid (HS.out.up (wr' := wr.ext d1) (by repeat (first | with_reducible (first | exact World.gained_refl _ | exact ⟨_, rfl⟩ | apply gain_ext | apply gain_alloc | apply gain_drewN | apply gain_drew) | (refine gain_setCell ?_ (by first | exact Nat.le_refl _ | exact World.size_ext _ _ | (simp; done) | (simp; omega)) _))))
            have HOF := Lib.hid (own_up HO.out (w' := wr.ext d1) (by repeat (first | with_reducible (first | exact World.gained_refl _ | exact ⟨_, rfl⟩ | apply gain_ext | apply gain_alloc | apply gain_drewN | apply gain_drew) | (refine gain_setCell ?_ (by first | exact Nat.le_refl _ | exact World.size_ext _ _ | (simp; done) | (simp; omega)) _))))
            go_wp2_with fail
            refine (one_any W _ g _ _ HSF.out.cur (by omega)).mono ?_
            rintro e wz ⟨bz, rfl, hcz, hgz⟩
            have HSZ := Lib.hid (HSF.out.on hcz hgz)
            have HOZ := Lib.hid (own_cur HOF.out hgw hgz)
            clear hcz hgz
            cases bz with
            | false =>
              go_wp2
              go_ret
              exact ⟨_, _, rfl, HOZ.out, by omega, HSZ.out.cur.le (by omega), HSZ.out.gr⟩
            | true =>
              have bz0 : wz.cell? ⟨w.heap.size, 0, none⟩ = some (.int .i64 m.wd) := World.cell_of_heap HSZ.out.box 0
              have bz1 : wz.cell? ⟨w.heap.size, 1, none⟩ = some (.int .i64 m.ht) := World.cell_of_heap HSZ.out.box 1
              have bz2 : wz.cell? ⟨w.heap.size, 2, none⟩ = some (.slice pr m.rise.length kr) := World.cell_of_heap HSZ.out.box 2
              have bz3 : wz.cell? ⟨w.heap.size, 3, none⟩ = some (.slice pc m.cost.length kc) := World.cell_of_heap HSZ.out.box 3
              have obz := World.oldB_of_cell bz0
              go_wp2_with fail
              refine (cellOfD_any W _ g _ m pr pc kr kc HSZ.out.cur (by omega) hcl).mono ?_
              rintro e wy ⟨ry, rfl, -, -, hcy, hgy⟩
              have HSY := Lib.hid (HSZ.out.on hcy hgy)
              have HOY := Lib.hid (own_cur HOZ.out hgw hgy)
              have HUP := Lib.hid hcy.up
              clear hcy hgy bz0 bz1 bz2 bz3 obz
              go_wp2_with (at_builtin; go_must (refine wpList_append_gain (W := W) (base := w.heap.size) (m := [ry]) rfl (.tmp 71) (.tmp 75) rfl Try.underlying24 info_int (by rfl) (by omega) intC_length intC_one (by omega) (gain_trans HUP.out (by repeat (first | with_reducible (first | exact World.gained_refl _ | exact ⟨_, rfl⟩ | apply gain_ext | apply gain_alloc | apply gain_drewN | apply gain_drew) | (refine gain_setCell ?_ (by first | exact Nat.le_refl _ | exact World.size_ext _ _ | (simp; done) | (simp; omega)) _)))) hWw (Nat.le_trans HSY.out.size (gain_size (by repeat (first | with_reducible (first | exact World.gained_refl _ | exact ⟨_, rfl⟩ | apply gain_ext | apply gain_alloc | apply gain_drewN | apply gain_drew) | (refine gain_setCell ?_ (by first | exact Nat.le_refl _ | exact World.size_ext _ _ | (simp; done) | (simp; omega)) _))))) rfl rfl (own_up (HOY.out) (by repeat (first | with_reducible (first | exact World.gained_refl _ | exact ⟨_, rfl⟩ | apply gain_ext | apply gain_alloc | apply gain_drewN | apply gain_drew) | (refine gain_setCell ?_ (by first | exact Nat.le_refl _ | exact World.size_ext _ _ | (simp; done) | (simp; omega)) _)))) (sl_lit (l := [ry]) intC_length rfl (by simp)) (by simp; omega) ?_); intro v' d' ho hg)
              have HSX := Lib.hid ((HSY.out.up (by repeat (first | with_reducible (first | exact World.gained_refl _ | exact ⟨_, rfl⟩ | apply gain_ext | apply gain_alloc | apply gain_drewN | apply gain_drew) | (refine gain_setCell ?_ (by first | exact Nat.le_refl _ | exact World.size_ext _ _ | (simp; done) | (simp; omega)) _)))).grown (own_up HOY.out (by repeat (first | with_reducible (first | exact World.gained_refl _ | exact ⟨_, rfl⟩ | apply gain_ext | apply gain_alloc | apply gain_drewN | apply gain_drew) | (refine gain_setCell ?_ (by first | exact Nat.le_refl _ | exact World.size_ext _ _ | (simp; done) | (simp; omega)) _)))) (by decide) hg ⟨_, rfl⟩)
              go_ret
              exact ⟨_, _, rfl, ho, by simp; omega, HSX.out.cur.le (by omega), HSX.out.gr⟩
          | true =>
            obtain ⟨WW, HH, hok⟩ := mapB_ok hB
            have HOK := Lib.hid hok
            have hn36 := hok.n36
            have hwl : IntKind.i64.wrap ((l.length : Int) - 1) = (l.length : Int) - 1 := IntWalk.i64_in _ (by omega)
            have hwn : ((l.length : Int) - 1).toNat = l.length - 1 := by omega
            have hwk : IntKind.i64.wrap ((k : Int) - 1) = (k : Int) - 1 := IntWalk.i64_in _ (by omega)
            have hl1 : (1 : Int) ≤ (l.length : Int) := by omega
            generalize l[l.length - 1]'(by omega) = y at cl
            have HCE := Lib.hid (fun W' => l2Cell_any m (.slice pr m.rise.length kr) (.slice pc m.cost.length kc) y W' hB)
            cases hce : cellB m y with
            | false =>
              rw [hce] at HCE
              clear hok
              go_wp2_with (first | (go_at_call 32; refine (l2Map_any m _ _ _ (mp_up (HMP.out) (by repeat (first | with_reducible (first | exact World.gained_refl _ | exact ⟨_, rfl⟩ | apply gain_ext | apply gain_alloc | apply gain_drewN | apply gain_drew) | (refine gain_setCell ?_ (by first | exact Nat.le_refl _ | exact World.size_ext _ _ | (simp; done) | (simp; omega)) _))))).mono ?_; rw [hB]; rintro e w1 ⟨rfl, d1, rfl⟩) | (go_at_call 58; refine (HCE.out _).mono ?_; rintro e w1 ⟨rfl, d2, rfl⟩))
              go_roundw
              case rel => exact ⟨k - 1, l, by omega, by go_num, hl0, by omega, (own_up (HO.out) (by repeat (first | with_reducible (first | exact World.gained_refl _ | exact ⟨_, rfl⟩ | apply gain_ext | apply gain_alloc | apply gain_drewN | apply gain_drew) | (refine gain_setCell ?_ (by first | exact Nat.le_refl _ | exact World.size_ext _ _ | (simp; done) | (simp; omega)) _)))), (HS.out.up (by repeat (first | with_reducible (first | exact World.gained_refl _ | exact ⟨_, rfl⟩ | apply gain_ext | apply gain_alloc | apply gain_drewN | apply gain_drew) | (refine gain_setCell ?_ (by first | exact Nat.le_refl _ | exact World.size_ext _ _ | (simp; done) | (simp; omega)) _)))).le (by omega)⟩
              case measure => simp [intOf]; omega
            | true =>
              obtain ⟨c, rfl, hc⟩ : ∃ c : Nat, y = c ∧ c < m.cost.length := by
                simp only [cellB, Bool.and_eq_true, insB_true] at hce
                exact ⟨y.toNat, by omega, by omega⟩
              rw [hce] at HCE
              have HNX := Lib.hid (fun W' hW' => l2Next_any m (.slice pr m.rise.length kr) (.slice pc m.cost.length kc) WW HH c W' hok hW' hc)
              have hnl := next_len36 c hn36
              generalize natL (nextL m c) = nx at HNX hnl
              clear hok hce
              go_wp2_with (first | (go_at_call 32; refine (l2Map_any m _ _ _ (mp_up (HMP.out) (by repeat (first | with_reducible (first | exact World.gained_refl _ | exact ⟨_, rfl⟩ | apply gain_ext | apply gain_alloc | apply gain_drewN | apply gain_drew) | (refine gain_setCell ?_ (by first | exact Nat.le_refl _ | exact World.size_ext _ _ | (simp; done) | (simp; omega)) _))))).mono ?_; rw [hB]; rintro e w1 ⟨rfl, d1, rfl⟩) | (go_at_call 58; refine (HCE.out _).mono ?_; rintro e w1 ⟨rfl, d2, rfl⟩))
              refine (HNX.out _ (mp_up (HMP.out) (by repeat (first | with_reducible (first | exact World.gained_refl _ | exact ⟨_, rfl⟩ | apply gain_ext | apply gain_alloc | apply gain_drewN | apply gain_drew) | (refine gain_setCell ?_ (by first | exact Nat.le_refl _ | exact World.size_ext _ _ | (simp; done) | (simp; omega)) _))))).mono ?_
              rintro e w1 ⟨nv, rfl, ⟨d3, rfl⟩, hnx⟩
              have HNV := Lib.hid (own_base hnx (Nat.le_trans HS.out.size (gain_size (by repeat (first | with_reducible (first | exact World.gained_refl _ | exact ⟨_, rfl⟩ | apply gain_ext | apply gain_alloc | apply gain_drewN | apply gain_drew) | (refine gain_setCell ?_ (by first | exact Nat.le_refl _ | exact World.size_ext _ _ | (simp; done) | (simp; omega)) _))))))
              by_cases hn0 : 0 < nx.length
              · have hn0d : decide (0 < nx.length) = true := decide_eq_true hn0
                obtain ⟨gn, cn, rfl, _, _⟩ := own_addr hnx hn0
                clear hnx
                go_wp2_with fail
                refine (pick_any W _ g _ _ (HS.out.cur.gain (by repeat (first | with_reducible (first | exact World.gained_refl _ | exact ⟨_, rfl⟩ | apply gain_ext | apply gain_alloc | apply gain_drewN | apply gain_drew) | (refine gain_setCell ?_ (by first | exact Nat.le_refl _ | exact World.size_ext _ _ | (simp; done) | (simp; omega)) _)))) (by omega)).mono ?_
                rintro e wq ⟨rq, rfl, q1, q2, hcq, hgq⟩
                obtain ⟨j, rfl⟩ : ∃ j : Nat, rq = (j : Int) := ⟨rq.toNat, by omega⟩
                have hj : j < nx.length := by omega
                have HSQ := Lib.hid ((HS.out.up (by repeat (first | with_reducible (first | exact World.gained_refl _ | exact ⟨_, rfl⟩ | apply gain_ext | apply gain_alloc | apply gain_drewN | apply gain_drew) | (refine gain_setCell ?_ (by first | exact Nat.le_refl _ | exact World.size_ext _ _ | (simp; done) | (simp; omega)) _)))).on hcq hgq)
                have HOQ := Lib.hid (own_cur (own_up HO.out (by repeat (first | with_reducible (first | exact World.gained_refl _ | exact ⟨_, rfl⟩ | apply gain_ext | apply gain_alloc | apply gain_drewN | apply gain_drew) | (refine gain_setCell ?_ (by first | exact Nat.le_refl _ | exact World.size_ext _ _ | (simp; done) | (simp; omega)) _)))) hgw hgq)
                have HNQ := Lib.hid (own_cur (own_up HNV.out (by repeat (first | with_reducible (first | exact World.gained_refl _ | exact ⟨_, rfl⟩ | apply gain_ext | apply gain_alloc | apply gain_drewN | apply gain_drew) | (refine gain_setCell ?_ (by first | exact Nat.le_refl _ | exact World.size_ext _ _ | (simp; done) | (simp; omega)) _)))) hgw hgq)
                have cn0 := sl_int (sl_of_own intC_length HNQ.out) (k := j) hj
                rw [Nat.zero_add] at cn0
                have obn := World.oldB_of_cell cn0
                have HUP := Lib.hid hcq.up
                generalize nx[j] = z at cn0
                clear hcq hgq q1 q2 cl obl bx0 bx1 bx2 bx3 obx
                go_wp2_with (at_builtin; go_must (refine wpList_append_gain (W := W) (base := w.heap.size) (m := [z]) rfl (.tmp 59) (.tmp 67) rfl Try.underlying24 info_int (by rfl) (by omega) intC_length intC_one (by omega) (gain_trans HUP.out (by repeat (first | with_reducible (first | exact World.gained_refl _ | exact ⟨_, rfl⟩ | apply gain_ext | apply gain_alloc | apply gain_drewN | apply gain_drew) | (refine gain_setCell ?_ (by first | exact Nat.le_refl _ | exact World.size_ext _ _ | (simp; done) | (simp; omega)) _)))) hWw (Nat.le_trans HSQ.out.size (gain_size (by repeat (first | with_reducible (first | exact World.gained_refl _ | exact ⟨_, rfl⟩ | apply gain_ext | apply gain_alloc | apply gain_drewN | apply gain_drew) | (refine gain_setCell ?_ (by first | exact Nat.le_refl _ | exact World.size_ext _ _ | (simp; done) | (simp; omega)) _))))) rfl rfl (own_up (HOQ.out) (by repeat (first | with_reducible (first | exact World.gained_refl _ | exact ⟨_, rfl⟩ | apply gain_ext | apply gain_alloc | apply gain_drewN | apply gain_drew) | (refine gain_setCell ?_ (by first | exact Nat.le_refl _ | exact World.size_ext _ _ | (simp; done) | (simp; omega)) _)))) (sl_lit (l := [z]) intC_length rfl (by simp)) (by simp; omega) ?_); intro v' d' ho hg)
                have HSX := Lib.hid ((HSQ.out.up (by repeat (first | with_reducible (first | exact World.gained_refl _ | exact ⟨_, rfl⟩ | apply gain_ext | apply gain_alloc | apply gain_drewN | apply gain_drew) | (refine gain_setCell ?_ (by first | exact Nat.le_refl _ | exact World.size_ext _ _ | (simp; done) | (simp; omega)) _)))).grown (own_up HOQ.out (by repeat (first | with_reducible (first | exact World.gained_refl _ | exact ⟨_, rfl⟩ | apply gain_ext | apply gain_alloc | apply gain_drewN | apply gain_drew) | (refine gain_setCell ?_ (by first | exact Nat.le_refl _ | exact World.size_ext _ _ | (simp; done) | (simp; omega)) _)))) (by decide) hg ⟨_, rfl⟩)
                go_roundw
                case rel => exact ⟨k - 1, l ++ [z], by omega, by go_num, by simp, by simp; omega, ho, HSX.out.le (by omega)⟩
                case measure => simp [intOf]; omega
              · have hn0d : decide (0 < nx.length) = false := decide_eq_false hn0
                obtain ⟨pn, cn, rfl, _⟩ := sl_of_own intC_length hnx
                clear hnx
                go_wp2
                go_roundw
                case rel => exact ⟨k - 1, l, by omega, by go_num, hl0, by omega, (own_up (HO.out) (by repeat (first | with_reducible (first | exact World.gained_refl _ | exact ⟨_, rfl⟩ | apply gain_ext | apply gain_alloc | apply gain_drewN | apply gain_drew) | (refine gain_setCell ?_ (by first | exact Nat.le_refl _ | exact World.size_ext _ _ | (simp; done) | (simp; omega)) _)))), (HS.out.up (by repeat (first | with_reducible (first | exact World.gained_refl _ | exact ⟨_, rfl⟩ | apply gain_ext | apply gain_alloc | apply gain_drewN | apply gain_drew) | (refine gain_setCell ?_ (by first | exact Nat.le_refl _ | exact World.size_ext _ _ | (simp; done) | (simp; omega)) _)))).le (by omega)⟩
                case measure => simp [intOf]; omega
        · obtain rfl : k = 0 := by omega
          clear cl obl bx0 bx1 bx2 bx3 obx
          go_wp2_with fail
          refine (one_any W _ g _ _ HS.out.cur (by omega)).mono ?_
          rintro e wz ⟨bz, rfl, hcz, hgz⟩
          have HSZ := Lib.hid (HS.out.on hcz hgz)
          have HOZ := Lib.hid (own_cur HO.out hgw hgz)
          clear hcz hgz
          cases bz with
          | false =>
            go_wp2
            go_ret
            exact ⟨_, _, rfl, HOZ.out, by omega, HSZ.out.cur.le (by omega), HSZ.out.gr⟩
          | true =>
            have bz0 : wz.cell? ⟨w.heap.size, 0, none⟩ = some (.int .i64 m.wd) := World.cell_of_heap HSZ.out.box 0
            have bz1 : wz.cell? ⟨w.heap.size, 1, none⟩ = some (.int .i64 m.ht) := World.cell_of_heap HSZ.out.box 1
            have bz2 : wz.cell? ⟨w.heap.size, 2, none⟩ = some (.slice pr m.rise.length kr) := World.cell_of_heap HSZ.out.box 2
            have bz3 : wz.cell? ⟨w.heap.size, 3, none⟩ = some (.slice pc m.cost.length kc) := World.cell_of_heap HSZ.out.box 3
            have obz := World.oldB_of_cell bz0
            go_wp2_with fail
            refine (cellOfD_any W _ g _ m pr pc kr kc HSZ.out.cur (by omega) hcl).mono ?_
            rintro e wy ⟨ry, rfl, -, -, hcy, hgy⟩
            have HSY := Lib.hid (HSZ.out.on hcy hgy)
            have HOY := Lib.hid (own_cur HOZ.out hgw hgy)
            have HUP := Lib.hid hcy.up
            clear hcy hgy bz0 bz1 bz2 bz3 obz
            go_wp2_with (at_builtin; go_must (refine wpList_append_gain (W := W) (base := w.heap.size) (m := [ry]) rfl (.tmp 71) (.tmp 75) rfl Try.underlying24 info_int (by rfl) (by omega) intC_length intC_one (by omega) (gain_trans HUP.out (by repeat (first | with_reducible (first | exact World.gained_refl _ | exact ⟨_, rfl⟩ | apply gain_ext | apply gain_alloc | apply gain_drewN | apply gain_drew) | (refine gain_setCell ?_ (by first | exact Nat.le_refl _ | exact World.size_ext _ _ | (simp; done) | (simp; omega)) _)))) hWw (Nat.le_trans HSY.out.size (gain_size (by repeat (first | with_reducible (first | exact World.gained_refl _ | exact ⟨_, rfl⟩ | apply gain_ext | apply gain_alloc | apply gain_drewN | apply gain_drew) | (refine gain_setCell ?_ (by first | exact Nat.le_refl _ | exact World.size_ext _ _ | (simp; done) | (simp; omega)) _))))) rfl rfl (own_up (HOY.out) (by repeat (first | with_reducible (first | exact World.gained_refl _ | exact ⟨_, rfl⟩ | apply gain_ext | apply gain_alloc | apply gain_drewN | apply gain_drew) | (refine gain_setCell ?_ (by first | exact Nat.le_refl _ | exact World.size_ext _ _ | (simp; done) | (simp; omega)) _)))) (sl_lit (l := [ry]) intC_length rfl (by simp)) (by simp; omega) ?_); intro v' d' ho hg)
            have HSX := Lib.hid ((HSY.out.up (by repeat (first | with_reducible (first | exact World.gained_refl _ | exact ⟨_, rfl⟩ | apply gain_ext | apply gain_alloc | apply gain_drewN | apply gain_drew) | (refine gain_setCell ?_ (by first | exact Nat.le_refl _ | exact World.size_ext _ _ | (simp; done) | (simp; omega)) _)))).grown (own_up HOY.out (by repeat (first | with_reducible (first | exact World.gained_refl _ | exact ⟨_, rfl⟩ | apply gain_ext | apply gain_alloc | apply gain_drewN | apply gain_drew) | (refine gain_setCell ?_ (by first | exact Nat.le_refl _ | exact World.size_ext _ _ | (simp; done) | (simp; omega)) _)))) (by decide) hg ⟨_, rfl⟩)
            go_ret
            exact ⟨_, _, rfl, ho, by simp; omega, HSX.out.cur.le (by omega), HSX.out.gr⟩
end Go.Proofs.Ytfpobghllfoijaa
