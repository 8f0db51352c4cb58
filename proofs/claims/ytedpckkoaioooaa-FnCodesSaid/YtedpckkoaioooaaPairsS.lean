/- spec.l6Like, l6Apart, ConfusableCodes, CloseControls. Condition: at most 1048576 numbers, controls. -/
import Derived.Test.YtedpckkoaioooaaPairsI
import Derived.Test.YtedpckkoaioooaaAreCtlS
namespace Go.Ori
theorem max_abs (x y : Int) : ((x - y).natAbs : Int) = max (x - y) (-(x - y)) := by omega
theorem gapN_max {W a b x1 x2 y1 y2 : Nat} (e1 : x1 = a % W) (e2 : x2 = b % W) (e3 : y1 = a / W) (e4 : y2 = b / W) : (gapN (W : Int).toNat a b : Int) = max ((x1 : Int) - x2) (-((x1 : Int) - x2)) + max ((y1 : Int) - y2) (-((y1 : Int) - y2)) := by
  rw [← max_abs, ← max_abs, e1, e2, e3, e4]
  rfl
theorem sub_bd36 {x y : Nat} (h : x ≤ 36) (h' : y ≤ 36) : -36 ≤ (x : Int) - (y : Int) ∧ (x : Int) - (y : Int) ≤ 36 := by omega
end Go.Ori
namespace Go.Proofs.Ytedpckkoaioooaa
open Go.RowKit Go.Ori
set_option maxHeartbeats 2000000 in
theorem l6Like_any (a b : Int) (w : World) (ha : 31 ≤ a ∧ a ≤ 99) (hb : 31 ≤ b ∧ b ≤ 99) : Calls Try.prog 88 #[.int .i64 a, .int .i64 b] w fun x w' => x = .returned (.bool (likeB a b)) ∧ w = w' := by
  obtain ⟨a1, a2⟩ := ha
  obtain ⟨b1, b2⟩ := hb
  have q1 : Int.tmod a 10 = a % 10 := Int.tmod_eq_emod_of_nonneg (by omega)
  have q2 : Int.tmod b 10 = b % 10 := Int.tmod_eq_emod_of_nonneg (by omega)
  have q3 : Int.tdiv a 10 = a / 10 := Int.tdiv_eq_ediv_of_nonneg (by omega)
  have q4 : Int.tdiv b 10 = b / 10 := Int.tdiv_eq_ediv_of_nonneg (by omega)
  have HC : Hid (likeB a b = (decide (a ≠ b) && ((decide (a % 10 = b / 10) && decide (a / 10 = b % 10)) || decide (a - b = 10) || decide (b - a = 10)))) := Lib.hid rfl
  have m1 : 0 ≤ a % 10 ∧ a % 10 ≤ 9 := by omega
  have m2 : 0 ≤ b % 10 ∧ b % 10 ≤ 9 := by omega
  have m3 : 3 ≤ a / 10 ∧ a / 10 ≤ 9 := by omega
  have m4 : 3 ≤ b / 10 ∧ b / 10 ≤ 9 := by omega
  by_cases hab : a = b
  · have hbb : (a == b) = true := by simp [hab]
    go_enter Try.func88, Try.ntmps88
    go_wp2
    go_ret
    refine ⟨ret_bool ?_, rfl⟩
    rw [HC.out]
    simp [hab]
  · have hbb : (a == b) = false := by simp [hab]
    go_enter Try.func88, Try.ntmps88
    go_wp2
    all_goals go_ret
    all_goals
      refine ⟨ret_bool ?_, rfl⟩
      rw [HC.out, Bool.eq_iff_iff]
      simp only [Bool.or_eq_true, Bool.and_eq_true, decide_eq_true_eq, beq_iff_eq, true_iff, false_iff, Bool.false_eq_true, ne_eq]
      omega
set_option maxHeartbeats 2000000 in
theorem l6Apart_any (m : Mp) (rv cv : Value) (W H a b : Nat) (w : World) (hok : MapOk m W H) (ha : a < m.cost.length) (hb : b < m.cost.length) :
    Calls Try.prog 93 #[.agg #[.int .i64 m.wd, .int .i64 m.ht, rv, cv], .int .i64 a, .int .i64 b] w fun x w' => x = .returned (.int .i64 (gapN m.wd.toNat a b)) ∧ ∃ d, w' = w.ext d := by
  have hn := hok.n36
  have hW := hok.w1
  have hW6 := hok.w6
  obtain ⟨x1, x2, y1, y2, q1, q2, q3, q4, e1, e2, e3, e4, r1, r2, r3, r4⟩ := gap_facts hW hW6 (a := a) (b := b) (by omega) (by omega)
  have HALL : Hid (∃ D1 D2 : Int, wrap64 ((x1 : Int) - (x2 : Int)) = D1 ∧ wrap64 ((y1 : Int) - (y2 : Int)) = D2 ∧ (-36 ≤ D1 ∧ D1 ≤ 36) ∧ (-36 ≤ D2 ∧ D2 ≤ 36) ∧ (gapN (W : Int).toNat a b : Int) = max D1 (-D1) + max D2 (-D2)) := Lib.hid ⟨_, _, wrap_sub q1 q2, wrap_sub q3 q4, sub_bd36 q1 q2, sub_bd36 q3 q4, gapN_max e1 e2 e3 e4⟩
  rw [hok.wd]
  clear hok e1 e2 e3 e4 q1 q2 q3 q4
  go_enter Try.func93, Try.ntmps93
  go_wp2
  refine wp_region_gain (by kernel_rfl) (by kernel_rfl) ?_
  repeat (first | go_big_quiet_skip | (go_big_quiet_want; go_big_quiet_op; first | go_big_quiet_on))
  refine wpQuiet_nil ?_
  rintro _ ⟨d', rfl⟩
  clear r1 r2 r3 r4 hn hW hW6
  obtain ⟨D1, D2, s1, s2, b1, b2, he⟩ := HALL.out
  rw [s1, s2]
  have HE := Lib.hid he
  have n1 : IntKind.i64.wrap (-D1) = -D1 := IntWalk.i64_in _ (by omega)
  have n2 : IntKind.i64.wrap (-D2) = -D2 := IntWalk.i64_in _ (by omega)
  have n3 : 0 ≤ max D1 (-D1) ∧ max D1 (-D1) ≤ 36 := by omega
  have n4 : 0 ≤ max D2 (-D2) ∧ max D2 (-D2) ≤ 36 := by omega
  have n5 : IntKind.i64.wrap (max D1 (-D1) + max D2 (-D2)) = max D1 (-D1) + max D2 (-D2) := IntWalk.i64_in _ (by omega)
  clear s1 s2 he HALL
  obtain ⟨b1, b1'⟩ := b1
  obtain ⟨b2, b2'⟩ := b2
  have HM1 := Lib.hid (fun W' => l1Most_any D1 (-D1) W')
  have HM2 := Lib.hid (fun W' => l1Most_any D2 (-D2) W')
  generalize max D1 (-D1) = M1 at HE n3 n5 HM1
  generalize max D2 (-D2) = M2 at HE n4 n5 HM2
  go_wp2_with fail
  refine (HM1.out _).mono ?_
  rintro e w1 ⟨rfl, rfl⟩
  go_wp2_with fail
  refine (HM2.out _).mono ?_
  rintro e w1 ⟨rfl, rfl⟩
  go_wp2
  go_ret
  rw [HE.out]
  exact ⟨rfl, (by repeat (first | with_reducible (first | exact World.gained_refl _ | exact ⟨_, rfl⟩ | apply gain_ext | apply gain_alloc | apply gain_drewN | apply gain_drew) | (refine gain_setCell ?_ (by first | exact Nat.le_refl _ | exact World.size_ext _ _ | (simp; done) | (simp; omega)) _)))⟩
set_option maxHeartbeats 4000000 in
theorem specConfusableCodes_any (m : Mp) (rv cv v : Value) (l : List Ctl) (w : World) (hmp : w.mp rv cv m) (h : w.sl Ctl.cells 2 v l) (hl : l.length ≤ 1048576) :
    Calls Try.prog 28 #[.agg #[.int .i64 m.wd, .int .i64 m.ht, rv, cv], v] w fun x w' => ∃ R, x = .returned (.tuple #[R, .bool (conB m l)]) ∧ (∃ d, w' = w.ext d) ∧ w'.own w.heap.size 47 prC 2 R (conL m l) := by
  have hm := Lib.hid hmp
  have hs := Lib.hid h
  obtain ⟨p1, c1, p2, c2, rfl, rfl⟩ := mp_form hmp
  obtain ⟨p, c, rfl, _⟩ := id h
  have HG := Lib.hid (fun W hM hL => l6Good_any m (.slice p1 m.rise.length c1) (.slice p2 m.cost.length c2) (.slice p l.length c) l W hM hL hl)
  clear hmp h
  skip
  cases hB : ctlsB m l with
  | false =>
    have h0 : conB m l = false := by simp [conB, hB]
    rw [conL_no h0, h0]
    rw [hB] at HG
    clear h0 hB
    go_enter Try.func28, Try.ntmps28
    go_wp2_with (go_at_call 74; refine (HG.out _ (mp_up (hm.out) (by repeat (first | with_reducible (first | exact World.gained_refl _ | exact ⟨_, rfl⟩ | apply gain_ext | apply gain_alloc | apply gain_drewN | apply gain_drew) | (refine gain_setCell ?_ (by first | exact Nat.le_refl _ | exact World.size_ext _ _ | (simp; done) | (simp; omega)) _)))) (by with_reducible (repeat (first | exact hs.out | refine World.sl_ext Ctl.cells_length ?_ _ | refine sl_alloc Ctl.cells_length ?_ _ | refine sl_drew ?_)))).mono ?_; rintro e w1 ⟨rfl, d1, rfl⟩)
    go_ret2
    exact ⟨_, rfl, (by repeat (first | with_reducible (first | exact World.gained_refl _ | exact ⟨_, rfl⟩ | apply gain_ext | apply gain_alloc | apply gain_drewN | apply gain_drew) | (refine gain_setCell ?_ (by first | exact Nat.le_refl _ | exact World.size_ext _ _ | (simp; done) | (simp; omega)) _))), own_up (own_lit' (w := w.alloc (.cells #[.int .i64 m.wd, .int .i64 m.ht, .slice p1 m.rise.length c1, .slice p2 m.cost.length c2] 26)) (base := w.heap.size) (l := ([] : List (Int × Int))) (C := #[]) prC_length rfl (World.size_alloc _ _).symm (gain_size (by repeat (first | with_reducible (first | exact World.gained_refl _ | exact ⟨_, rfl⟩ | apply gain_ext | apply gain_alloc | apply gain_drewN | apply gain_drew) | (refine gain_setCell ?_ (by first | exact Nat.le_refl _ | exact World.size_ext _ _ | (simp; done) | (simp; omega)) _))))) (by repeat (first | with_reducible (first | exact World.gained_refl _ | exact ⟨_, rfl⟩ | apply gain_ext | apply gain_alloc | apply gain_drewN | apply gain_drew) | (refine gain_setCell ?_ (by first | exact Nat.le_refl _ | exact World.size_ext _ _ | (simp; done) | (simp; omega)) _)))⟩
  | true =>
    rw [hB] at HG
    have hl10 := ctlsB_len hB
    have HCD := Lib.hid (ctls_code hB)
    have HCC := Lib.hid (ctls_cell hB)
    obtain ⟨W, H, hok⟩ := mapB_ok (ctlsB_map hB)
    have HOK := Lib.hid hok
    clear hok
    rw [show conB m l = true from hB, conL, if_pos (show conB m l = true from hB)]; clear hB HOK HCC
    go_enter Try.func28, Try.ntmps28
    go_upto_region 1 with fail
    generalize hX0 : w.alloc (.cells #[.int .i64 m.wd, .int .i64 m.ht, .slice p1 m.rise.length c1, .slice p2 m.cost.length c2] 26) = W0
    have hbx : MBox w W0 w.heap.size m (.slice p1 m.rise.length c1) (.slice p2 m.cost.length c2) := by rw [← hX0]; exact mbox
    have HUP := Lib.hid hbx.up
    have HM0 := Lib.hid (mp_up hm.out hbx.up)
    have HL0 := Lib.hid (sl_up Ctl.cells_length hs.out hbx.up)
    have bx0 := hbx.c0
    have bx1 := hbx.c1
    have bx2 := hbx.c2
    have bx3 := hbx.c3
    have obx := hbx.ob
    have hsz := gain_size HUP.out
    clear hX0 hbx hm hs
    generalize hgM : w.heap.size = gM at bx0 bx1 bx2 bx3 obx hsz ⊢
    go_wp2_with fail
    refine (HG.out _ (mp_up (HM0.out) (by repeat (first | with_reducible (first | exact World.gained_refl _ | exact ⟨_, rfl⟩ | apply gain_ext | apply gain_alloc | apply gain_drewN | apply gain_drew) | (refine gain_setCell ?_ (by first | exact Nat.le_refl _ | exact World.size_ext _ _ | (simp; done) | (simp; omega)) _)))) (by with_reducible (repeat (first | exact HL0.out | refine World.sl_ext Ctl.cells_length ?_ _ | refine sl_alloc Ctl.cells_length ?_ _ | refine sl_drew ?_)))).mono ?_
    rintro e w1 ⟨rfl, d1, rfl⟩
    clear HG
    go_wp2_with fail
    go_loopw [6, 7] (fun o_ i_ wr => ∃ (i : Nat) (q : List (Int × Int)), i ≤ l.length ∧ i_ = .int .i64 i ∧ PO likeF l q i ∧ wr.own W0.heap.size 47 prC 2 o_ q ∧ ∃ d, wr = W0.ext d) (fun _ i_ _ => l.length - (intOf i_).toNat)
    case atStart => exact ⟨0, [], by omega, rfl, PO.start _ l, own_up (own_lit' (w := W0) (base := W0.heap.size) (l := ([] : List (Int × Int))) (C := #[]) prC_length rfl rfl (Nat.le_refl _)) (by repeat (first | with_reducible (first | exact World.gained_refl _ | exact ⟨_, rfl⟩ | apply gain_ext | apply gain_alloc | apply gain_drewN | apply gain_drew) | (refine gain_setCell ?_ (by first | exact Nat.le_refl _ | exact World.size_ext _ _ | (simp; done) | (simp; omega)) _))), (by repeat (first | with_reducible (first | exact World.gained_refl _ | exact ⟨_, rfl⟩ | apply gain_ext | apply gain_alloc | apply gain_drewN | apply gain_drew) | (refine gain_setCell ?_ (by first | exact Nat.le_refl _ | exact World.size_ext _ _ | (simp; done) | (simp; omega)) _)))⟩
    case round =>
      obtain ⟨i, q, hi, rfl, hpo, ho, d, rfl⟩ := hrel
      have HPO := Lib.hid hpo
      have HO := Lib.hid ho
      clear hpo ho
      by_cases hlt : i < l.length
      · obtain ⟨b, o, rfl⟩ := sl_some HL0.out (by omega)
        have c0 := sl_cells HL0.out hlt (j := 0) (by omega)
        have k0 := sl_cells HL0.out hlt (j := 1) (by omega)
        have HROW := Lib.hid (HPO.out.row hlt)
        have hmem := Lib.hid (List.getElem_mem hlt)
        generalize l[i] = a at c0 k0 HROW hmem
        simp only [Ctl.cells, List.getElem?_cons_zero, List.getElem?_cons_succ, Nat.add_zero] at c0 k0
        have obl := World.oldB_of_cell c0
        go_wp2_with fail
        go_loopw [6, 8] (fun o_ i_ wr => ∃ (k : Nat) (q2 : List (Int × Int)), k ≤ l.length ∧ i_ = .int .i64 k ∧ PI likeF l q2 i a k ∧ wr.own W0.heap.size 47 prC 2 o_ q2 ∧ ∃ d, wr = W0.ext d) (fun _ i_ _ => l.length - (intOf i_).toNat)
        case atStart => exact ⟨i + 1, q, by omega, by go_num, HROW.out, HO.out, _, rfl⟩
        case round =>
          clear HROW HPO HO
          obtain ⟨k, q2, hk, rfl, hpi, ho, d2, rfl⟩ := hrel
          have HPI := Lib.hid hpi
          have HO := Lib.hid ho
          have hql := hpi.len hl10
          clear hpi ho
          by_cases hlt2 : k < l.length
          · have y0 := sl_cells HL0.out hlt2 (j := 0) (by omega)
            have z0 := sl_cells HL0.out hlt2 (j := 1) (by omega)
            have HYES := Lib.hid (fun hf => HPI.out.yes hlt2 hf)
            have HNO := Lib.hid (fun hf => HPI.out.no hlt2 hf)
            have hmy := Lib.hid (List.getElem_mem hlt2)
            generalize l[k] = y at y0 z0 HYES HNO hmy
            simp only [Ctl.cells, List.getElem?_cons_zero, List.getElem?_cons_succ, Nat.add_zero] at y0 z0
            skip
            cases hf : likeF a y with
            | true =>
              have HN := Lib.hid (HYES.out hf)
              have HLK := Lib.hid (fun W' => l6Like_any a.code y.code W' (HCD.out a hmem.out) (HCD.out y hmy.out)); rw [show likeB a.code y.code = _ from hf] at HLK; clear hf
              clear HYES HNO
              go_wp2_with fail
              refine wp_region_gain (by kernel_rfl) (by kernel_rfl) ?_
              repeat (first | go_big_quiet_skip | (go_big_quiet_want; go_big_quiet_op; first | go_big_quiet_on | ((apply Exists.intro); (refine ⟨fun _ => ?_, ?_⟩); (· (go_at_call 88; exact Calls.gain_same (HLK.out _))); (go_big_quiet_on))))
              refine wpQuiet_nil ?_
              rintro _ ⟨d', rfl⟩
              go_upto_region 11 with fail
              generalize hX : (W0.ext d2).ext d' = X at ⊢
              have HOX : Hid (X.own W0.heap.size 47 prC 2 _ q2) := Lib.hid (own_up HO.out (by rw [← hX]; exact (by repeat (first | with_reducible (first | exact World.gained_refl _ | exact ⟨_, rfl⟩ | apply gain_ext | apply gain_alloc | apply gain_drewN | apply gain_drew) | (refine gain_setCell ?_ (by first | exact Nat.le_refl _ | exact World.size_ext _ _ | (simp; done) | (simp; omega)) _)))))
              obtain ⟨dx, rfl⟩ : ∃ dx, X = W0.ext dx := by rw [← hX]; exact (by repeat (first | with_reducible (first | exact World.gained_refl _ | exact ⟨_, rfl⟩ | apply gain_ext | apply gain_alloc | apply gain_drewN | apply gain_drew) | (refine gain_setCell ?_ (by first | exact Nat.le_refl _ | exact World.size_ext _ _ | (simp; done) | (simp; omega)) _)))
              clear hX HO
              have hXs := World.size_ext W0 dx
              refine wp_region_held_drew (S := (fun w' => w'.cell? ⟨b, o + i * 2, none⟩ = some (.int .i64 a.code) ∧ w'.cell? ⟨b, o + k * 2, none⟩ = some (.int .i64 y.code))) (by kernel_rfl) (by (try dsimp only); (refine ⟨?_, ?_⟩ <;> (with_reducible (repeat (first | assumption | refine cell_ext ?_ _ | refine cell_drew ?_ | refine cell_alloc ?_ _))))) (fun hHeld => ?_)
              refine wpAnyH_take (i := 0) (oi := ⟨_, _, _, _, _, _⟩) (v := ?_) rfl (by kernel_rfl) (by kernel_rfl) (by kernel_rfl) (fun _ _ _ h => h) (Or.inl ⟨by rfl, ?_⟩) (by assumption) ?_
              rotate_left
              · intro w hSw; (try dsimp only at hSw); go_simp; (try with_reducible rfl)
              try simp only [Act.put, List.setIfInBounds_toArray, List.set_cons_zero, List.set_cons_succ]
              refine wpAnyH_take (i := 1) (oi := ⟨_, _, _, _, _, _⟩) (v := ?_) rfl (by kernel_rfl) (by kernel_rfl) (by kernel_rfl) (fun _ _ _ h => h) (Or.inl ⟨by rfl, ?_⟩) (by assumption) ?_
              rotate_left
              · intro w hSw; (try dsimp only at hSw); go_simp; (try with_reducible rfl)
              try simp only [Act.put, List.setIfInBounds_toArray, List.set_cons_zero, List.set_cons_succ]
              refine wpAnyH_take (i := 2) (oi := ⟨_, _, _, _, _, _⟩) (v := ?_) rfl (by kernel_rfl) (by kernel_rfl) (by kernel_rfl) (fun _ _ _ h => h) (Or.inl ⟨by rfl, ?_⟩) (by assumption) ?_
              rotate_left
              · intro w hSw; (try dsimp only at hSw); go_simp; (try with_reducible rfl)
              try simp only [Act.put, List.setIfInBounds_toArray, List.set_cons_zero, List.set_cons_succ]
              refine wpAnyH_take (i := 3) (oi := ⟨_, _, _, _, _, _⟩) (v := ?_) rfl (by kernel_rfl) (by kernel_rfl) (by kernel_rfl) (fun _ _ _ h => h) (Or.inl ⟨by rfl, ?_⟩) (by assumption) ?_
              rotate_left
              · intro w hSw; (try dsimp only at hSw); go_simp; (try with_reducible rfl)
              try simp only [Act.put, List.setIfInBounds_toArray, List.set_cons_zero, List.set_cons_succ]
              refine wpAnyH_take (i := 4) (oi := ⟨_, _, _, _, _, _⟩) (v := ?_) rfl (by kernel_rfl) (by kernel_rfl) (by kernel_rfl) (fun _ _ _ h => h) (Or.inl ⟨by rfl, ?_⟩) (by assumption) ?_
              rotate_left
              · intro w hSw; (try dsimp only at hSw); go_simp; (try with_reducible rfl)
              try simp only [Act.put, List.setIfInBounds_toArray, List.set_cons_zero, List.set_cons_succ]
              refine wpAnyH_take (i := 5) (oi := ⟨_, _, _, _, _, _⟩) (v := ?_) rfl (by kernel_rfl) (by kernel_rfl) (by kernel_rfl) (fun _ _ _ h => h) (Or.inl ⟨by rfl, ?_⟩) (by assumption) ?_
              rotate_left
              · intro w hSw; (try dsimp only at hSw); go_simp; (try with_reducible rfl)
              try simp only [Act.put, List.setIfInBounds_toArray, List.set_cons_zero, List.set_cons_succ]
              refine wpAnyH_take (i := 6) (oi := ⟨_, _, _, _, _, _⟩) (v := ?_) rfl (by kernel_rfl) (by kernel_rfl) (by kernel_rfl) (fun _ _ _ h => h) (Or.inl ⟨by rfl, ?_⟩) (by assumption) ?_
              rotate_left
              · intro w hSw; (try dsimp only at hSw); go_simp; (try with_reducible rfl)
              try simp only [Act.put, List.setIfInBounds_toArray, List.set_cons_zero, List.set_cons_succ]
              refine wpAnyH_take (i := 7) (oi := ⟨_, _, _, _, _, _⟩) (v := ?_) rfl (by kernel_rfl) (by kernel_rfl) (by kernel_rfl) (fun _ _ _ h => h) (Or.inl ⟨by rfl, ?_⟩) (by assumption) ?_
              rotate_left
              · intro w hSw; (try dsimp only at hSw); go_simp; (try with_reducible rfl)
              try simp only [Act.put, List.setIfInBounds_toArray, List.set_cons_zero, List.set_cons_succ]
              refine wpAnyH_take (i := 8) (oi := ⟨_, _, _, _, _, _⟩) (v := ?_) rfl (by kernel_rfl) (by kernel_rfl) (by kernel_rfl) (fun _ _ _ h => h) (Or.inl ⟨by rfl, ?_⟩) (by assumption) ?_
              rotate_left
              · intro w hSw; (try dsimp only at hSw); go_simp; (try with_reducible rfl)
              try simp only [Act.put, List.setIfInBounds_toArray, List.set_cons_zero, List.set_cons_succ]
              refine wpAnyH_take (i := 9) (oi := ⟨_, _, _, _, _, _⟩) (v := ?_) rfl (by kernel_rfl) (by kernel_rfl) (by kernel_rfl) (fun _ _ _ h => h) (Or.inl ⟨by rfl, ?_⟩) (by assumption) ?_
              rotate_left
              · intro w hSw; (try dsimp only at hSw); go_simp; (try with_reducible rfl)
              try simp only [Act.put, List.setIfInBounds_toArray, List.set_cons_zero, List.set_cons_succ]
              refine wpAnyH_take (i := 10) (oi := ⟨_, _, _, _, _, _⟩) (v := ?_) rfl (by kernel_rfl) (by kernel_rfl) (by kernel_rfl) (fun _ _ _ h => h) (Or.inl ⟨by rfl, ?_⟩) (by assumption) ?_
              rotate_left
              · intro w hSw; (try dsimp only at hSw); go_simp; (try with_reducible rfl)
              try simp only [Act.put, List.setIfInBounds_toArray, List.set_cons_zero, List.set_cons_succ]
              refine wpAnyH_take (i := 11) (oi := ⟨_, _, _, _, _, _⟩) (v := ?_) rfl (by kernel_rfl) (by kernel_rfl) (by kernel_rfl) (fun _ _ _ h => h) (Or.inl ⟨by rfl, ?_⟩) (by assumption) ?_
              rotate_left
              · intro w hSw; (try dsimp only at hSw); go_simp; (try with_reducible rfl)
              try simp only [Act.put, List.setIfInBounds_toArray, List.set_cons_zero, List.set_cons_succ]
              refine wpAnyH_ready (rs := [12]) (by kernel_rfl) (by simp) ?_
              refine AllReadyH.cons rfl (fun K hK => ?_) (AllReadyH.nil)
              go_simp
              have HU := Lib.hid (own_lit' (w := (W0.ext dx).drew) (e := 47) (base := W0.heap.size) (C := #[.int .i64 a.code, .int .i64 y.code]) (l := [(a.code, y.code)]) (g := (W0.ext dx).heap.size) prC_length rfl (by first | rfl | (simp; done) | (simp [World.size_alloc]; done)) (by exact hXs))
              (try dsimp only)
              refine hK.out _ _ ?_ (fun hHeld => ?_)
              · (try dsimp only); (refine ⟨?_, ?_⟩ <;> (with_reducible (repeat (first | assumption | refine cell_ext ?_ _ | refine cell_drew ?_ | refine cell_alloc ?_ _))))
              clear hK K
              try simp only [Act.put, List.setIfInBounds_toArray]
              refine wpAnyH_ready (rs := [13]) (by kernel_rfl) (by simp) ?_
              refine AllReadyH.cons rfl (fun K hK => ?_) (AllReadyH.nil)
              refine step_append_gain (W := W0) (w := (W0.ext dx).drew.alloc (.cells #[.int .i64 a.code, .int .i64 y.code] 47)) (base := W0.heap.size) (l := q2) (m := [(a.code, y.code)]) (u := .slice (some ⟨(W0.ext dx).heap.size, 0, none⟩) 1 1) rfl (.tmp 40) (.tmp 52) rfl Try.underlying41 info_Pr (by rfl) (by omega) prC_length prC_one (by omega) (by repeat (first | with_reducible (first | exact World.gained_refl _ | exact ⟨_, rfl⟩ | apply gain_ext | apply gain_alloc | apply gain_drewN | apply gain_drew) | (refine gain_setCell ?_ (by first | exact Nat.le_refl _ | exact World.size_ext _ _ | (simp; done) | (simp; omega)) _))) (Nat.le_refl _) (gain_size (by repeat (first | with_reducible (first | exact World.gained_refl _ | exact ⟨_, rfl⟩ | apply gain_ext | apply gain_alloc | apply gain_drewN | apply gain_drew) | (refine gain_setCell ?_ (by first | exact Nat.le_refl _ | exact World.size_ext _ _ | (simp; done) | (simp; omega)) _)))) rfl rfl (own_up HOX.out (by repeat (first | with_reducible (first | exact World.gained_refl _ | exact ⟨_, rfl⟩ | apply gain_ext | apply gain_alloc | apply gain_drewN | apply gain_drew) | (refine gain_setCell ?_ (by first | exact Nat.le_refl _ | exact World.size_ext _ _ | (simp; done) | (simp; omega)) _)))) (sl_of_own prC_length HU.out) (by simp; omega) ?_
              intro vB dB hoB hgB
              have HOB := Lib.hid hoB
              clear hoB hgB HU HOX
              (try dsimp only)
              refine hK.out _ _ ?_ (fun hHeld => ?_)
              · (try dsimp only); (refine ⟨?_, ?_⟩ <;> (with_reducible (repeat (first | assumption | refine cell_ext ?_ _ | refine cell_drew ?_ | refine cell_alloc ?_ _))))
              clear hK K
              try simp only [Act.put, List.setIfInBounds_toArray]
              refine wpAnyH_take (i := 14) (oi := ⟨_, _, _, _, _, _⟩) (v := ?_) rfl (by kernel_rfl) (by kernel_rfl) (by kernel_rfl) (fun _ _ _ h => h) (Or.inl ⟨by rfl, ?_⟩) (by assumption) ?_
              rotate_left
              · intro w hSw; (try dsimp only at hSw); go_simp; (try with_reducible rfl)
              try simp only [Act.put, List.setIfInBounds_toArray, List.set_cons_zero, List.set_cons_succ]
              refine wpAnyH_done (by kernel_rfl) ?_ _
              go_wp2
              go_roundw
              case rel => exact ⟨k + 1, _, by omega, by go_num, HN.out, HOB.out, _, rfl⟩
              case measure => simp [intOf]; omega
            | false =>
              have HN := Lib.hid (HNO.out hf)
              have HLK := Lib.hid (fun W' => l6Like_any a.code y.code W' (HCD.out a hmem.out) (HCD.out y hmy.out)); rw [show likeB a.code y.code = _ from hf] at HLK; clear hf
              clear HYES HNO
              go_wp2_with fail
              refine wp_region_gain (by kernel_rfl) (by kernel_rfl) ?_
              repeat (first | go_big_quiet_skip | (go_big_quiet_want; go_big_quiet_op; first | go_big_quiet_on | ((apply Exists.intro); (refine ⟨fun _ => ?_, ?_⟩); (· (go_at_call 88; exact Calls.gain_same (HLK.out _))); (go_big_quiet_on))))
              refine wpQuiet_nil ?_
              rintro _ ⟨d', rfl⟩
              go_wp2
              go_roundw
              case rel => exact ⟨k + 1, q2, by omega, by go_num, HN.out, own_up HO.out (by repeat (first | with_reducible (first | exact World.gained_refl _ | exact ⟨_, rfl⟩ | apply gain_ext | apply gain_alloc | apply gain_drewN | apply gain_drew) | (refine gain_setCell ?_ (by first | exact Nat.le_refl _ | exact World.size_ext _ _ | (simp; done) | (simp; omega)) _))), (by repeat (first | with_reducible (first | exact World.gained_refl _ | exact ⟨_, rfl⟩ | apply gain_ext | apply gain_alloc | apply gain_drewN | apply gain_drew) | (refine gain_setCell ?_ (by first | exact Nat.le_refl _ | exact World.size_ext _ _ | (simp; done) | (simp; omega)) _)))⟩
              case measure => simp [intOf]; omega
          · have HN := Lib.hid (HPI.out.fin (by omega))
            go_wp2
            go_roundw
            case rel => exact ⟨i + 1, q2, by omega, by go_num, HN.out, HO.out, _, rfl⟩
            case measure => simp [intOf]; omega
      · have HN := Lib.hid (HPO.out.fin (by omega))
        go_wp2
        go_ret2
        rw [← HN.out]
        exact ⟨_, rfl, gain_trans HUP.out (by repeat (first | with_reducible (first | exact World.gained_refl _ | exact ⟨_, rfl⟩ | apply gain_ext | apply gain_alloc | apply gain_drewN | apply gain_drew) | (refine gain_setCell ?_ (by first | exact Nat.le_refl _ | exact World.size_ext _ _ | (simp; done) | (simp; omega)) _))), own_base HO.out (by omega)⟩
set_option maxHeartbeats 4000000 in
theorem specCloseControls_any (m : Mp) (rv cv v : Value) (l : List Ctl)(dist : Int) (w : World) (hmp : w.mp rv cv m) (h : w.sl Ctl.cells 2 v l) (hl : l.length ≤ 1048576) :
    Calls Try.prog 32 #[.agg #[.int .i64 m.wd, .int .i64 m.ht, rv, cv], v, .int .i64 dist] w fun x w' => ∃ R, x = .returned (.tuple #[R, .bool (cloB m l dist)]) ∧ (∃ d, w' = w.ext d) ∧ w'.own w.heap.size 47 prC 2 R (cloL m l dist) := by
  have hm := Lib.hid hmp
  have hs := Lib.hid h
  obtain ⟨p1, c1, p2, c2, rfl, rfl⟩ := mp_form hmp
  obtain ⟨p, c, rfl, _⟩ := id h
  have HG := Lib.hid (fun W hM hL => l6Good_any m (.slice p1 m.rise.length c1) (.slice p2 m.cost.length c2) (.slice p l.length c) l W hM hL hl)
  clear hmp h
  by_cases hd : dist < 0
  · have hdd : decide (dist < 0) = true := decide_eq_true hd
    have h0 : cloB m l dist = false := by simp [cloB, hd]
    rw [cloL_no h0, h0]
    clear h0
    generalize ctlsB m l = GB at HG
    cases GB
    all_goals (
      go_enter Try.func32, Try.ntmps32
      go_wp2_with (go_at_call 74; refine (HG.out _ (mp_up (hm.out) (by repeat (first | with_reducible (first | exact World.gained_refl _ | exact ⟨_, rfl⟩ | apply gain_ext | apply gain_alloc | apply gain_drewN | apply gain_drew) | (refine gain_setCell ?_ (by first | exact Nat.le_refl _ | exact World.size_ext _ _ | (simp; done) | (simp; omega)) _)))) (by with_reducible (repeat (first | exact hs.out | refine World.sl_ext Ctl.cells_length ?_ _ | refine sl_alloc Ctl.cells_length ?_ _ | refine sl_drew ?_)))).mono ?_; rintro e w1 ⟨rfl, d1, rfl⟩)
      go_ret2
      exact ⟨_, rfl, (by repeat (first | with_reducible (first | exact World.gained_refl _ | exact ⟨_, rfl⟩ | apply gain_ext | apply gain_alloc | apply gain_drewN | apply gain_drew) | (refine gain_setCell ?_ (by first | exact Nat.le_refl _ | exact World.size_ext _ _ | (simp; done) | (simp; omega)) _))), own_up (own_lit' (w := w.alloc (.cells #[.int .i64 m.wd, .int .i64 m.ht, .slice p1 m.rise.length c1, .slice p2 m.cost.length c2] 26)) (base := w.heap.size) (l := ([] : List (Int × Int))) (C := #[]) prC_length rfl (World.size_alloc _ _).symm (gain_size (by repeat (first | with_reducible (first | exact World.gained_refl _ | exact ⟨_, rfl⟩ | apply gain_ext | apply gain_alloc | apply gain_drewN | apply gain_drew) | (refine gain_setCell ?_ (by first | exact Nat.le_refl _ | exact World.size_ext _ _ | (simp; done) | (simp; omega)) _))))) (by repeat (first | with_reducible (first | exact World.gained_refl _ | exact ⟨_, rfl⟩ | apply gain_ext | apply gain_alloc | apply gain_drewN | apply gain_drew) | (refine gain_setCell ?_ (by first | exact Nat.le_refl _ | exact World.size_ext _ _ | (simp; done) | (simp; omega)) _)))⟩)
  have hdd : decide (dist < 0) = false := decide_eq_false hd
  cases hB : ctlsB m l with
  | false =>
    have h0 : cloB m l dist = false := by simp [cloB, hB]
    rw [cloL_no h0, h0]
    rw [hB] at HG
    clear h0 hB
    go_enter Try.func32, Try.ntmps32
    go_wp2_with (go_at_call 74; refine (HG.out _ (mp_up (hm.out) (by repeat (first | with_reducible (first | exact World.gained_refl _ | exact ⟨_, rfl⟩ | apply gain_ext | apply gain_alloc | apply gain_drewN | apply gain_drew) | (refine gain_setCell ?_ (by first | exact Nat.le_refl _ | exact World.size_ext _ _ | (simp; done) | (simp; omega)) _)))) (by with_reducible (repeat (first | exact hs.out | refine World.sl_ext Ctl.cells_length ?_ _ | refine sl_alloc Ctl.cells_length ?_ _ | refine sl_drew ?_)))).mono ?_; rintro e w1 ⟨rfl, d1, rfl⟩)
    go_ret2
    exact ⟨_, rfl, (by repeat (first | with_reducible (first | exact World.gained_refl _ | exact ⟨_, rfl⟩ | apply gain_ext | apply gain_alloc | apply gain_drewN | apply gain_drew) | (refine gain_setCell ?_ (by first | exact Nat.le_refl _ | exact World.size_ext _ _ | (simp; done) | (simp; omega)) _))), own_up (own_lit' (w := w.alloc (.cells #[.int .i64 m.wd, .int .i64 m.ht, .slice p1 m.rise.length c1, .slice p2 m.cost.length c2] 26)) (base := w.heap.size) (l := ([] : List (Int × Int))) (C := #[]) prC_length rfl (World.size_alloc _ _).symm (gain_size (by repeat (first | with_reducible (first | exact World.gained_refl _ | exact ⟨_, rfl⟩ | apply gain_ext | apply gain_alloc | apply gain_drewN | apply gain_drew) | (refine gain_setCell ?_ (by first | exact Nat.le_refl _ | exact World.size_ext _ _ | (simp; done) | (simp; omega)) _))))) (by repeat (first | with_reducible (first | exact World.gained_refl _ | exact ⟨_, rfl⟩ | apply gain_ext | apply gain_alloc | apply gain_drewN | apply gain_drew) | (refine gain_setCell ?_ (by first | exact Nat.le_refl _ | exact World.size_ext _ _ | (simp; done) | (simp; omega)) _)))⟩
  | true =>
    rw [hB] at HG
    have hl10 := ctlsB_len hB
    have HCD := Lib.hid (ctls_code hB)
    have HCC := Lib.hid (ctls_cell hB)
    obtain ⟨W, H, hok⟩ := mapB_ok (ctlsB_map hB)
    have HOK := Lib.hid hok
    clear hok
    have h0 : cloB m l dist = true := (by simp only [cloB, hB, Bool.true_and, decide_eq_true_eq]; omega); rw [h0, cloL, if_pos h0]; clear h0 hB
    go_enter Try.func32, Try.ntmps32
    go_upto_region 1 with fail
    generalize hX0 : w.alloc (.cells #[.int .i64 m.wd, .int .i64 m.ht, .slice p1 m.rise.length c1, .slice p2 m.cost.length c2] 26) = W0
    have hbx : MBox w W0 w.heap.size m (.slice p1 m.rise.length c1) (.slice p2 m.cost.length c2) := by rw [← hX0]; exact mbox
    have HUP := Lib.hid hbx.up
    have HM0 := Lib.hid (mp_up hm.out hbx.up)
    have HL0 := Lib.hid (sl_up Ctl.cells_length hs.out hbx.up)
    have bx0 := hbx.c0
    have bx1 := hbx.c1
    have bx2 := hbx.c2
    have bx3 := hbx.c3
    have obx := hbx.ob
    have hsz := gain_size HUP.out
    clear hX0 hbx hm hs
    generalize hgM : w.heap.size = gM at bx0 bx1 bx2 bx3 obx hsz ⊢
    go_wp2_with fail
    refine (HG.out _ (mp_up (HM0.out) (by repeat (first | with_reducible (first | exact World.gained_refl _ | exact ⟨_, rfl⟩ | apply gain_ext | apply gain_alloc | apply gain_drewN | apply gain_drew) | (refine gain_setCell ?_ (by first | exact Nat.le_refl _ | exact World.size_ext _ _ | (simp; done) | (simp; omega)) _)))) (by with_reducible (repeat (first | exact HL0.out | refine World.sl_ext Ctl.cells_length ?_ _ | refine sl_alloc Ctl.cells_length ?_ _ | refine sl_drew ?_)))).mono ?_
    rintro e w1 ⟨rfl, d1, rfl⟩
    clear HG
    go_wp2_with fail
    go_loopw [8, 9] (fun o_ i_ wr => ∃ (i : Nat) (q : List (Int × Int)), i ≤ l.length ∧ i_ = .int .i64 i ∧ PO (nearF m dist) l q i ∧ wr.own W0.heap.size 47 prC 2 o_ q ∧ ∃ d, wr = W0.ext d) (fun _ i_ _ => l.length - (intOf i_).toNat)
    case atStart => exact ⟨0, [], by omega, rfl, PO.start _ l, own_up (own_lit' (w := W0) (base := W0.heap.size) (l := ([] : List (Int × Int))) (C := #[]) prC_length rfl rfl (Nat.le_refl _)) (by repeat (first | with_reducible (first | exact World.gained_refl _ | exact ⟨_, rfl⟩ | apply gain_ext | apply gain_alloc | apply gain_drewN | apply gain_drew) | (refine gain_setCell ?_ (by first | exact Nat.le_refl _ | exact World.size_ext _ _ | (simp; done) | (simp; omega)) _))), (by repeat (first | with_reducible (first | exact World.gained_refl _ | exact ⟨_, rfl⟩ | apply gain_ext | apply gain_alloc | apply gain_drewN | apply gain_drew) | (refine gain_setCell ?_ (by first | exact Nat.le_refl _ | exact World.size_ext _ _ | (simp; done) | (simp; omega)) _)))⟩
    case round =>
      obtain ⟨i, q, hi, rfl, hpo, ho, d, rfl⟩ := hrel
      have HPO := Lib.hid hpo
      have HO := Lib.hid ho
      clear hpo ho
      by_cases hlt : i < l.length
      · obtain ⟨b, o, rfl⟩ := sl_some HL0.out (by omega)
        have c0 := sl_cells HL0.out hlt (j := 0) (by omega)
        have k0 := sl_cells HL0.out hlt (j := 1) (by omega)
        have HROW := Lib.hid (HPO.out.row hlt)
        have hmem := Lib.hid (List.getElem_mem hlt)
        generalize l[i] = a at c0 k0 HROW hmem
        simp only [Ctl.cells, List.getElem?_cons_zero, List.getElem?_cons_succ, Nat.add_zero] at c0 k0
        have obl := World.oldB_of_cell c0
        go_wp2_with fail
        go_loopw [8, 10] (fun o_ i_ wr => ∃ (k : Nat) (q2 : List (Int × Int)), k ≤ l.length ∧ i_ = .int .i64 k ∧ PI (nearF m dist) l q2 i a k ∧ wr.own W0.heap.size 47 prC 2 o_ q2 ∧ ∃ d, wr = W0.ext d) (fun _ i_ _ => l.length - (intOf i_).toNat)
        case atStart => exact ⟨i + 1, q, by omega, by go_num, HROW.out, HO.out, _, rfl⟩
        case round =>
          clear HROW HPO HO
          obtain ⟨k, q2, hk, rfl, hpi, ho, d2, rfl⟩ := hrel
          have HPI := Lib.hid hpi
          have HO := Lib.hid ho
          have hql := hpi.len hl10
          clear hpi ho
          by_cases hlt2 : k < l.length
          · have y0 := sl_cells HL0.out hlt2 (j := 0) (by omega)
            have z0 := sl_cells HL0.out hlt2 (j := 1) (by omega)
            have HYES := Lib.hid (fun hf => HPI.out.yes hlt2 hf)
            have HNO := Lib.hid (fun hf => HPI.out.no hlt2 hf)
            have hmy := Lib.hid (List.getElem_mem hlt2)
            generalize l[k] = y at y0 z0 HYES HNO hmy
            simp only [Ctl.cells, List.getElem?_cons_zero, List.getElem?_cons_succ, Nat.add_zero] at y0 z0
            obtain ⟨x9, hx9, hx8⟩ := HCC.out a hmem.out
            obtain ⟨y9, hy9, hy8⟩ := HCC.out y hmy.out
            have HGP := Lib.hid (fun W' => l6Apart_any m (.slice p1 m.rise.length c1) (.slice p2 m.cost.length c2) W H x9 y9 W' HOK.out hx8 hy8)
            have HNF : Hid (nearF m dist a y = decide ((gapN m.wd.toNat x9 y9 : Int) < dist)) := Lib.hid (by rw [nearF, hx9, hy9, gapB_nat HOK.out])
            generalize (gapN m.wd.toNat x9 y9 : Int) = GV at HGP HNF
            rw [← hx9, ← hy9] at HGP
            clear hx9 hy9 hx8 hy8
            cases hf : (nearF m dist) a y with
            | true =>
              have HN := Lib.hid (HYES.out hf)
              rw [HNF.out] at hf
              clear HYES HNO
              go_wp2_with fail
              refine wp_region_gain (by kernel_rfl) (by kernel_rfl) ?_
              repeat (first | go_big_quiet_skip | (go_big_quiet_want; go_big_quiet_op; first | go_big_quiet_on | ((apply Exists.intro); (refine ⟨fun _ => ?_, ?_⟩); (· (go_at_call 93; exact Calls.gain (HGP.out _))); (go_big_quiet_on))))
              refine wpQuiet_nil ?_
              rintro _ ⟨d', rfl⟩
              go_upto_region 11 with fail
              generalize hX : (W0.ext d2).ext d' = X at ⊢
              have HOX : Hid (X.own W0.heap.size 47 prC 2 _ q2) := Lib.hid (own_up HO.out (by rw [← hX]; exact (by repeat (first | with_reducible (first | exact World.gained_refl _ | exact ⟨_, rfl⟩ | apply gain_ext | apply gain_alloc | apply gain_drewN | apply gain_drew) | (refine gain_setCell ?_ (by first | exact Nat.le_refl _ | exact World.size_ext _ _ | (simp; done) | (simp; omega)) _)))))
              obtain ⟨dx, rfl⟩ : ∃ dx, X = W0.ext dx := by rw [← hX]; exact (by repeat (first | with_reducible (first | exact World.gained_refl _ | exact ⟨_, rfl⟩ | apply gain_ext | apply gain_alloc | apply gain_drewN | apply gain_drew) | (refine gain_setCell ?_ (by first | exact Nat.le_refl _ | exact World.size_ext _ _ | (simp; done) | (simp; omega)) _)))
              clear hX HO
              have hXs := World.size_ext W0 dx
              refine wp_region_held_drew (S := (fun w' => w'.cell? ⟨b, o + i * 2, none⟩ = some (.int .i64 a.code) ∧ w'.cell? ⟨b, o + k * 2, none⟩ = some (.int .i64 y.code))) (by kernel_rfl) (by (try dsimp only); (refine ⟨?_, ?_⟩ <;> (with_reducible (repeat (first | assumption | refine cell_ext ?_ _ | refine cell_drew ?_ | refine cell_alloc ?_ _))))) (fun hHeld => ?_)
              refine wpAnyH_take (i := 0) (oi := ⟨_, _, _, _, _, _⟩) (v := ?_) rfl (by kernel_rfl) (by kernel_rfl) (by kernel_rfl) (fun _ _ _ h => h) (Or.inl ⟨by rfl, ?_⟩) (by assumption) ?_
              rotate_left
              · intro w hSw; (try dsimp only at hSw); go_simp; (try with_reducible rfl)
              try simp only [Act.put, List.setIfInBounds_toArray, List.set_cons_zero, List.set_cons_succ]
              refine wpAnyH_take (i := 1) (oi := ⟨_, _, _, _, _, _⟩) (v := ?_) rfl (by kernel_rfl) (by kernel_rfl) (by kernel_rfl) (fun _ _ _ h => h) (Or.inl ⟨by rfl, ?_⟩) (by assumption) ?_
              rotate_left
              · intro w hSw; (try dsimp only at hSw); go_simp; (try with_reducible rfl)
              try simp only [Act.put, List.setIfInBounds_toArray, List.set_cons_zero, List.set_cons_succ]
              refine wpAnyH_take (i := 2) (oi := ⟨_, _, _, _, _, _⟩) (v := ?_) rfl (by kernel_rfl) (by kernel_rfl) (by kernel_rfl) (fun _ _ _ h => h) (Or.inl ⟨by rfl, ?_⟩) (by assumption) ?_
              rotate_left
              · intro w hSw; (try dsimp only at hSw); go_simp; (try with_reducible rfl)
              try simp only [Act.put, List.setIfInBounds_toArray, List.set_cons_zero, List.set_cons_succ]
              refine wpAnyH_take (i := 3) (oi := ⟨_, _, _, _, _, _⟩) (v := ?_) rfl (by kernel_rfl) (by kernel_rfl) (by kernel_rfl) (fun _ _ _ h => h) (Or.inl ⟨by rfl, ?_⟩) (by assumption) ?_
              rotate_left
              · intro w hSw; (try dsimp only at hSw); go_simp; (try with_reducible rfl)
              try simp only [Act.put, List.setIfInBounds_toArray, List.set_cons_zero, List.set_cons_succ]
              refine wpAnyH_take (i := 4) (oi := ⟨_, _, _, _, _, _⟩) (v := ?_) rfl (by kernel_rfl) (by kernel_rfl) (by kernel_rfl) (fun _ _ _ h => h) (Or.inl ⟨by rfl, ?_⟩) (by assumption) ?_
              rotate_left
              · intro w hSw; (try dsimp only at hSw); go_simp; (try with_reducible rfl)
              try simp only [Act.put, List.setIfInBounds_toArray, List.set_cons_zero, List.set_cons_succ]
              refine wpAnyH_take (i := 5) (oi := ⟨_, _, _, _, _, _⟩) (v := ?_) rfl (by kernel_rfl) (by kernel_rfl) (by kernel_rfl) (fun _ _ _ h => h) (Or.inl ⟨by rfl, ?_⟩) (by assumption) ?_
              rotate_left
              · intro w hSw; (try dsimp only at hSw); go_simp; (try with_reducible rfl)
              try simp only [Act.put, List.setIfInBounds_toArray, List.set_cons_zero, List.set_cons_succ]
              refine wpAnyH_take (i := 6) (oi := ⟨_, _, _, _, _, _⟩) (v := ?_) rfl (by kernel_rfl) (by kernel_rfl) (by kernel_rfl) (fun _ _ _ h => h) (Or.inl ⟨by rfl, ?_⟩) (by assumption) ?_
              rotate_left
              · intro w hSw; (try dsimp only at hSw); go_simp; (try with_reducible rfl)
              try simp only [Act.put, List.setIfInBounds_toArray, List.set_cons_zero, List.set_cons_succ]
              refine wpAnyH_take (i := 7) (oi := ⟨_, _, _, _, _, _⟩) (v := ?_) rfl (by kernel_rfl) (by kernel_rfl) (by kernel_rfl) (fun _ _ _ h => h) (Or.inl ⟨by rfl, ?_⟩) (by assumption) ?_
              rotate_left
              · intro w hSw; (try dsimp only at hSw); go_simp; (try with_reducible rfl)
              try simp only [Act.put, List.setIfInBounds_toArray, List.set_cons_zero, List.set_cons_succ]
              refine wpAnyH_take (i := 8) (oi := ⟨_, _, _, _, _, _⟩) (v := ?_) rfl (by kernel_rfl) (by kernel_rfl) (by kernel_rfl) (fun _ _ _ h => h) (Or.inl ⟨by rfl, ?_⟩) (by assumption) ?_
              rotate_left
              · intro w hSw; (try dsimp only at hSw); go_simp; (try with_reducible rfl)
              try simp only [Act.put, List.setIfInBounds_toArray, List.set_cons_zero, List.set_cons_succ]
              refine wpAnyH_take (i := 9) (oi := ⟨_, _, _, _, _, _⟩) (v := ?_) rfl (by kernel_rfl) (by kernel_rfl) (by kernel_rfl) (fun _ _ _ h => h) (Or.inl ⟨by rfl, ?_⟩) (by assumption) ?_
              rotate_left
              · intro w hSw; (try dsimp only at hSw); go_simp; (try with_reducible rfl)
              try simp only [Act.put, List.setIfInBounds_toArray, List.set_cons_zero, List.set_cons_succ]
              refine wpAnyH_take (i := 10) (oi := ⟨_, _, _, _, _, _⟩) (v := ?_) rfl (by kernel_rfl) (by kernel_rfl) (by kernel_rfl) (fun _ _ _ h => h) (Or.inl ⟨by rfl, ?_⟩) (by assumption) ?_
              rotate_left
              · intro w hSw; (try dsimp only at hSw); go_simp; (try with_reducible rfl)
              try simp only [Act.put, List.setIfInBounds_toArray, List.set_cons_zero, List.set_cons_succ]
              refine wpAnyH_take (i := 11) (oi := ⟨_, _, _, _, _, _⟩) (v := ?_) rfl (by kernel_rfl) (by kernel_rfl) (by kernel_rfl) (fun _ _ _ h => h) (Or.inl ⟨by rfl, ?_⟩) (by assumption) ?_
              rotate_left
              · intro w hSw; (try dsimp only at hSw); go_simp; (try with_reducible rfl)
              try simp only [Act.put, List.setIfInBounds_toArray, List.set_cons_zero, List.set_cons_succ]
              refine wpAnyH_ready (rs := [12]) (by kernel_rfl) (by simp) ?_
              refine AllReadyH.cons rfl (fun K hK => ?_) (AllReadyH.nil)
              go_simp
              have HU := Lib.hid (own_lit' (w := (W0.ext dx).drew) (e := 47) (base := W0.heap.size) (C := #[.int .i64 a.code, .int .i64 y.code]) (l := [(a.code, y.code)]) (g := (W0.ext dx).heap.size) prC_length rfl (by first | rfl | (simp; done) | (simp [World.size_alloc]; done)) (by exact hXs))
              (try dsimp only)
              refine hK.out _ _ ?_ (fun hHeld => ?_)
              · (try dsimp only); (refine ⟨?_, ?_⟩ <;> (with_reducible (repeat (first | assumption | refine cell_ext ?_ _ | refine cell_drew ?_ | refine cell_alloc ?_ _))))
              clear hK K
              try simp only [Act.put, List.setIfInBounds_toArray]
              refine wpAnyH_ready (rs := [13]) (by kernel_rfl) (by simp) ?_
              refine AllReadyH.cons rfl (fun K hK => ?_) (AllReadyH.nil)
              refine step_append_gain (W := W0) (w := (W0.ext dx).drew.alloc (.cells #[.int .i64 a.code, .int .i64 y.code] 47)) (base := W0.heap.size) (l := q2) (m := [(a.code, y.code)]) (u := .slice (some ⟨(W0.ext dx).heap.size, 0, none⟩) 1 1) rfl (.tmp 49) (.tmp 61) rfl Try.underlying41 info_Pr (by rfl) (by omega) prC_length prC_one (by omega) (by repeat (first | with_reducible (first | exact World.gained_refl _ | exact ⟨_, rfl⟩ | apply gain_ext | apply gain_alloc | apply gain_drewN | apply gain_drew) | (refine gain_setCell ?_ (by first | exact Nat.le_refl _ | exact World.size_ext _ _ | (simp; done) | (simp; omega)) _))) (Nat.le_refl _) (gain_size (by repeat (first | with_reducible (first | exact World.gained_refl _ | exact ⟨_, rfl⟩ | apply gain_ext | apply gain_alloc | apply gain_drewN | apply gain_drew) | (refine gain_setCell ?_ (by first | exact Nat.le_refl _ | exact World.size_ext _ _ | (simp; done) | (simp; omega)) _)))) rfl rfl (own_up HOX.out (by repeat (first | with_reducible (first | exact World.gained_refl _ | exact ⟨_, rfl⟩ | apply gain_ext | apply gain_alloc | apply gain_drewN | apply gain_drew) | (refine gain_setCell ?_ (by first | exact Nat.le_refl _ | exact World.size_ext _ _ | (simp; done) | (simp; omega)) _)))) (sl_of_own prC_length HU.out) (by simp; omega) ?_
              intro vB dB hoB hgB
              have HOB := Lib.hid hoB
              clear hoB hgB HU HOX
              (try dsimp only)
              refine hK.out _ _ ?_ (fun hHeld => ?_)
              · (try dsimp only); (refine ⟨?_, ?_⟩ <;> (with_reducible (repeat (first | assumption | refine cell_ext ?_ _ | refine cell_drew ?_ | refine cell_alloc ?_ _))))
              clear hK K
              try simp only [Act.put, List.setIfInBounds_toArray]
              refine wpAnyH_take (i := 14) (oi := ⟨_, _, _, _, _, _⟩) (v := ?_) rfl (by kernel_rfl) (by kernel_rfl) (by kernel_rfl) (fun _ _ _ h => h) (Or.inl ⟨by rfl, ?_⟩) (by assumption) ?_
              rotate_left
              · intro w hSw; (try dsimp only at hSw); go_simp; (try with_reducible rfl)
              try simp only [Act.put, List.setIfInBounds_toArray, List.set_cons_zero, List.set_cons_succ]
              refine wpAnyH_done (by kernel_rfl) ?_ _
              go_wp2
              go_roundw
              case rel => exact ⟨k + 1, _, by omega, by go_num, HN.out, HOB.out, _, rfl⟩
              case measure => simp [intOf]; omega
            | false =>
              have HN := Lib.hid (HNO.out hf)
              rw [HNF.out] at hf
              clear HYES HNO
              go_wp2_with fail
              refine wp_region_gain (by kernel_rfl) (by kernel_rfl) ?_
              repeat (first | go_big_quiet_skip | (go_big_quiet_want; go_big_quiet_op; first | go_big_quiet_on | ((apply Exists.intro); (refine ⟨fun _ => ?_, ?_⟩); (· (go_at_call 93; exact Calls.gain (HGP.out _))); (go_big_quiet_on))))
              refine wpQuiet_nil ?_
              rintro _ ⟨d', rfl⟩
              go_wp2
              go_roundw
              case rel => exact ⟨k + 1, q2, by omega, by go_num, HN.out, own_up HO.out (by repeat (first | with_reducible (first | exact World.gained_refl _ | exact ⟨_, rfl⟩ | apply gain_ext | apply gain_alloc | apply gain_drewN | apply gain_drew) | (refine gain_setCell ?_ (by first | exact Nat.le_refl _ | exact World.size_ext _ _ | (simp; done) | (simp; omega)) _))), (by repeat (first | with_reducible (first | exact World.gained_refl _ | exact ⟨_, rfl⟩ | apply gain_ext | apply gain_alloc | apply gain_drewN | apply gain_drew) | (refine gain_setCell ?_ (by first | exact Nat.le_refl _ | exact World.size_ext _ _ | (simp; done) | (simp; omega)) _)))⟩
              case measure => simp [intOf]; omega
          · have HN := Lib.hid (HPI.out.fin (by omega))
            go_wp2
            go_roundw
            case rel => exact ⟨i + 1, q2, by omega, by go_num, HN.out, HO.out, _, rfl⟩
            case measure => simp [intOf]; omega
      · have HN := Lib.hid (HPO.out.fin (by omega))
        go_wp2
        go_ret2
        rw [← HN.out]
        exact ⟨_, rfl, gain_trans HUP.out (by repeat (first | with_reducible (first | exact World.gained_refl _ | exact ⟨_, rfl⟩ | apply gain_ext | apply gain_alloc | apply gain_drewN | apply gain_drew) | (refine gain_setCell ?_ (by first | exact Nat.le_refl _ | exact World.size_ext _ _ | (simp; done) | (simp; omega)) _))), own_base HO.out (by omega)⟩
end Go.Proofs.Ytedpckkoaioooaa
