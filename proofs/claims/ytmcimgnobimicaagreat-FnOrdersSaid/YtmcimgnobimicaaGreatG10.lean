/- spec.l1Cur's mapOf, cellOf: a map of at most 21 cells. Condition: the reader has been asked less than a thousand times. -/
import Derived.Test.YtmcimgnobimicaaGreatG7
import Derived.Test.YtmcimgnobimicaaGreatG9
namespace Go.Proofs.YtmcimgnobimicaaGreat
open Go.RowKit Go.Ori
theorem mul_small {a b : Int} (h1 : 2 ≤ a) (h2 : a ≤ 5) (h3 : 1 ≤ b) (h4 : b ≤ 4) : ∃ N : Nat, a * b = N ∧ 2 ≤ N ∧ N ≤ 20 := by
  have e1 : a = 2 ∨ a = 3 ∨ a = 4 ∨ a = 5 := by omega
  have e2 : b = 1 ∨ b = 2 ∨ b = 3 ∨ b = 4 := by omega
  rcases e1 with rfl | rfl | rfl | rfl <;> rcases e2 with rfl | rfl | rfl | rfl <;> exact ⟨_, rfl, by decide, by decide⟩
set_option maxHeartbeats 4000000 in
theorem mapOf_any (W w : World) (g n : Nat) (h : Cur 60 W w g n) (hn : n ≤ 1000) :
    Calls Tryz.prog 87 #[.pointer (some ⟨g, 0, none⟩)] w fun x w' => ∃ (m : Mp) (rv cv : Value), x = .returned (.agg #[.int .i64 m.wd, .int .i64 m.ht, rv, cv]) ∧ w'.own w.heap.size 3 intC 1 rv m.rise ∧ w'.own w.heap.size 3 intC 1 cv m.cost ∧ (∀ q, rv.ownBlock = some q → cv.ownBlock ≠ some q) ∧ m.rise.length ≤ 21 ∧ m.cost.length ≤ 21 ∧ Cur 60 W w' g (n + 140) ∧ w.grownBy w' (some g) := by
  have HC := Lib.hid h
  have hgw := h.lt
  have hWw : W.heap.size ≤ w.heap.size := Nat.le_trans h.ge (Nat.le_of_lt hgw)
  clear h
  go_enter Tryz.func87, Tryz.ntmps87
  go_wp2_with fail
  refine (pick_any W _ g n _ (HC.out.gain (by repeat (first | with_reducible (first | exact World.gained_refl _ | exact ⟨_, rfl⟩ | apply gain_ext | apply gain_alloc | apply gain_drewN | apply gain_drew) | (refine gain_setCell ?_ (by first | exact Nat.le_refl _ | exact World.size_ext _ _ | (simp; done) | (simp; omega)) _)))) (by omega)).mono ?_
  rintro e w1 ⟨r1, rfl, a1, a2, hc1, hg1⟩
  have HR1 := Lib.hid (row_keep (heap_alloc_new w _) hg1 (fun q e => by cases e; omega))
  have HC1 := Lib.hid hc1
  have HG1 := Lib.hid (only_trans (only_gain (only_refl w (some g)) (by repeat (first | with_reducible (first | exact World.gained_refl _ | exact ⟨_, rfl⟩ | apply gain_ext | apply gain_alloc | apply gain_drewN | apply gain_drew) | (refine gain_setCell ?_ (by first | exact Nat.le_refl _ | exact World.size_ext _ _ | (simp; done) | (simp; omega)) _)))) hg1)
  clear hc1 hg1
  go_wp2_with fail
  refine (pick_any W _ g _ _ HC1.out (by omega)).mono ?_
  rintro e w2 ⟨r2, rfl, b1, b2, hc2, hg2⟩
  have HR2 := Lib.hid (row_keep HR1.out hg2 (fun q e => by cases e; omega))
  have HC2 := Lib.hid hc2
  have HG2 := Lib.hid (only_trans HG1.out hg2)
  clear hc2 hg2
  have hw1 : IntKind.i64.wrap (2 + r1) = 2 + r1 := IntWalk.i64_in _ (by omega)
  have hw2 : IntKind.i64.wrap (1 + r2) = 1 + r2 := IntWalk.i64_in _ (by omega)
  go_wp2_with fail
  obtain ⟨N, hN, hN2, hN20⟩ := mul_small (a := 2 + r1) (b := 1 + r2) (by omega) (by omega) (by omega) (by omega)
  have hnp : IntKind.i64.wrap ((2 + r1) * (1 + r2)) = N := by rw [hN]; exact IntWalk.i64_in _ (by omega)
  have hnp2 : wrap64 ((2 + r1) * (1 + r2)) = N := by rw [hN]; unfold wrap64; omega
  have HST : Hid (MSt 60 26 3 W w (((w2.alloc (.cells #[] 3)).alloc (.cells #[] 3)).alloc (.cells #[.int .i64 (2 + r1), .int .i64 (1 + r2), .slice (some ⟨w2.heap.size, 0, none⟩) 0 0, .slice (some ⟨w2.heap.size + 1, 0, none⟩) 0 0] 26)) g w.heap.size (w2.heap.size + 1 + 1) (n + 4) (2 + r1) (1 + r2) (.slice (some ⟨w2.heap.size, 0, none⟩) 0 0) (.slice (some ⟨w2.heap.size + 1, 0, none⟩) 0 0) [] []) := by
    have hs2 := only_size HG2.out
    have hl := (Array.getElem?_eq_some_iff.1 HR2.out).1
    refine Lib.hid ⟨HC2.out.gain (by repeat (first | with_reducible (first | exact World.gained_refl _ | exact ⟨_, rfl⟩ | apply gain_ext | apply gain_alloc | apply gain_drewN | apply gain_drew) | (refine gain_setCell ?_ (by first | exact Nat.le_refl _ | exact World.size_ext _ _ | (simp; done) | (simp; omega)) _))), ?_, ?_, ?_, ?_, ?_, only_gain HG2.out (by repeat (first | with_reducible (first | exact World.gained_refl _ | exact ⟨_, rfl⟩ | apply gain_ext | apply gain_alloc | apply gain_drewN | apply gain_drew) | (refine gain_setCell ?_ (by first | exact Nat.le_refl _ | exact World.size_ext _ _ | (simp; done) | (simp; omega)) _))), hgw, Nat.le_refl _, by omega, by omega, by decide, hWw⟩
    · exact row_up HR2.out (by repeat (first | with_reducible (first | exact World.gained_refl _ | exact ⟨_, rfl⟩ | apply gain_ext | apply gain_alloc | apply gain_drewN | apply gain_drew) | (refine gain_setCell ?_ (by first | exact Nat.le_refl _ | exact World.size_ext _ _ | (simp; done) | (simp; omega)) _)))
    · have := heap_alloc_new ((w2.alloc (.cells #[] 3)).alloc (.cells #[] 3)) (.cells #[.int .i64 (2 + r1), .int .i64 (1 + r2), .slice (some ⟨w2.heap.size, 0, none⟩) 0 0, .slice (some ⟨w2.heap.size + 1, 0, none⟩) 0 0] 26)
      rw [World.size_alloc, World.size_alloc] at this
      exact this
    · exact own_up (own_lit' (w := w2) (C := #[]) (l := ([] : List Int)) intC_length rfl rfl hs2) (by repeat (first | with_reducible (first | exact World.gained_refl _ | exact ⟨_, rfl⟩ | apply gain_ext | apply gain_alloc | apply gain_drewN | apply gain_drew) | (refine gain_setCell ?_ (by first | exact Nat.le_refl _ | exact World.size_ext _ _ | (simp; done) | (simp; omega)) _)))
    · exact own_up (own_lit' (w := w2.alloc (.cells #[] 3)) (C := #[]) (l := ([] : List Int)) intC_length rfl (by rw [World.size_alloc]) (by rw [World.size_alloc]; omega)) (by repeat (first | with_reducible (first | exact World.gained_refl _ | exact ⟨_, rfl⟩ | apply gain_ext | apply gain_alloc | apply gain_drewN | apply gain_drew) | (refine gain_setCell ?_ (by first | exact Nat.le_refl _ | exact World.size_ext _ _ | (simp; done) | (simp; omega)) _)))
    · intro q hq hv
      simp only [Value.ownBlock, Option.some.injEq] at hq hv
      omega
  generalize w2.heap.size + 1 + 1 = gM at HST ⊢
  have hw3 : IntKind.i64.wrap (2 + r1 + 1) = 2 + r1 + 1 := IntWalk.i64_in _ (by omega)
  clear hN a1 a2 b1 b2
  go_loopw [4] (fun i wr => ∃ (k : Nat) (rv cv : Value) (rl cl : List Int), k ≤ N ∧ i = .int .i64 k ∧ rl.length = k ∧ cl.length = k ∧ MSt 60 26 3 W w wr g w.heap.size gM (n + 4 + 6 * k) (2 + r1) (1 + r2) rv cv rl cl) (fun i _ => N - (intOf i).toNat)
  case atStart => exact ⟨0, _, _, [], [], by omega, rfl, rfl, rfl, HST.out⟩
  case round =>
    obtain ⟨k, rv, cv, rl, cl, hk, rfl, hrl, hcl, hst⟩ := hrel
    obtain ⟨pr, nr, kr, rfl⟩ := own_form hst.r
    obtain ⟨pc, nc, kc, rfl⟩ := own_form hst.c
    have HS := Lib.hid hst
    have HRL := Lib.hid hrl
    have HCL := Lib.hid hcl
    have bx0 : wr.cell? ⟨gM, 0, none⟩ = some (.int .i64 (2 + r1)) := World.cell_of_heap hst.box 0
    have bx1 : wr.cell? ⟨gM, 1, none⟩ = some (.int .i64 (1 + r2)) := World.cell_of_heap hst.box 1
    have obx := World.oldB_of_cell bx0
    clear hst hrl hcl
    by_cases hlt : k < N
    · have hlz : decide ((k : Int) < (N : Int)) = true := decide_eq_true (by omega)
      go_wp2_with fail
      refine (among_any W _ g _ _ [1, 1, 1, 2, 3, 0, 1, 2] w.heap.size (HS.out.cur.gain (by repeat (first | with_reducible (first | exact World.gained_refl _ | exact ⟨_, rfl⟩ | apply gain_ext | apply gain_alloc | apply gain_drewN | apply gain_drew) | (refine gain_setCell ?_ (by first | exact Nat.le_refl _ | exact World.size_ext _ _ | (simp; done) | (simp; omega)) _)))) (by omega) (own_lit' (l := [1, 1, 1, 2, 3, 0, 1, 2]) intC_length rfl rfl HS.out.size) hgw (by simp) (by simp)).mono ?_
      rintro e wa ⟨ra, rfl, -, hca, hga⟩
      have HSA := Lib.hid ((HS.out.up (by repeat (first | with_reducible (first | exact World.gained_refl _ | exact ⟨_, rfl⟩ | apply gain_ext | apply gain_alloc | apply gain_drewN | apply gain_drew) | (refine gain_setCell ?_ (by first | exact Nat.le_refl _ | exact World.size_ext _ _ | (simp; done) | (simp; omega)) _)))).on hca hga)
      clear hca hga bx0 bx1 obx
      go_wp2_with fail
      refine (among_any W _ g _ _ [0, 0, 1, 2, 2, 5] w.heap.size (HSA.out.cur.gain (by repeat (first | with_reducible (first | exact World.gained_refl _ | exact ⟨_, rfl⟩ | apply gain_ext | apply gain_alloc | apply gain_drewN | apply gain_drew) | (refine gain_setCell ?_ (by first | exact Nat.le_refl _ | exact World.size_ext _ _ | (simp; done) | (simp; omega)) _)))) (by omega) (own_lit' (l := [0, 0, 1, 2, 2, 5]) intC_length rfl rfl HSA.out.size) hgw (by simp) (by simp)).mono ?_
      rintro e wb ⟨rb, rfl, -, hcb, hgb⟩
      have HSB := Lib.hid ((HSA.out.up (by repeat (first | with_reducible (first | exact World.gained_refl _ | exact ⟨_, rfl⟩ | apply gain_ext | apply gain_alloc | apply gain_drewN | apply gain_drew) | (refine gain_setCell ?_ (by first | exact Nat.le_refl _ | exact World.size_ext _ _ | (simp; done) | (simp; omega)) _)))).on hcb hgb)
      clear hcb hgb
      cases h0 : ra == 0 with
      | false =>
        have bx2 : wb.cell? ⟨gM, 2, none⟩ = some (.slice pr nr kr) := World.cell_of_heap HSB.out.box 2
        have bx3 : wb.cell? ⟨gM, 3, none⟩ = some (.slice pc nc kc) := World.cell_of_heap HSB.out.box 3
        have oby := World.oldB_of_cell bx3
        have HUP := Lib.hid HSB.out.cur.up
        go_wp2_with (first | (at_builtin; (refine wpList_append_where (W := W) (base := w.heap.size) (m := [ra]) rfl (.tmp 39) (.tmp 41) rfl Tryz.underlying24 info_int (by rfl) (by omega) intC_length intC_one (by omega) (gain_trans HUP.out (by repeat (first | with_reducible (first | exact World.gained_refl _ | exact ⟨_, rfl⟩ | apply gain_ext | apply gain_alloc | apply gain_drewN | apply gain_drew) | (refine gain_setCell ?_ (by first | exact Nat.le_refl _ | exact World.size_ext _ _ | (simp; done) | (simp; omega)) _)))) hWw (Nat.le_trans HSB.out.size (gain_size (by repeat (first | with_reducible (first | exact World.gained_refl _ | exact ⟨_, rfl⟩ | apply gain_ext | apply gain_alloc | apply gain_drewN | apply gain_drew) | (refine gain_setCell ?_ (by first | exact Nat.le_refl _ | exact World.size_ext _ _ | (simp; done) | (simp; omega)) _))))) rfl rfl (own_up (HSB.out.c) (by repeat (first | with_reducible (first | exact World.gained_refl _ | exact ⟨_, rfl⟩ | apply gain_ext | apply gain_alloc | apply gain_drewN | apply gain_drew) | (refine gain_setCell ?_ (by first | exact Nat.le_refl _ | exact World.size_ext _ _ | (simp; done) | (simp; omega)) _)))) (sl_lit (l := [ra]) intC_length rfl (by simp)) (by simp) (by have := HCL.out; simp; omega) ?_); intro v' d' ho hg hwh; obtain ⟨pv, nv, kv, rfl⟩ := own_form ho; have HS2 := Lib.hid ((HSB.out.up (by repeat (first | with_reducible (first | exact World.gained_refl _ | exact ⟨_, rfl⟩ | apply gain_ext | apply gain_alloc | apply gain_drewN | apply gain_drew) | (refine gain_setCell ?_ (by first | exact Nat.le_refl _ | exact World.size_ext _ _ | (simp; done) | (simp; omega)) _)))).appC ho hg hwh ⟨_, rfl⟩); have hrow := (HSB.out.up (by repeat (first | with_reducible (first | exact World.gained_refl _ | exact ⟨_, rfl⟩ | apply gain_ext | apply gain_alloc | apply gain_drewN | apply gain_drew) | (refine gain_setCell ?_ (by first | exact Nat.le_refl _ | exact World.size_ext _ _ | (simp; done) | (simp; omega)) _)))).rowC hg ⟨_, rfl⟩; have bq : (W.ext d').cell? ⟨gM, 3, none⟩ = some (.slice pc nc kc) := World.cell_of_heap hrow 3; have zq : (W.ext d').frozen? ⟨gM, 3, none⟩ = false := World.free_of_heap hrow 3; have obq := World.oldB_of_cell bq; have bq2 : ((W.ext d').setCell ⟨gM, 3, none⟩ (.slice pv nv kv)).cell? ⟨gM, 2, none⟩ = some (.slice pr nr kr) := World.cell_of_heap HS2.out.box 2; clear hrow ho hg hwh; have HUP2 := Lib.hid HS2.out.cur.up) | (at_builtin; (refine wpList_append_where (W := W) (base := w.heap.size) (m := [rb]) rfl (.tmp 45) (.tmp 47) rfl Tryz.underlying24 info_int (by rfl) (by omega) intC_length intC_one (by omega) (gain_trans HUP2.out (by repeat (first | with_reducible (first | exact World.gained_refl _ | exact ⟨_, rfl⟩ | apply gain_ext | apply gain_alloc | apply gain_drewN | apply gain_drew) | (refine gain_setCell ?_ (by first | exact Nat.le_refl _ | exact World.size_ext _ _ | (simp; done) | (simp; omega)) _)))) hWw (Nat.le_trans HS2.out.size (gain_size (by repeat (first | with_reducible (first | exact World.gained_refl _ | exact ⟨_, rfl⟩ | apply gain_ext | apply gain_alloc | apply gain_drewN | apply gain_drew) | (refine gain_setCell ?_ (by first | exact Nat.le_refl _ | exact World.size_ext _ _ | (simp; done) | (simp; omega)) _))))) rfl rfl (own_up (HS2.out.r) (by repeat (first | with_reducible (first | exact World.gained_refl _ | exact ⟨_, rfl⟩ | apply gain_ext | apply gain_alloc | apply gain_drewN | apply gain_drew) | (refine gain_setCell ?_ (by first | exact Nat.le_refl _ | exact World.size_ext _ _ | (simp; done) | (simp; omega)) _)))) (sl_lit (l := [rb]) intC_length rfl (by simp)) (by simp) (by have := HRL.out; simp; omega) ?_); intro v2 d2 ho hg hwh; obtain ⟨pv2, nv2, kv2, rfl⟩ := own_form ho; have HS3 := Lib.hid ((HS2.out.up (by repeat (first | with_reducible (first | exact World.gained_refl _ | exact ⟨_, rfl⟩ | apply gain_ext | apply gain_alloc | apply gain_drewN | apply gain_drew) | (refine gain_setCell ?_ (by first | exact Nat.le_refl _ | exact World.size_ext _ _ | (simp; done) | (simp; omega)) _)))).appR ho hg hwh ⟨_, rfl⟩); have hrow := (HS2.out.up (by repeat (first | with_reducible (first | exact World.gained_refl _ | exact ⟨_, rfl⟩ | apply gain_ext | apply gain_alloc | apply gain_drewN | apply gain_drew) | (refine gain_setCell ?_ (by first | exact Nat.le_refl _ | exact World.size_ext _ _ | (simp; done) | (simp; omega)) _)))).rowR hg ⟨_, rfl⟩; have bq3 : (W.ext d2).cell? ⟨gM, 2, none⟩ = some (.slice pr nr kr) := World.cell_of_heap hrow 2; have zq3 : (W.ext d2).frozen? ⟨gM, 2, none⟩ = false := World.free_of_heap hrow 2; have obq3 := World.oldB_of_cell bq3; clear hrow ho hg hwh))
        go_roundw
        case rel => exact ⟨k + 1, _, _, _, _, by omega, by go_num, by simp [HRL.out], by simp [HCL.out], HS3.out.le (by omega)⟩
        case measure => simp [intOf]; omega
      | true =>
        go_wp2_with fail
        refine (one_any W _ g _ _ HSB.out.cur (by omega)).mono ?_
        rintro e wc ⟨rc, rfl, hcc, hgc⟩
        have HSC := Lib.hid (HSB.out.on hcc hgc)
        clear hcc hgc
        cases rc with
        | false =>
          have bx2 : wc.cell? ⟨gM, 2, none⟩ = some (.slice pr nr kr) := World.cell_of_heap HSC.out.box 2
          have bx3 : wc.cell? ⟨gM, 3, none⟩ = some (.slice pc nc kc) := World.cell_of_heap HSC.out.box 3
          have oby := World.oldB_of_cell bx3
          have HUP := Lib.hid HSC.out.cur.up
          go_wp2_with (first | (at_builtin; (refine wpList_append_where (W := W) (base := w.heap.size) (m := [ra]) rfl (.tmp 39) (.tmp 41) rfl Tryz.underlying24 info_int (by rfl) (by omega) intC_length intC_one (by omega) (gain_trans HUP.out (by repeat (first | with_reducible (first | exact World.gained_refl _ | exact ⟨_, rfl⟩ | apply gain_ext | apply gain_alloc | apply gain_drewN | apply gain_drew) | (refine gain_setCell ?_ (by first | exact Nat.le_refl _ | exact World.size_ext _ _ | (simp; done) | (simp; omega)) _)))) hWw (Nat.le_trans HSC.out.size (gain_size (by repeat (first | with_reducible (first | exact World.gained_refl _ | exact ⟨_, rfl⟩ | apply gain_ext | apply gain_alloc | apply gain_drewN | apply gain_drew) | (refine gain_setCell ?_ (by first | exact Nat.le_refl _ | exact World.size_ext _ _ | (simp; done) | (simp; omega)) _))))) rfl rfl (own_up (HSC.out.c) (by repeat (first | with_reducible (first | exact World.gained_refl _ | exact ⟨_, rfl⟩ | apply gain_ext | apply gain_alloc | apply gain_drewN | apply gain_drew) | (refine gain_setCell ?_ (by first | exact Nat.le_refl _ | exact World.size_ext _ _ | (simp; done) | (simp; omega)) _)))) (sl_lit (l := [ra]) intC_length rfl (by simp)) (by simp) (by have := HCL.out; simp; omega) ?_); intro v' d' ho hg hwh; obtain ⟨pv, nv, kv, rfl⟩ := own_form ho; have HS2 := Lib.hid ((HSC.out.up (by repeat (first | with_reducible (first | exact World.gained_refl _ | exact ⟨_, rfl⟩ | apply gain_ext | apply gain_alloc | apply gain_drewN | apply gain_drew) | (refine gain_setCell ?_ (by first | exact Nat.le_refl _ | exact World.size_ext _ _ | (simp; done) | (simp; omega)) _)))).appC ho hg hwh ⟨_, rfl⟩); have hrow := (HSC.out.up (by repeat (first | with_reducible (first | exact World.gained_refl _ | exact ⟨_, rfl⟩ | apply gain_ext | apply gain_alloc | apply gain_drewN | apply gain_drew) | (refine gain_setCell ?_ (by first | exact Nat.le_refl _ | exact World.size_ext _ _ | (simp; done) | (simp; omega)) _)))).rowC hg ⟨_, rfl⟩; have bq : (W.ext d').cell? ⟨gM, 3, none⟩ = some (.slice pc nc kc) := World.cell_of_heap hrow 3; have zq : (W.ext d').frozen? ⟨gM, 3, none⟩ = false := World.free_of_heap hrow 3; have obq := World.oldB_of_cell bq; have bq2 : ((W.ext d').setCell ⟨gM, 3, none⟩ (.slice pv nv kv)).cell? ⟨gM, 2, none⟩ = some (.slice pr nr kr) := World.cell_of_heap HS2.out.box 2; clear hrow ho hg hwh; have HUP2 := Lib.hid HS2.out.cur.up) | (at_builtin; (refine wpList_append_where (W := W) (base := w.heap.size) (m := [0]) rfl (.tmp 45) (.tmp 47) rfl Tryz.underlying24 info_int (by rfl) (by omega) intC_length intC_one (by omega) (gain_trans HUP2.out (by repeat (first | with_reducible (first | exact World.gained_refl _ | exact ⟨_, rfl⟩ | apply gain_ext | apply gain_alloc | apply gain_drewN | apply gain_drew) | (refine gain_setCell ?_ (by first | exact Nat.le_refl _ | exact World.size_ext _ _ | (simp; done) | (simp; omega)) _)))) hWw (Nat.le_trans HS2.out.size (gain_size (by repeat (first | with_reducible (first | exact World.gained_refl _ | exact ⟨_, rfl⟩ | apply gain_ext | apply gain_alloc | apply gain_drewN | apply gain_drew) | (refine gain_setCell ?_ (by first | exact Nat.le_refl _ | exact World.size_ext _ _ | (simp; done) | (simp; omega)) _))))) rfl rfl (own_up (HS2.out.r) (by repeat (first | with_reducible (first | exact World.gained_refl _ | exact ⟨_, rfl⟩ | apply gain_ext | apply gain_alloc | apply gain_drewN | apply gain_drew) | (refine gain_setCell ?_ (by first | exact Nat.le_refl _ | exact World.size_ext _ _ | (simp; done) | (simp; omega)) _)))) (sl_lit (l := [0]) intC_length rfl (by simp)) (by simp) (by have := HRL.out; simp; omega) ?_); intro v2 d2 ho hg hwh; obtain ⟨pv2, nv2, kv2, rfl⟩ := own_form ho; have HS3 := Lib.hid ((HS2.out.up (by repeat (first | with_reducible (first | exact World.gained_refl _ | exact ⟨_, rfl⟩ | apply gain_ext | apply gain_alloc | apply gain_drewN | apply gain_drew) | (refine gain_setCell ?_ (by first | exact Nat.le_refl _ | exact World.size_ext _ _ | (simp; done) | (simp; omega)) _)))).appR ho hg hwh ⟨_, rfl⟩); have hrow := (HS2.out.up (by repeat (first | with_reducible (first | exact World.gained_refl _ | exact ⟨_, rfl⟩ | apply gain_ext | apply gain_alloc | apply gain_drewN | apply gain_drew) | (refine gain_setCell ?_ (by first | exact Nat.le_refl _ | exact World.size_ext _ _ | (simp; done) | (simp; omega)) _)))).rowR hg ⟨_, rfl⟩; have bq3 : (W.ext d2).cell? ⟨gM, 2, none⟩ = some (.slice pr nr kr) := World.cell_of_heap hrow 2; have zq3 : (W.ext d2).frozen? ⟨gM, 2, none⟩ = false := World.free_of_heap hrow 2; have obq3 := World.oldB_of_cell bq3; clear hrow ho hg hwh))
          go_roundw
          case rel => exact ⟨k + 1, _, _, _, _, by omega, by go_num, by simp [HRL.out], by simp [HCL.out], HS3.out.le (by omega)⟩
          case measure => simp [intOf]; omega
        | true =>
          have bx2 : wc.cell? ⟨gM, 2, none⟩ = some (.slice pr nr kr) := World.cell_of_heap HSC.out.box 2
          have bx3 : wc.cell? ⟨gM, 3, none⟩ = some (.slice pc nc kc) := World.cell_of_heap HSC.out.box 3
          have oby := World.oldB_of_cell bx3
          have HUP := Lib.hid HSC.out.cur.up
          go_wp2_with (first | (at_builtin; (refine wpList_append_where (W := W) (base := w.heap.size) (m := [ra]) rfl (.tmp 39) (.tmp 41) rfl Tryz.underlying24 info_int (by rfl) (by omega) intC_length intC_one (by omega) (gain_trans HUP.out (by repeat (first | with_reducible (first | exact World.gained_refl _ | exact ⟨_, rfl⟩ | apply gain_ext | apply gain_alloc | apply gain_drewN | apply gain_drew) | (refine gain_setCell ?_ (by first | exact Nat.le_refl _ | exact World.size_ext _ _ | (simp; done) | (simp; omega)) _)))) hWw (Nat.le_trans HSC.out.size (gain_size (by repeat (first | with_reducible (first | exact World.gained_refl _ | exact ⟨_, rfl⟩ | apply gain_ext | apply gain_alloc | apply gain_drewN | apply gain_drew) | (refine gain_setCell ?_ (by first | exact Nat.le_refl _ | exact World.size_ext _ _ | (simp; done) | (simp; omega)) _))))) rfl rfl (own_up (HSC.out.c) (by repeat (first | with_reducible (first | exact World.gained_refl _ | exact ⟨_, rfl⟩ | apply gain_ext | apply gain_alloc | apply gain_drewN | apply gain_drew) | (refine gain_setCell ?_ (by first | exact Nat.le_refl _ | exact World.size_ext _ _ | (simp; done) | (simp; omega)) _)))) (sl_lit (l := [ra]) intC_length rfl (by simp)) (by simp) (by have := HCL.out; simp; omega) ?_); intro v' d' ho hg hwh; obtain ⟨pv, nv, kv, rfl⟩ := own_form ho; have HS2 := Lib.hid ((HSC.out.up (by repeat (first | with_reducible (first | exact World.gained_refl _ | exact ⟨_, rfl⟩ | apply gain_ext | apply gain_alloc | apply gain_drewN | apply gain_drew) | (refine gain_setCell ?_ (by first | exact Nat.le_refl _ | exact World.size_ext _ _ | (simp; done) | (simp; omega)) _)))).appC ho hg hwh ⟨_, rfl⟩); have hrow := (HSC.out.up (by repeat (first | with_reducible (first | exact World.gained_refl _ | exact ⟨_, rfl⟩ | apply gain_ext | apply gain_alloc | apply gain_drewN | apply gain_drew) | (refine gain_setCell ?_ (by first | exact Nat.le_refl _ | exact World.size_ext _ _ | (simp; done) | (simp; omega)) _)))).rowC hg ⟨_, rfl⟩; have bq : (W.ext d').cell? ⟨gM, 3, none⟩ = some (.slice pc nc kc) := World.cell_of_heap hrow 3; have zq : (W.ext d').frozen? ⟨gM, 3, none⟩ = false := World.free_of_heap hrow 3; have obq := World.oldB_of_cell bq; have bq2 : ((W.ext d').setCell ⟨gM, 3, none⟩ (.slice pv nv kv)).cell? ⟨gM, 2, none⟩ = some (.slice pr nr kr) := World.cell_of_heap HS2.out.box 2; clear hrow ho hg hwh; have HUP2 := Lib.hid HS2.out.cur.up) | (at_builtin; (refine wpList_append_where (W := W) (base := w.heap.size) (m := [rb]) rfl (.tmp 45) (.tmp 47) rfl Tryz.underlying24 info_int (by rfl) (by omega) intC_length intC_one (by omega) (gain_trans HUP2.out (by repeat (first | with_reducible (first | exact World.gained_refl _ | exact ⟨_, rfl⟩ | apply gain_ext | apply gain_alloc | apply gain_drewN | apply gain_drew) | (refine gain_setCell ?_ (by first | exact Nat.le_refl _ | exact World.size_ext _ _ | (simp; done) | (simp; omega)) _)))) hWw (Nat.le_trans HS2.out.size (gain_size (by repeat (first | with_reducible (first | exact World.gained_refl _ | exact ⟨_, rfl⟩ | apply gain_ext | apply gain_alloc | apply gain_drewN | apply gain_drew) | (refine gain_setCell ?_ (by first | exact Nat.le_refl _ | exact World.size_ext _ _ | (simp; done) | (simp; omega)) _))))) rfl rfl (own_up (HS2.out.r) (by repeat (first | with_reducible (first | exact World.gained_refl _ | exact ⟨_, rfl⟩ | apply gain_ext | apply gain_alloc | apply gain_drewN | apply gain_drew) | (refine gain_setCell ?_ (by first | exact Nat.le_refl _ | exact World.size_ext _ _ | (simp; done) | (simp; omega)) _)))) (sl_lit (l := [rb]) intC_length rfl (by simp)) (by simp) (by have := HRL.out; simp; omega) ?_); intro v2 d2 ho hg hwh; obtain ⟨pv2, nv2, kv2, rfl⟩ := own_form ho; have HS3 := Lib.hid ((HS2.out.up (by repeat (first | with_reducible (first | exact World.gained_refl _ | exact ⟨_, rfl⟩ | apply gain_ext | apply gain_alloc | apply gain_drewN | apply gain_drew) | (refine gain_setCell ?_ (by first | exact Nat.le_refl _ | exact World.size_ext _ _ | (simp; done) | (simp; omega)) _)))).appR ho hg hwh ⟨_, rfl⟩); have hrow := (HS2.out.up (by repeat (first | with_reducible (first | exact World.gained_refl _ | exact ⟨_, rfl⟩ | apply gain_ext | apply gain_alloc | apply gain_drewN | apply gain_drew) | (refine gain_setCell ?_ (by first | exact Nat.le_refl _ | exact World.size_ext _ _ | (simp; done) | (simp; omega)) _)))).rowR hg ⟨_, rfl⟩; have bq3 : (W.ext d2).cell? ⟨gM, 2, none⟩ = some (.slice pr nr kr) := World.cell_of_heap hrow 2; have zq3 : (W.ext d2).frozen? ⟨gM, 2, none⟩ = false := World.free_of_heap hrow 2; have obq3 := World.oldB_of_cell bq3; clear hrow ho hg hwh))
          go_roundw
          case rel => exact ⟨k + 1, _, _, _, _, by omega, by go_num, by simp [HRL.out], by simp [HCL.out], HS3.out.le (by omega)⟩
          case measure => simp [intOf]; omega
    · obtain rfl : k = N := by omega
      have hlz : decide ((k : Int) < (k : Int)) = false := decide_eq_false (by omega)
      have hl0 : 0 < cl.length := by rw [HCL.out]; omega
      have hr0 : 0 < rl.length := by rw [HRL.out]; omega
      go_wp2_with fail
      refine (pick_any W _ g _ _ HS.out.cur (by omega)).mono ?_
      rintro e wp ⟨rp, rfl, -, -, hcp, hgp⟩
      have HSP := Lib.hid (HS.out.on hcp hgp)
      clear hcp hgp bx0 bx1 obx
      cases h0 : rp == 0 with
      | true =>
        have bp0 : wp.cell? ⟨gM, 0, none⟩ = some (.int .i64 (2 + r1)) := World.cell_of_heap HSP.out.box 0
        have obp := World.oldB_of_cell bp0
        go_wp2_with fail
        refine (among_any W _ g _ _ [0, 7, 2 + r1 + 1] w.heap.size (HSP.out.cur.gain (by repeat (first | with_reducible (first | exact World.gained_refl _ | exact ⟨_, rfl⟩ | apply gain_ext | apply gain_alloc | apply gain_drewN | apply gain_drew) | (refine gain_setCell ?_ (by first | exact Nat.le_refl _ | exact World.size_ext _ _ | (simp; done) | (simp; omega)) _)))) (by omega) (own_lit' (l := [0, 7, 2 + r1 + 1]) intC_length rfl rfl HSP.out.size) hgw (by simp) (by simp)).mono ?_
        rintro e wq ⟨rq, rfl, -, hcq, hgq⟩
        have HSQ := Lib.hid ((HSP.out.up (by repeat (first | with_reducible (first | exact World.gained_refl _ | exact ⟨_, rfl⟩ | apply gain_ext | apply gain_alloc | apply gain_drewN | apply gain_drew) | (refine gain_setCell ?_ (by first | exact Nat.le_refl _ | exact World.size_ext _ _ | (simp; done) | (simp; omega)) _)))).on hcq hgq)
        have HSE := Lib.hid (HSQ.out.putW rq)
        have bq0 : wq.cell? ⟨gM, 0, none⟩ = some (.int .i64 (2 + r1)) := World.cell_of_heap HSQ.out.box 0
        have zq0 : wq.frozen? ⟨gM, 0, none⟩ = false := World.free_of_heap HSQ.out.box 0
        have obq := World.oldB_of_cell bq0
        clear hcq hgq bp0 obp
        have ex0 : (wq.setCell ⟨gM, 0, none⟩ (.int .i64 rq)).cell? ⟨gM, 0, none⟩ = some (.int .i64 rq) := World.cell_of_heap HSE.out.box 0
        have ex1 : (wq.setCell ⟨gM, 0, none⟩ (.int .i64 rq)).cell? ⟨gM, 1, none⟩ = some (.int .i64 (1 + r2)) := World.cell_of_heap HSE.out.box 1
        have ex2 : (wq.setCell ⟨gM, 0, none⟩ (.int .i64 rq)).cell? ⟨gM, 2, none⟩ = some (.slice pr nr kr) := World.cell_of_heap HSE.out.box 2
        have ex3 : (wq.setCell ⟨gM, 0, none⟩ (.int .i64 rq)).cell? ⟨gM, 3, none⟩ = some (.slice pc nc kc) := World.cell_of_heap HSE.out.box 3
        have ey0 : (wq.setCell ⟨gM, 0, none⟩ (.int .i64 rq)).cell? ⟨w.heap.size, 0, none⟩ = some (.int .i64 0) := World.cell_of_heap HSE.out.res 0
        have ey1 : (wq.setCell ⟨gM, 0, none⟩ (.int .i64 rq)).cell? ⟨w.heap.size, 1, none⟩ = some (.int .i64 0) := World.cell_of_heap HSE.out.res 1
        have ey2 : (wq.setCell ⟨gM, 0, none⟩ (.int .i64 rq)).cell? ⟨w.heap.size, 2, none⟩ = some (.slice none 0 0) := World.cell_of_heap HSE.out.res 2
        have ey3 : (wq.setCell ⟨gM, 0, none⟩ (.int .i64 rq)).cell? ⟨w.heap.size, 3, none⟩ = some (.slice none 0 0) := World.cell_of_heap HSE.out.res 3
        have ez0 : (wq.setCell ⟨gM, 0, none⟩ (.int .i64 rq)).frozen? ⟨w.heap.size, 0, none⟩ = false := World.free_of_heap HSE.out.res 0
        have ez1 : (wq.setCell ⟨gM, 0, none⟩ (.int .i64 rq)).frozen? ⟨w.heap.size, 1, none⟩ = false := World.free_of_heap HSE.out.res 1
        have ez2 : (wq.setCell ⟨gM, 0, none⟩ (.int .i64 rq)).frozen? ⟨w.heap.size, 2, none⟩ = false := World.free_of_heap HSE.out.res 2
        have ez3 : (wq.setCell ⟨gM, 0, none⟩ (.int .i64 rq)).frozen? ⟨w.heap.size, 3, none⟩ = false := World.free_of_heap HSE.out.res 3
        have eob := World.oldB_of_cell ex0
        have eoc := World.oldB_of_cell ey0
        have gw0 := World.heap_setCell_row HSE.out.res 0 (.int .i64 rq)
        have gc0 : ((wq.setCell ⟨gM, 0, none⟩ (.int .i64 rq)).setCell ⟨w.heap.size, 0, none⟩ (.int .i64 rq)).cell? ⟨w.heap.size, 0, none⟩ = some (.int .i64 rq) := World.cell_of_heap gw0 0
        have gw1 := World.heap_setCell_row gw0 1 (.int .i64 (1 + r2))
        have gc1 : (((wq.setCell ⟨gM, 0, none⟩ (.int .i64 rq)).setCell ⟨w.heap.size, 0, none⟩ (.int .i64 rq)).setCell ⟨w.heap.size, 1, none⟩ (.int .i64 (1 + r2))).cell? ⟨w.heap.size, 1, none⟩ = some (.int .i64 (1 + r2)) := World.cell_of_heap gw1 1
        have gw2 := World.heap_setCell_row gw1 2 (.slice pr nr kr)
        have gc2 : ((((wq.setCell ⟨gM, 0, none⟩ (.int .i64 rq)).setCell ⟨w.heap.size, 0, none⟩ (.int .i64 rq)).setCell ⟨w.heap.size, 1, none⟩ (.int .i64 (1 + r2))).setCell ⟨w.heap.size, 2, none⟩ (.slice pr nr kr)).cell? ⟨w.heap.size, 2, none⟩ = some (.slice pr nr kr) := World.cell_of_heap gw2 2
        have gw3 := World.heap_setCell_row gw2 3 (.slice pc nc kc)
        have gc3 : (((((wq.setCell ⟨gM, 0, none⟩ (.int .i64 rq)).setCell ⟨w.heap.size, 0, none⟩ (.int .i64 rq)).setCell ⟨w.heap.size, 1, none⟩ (.int .i64 (1 + r2))).setCell ⟨w.heap.size, 2, none⟩ (.slice pr nr kr)).setCell ⟨w.heap.size, 3, none⟩ (.slice pc nc kc)).cell? ⟨w.heap.size, 3, none⟩ = some (.slice pc nc kc) := World.cell_of_heap gw3 3
        clear gw0 gw1 gw2 gw3
        go_wp2
        refine bodyPost_ret (v := .agg #[.int .i64 rq, .int .i64 (1 + r2), (.slice pr nr kr), (.slice pc nc kc)]) (by simp [results, Tryz.results87, go_sem, gc0, gc1, gc2, gc3]) rfl ?_
        refine ⟨⟨rq, 1 + r2, rl, cl⟩, _, _, rfl, ?_⟩
        exact HSE.out.fin (by repeat (first | exact only_refl _ _ | refine only_setCell ?_ rfl _)) (by omega) (by simp [HRL.out]; omega) (by simp [HCL.out]; omega)
      | false =>
        cases h1 : rp == 1 with
        | true =>
          obtain ⟨gl, cap, hv, hgl, -⟩ := own_addr HSP.out.c hl0
          injection hv with ev1 ev2 ev3
          subst ev1 ev2 ev3
          have HSP2 := Lib.hid HSP.out
          have bp := World.cell_of_heap HSP.out.box 3
          have bp : wp.cell? ⟨gM, 3, none⟩ = some (.slice (some ⟨gl, 0, none⟩) cl.length kc) := World.cell_of_heap HSP.out.box 3
          have obp := World.oldB_of_cell bp
          go_upto_region 15 with fail
          refine wp_region_held_drew (S := (fun w' => w'.cell? ⟨gM, 3, none⟩ = some (.slice (some ⟨gl, 0, none⟩) cl.length kc))) (by kernel_rfl) (by (try dsimp only); (with_reducible (repeat (first | assumption | refine cell_ext ?_ _ | refine cell_drew ?_ | refine cell_alloc ?_ _)))) (fun hHeld => ?_)
          refine wpAnyH_take (i := 0) (oi := ⟨_, _, _, _, _, _⟩) (v := ?_) rfl (by kernel_rfl) (by kernel_rfl) (by kernel_rfl) (fun _ _ _ h => h) (Or.inl ⟨by rfl, ?_⟩) (by assumption) ?_
          rotate_left
          · intro w hSw; (try dsimp only at hSw); go_simp; (try with_reducible rfl)
          try simp only [Act.put, List.setIfInBounds_toArray, List.set_cons_zero, List.set_cons_succ]
          refine wpAnyH_take (i := 1) (oi := ⟨_, _, _, _, _, _⟩) (v := ?_) rfl (by kernel_rfl) (by kernel_rfl) (by kernel_rfl) (fun _ _ _ h => h) (Or.inl ⟨by rfl, ?_⟩) (by assumption) ?_
          rotate_left
          · intro w hSw; (try dsimp only at hSw); go_simp; (try with_reducible rfl)
          try simp only [Act.put, List.setIfInBounds_toArray, List.set_cons_zero, List.set_cons_succ]
          refine wpAnyH_take (i := 2) (oi := ⟨_, _, _, _, _, _⟩) (v := ?_) rfl (by kernel_rfl) (by kernel_rfl) (by kernel_rfl) (fun _ _ _ h => h) (Or.inl ⟨by rfl, ?_⟩) (by assumption) ?_
          rotate_left
          · intro w hSw; (try dsimp only at hSw); go_simp; (try with_reducible rfl)
          try simp only [Act.put, List.setIfInBounds_toArray, List.set_cons_zero, List.set_cons_succ]
          refine wpAnyH_ready (rs := [3]) (by kernel_rfl) (by simp) ?_
          refine AllReadyH.cons rfl (fun K hK => ?_) AllReadyH.nil
          go_simp
          refine hK.out _ _ ?_ (fun hHeld => ?_)
          · (try dsimp only); (with_reducible (repeat (first | assumption | refine cell_ext ?_ _ | refine cell_drew ?_ | refine cell_alloc ?_ _)))
          clear hK K
          try simp only [Act.put, List.setIfInBounds_toArray, List.set_cons_zero, List.set_cons_succ]
          refine wpAnyH_ready (rs := [4]) (by kernel_rfl) (by simp) ?_
          refine AllReadyH.cons rfl (fun K hK => ?_) AllReadyH.nil
          go_simp
          go_wp2_with fail
          refine (among_any W _ g _ _ [-1, 10, 9] w.heap.size (HSP.out.cur.gain (by repeat (first | with_reducible (first | exact World.gained_refl _ | exact ⟨_, rfl⟩ | apply gain_ext | apply gain_alloc | apply gain_drewN | apply gain_drew) | (refine gain_setCell ?_ (by first | exact Nat.le_refl _ | exact World.size_ext _ _ | (simp; done) | (simp; omega)) _)))) (by omega) (own_up (own_lit' (w := wp) (C := #[.int .i64 (-1), .int .i64 10, .int .i64 9]) (l := [-1, 10, 9]) intC_length rfl rfl HSP.out.size) (by repeat (first | with_reducible (first | exact World.gained_refl _ | exact ⟨_, rfl⟩ | apply gain_ext | apply gain_alloc | apply gain_drewN | apply gain_drew) | (refine gain_setCell ?_ (by first | exact Nat.le_refl _ | exact World.size_ext _ _ | (simp; done) | (simp; omega)) _)))) hgw (by simp) (by simp)).mono ?_
          rintro e wq ⟨rq, rfl, -, hcq, hgq⟩
          have HSQ := Lib.hid ((HSP.out.up (by repeat (first | with_reducible (first | exact World.gained_refl _ | exact ⟨_, rfl⟩ | apply gain_ext | apply gain_alloc | apply gain_drewN | apply gain_drew) | (refine gain_setCell ?_ (by first | exact Nat.le_refl _ | exact World.size_ext _ _ | (simp; done) | (simp; omega)) _)))).on hcq hgq)
          have ck4 : wq.cell? ⟨gM, 3, none⟩ = some (.slice (some ⟨gl, 0, none⟩) cl.length kc) := World.cell_of_heap HSQ.out.box 3
          clear hcq hgq
          (try dsimp only)
          refine hK.out _ _ ?_ (fun hHeld => ?_)
          · (try dsimp only); (with_reducible (repeat (first | assumption | refine cell_ext ?_ _ | refine cell_drew ?_ | refine cell_alloc ?_ _)))
          clear hK K
          try simp only [Act.put, List.setIfInBounds_toArray, List.set_cons_zero, List.set_cons_succ]
          obtain ⟨t0, z0⟩ := own_at HSQ.out.c (k := 0) hl0
          have obr := World.oldB_of_cell t0
          have HSE := Lib.hid (HSQ.out.setC hl0 rq)
          have ck5 : (wq.setCell ⟨gl, 0, none⟩ (.int .i64 rq)).cell? ⟨gM, 3, none⟩ = some (.slice (some ⟨gl, 0, none⟩) cl.length kc) := World.cell_of_heap HSE.out.box 3
          refine wpAnyH_take (i := 5) (oi := ⟨_, _, _, _, _, _⟩) (v := ?_) rfl (by kernel_rfl) (by kernel_rfl) (by kernel_rfl) (fun _ _ _ h => h) (Or.inl ⟨by rfl, ?_⟩) (by assumption) ?_
          rotate_left
          · intro w hSw; (try dsimp only at hSw); go_simp; (try with_reducible rfl)
          try simp only [Act.put, List.setIfInBounds_toArray, List.set_cons_zero, List.set_cons_succ]
          refine wpAnyH_ready (rs := [6]) (by kernel_rfl) (by simp) ?_
          refine AllReadyH.cons rfl (fun K hK => ?_) AllReadyH.nil
          go_simp
          refine hK.out _ _ ?_ (fun hHeld => ?_)
          · (try dsimp only); (with_reducible (repeat (first | assumption | refine cell_ext ?_ _ | refine cell_drew ?_ | refine cell_alloc ?_ _)))
          clear hK K
          try simp only [Act.put, List.setIfInBounds_toArray, List.set_cons_zero, List.set_cons_succ]
          refine wpAnyH_done (by kernel_rfl) ?_ _
          clear bp obp ck4 ck5 t0 z0 obr
          have ex0 : (wq.setCell ⟨gl, 0, none⟩ (.int .i64 rq)).cell? ⟨gM, 0, none⟩ = some (.int .i64 (2 + r1)) := World.cell_of_heap HSE.out.box 0
          have ex1 : (wq.setCell ⟨gl, 0, none⟩ (.int .i64 rq)).cell? ⟨gM, 1, none⟩ = some (.int .i64 (1 + r2)) := World.cell_of_heap HSE.out.box 1
          have ex2 : (wq.setCell ⟨gl, 0, none⟩ (.int .i64 rq)).cell? ⟨gM, 2, none⟩ = some (.slice pr nr kr) := World.cell_of_heap HSE.out.box 2
          have ex3 : (wq.setCell ⟨gl, 0, none⟩ (.int .i64 rq)).cell? ⟨gM, 3, none⟩ = some (.slice (some ⟨gl, 0, none⟩) cl.length kc) := World.cell_of_heap HSE.out.box 3
          have ey0 : (wq.setCell ⟨gl, 0, none⟩ (.int .i64 rq)).cell? ⟨w.heap.size, 0, none⟩ = some (.int .i64 0) := World.cell_of_heap HSE.out.res 0
          have ey1 : (wq.setCell ⟨gl, 0, none⟩ (.int .i64 rq)).cell? ⟨w.heap.size, 1, none⟩ = some (.int .i64 0) := World.cell_of_heap HSE.out.res 1
          have ey2 : (wq.setCell ⟨gl, 0, none⟩ (.int .i64 rq)).cell? ⟨w.heap.size, 2, none⟩ = some (.slice none 0 0) := World.cell_of_heap HSE.out.res 2
          have ey3 : (wq.setCell ⟨gl, 0, none⟩ (.int .i64 rq)).cell? ⟨w.heap.size, 3, none⟩ = some (.slice none 0 0) := World.cell_of_heap HSE.out.res 3
          have ez0 : (wq.setCell ⟨gl, 0, none⟩ (.int .i64 rq)).frozen? ⟨w.heap.size, 0, none⟩ = false := World.free_of_heap HSE.out.res 0
          have ez1 : (wq.setCell ⟨gl, 0, none⟩ (.int .i64 rq)).frozen? ⟨w.heap.size, 1, none⟩ = false := World.free_of_heap HSE.out.res 1
          have ez2 : (wq.setCell ⟨gl, 0, none⟩ (.int .i64 rq)).frozen? ⟨w.heap.size, 2, none⟩ = false := World.free_of_heap HSE.out.res 2
          have ez3 : (wq.setCell ⟨gl, 0, none⟩ (.int .i64 rq)).frozen? ⟨w.heap.size, 3, none⟩ = false := World.free_of_heap HSE.out.res 3
          have eob := World.oldB_of_cell ex0
          have eoc := World.oldB_of_cell ey0
          have gw0 := World.heap_setCell_row HSE.out.res 0 (.int .i64 (2 + r1))
          have gc0 : ((wq.setCell ⟨gl, 0, none⟩ (.int .i64 rq)).setCell ⟨w.heap.size, 0, none⟩ (.int .i64 (2 + r1))).cell? ⟨w.heap.size, 0, none⟩ = some (.int .i64 (2 + r1)) := World.cell_of_heap gw0 0
          have gw1 := World.heap_setCell_row gw0 1 (.int .i64 (1 + r2))
          have gc1 : (((wq.setCell ⟨gl, 0, none⟩ (.int .i64 rq)).setCell ⟨w.heap.size, 0, none⟩ (.int .i64 (2 + r1))).setCell ⟨w.heap.size, 1, none⟩ (.int .i64 (1 + r2))).cell? ⟨w.heap.size, 1, none⟩ = some (.int .i64 (1 + r2)) := World.cell_of_heap gw1 1
          have gw2 := World.heap_setCell_row gw1 2 (.slice pr nr kr)
          have gc2 : ((((wq.setCell ⟨gl, 0, none⟩ (.int .i64 rq)).setCell ⟨w.heap.size, 0, none⟩ (.int .i64 (2 + r1))).setCell ⟨w.heap.size, 1, none⟩ (.int .i64 (1 + r2))).setCell ⟨w.heap.size, 2, none⟩ (.slice pr nr kr)).cell? ⟨w.heap.size, 2, none⟩ = some (.slice pr nr kr) := World.cell_of_heap gw2 2
          have gw3 := World.heap_setCell_row gw2 3 (.slice (some ⟨gl, 0, none⟩) cl.length kc)
          have gc3 : (((((wq.setCell ⟨gl, 0, none⟩ (.int .i64 rq)).setCell ⟨w.heap.size, 0, none⟩ (.int .i64 (2 + r1))).setCell ⟨w.heap.size, 1, none⟩ (.int .i64 (1 + r2))).setCell ⟨w.heap.size, 2, none⟩ (.slice pr nr kr)).setCell ⟨w.heap.size, 3, none⟩ (.slice (some ⟨gl, 0, none⟩) cl.length kc)).cell? ⟨w.heap.size, 3, none⟩ = some (.slice (some ⟨gl, 0, none⟩) cl.length kc) := World.cell_of_heap gw3 3
          clear gw0 gw1 gw2 gw3
          go_wp2
          refine bodyPost_ret (v := .agg #[.int .i64 (2 + r1), .int .i64 (1 + r2), (.slice pr nr kr), (.slice (some ⟨gl, 0, none⟩) cl.length kc)]) (by simp [results, Tryz.results87, go_sem, gc0, gc1, gc2, gc3]) rfl ?_
          refine ⟨⟨(2 + r1), 1 + r2, rl, (cl.set 0 rq)⟩, _, _, rfl, ?_⟩
          exact HSE.out.fin (by repeat (first | exact only_refl _ _ | refine only_setCell ?_ rfl _)) (by omega) (by simp [HRL.out]; omega) (by simp [HCL.out]; omega)
        | false =>
          cases h2 : rp == 2 with
          | true =>
            obtain ⟨gl, cap, hv, hgl, -⟩ := own_addr HSP.out.r hr0
            injection hv with ev1 ev2 ev3
            subst ev1 ev2 ev3
            have HSP2 := Lib.hid HSP.out
            have bp := World.cell_of_heap HSP.out.box 2
            have bp : wp.cell? ⟨gM, 2, none⟩ = some (.slice (some ⟨gl, 0, none⟩) rl.length kr) := World.cell_of_heap HSP.out.box 2
            have obp := World.oldB_of_cell bp
            go_upto_region 17 with fail
            refine wp_region_held_drew (S := (fun w' => w'.cell? ⟨gM, 2, none⟩ = some (.slice (some ⟨gl, 0, none⟩) rl.length kr))) (by kernel_rfl) (by (try dsimp only); (with_reducible (repeat (first | assumption | refine cell_ext ?_ _ | refine cell_drew ?_ | refine cell_alloc ?_ _)))) (fun hHeld => ?_)
            refine wpAnyH_take (i := 0) (oi := ⟨_, _, _, _, _, _⟩) (v := ?_) rfl (by kernel_rfl) (by kernel_rfl) (by kernel_rfl) (fun _ _ _ h => h) (Or.inl ⟨by rfl, ?_⟩) (by assumption) ?_
            rotate_left
            · intro w hSw; (try dsimp only at hSw); go_simp; (try with_reducible rfl)
            try simp only [Act.put, List.setIfInBounds_toArray, List.set_cons_zero, List.set_cons_succ]
            refine wpAnyH_take (i := 1) (oi := ⟨_, _, _, _, _, _⟩) (v := ?_) rfl (by kernel_rfl) (by kernel_rfl) (by kernel_rfl) (fun _ _ _ h => h) (Or.inl ⟨by rfl, ?_⟩) (by assumption) ?_
            rotate_left
            · intro w hSw; (try dsimp only at hSw); go_simp; (try with_reducible rfl)
            try simp only [Act.put, List.setIfInBounds_toArray, List.set_cons_zero, List.set_cons_succ]
            refine wpAnyH_take (i := 2) (oi := ⟨_, _, _, _, _, _⟩) (v := ?_) rfl (by kernel_rfl) (by kernel_rfl) (by kernel_rfl) (fun _ _ _ h => h) (Or.inl ⟨by rfl, ?_⟩) (by assumption) ?_
            rotate_left
            · intro w hSw; (try dsimp only at hSw); go_simp; (try with_reducible rfl)
            try simp only [Act.put, List.setIfInBounds_toArray, List.set_cons_zero, List.set_cons_succ]
            refine wpAnyH_ready (rs := [3]) (by kernel_rfl) (by simp) ?_
            refine AllReadyH.cons rfl (fun K hK => ?_) AllReadyH.nil
            go_simp
            refine hK.out _ _ ?_ (fun hHeld => ?_)
            · (try dsimp only); (with_reducible (repeat (first | assumption | refine cell_ext ?_ _ | refine cell_drew ?_ | refine cell_alloc ?_ _)))
            clear hK K
            try simp only [Act.put, List.setIfInBounds_toArray, List.set_cons_zero, List.set_cons_succ]
            refine wpAnyH_ready (rs := [4]) (by kernel_rfl) (by simp) ?_
            refine AllReadyH.cons rfl (fun K hK => ?_) AllReadyH.nil
            go_simp
            go_wp2_with fail
            refine (among_any W _ g _ _ [-1, 10, 9] w.heap.size (HSP.out.cur.gain (by repeat (first | with_reducible (first | exact World.gained_refl _ | exact ⟨_, rfl⟩ | apply gain_ext | apply gain_alloc | apply gain_drewN | apply gain_drew) | (refine gain_setCell ?_ (by first | exact Nat.le_refl _ | exact World.size_ext _ _ | (simp; done) | (simp; omega)) _)))) (by omega) (own_up (own_lit' (w := wp) (C := #[.int .i64 (-1), .int .i64 10, .int .i64 9]) (l := [-1, 10, 9]) intC_length rfl rfl HSP.out.size) (by repeat (first | with_reducible (first | exact World.gained_refl _ | exact ⟨_, rfl⟩ | apply gain_ext | apply gain_alloc | apply gain_drewN | apply gain_drew) | (refine gain_setCell ?_ (by first | exact Nat.le_refl _ | exact World.size_ext _ _ | (simp; done) | (simp; omega)) _)))) hgw (by simp) (by simp)).mono ?_
            rintro e wq ⟨rq, rfl, -, hcq, hgq⟩
            have HSQ := Lib.hid ((HSP.out.up (by repeat (first | with_reducible (first | exact World.gained_refl _ | exact ⟨_, rfl⟩ | apply gain_ext | apply gain_alloc | apply gain_drewN | apply gain_drew) | (refine gain_setCell ?_ (by first | exact Nat.le_refl _ | exact World.size_ext _ _ | (simp; done) | (simp; omega)) _)))).on hcq hgq)
            have ck4 : wq.cell? ⟨gM, 2, none⟩ = some (.slice (some ⟨gl, 0, none⟩) rl.length kr) := World.cell_of_heap HSQ.out.box 2
            clear hcq hgq
            (try dsimp only)
            refine hK.out _ _ ?_ (fun hHeld => ?_)
            · (try dsimp only); (with_reducible (repeat (first | assumption | refine cell_ext ?_ _ | refine cell_drew ?_ | refine cell_alloc ?_ _)))
            clear hK K
            try simp only [Act.put, List.setIfInBounds_toArray, List.set_cons_zero, List.set_cons_succ]
            obtain ⟨t0, z0⟩ := own_at HSQ.out.r (k := 0) hr0
            have obr := World.oldB_of_cell t0
            have HSE := Lib.hid (HSQ.out.setR hr0 rq)
            have ck5 : (wq.setCell ⟨gl, 0, none⟩ (.int .i64 rq)).cell? ⟨gM, 2, none⟩ = some (.slice (some ⟨gl, 0, none⟩) rl.length kr) := World.cell_of_heap HSE.out.box 2
            refine wpAnyH_take (i := 5) (oi := ⟨_, _, _, _, _, _⟩) (v := ?_) rfl (by kernel_rfl) (by kernel_rfl) (by kernel_rfl) (fun _ _ _ h => h) (Or.inl ⟨by rfl, ?_⟩) (by assumption) ?_
            rotate_left
            · intro w hSw; (try dsimp only at hSw); go_simp; (try with_reducible rfl)
            try simp only [Act.put, List.setIfInBounds_toArray, List.set_cons_zero, List.set_cons_succ]
            refine wpAnyH_ready (rs := [6]) (by kernel_rfl) (by simp) ?_
            refine AllReadyH.cons rfl (fun K hK => ?_) AllReadyH.nil
            go_simp
            refine hK.out _ _ ?_ (fun hHeld => ?_)
            · (try dsimp only); (with_reducible (repeat (first | assumption | refine cell_ext ?_ _ | refine cell_drew ?_ | refine cell_alloc ?_ _)))
            clear hK K
            try simp only [Act.put, List.setIfInBounds_toArray, List.set_cons_zero, List.set_cons_succ]
            refine wpAnyH_done (by kernel_rfl) ?_ _
            clear bp obp ck4 ck5 t0 z0 obr
            have ex0 : (wq.setCell ⟨gl, 0, none⟩ (.int .i64 rq)).cell? ⟨gM, 0, none⟩ = some (.int .i64 (2 + r1)) := World.cell_of_heap HSE.out.box 0
            have ex1 : (wq.setCell ⟨gl, 0, none⟩ (.int .i64 rq)).cell? ⟨gM, 1, none⟩ = some (.int .i64 (1 + r2)) := World.cell_of_heap HSE.out.box 1
            have ex2 : (wq.setCell ⟨gl, 0, none⟩ (.int .i64 rq)).cell? ⟨gM, 2, none⟩ = some (.slice (some ⟨gl, 0, none⟩) rl.length kr) := World.cell_of_heap HSE.out.box 2
            have ex3 : (wq.setCell ⟨gl, 0, none⟩ (.int .i64 rq)).cell? ⟨gM, 3, none⟩ = some (.slice pc nc kc) := World.cell_of_heap HSE.out.box 3
            have ey0 : (wq.setCell ⟨gl, 0, none⟩ (.int .i64 rq)).cell? ⟨w.heap.size, 0, none⟩ = some (.int .i64 0) := World.cell_of_heap HSE.out.res 0
            have ey1 : (wq.setCell ⟨gl, 0, none⟩ (.int .i64 rq)).cell? ⟨w.heap.size, 1, none⟩ = some (.int .i64 0) := World.cell_of_heap HSE.out.res 1
            have ey2 : (wq.setCell ⟨gl, 0, none⟩ (.int .i64 rq)).cell? ⟨w.heap.size, 2, none⟩ = some (.slice none 0 0) := World.cell_of_heap HSE.out.res 2
            have ey3 : (wq.setCell ⟨gl, 0, none⟩ (.int .i64 rq)).cell? ⟨w.heap.size, 3, none⟩ = some (.slice none 0 0) := World.cell_of_heap HSE.out.res 3
            have ez0 : (wq.setCell ⟨gl, 0, none⟩ (.int .i64 rq)).frozen? ⟨w.heap.size, 0, none⟩ = false := World.free_of_heap HSE.out.res 0
            have ez1 : (wq.setCell ⟨gl, 0, none⟩ (.int .i64 rq)).frozen? ⟨w.heap.size, 1, none⟩ = false := World.free_of_heap HSE.out.res 1
            have ez2 : (wq.setCell ⟨gl, 0, none⟩ (.int .i64 rq)).frozen? ⟨w.heap.size, 2, none⟩ = false := World.free_of_heap HSE.out.res 2
            have ez3 : (wq.setCell ⟨gl, 0, none⟩ (.int .i64 rq)).frozen? ⟨w.heap.size, 3, none⟩ = false := World.free_of_heap HSE.out.res 3
            have eob := World.oldB_of_cell ex0
            have eoc := World.oldB_of_cell ey0
            have gw0 := World.heap_setCell_row HSE.out.res 0 (.int .i64 (2 + r1))
            have gc0 : ((wq.setCell ⟨gl, 0, none⟩ (.int .i64 rq)).setCell ⟨w.heap.size, 0, none⟩ (.int .i64 (2 + r1))).cell? ⟨w.heap.size, 0, none⟩ = some (.int .i64 (2 + r1)) := World.cell_of_heap gw0 0
            have gw1 := World.heap_setCell_row gw0 1 (.int .i64 (1 + r2))
            have gc1 : (((wq.setCell ⟨gl, 0, none⟩ (.int .i64 rq)).setCell ⟨w.heap.size, 0, none⟩ (.int .i64 (2 + r1))).setCell ⟨w.heap.size, 1, none⟩ (.int .i64 (1 + r2))).cell? ⟨w.heap.size, 1, none⟩ = some (.int .i64 (1 + r2)) := World.cell_of_heap gw1 1
            have gw2 := World.heap_setCell_row gw1 2 (.slice (some ⟨gl, 0, none⟩) rl.length kr)
            have gc2 : ((((wq.setCell ⟨gl, 0, none⟩ (.int .i64 rq)).setCell ⟨w.heap.size, 0, none⟩ (.int .i64 (2 + r1))).setCell ⟨w.heap.size, 1, none⟩ (.int .i64 (1 + r2))).setCell ⟨w.heap.size, 2, none⟩ (.slice (some ⟨gl, 0, none⟩) rl.length kr)).cell? ⟨w.heap.size, 2, none⟩ = some (.slice (some ⟨gl, 0, none⟩) rl.length kr) := World.cell_of_heap gw2 2
            have gw3 := World.heap_setCell_row gw2 3 (.slice pc nc kc)
            have gc3 : (((((wq.setCell ⟨gl, 0, none⟩ (.int .i64 rq)).setCell ⟨w.heap.size, 0, none⟩ (.int .i64 (2 + r1))).setCell ⟨w.heap.size, 1, none⟩ (.int .i64 (1 + r2))).setCell ⟨w.heap.size, 2, none⟩ (.slice (some ⟨gl, 0, none⟩) rl.length kr)).setCell ⟨w.heap.size, 3, none⟩ (.slice pc nc kc)).cell? ⟨w.heap.size, 3, none⟩ = some (.slice pc nc kc) := World.cell_of_heap gw3 3
            clear gw0 gw1 gw2 gw3
            go_wp2
            refine bodyPost_ret (v := .agg #[.int .i64 (2 + r1), .int .i64 (1 + r2), (.slice (some ⟨gl, 0, none⟩) rl.length kr), (.slice pc nc kc)]) (by simp [results, Tryz.results87, go_sem, gc0, gc1, gc2, gc3]) rfl ?_
            refine ⟨⟨(2 + r1), 1 + r2, (rl.set 0 rq), cl⟩, _, _, rfl, ?_⟩
            exact HSE.out.fin (by repeat (first | exact only_refl _ _ | refine only_setCell ?_ rfl _)) (by omega) (by simp [HRL.out]; omega) (by simp [HCL.out]; omega)
          | false =>
            cases h3 : rp == 3 with
            | true =>
              have bx2 : wp.cell? ⟨gM, 2, none⟩ = some (.slice pr nr kr) := World.cell_of_heap HSP.out.box 2
              have oby := World.oldB_of_cell bx2
              have HUP := Lib.hid HSP.out.cur.up
              go_upto_region 20 with (at_builtin; refine wpList_append_where (W := W) (base := w.heap.size) (m := [0]) rfl (.tmp 80) (.tmp 81) rfl Tryz.underlying24 info_int (by rfl) (by omega) intC_length intC_one (by omega) (gain_trans HUP.out (by repeat (first | with_reducible (first | exact World.gained_refl _ | exact ⟨_, rfl⟩ | apply gain_ext | apply gain_alloc | apply gain_drewN | apply gain_drew) | (refine gain_setCell ?_ (by first | exact Nat.le_refl _ | exact World.size_ext _ _ | (simp; done) | (simp; omega)) _)))) hWw (Nat.le_trans HSP.out.size (gain_size (by repeat (first | with_reducible (first | exact World.gained_refl _ | exact ⟨_, rfl⟩ | apply gain_ext | apply gain_alloc | apply gain_drewN | apply gain_drew) | (refine gain_setCell ?_ (by first | exact Nat.le_refl _ | exact World.size_ext _ _ | (simp; done) | (simp; omega)) _))))) rfl rfl (own_up (HSP.out.r) (by repeat (first | with_reducible (first | exact World.gained_refl _ | exact ⟨_, rfl⟩ | apply gain_ext | apply gain_alloc | apply gain_drewN | apply gain_drew) | (refine gain_setCell ?_ (by first | exact Nat.le_refl _ | exact World.size_ext _ _ | (simp; done) | (simp; omega)) _)))) (sl_lit (l := [0]) intC_length rfl (by simp)) (by simp) (by have := HRL.out; simp; omega) ?_; intro v2 d2 ho hg hwh; obtain ⟨pv2, nv2, kv2, rfl⟩ := own_form ho; have HS3 := Lib.hid ((HSP.out.up (by repeat (first | with_reducible (first | exact World.gained_refl _ | exact ⟨_, rfl⟩ | apply gain_ext | apply gain_alloc | apply gain_drewN | apply gain_drew) | (refine gain_setCell ?_ (by first | exact Nat.le_refl _ | exact World.size_ext _ _ | (simp; done) | (simp; omega)) _)))).appR ho hg hwh ⟨_, rfl⟩); have hrow := (HSP.out.up (by repeat (first | with_reducible (first | exact World.gained_refl _ | exact ⟨_, rfl⟩ | apply gain_ext | apply gain_alloc | apply gain_drewN | apply gain_drew) | (refine gain_setCell ?_ (by first | exact Nat.le_refl _ | exact World.size_ext _ _ | (simp; done) | (simp; omega)) _)))).rowR hg ⟨_, rfl⟩; have bq3 : (W.ext d2).cell? ⟨gM, 2, none⟩ = some (.slice pr nr kr) := World.cell_of_heap hrow 2; have zq3 : (W.ext d2).frozen? ⟨gM, 2, none⟩ = false := World.free_of_heap hrow 2; have obq3 := World.oldB_of_cell bq3; clear hrow ho hg hwh)
              have ex0 : ((W.ext d2).setCell ⟨gM, 2, none⟩ (.slice pv2 nv2 kv2)).cell? ⟨gM, 0, none⟩ = some (.int .i64 (2 + r1)) := World.cell_of_heap HS3.out.box 0
              have ex1 : ((W.ext d2).setCell ⟨gM, 2, none⟩ (.slice pv2 nv2 kv2)).cell? ⟨gM, 1, none⟩ = some (.int .i64 (1 + r2)) := World.cell_of_heap HS3.out.box 1
              have ex2 : ((W.ext d2).setCell ⟨gM, 2, none⟩ (.slice pv2 nv2 kv2)).cell? ⟨gM, 2, none⟩ = some (.slice pv2 nv2 kv2) := World.cell_of_heap HS3.out.box 2
              have ex3 : ((W.ext d2).setCell ⟨gM, 2, none⟩ (.slice pv2 nv2 kv2)).cell? ⟨gM, 3, none⟩ = some (.slice pc nc kc) := World.cell_of_heap HS3.out.box 3
              have ey0 : ((W.ext d2).setCell ⟨gM, 2, none⟩ (.slice pv2 nv2 kv2)).cell? ⟨w.heap.size, 0, none⟩ = some (.int .i64 0) := World.cell_of_heap HS3.out.res 0
              have ey1 : ((W.ext d2).setCell ⟨gM, 2, none⟩ (.slice pv2 nv2 kv2)).cell? ⟨w.heap.size, 1, none⟩ = some (.int .i64 0) := World.cell_of_heap HS3.out.res 1
              have ey2 : ((W.ext d2).setCell ⟨gM, 2, none⟩ (.slice pv2 nv2 kv2)).cell? ⟨w.heap.size, 2, none⟩ = some (.slice none 0 0) := World.cell_of_heap HS3.out.res 2
              have ey3 : ((W.ext d2).setCell ⟨gM, 2, none⟩ (.slice pv2 nv2 kv2)).cell? ⟨w.heap.size, 3, none⟩ = some (.slice none 0 0) := World.cell_of_heap HS3.out.res 3
              have ez0 : ((W.ext d2).setCell ⟨gM, 2, none⟩ (.slice pv2 nv2 kv2)).frozen? ⟨w.heap.size, 0, none⟩ = false := World.free_of_heap HS3.out.res 0
              have ez1 : ((W.ext d2).setCell ⟨gM, 2, none⟩ (.slice pv2 nv2 kv2)).frozen? ⟨w.heap.size, 1, none⟩ = false := World.free_of_heap HS3.out.res 1
              have ez2 : ((W.ext d2).setCell ⟨gM, 2, none⟩ (.slice pv2 nv2 kv2)).frozen? ⟨w.heap.size, 2, none⟩ = false := World.free_of_heap HS3.out.res 2
              have ez3 : ((W.ext d2).setCell ⟨gM, 2, none⟩ (.slice pv2 nv2 kv2)).frozen? ⟨w.heap.size, 3, none⟩ = false := World.free_of_heap HS3.out.res 3
              have eob := World.oldB_of_cell ex0
              have eoc := World.oldB_of_cell ey0
              have gw0 := World.heap_setCell_row HS3.out.res 0 (.int .i64 (2 + r1))
              have gc0 : (((W.ext d2).setCell ⟨gM, 2, none⟩ (.slice pv2 nv2 kv2)).setCell ⟨w.heap.size, 0, none⟩ (.int .i64 (2 + r1))).cell? ⟨w.heap.size, 0, none⟩ = some (.int .i64 (2 + r1)) := World.cell_of_heap gw0 0
              have gw1 := World.heap_setCell_row gw0 1 (.int .i64 (1 + r2))
              have gc1 : ((((W.ext d2).setCell ⟨gM, 2, none⟩ (.slice pv2 nv2 kv2)).setCell ⟨w.heap.size, 0, none⟩ (.int .i64 (2 + r1))).setCell ⟨w.heap.size, 1, none⟩ (.int .i64 (1 + r2))).cell? ⟨w.heap.size, 1, none⟩ = some (.int .i64 (1 + r2)) := World.cell_of_heap gw1 1
              have gw2 := World.heap_setCell_row gw1 2 (.slice pv2 nv2 kv2)
              have gc2 : (((((W.ext d2).setCell ⟨gM, 2, none⟩ (.slice pv2 nv2 kv2)).setCell ⟨w.heap.size, 0, none⟩ (.int .i64 (2 + r1))).setCell ⟨w.heap.size, 1, none⟩ (.int .i64 (1 + r2))).setCell ⟨w.heap.size, 2, none⟩ (.slice pv2 nv2 kv2)).cell? ⟨w.heap.size, 2, none⟩ = some (.slice pv2 nv2 kv2) := World.cell_of_heap gw2 2
              have gw3 := World.heap_setCell_row gw2 3 (.slice pc nc kc)
              have gc3 : ((((((W.ext d2).setCell ⟨gM, 2, none⟩ (.slice pv2 nv2 kv2)).setCell ⟨w.heap.size, 0, none⟩ (.int .i64 (2 + r1))).setCell ⟨w.heap.size, 1, none⟩ (.int .i64 (1 + r2))).setCell ⟨w.heap.size, 2, none⟩ (.slice pv2 nv2 kv2)).setCell ⟨w.heap.size, 3, none⟩ (.slice pc nc kc)).cell? ⟨w.heap.size, 3, none⟩ = some (.slice pc nc kc) := World.cell_of_heap gw3 3
              clear gw0 gw1 gw2 gw3
              go_wp2
              refine bodyPost_ret (v := .agg #[.int .i64 (2 + r1), .int .i64 (1 + r2), (.slice pv2 nv2 kv2), (.slice pc nc kc)]) (by simp [results, Tryz.results87, go_sem, gc0, gc1, gc2, gc3]) rfl ?_
              refine ⟨⟨(2 + r1), 1 + r2, (rl ++ [0]), cl⟩, _, _, rfl, ?_⟩
              exact HS3.out.fin (by repeat (first | exact only_refl _ _ | refine only_setCell ?_ rfl _)) (by omega) (by simp [HRL.out]; omega) (by simp [HCL.out]; omega)
            | false =>
              have ex0 : wp.cell? ⟨gM, 0, none⟩ = some (.int .i64 (2 + r1)) := World.cell_of_heap HSP.out.box 0
              have ex1 : wp.cell? ⟨gM, 1, none⟩ = some (.int .i64 (1 + r2)) := World.cell_of_heap HSP.out.box 1
              have ex2 : wp.cell? ⟨gM, 2, none⟩ = some (.slice pr nr kr) := World.cell_of_heap HSP.out.box 2
              have ex3 : wp.cell? ⟨gM, 3, none⟩ = some (.slice pc nc kc) := World.cell_of_heap HSP.out.box 3
              have ey0 : wp.cell? ⟨w.heap.size, 0, none⟩ = some (.int .i64 0) := World.cell_of_heap HSP.out.res 0
              have ey1 : wp.cell? ⟨w.heap.size, 1, none⟩ = some (.int .i64 0) := World.cell_of_heap HSP.out.res 1
              have ey2 : wp.cell? ⟨w.heap.size, 2, none⟩ = some (.slice none 0 0) := World.cell_of_heap HSP.out.res 2
              have ey3 : wp.cell? ⟨w.heap.size, 3, none⟩ = some (.slice none 0 0) := World.cell_of_heap HSP.out.res 3
              have ez0 : wp.frozen? ⟨w.heap.size, 0, none⟩ = false := World.free_of_heap HSP.out.res 0
              have ez1 : wp.frozen? ⟨w.heap.size, 1, none⟩ = false := World.free_of_heap HSP.out.res 1
              have ez2 : wp.frozen? ⟨w.heap.size, 2, none⟩ = false := World.free_of_heap HSP.out.res 2
              have ez3 : wp.frozen? ⟨w.heap.size, 3, none⟩ = false := World.free_of_heap HSP.out.res 3
              have eob := World.oldB_of_cell ex0
              have eoc := World.oldB_of_cell ey0
              have gw0 := World.heap_setCell_row HSP.out.res 0 (.int .i64 (2 + r1))
              have gc0 : (wp.setCell ⟨w.heap.size, 0, none⟩ (.int .i64 (2 + r1))).cell? ⟨w.heap.size, 0, none⟩ = some (.int .i64 (2 + r1)) := World.cell_of_heap gw0 0
              have gw1 := World.heap_setCell_row gw0 1 (.int .i64 (1 + r2))
              have gc1 : ((wp.setCell ⟨w.heap.size, 0, none⟩ (.int .i64 (2 + r1))).setCell ⟨w.heap.size, 1, none⟩ (.int .i64 (1 + r2))).cell? ⟨w.heap.size, 1, none⟩ = some (.int .i64 (1 + r2)) := World.cell_of_heap gw1 1
              have gw2 := World.heap_setCell_row gw1 2 (.slice pr nr kr)
              have gc2 : (((wp.setCell ⟨w.heap.size, 0, none⟩ (.int .i64 (2 + r1))).setCell ⟨w.heap.size, 1, none⟩ (.int .i64 (1 + r2))).setCell ⟨w.heap.size, 2, none⟩ (.slice pr nr kr)).cell? ⟨w.heap.size, 2, none⟩ = some (.slice pr nr kr) := World.cell_of_heap gw2 2
              have gw3 := World.heap_setCell_row gw2 3 (.slice pc nc kc)
              have gc3 : ((((wp.setCell ⟨w.heap.size, 0, none⟩ (.int .i64 (2 + r1))).setCell ⟨w.heap.size, 1, none⟩ (.int .i64 (1 + r2))).setCell ⟨w.heap.size, 2, none⟩ (.slice pr nr kr)).setCell ⟨w.heap.size, 3, none⟩ (.slice pc nc kc)).cell? ⟨w.heap.size, 3, none⟩ = some (.slice pc nc kc) := World.cell_of_heap gw3 3
              clear gw0 gw1 gw2 gw3
              go_wp2
              refine bodyPost_ret (v := .agg #[.int .i64 (2 + r1), .int .i64 (1 + r2), (.slice pr nr kr), (.slice pc nc kc)]) (by simp [results, Tryz.results87, go_sem, gc0, gc1, gc2, gc3]) rfl ?_
              refine ⟨⟨(2 + r1), 1 + r2, rl, cl⟩, _, _, rfl, ?_⟩
              exact HSP.out.fin (by repeat (first | exact only_refl _ _ | refine only_setCell ?_ rfl _)) (by omega) (by simp [HRL.out]; omega) (by simp [HCL.out]; omega)
end Go.Proofs.YtmcimgnobimicaaGreat
