/- spec.EnterRunner. Condition: at most 1048576 entries. -/
import Derived.Test.YtnpfghpjlbjpnaaEntRun
namespace Go.Proofs.Ytnpfghpjlbjpnaa
open Go.RowKit Go.Ori
set_option maxHeartbeats 8000000 in
theorem specEnterRunner_any (v : Value) (l : List Ent) (e : Ent) (w : World) (h : w.sl Ent.cells 5 v l) (hl : l.length ≤ 1048576) :
    Calls Try.prog 5 #[v, .agg #[.int .i64 e.runner, .int .i64 e.cls, .int .i64 e.day, .bool e.rent, .int .i64 e.paid]] w fun x w' => ∃ R, x = .returned (.tuple #[R, .bool (entrB l e)]) ∧ (∃ d, w' = w.ext d) ∧ w'.own w.heap.size 30 Ent.cells 5 R (entrL l e) := by
  have hs := Lib.hid h
  obtain ⟨p, c, rfl, _, hcap⟩ := id h
  clear h
  cases hB : entsB l with
  | false =>
    have h0 : entrB l e = false := by simp [entrB, hB]
    have hG := Lib.hid (fun W hL => l11Good_any (.slice p l.length c) l W hL hl)
    rw [entrL_no h0, h0]
    rw [hB] at hG
    clear h0 hB
    go_enter Try.func5, Try.ntmps5
    go_wp2_with (go_at_call 12; refine (hG.out _ (by with_reducible (repeat (first | exact hs.out | refine World.sl_ext Ent.cells_length ?_ _ | refine sl_alloc Ent.cells_length ?_ _ | refine sl_drew ?_)))).mono ?_; rintro x w1 ⟨rfl, d1, rfl⟩)
    go_ret2
    exact ⟨_, rfl, (by repeat (first | with_reducible (first | exact World.gained_refl _ | exact ⟨_, rfl⟩ | apply gain_ext | apply gain_alloc | apply gain_drewN | apply gain_drew) | (refine gain_setCell ?_ (by first | exact Nat.le_refl _ | exact World.size_ext _ _ | (simp; done) | (simp; omega)) _))), own_lit' (l := ([] : List Ent)) Ent.cells_length rfl rfl (gain_size (by repeat (first | with_reducible (first | exact World.gained_refl _ | exact ⟨_, rfl⟩ | apply gain_ext | apply gain_alloc | apply gain_drewN | apply gain_drew) | (refine gain_setCell ?_ (by first | exact Nat.le_refl _ | exact World.size_ext _ _ | (simp; done) | (simp; omega)) _))))⟩
  | true =>
  have hl12 := entsB_len hB
  have hBT : Hid (entrB l e = entsB (entIns l e)) := Lib.hid (by simp [entrB, hB])
  have hLT : Hid (entsB (entIns l e) = true → entrL l e = entIns l e) := Lib.hid (fun h => by simp [entrL, entrB, hB, h])
  have hLF : Hid (entsB (entIns l e) = false → entrL l e = []) := Lib.hid (fun h => by simp [entrL, entrB, hB, h])
  have hAT := Lib.hid (fun k hk h1 h2 => entAt_eq (l := l) (e := e) (k := k) hk h1 h2)
  have hG := Lib.hid (fun W hL => l11Good_any (.slice p l.length c) l W hL hl)
  rw [hBT.out]
  rw [hB] at hG
  clear hB hBT
  go_enter Try.func5, Try.ntmps5
  go_wp2_with fail
  generalize hW1 : w.alloc (.cells #[.int .i64 e.runner, .int .i64 e.cls, .int .i64 e.day, .bool e.rent, .int .i64 e.paid] 30) = W1
  have bx0 : W1.cell? ⟨w.heap.size, 0, none⟩ = some (.int .i64 e.runner) := by rw [← hW1]; simp [go_sem]
  have bx1 : W1.cell? ⟨w.heap.size, 1, none⟩ = some (.int .i64 e.cls) := by rw [← hW1]; simp [go_sem]
  have bx2 : W1.cell? ⟨w.heap.size, 2, none⟩ = some (.int .i64 e.day) := by rw [← hW1]; simp [go_sem]
  have bx3 : W1.cell? ⟨w.heap.size, 3, none⟩ = some (.bool e.rent) := by rw [← hW1]; simp [go_sem]
  have bx4 : W1.cell? ⟨w.heap.size, 4, none⟩ = some (.int .i64 e.paid) := by rw [← hW1]; simp [go_sem]
  have HL1 : Hid (W1.sl Ent.cells 5 (.slice p l.length c) l) := Lib.hid (by rw [← hW1]; exact (by with_reducible (repeat (first | exact hs.out | refine World.sl_ext Ent.cells_length ?_ _ | refine sl_alloc Ent.cells_length ?_ _ | refine sl_drew ?_))))
  have HGW : Hid (∃ d, W1 = w.ext d) := Lib.hid (by rw [← hW1]; exact (by repeat (first | with_reducible (first | exact World.gained_refl _ | exact ⟨_, rfl⟩ | apply gain_ext | apply gain_alloc | apply gain_drewN | apply gain_drew) | (refine gain_setCell ?_ (by first | exact Nat.le_refl _ | exact World.size_ext _ _ | (simp; done) | (simp; omega)) _))))
  have hgw := gain_size HGW.out
  have obx := World.oldB_of_cell bx0
  clear hW1 hs
  refine (hG.out _ (by with_reducible (repeat (first | exact HL1.out | refine World.sl_ext Ent.cells_length ?_ _ | refine sl_alloc Ent.cells_length ?_ _ | refine sl_drew ?_)))).mono ?_
  rintro x w1 ⟨rfl, d1, rfl⟩
  clear hG
  go_wp2_with fail
  go_loopw [6] (fun i_ wr => ∃ k : Nat, k ≤ l.length ∧ i_ = .int .i64 k ∧ (∀ (j : Nat) (hj : j < l.length), j < k → l[j].runner < e.runner) ∧ ∃ d, wr = W1.ext d) (fun i_ _ => l.length - (intOf i_).toNat)
  case atStart => exact ⟨0, by omega, by go_num, by simp, (by repeat (first | with_reducible (first | exact World.gained_refl _ | exact ⟨_, rfl⟩ | apply gain_ext | apply gain_alloc | apply gain_drewN | apply gain_drew) | (refine gain_setCell ?_ (by first | exact Nat.le_refl _ | exact World.size_ext _ _ | (simp; done) | (simp; omega)) _)))⟩
  case round =>
    obtain ⟨k, hk, rfl, hno, d, rfl⟩ := hrel
    have HN := Lib.hid hno
    clear hno
    have hkc : k ≤ c := by omega
    have hk0 : (0 : Int) ≤ (k : Int) := by omega
    have hk1 : (k : Int) ≤ (c : Int) := by omega
    have hk2 : (k : Int) ≤ (l.length : Int) := by omega
    have HL2 := Lib.hid (sl_up Ent.cells_length HL1.out (w' := W1.ext d) ⟨_, rfl⟩)
    by_cases hlt : k < l.length
    · obtain ⟨b, o, rfl⟩ := sl_some HL1.out (by omega)
      have r0 := sl_cells HL2.out hlt (j := 0) (by omega)
      have hltd : decide ((k : Int) < (l.length : Int)) = true := decide_eq_true (by omega)
      have HNX := Lib.hid (fun (h : l[k].runner < e.runner) => (show ∀ (j : Nat) (hj : j < l.length), j < k + 1 → l[j].runner < e.runner from fun j hj hjk => by
        by_cases e1 : j = k
        · subst e1; exact h
        · exact HN.out j hj (by omega)))
      have HST := Lib.hid (fun (h : ¬ l[k].runner < e.runner) => hAT.out k hk HN.out (fun _ => by omega))
      generalize l[k] = y at r0 HNX HST
      simp only [Ent.cells, List.getElem?_cons_zero, Nat.add_zero] at r0
      have obB := World.oldB_of_cell r0
      by_cases hy : y.runner < e.runner
      · have hyd : decide (y.runner < e.runner) = true := decide_eq_true hy
        have HNX2 := Lib.hid (HNX.out hy)
        go_wp2_with fail
        refine wp_region_gain (by kernel_rfl) (by kernel_rfl) ?_
        repeat (first | go_big_quiet_skip | (go_big_quiet_want; go_big_quiet_op; first | go_big_quiet_on))
        refine wpQuiet_nil ?_
        rintro _ ⟨d', rfl⟩
        go_wp2
        go_roundw
        case rel => exact ⟨k + 1, by omega, by go_num, HNX2.out, (by repeat (first | with_reducible (first | exact World.gained_refl _ | exact ⟨_, rfl⟩ | apply gain_ext | apply gain_alloc | apply gain_drewN | apply gain_drew) | (refine gain_setCell ?_ (by first | exact Nat.le_refl _ | exact World.size_ext _ _ | (simp; done) | (simp; omega)) _)))⟩
        case measure => simp [intOf]; omega
      · have hyd : decide (y.runner < e.runner) = false := decide_eq_false hy
        have HE := Lib.hid (HST.out hy)
        clear HNX HST
        have HI : l.take k ++ [e] ++ l.drop k = entIns l e := by rw [entIns, HE.out]
        go_wp2_with fail
        refine wp_region_gain (by kernel_rfl) (by kernel_rfl) ?_
        repeat (first | go_big_quiet_skip | (go_big_quiet_want; go_big_quiet_op; first | go_big_quiet_on))
        refine wpQuiet_nil ?_
        rintro _ ⟨d', rfl⟩
        go_upto_region 6 with fail
        have HGX : Hid (∃ dd, (W1.ext d).ext d' = W1.ext dd) := Lib.hid (by repeat (first | with_reducible (first | exact World.gained_refl _ | exact ⟨_, rfl⟩ | apply gain_ext | apply gain_alloc | apply gain_drewN | apply gain_drew) | (refine gain_setCell ?_ (by first | exact Nat.le_refl _ | exact World.size_ext _ _ | (simp; done) | (simp; omega)) _)))
        generalize (W1.ext d).ext d' = X at HGX ⊢
        have by0 := cell_upE bx0 HGX.out
        have by1 := cell_upE bx1 HGX.out
        have by2 := cell_upE bx2 HGX.out
        have by3 := cell_upE bx3 HGX.out
        have by4 := cell_upE bx4 HGX.out
        have obX := World.oldB_of_cell by0
        have HLX := Lib.hid (sl_up Ent.cells_length HL1.out HGX.out)
        have hXs : W1.heap.size ≤ X.heap.size := gain_size HGX.out
        obtain ⟨A, hA⟩ : ∃ A : Addr, (if c = k then some (⟨b, o, none⟩ : Addr) else some ⟨b, o + k * 5, none⟩) = some A := by split <;> exact ⟨_, rfl⟩
        refine wp_region_held_drew (S := (fun w' => w'.cell? ⟨w.heap.size, 0, none⟩ = some (.int .i64 e.runner) ∧ w'.cell? ⟨w.heap.size, 1, none⟩ = some (.int .i64 e.cls) ∧ w'.cell? ⟨w.heap.size, 2, none⟩ = some (.int .i64 e.day) ∧ w'.cell? ⟨w.heap.size, 3, none⟩ = some (.bool e.rent) ∧ w'.cell? ⟨w.heap.size, 4, none⟩ = some (.int .i64 e.paid))) (by kernel_rfl) (by (try dsimp only); (refine ⟨?_, ?_, ?_, ?_, ?_⟩ <;> (with_reducible (repeat (first | assumption | refine cell_ext ?_ _ | refine cell_drew ?_ | refine cell_alloc ?_ _))))) (fun hHeld => ?_)
        refine wpAnyH_take (i := 1) (oi := ⟨_, _, _, _, _, _⟩) (v := ?_) rfl (by kernel_rfl) (by kernel_rfl) (by kernel_rfl) (fun _ _ _ h => h) (Or.inl ⟨by rfl, ?_⟩) (by assumption) ?_
        rotate_left
        · intro w hSw; (try dsimp only at hSw); go_simp; (try with_reducible rfl)
        try simp only [Act.put, List.setIfInBounds_toArray, List.set_cons_zero, List.set_cons_succ]
        refine wpAnyH_take (i := 2) (oi := ⟨_, _, _, _, _, _⟩) (v := ?_) rfl (by kernel_rfl) (by kernel_rfl) (by kernel_rfl) (fun _ _ _ h => h) (Or.inl ⟨by rfl, ?_⟩) (by assumption) ?_
        rotate_left
        · intro w hSw; (try dsimp only at hSw); go_simp; (try with_reducible rfl)
        try simp only [Act.put, List.setIfInBounds_toArray, List.set_cons_zero, List.set_cons_succ]
        refine wpAnyH_take (i := 3) (oi := ⟨_, _, _, _, _, _⟩) (v := ?_) rfl (by kernel_rfl) (by kernel_rfl) (by kernel_rfl) (fun _ _ _ h => h) (Or.inl ⟨by rfl, ?_⟩) (by assumption) ?_
        rotate_left
        · intro w hSw; (try dsimp only at hSw); go_simp; (try with_reducible rfl)
        try simp only [Act.put, List.setIfInBounds_toArray, List.set_cons_zero, List.set_cons_succ]
        refine wpAnyH_take (i := 5) (oi := ⟨_, _, _, _, _, _⟩) (v := ?_) rfl (by kernel_rfl) (by kernel_rfl) (by kernel_rfl) (fun _ _ _ h => h) (Or.inl ⟨by rfl, ?_⟩) (by assumption) ?_
        rotate_left
        · intro w hSw; (try dsimp only at hSw); go_simp; (try with_reducible rfl)
        try simp only [Act.put, List.setIfInBounds_toArray, List.set_cons_zero, List.set_cons_succ]
        refine wpAnyH_take (i := 8) (oi := ⟨_, _, _, _, _, _⟩) (v := ?_) rfl (by kernel_rfl) (by kernel_rfl) (by kernel_rfl) (fun _ _ _ h => h) (Or.inl ⟨by rfl, ?_⟩) (by assumption) ?_
        rotate_left
        · intro w hSw; (try dsimp only at hSw); go_simp; (try with_reducible rfl)
        try simp only [Act.put, List.setIfInBounds_toArray, List.set_cons_zero, List.set_cons_succ]
        refine wpAnyH_take (i := 9) (oi := ⟨_, _, _, _, _, _⟩) (v := ?_) rfl (by kernel_rfl) (by kernel_rfl) (by kernel_rfl) (fun _ _ _ h => h) (Or.inl ⟨by rfl, ?_⟩) (by assumption) ?_
        rotate_left
        · intro w hSw; (try dsimp only at hSw); go_simp; (try with_reducible rfl)
        try simp only [Act.put, List.setIfInBounds_toArray, List.set_cons_zero, List.set_cons_succ]
        refine wpAnyH_take (i := 10) (oi := ⟨_, _, _, _, _, _⟩) (v := ?_) rfl (by kernel_rfl) (by kernel_rfl) (by kernel_rfl) (fun _ _ _ h => h) (Or.inl ⟨by rfl, ?_⟩) (by assumption) ?_
        rotate_left
        · intro w hSw; (try dsimp only at hSw); go_simp; (try with_reducible rfl)
        try simp only [Act.put, List.setIfInBounds_toArray, List.set_cons_zero, List.set_cons_succ]
        refine wpAnyH_ready (rs := [0, 6]) (by kernel_rfl) (by simp) ?_
        refine AllReadyH.cons rfl (fun K hK => ?_) (AllReadyH.cons rfl (fun K hK => ?_) (AllReadyH.nil))
        · skip
          go_simp
          have HA := Lib.hid (own_lit' (w := X.drew) (e := 30) (base := X.heap.size) (C := #[]) (l := ([] : List Ent)) (g := X.heap.size) Ent.cells_length rfl (by first | rfl | (simp; done) | (simp [World.size_alloc]; done)) (by first | exact Nat.le_refl _ | exact World.size_ext _ _ | (simp; done) | (simp; omega) | (simp [World.size_alloc]; done) | (simp [World.size_alloc]; omega)))
          (try dsimp only)
          refine hK.out _ _ ?_ (fun hHeld => ?_)
          · (try dsimp only); (refine ⟨?_, ?_, ?_, ?_, ?_⟩ <;> (with_reducible (repeat (first | assumption | refine cell_ext ?_ _ | refine cell_drew ?_ | refine cell_alloc ?_ _))))
          clear hK K
          try simp only [Act.put, List.setIfInBounds_toArray]
          refine wpAnyH_ready (rs := [4, 6]) (by kernel_rfl) (by simp) ?_
          refine AllReadyH.cons rfl (fun K hK => ?_) (AllReadyH.cons rfl (fun K hK => ?_) (AllReadyH.nil))
          · skip
            refine step_append_gain (W := X) (w := X.drew.alloc (.cells #[] 30)) (base := X.heap.size) (v := .slice (some ⟨X.heap.size, 0, none⟩) 0 0) (m := l.take k) (u := .slice (some ⟨b, o, none⟩) k c) rfl (.tmp 28) (.tmp 31) rfl Try.underlying26 info_Ent (by rfl) (by omega) Ent.cells_length Ent.cells_one (by omega) (by repeat (first | with_reducible (first | exact World.gained_refl _ | exact ⟨_, rfl⟩ | apply gain_ext | apply gain_alloc | apply gain_drewN | apply gain_drew) | (refine gain_setCell ?_ (by first | exact Nat.le_refl _ | exact World.size_ext _ _ | (simp; done) | (simp; omega)) _))) (Nat.le_refl _) (gain_size (by repeat (first | with_reducible (first | exact World.gained_refl _ | exact ⟨_, rfl⟩ | apply gain_ext | apply gain_alloc | apply gain_drewN | apply gain_drew) | (refine gain_setCell ?_ (by first | exact Nat.le_refl _ | exact World.size_ext _ _ | (simp; done) | (simp; omega)) _)))) (by first | rfl | (simp; done) | (simp [World.size_alloc]; done)) (by first | rfl | (simp; done) | (simp [World.size_alloc]; done) | (rw [show l.length - k = 0 by omega]; rfl)) (HA.out) (sl_take (by with_reducible (repeat (first | exact HLX.out | refine World.sl_ext Ent.cells_length ?_ _ | refine sl_alloc Ent.cells_length ?_ _ | refine sl_drew ?_))) (by omega)) (by simp; omega) ?_
            intro vA dA hoA hgA
            rw [List.nil_append] at hoA
            have HA1 := Lib.hid hoA
            clear hoA hgA HA
            (try dsimp only)
            refine hK.out _ _ ?_ (fun hHeld => ?_)
            · (try dsimp only); (refine ⟨?_, ?_, ?_, ?_, ?_⟩ <;> (with_reducible (repeat (first | assumption | refine cell_ext ?_ _ | refine cell_drew ?_ | refine cell_alloc ?_ _))))
            clear hK K
            try simp only [Act.put, List.setIfInBounds_toArray]
            refine wpAnyH_ready (rs := [6]) (by kernel_rfl) (by simp) ?_
            refine AllReadyH.cons rfl (fun K hK => ?_) (AllReadyH.nil)
            go_simp
            have HU := Lib.hid (own_lit' (w := (X.ext dA)) (e := 30) (base := X.heap.size) (C := #[.int .i64 e.runner, .int .i64 e.cls, .int .i64 e.day, .bool e.rent, .int .i64 e.paid]) (l := [e]) (g := (X.ext dA).heap.size) Ent.cells_length rfl (by first | rfl | (simp; done) | (simp [World.size_alloc]; done)) (by first | exact Nat.le_refl _ | exact World.size_ext _ _ | (simp; done) | (simp; omega) | (simp [World.size_alloc]; done) | (simp [World.size_alloc]; omega)))
            (try dsimp only)
            refine hK.out _ _ ?_ (fun hHeld => ?_)
            · (try dsimp only); (refine ⟨?_, ?_, ?_, ?_, ?_⟩ <;> (with_reducible (repeat (first | assumption | refine cell_ext ?_ _ | refine cell_drew ?_ | refine cell_alloc ?_ _))))
            clear hK K
            try simp only [Act.put, List.setIfInBounds_toArray]
            refine wpAnyH_ready (rs := [7]) (by kernel_rfl) (by simp) ?_
            refine AllReadyH.cons rfl (fun K hK => ?_) (AllReadyH.nil)
            refine step_append_gain (W := X) (w := (X.ext dA).alloc (.cells #[.int .i64 e.runner, .int .i64 e.cls, .int .i64 e.day, .bool e.rent, .int .i64 e.paid] 30)) (base := X.heap.size) (v := vA) (m := [e]) (u := .slice (some ⟨(X.ext dA).heap.size, 0, none⟩) 1 1) rfl (.tmp 32) (.tmp 34) rfl Try.underlying26 info_Ent (by rfl) (by omega) Ent.cells_length Ent.cells_one (by omega) (by repeat (first | with_reducible (first | exact World.gained_refl _ | exact ⟨_, rfl⟩ | apply gain_ext | apply gain_alloc | apply gain_drewN | apply gain_drew) | (refine gain_setCell ?_ (by first | exact Nat.le_refl _ | exact World.size_ext _ _ | (simp; done) | (simp; omega)) _))) (Nat.le_refl _) (gain_size (by repeat (first | with_reducible (first | exact World.gained_refl _ | exact ⟨_, rfl⟩ | apply gain_ext | apply gain_alloc | apply gain_drewN | apply gain_drew) | (refine gain_setCell ?_ (by first | exact Nat.le_refl _ | exact World.size_ext _ _ | (simp; done) | (simp; omega)) _)))) (by first | rfl | (simp; done) | (simp [World.size_alloc]; done)) (by first | rfl | (simp; done) | (simp [World.size_alloc]; done) | (rw [show l.length - k = 0 by omega]; rfl)) (own_up HA1.out (by repeat (first | with_reducible (first | exact World.gained_refl _ | exact ⟨_, rfl⟩ | apply gain_ext | apply gain_alloc | apply gain_drewN | apply gain_drew) | (refine gain_setCell ?_ (by first | exact Nat.le_refl _ | exact World.size_ext _ _ | (simp; done) | (simp; omega)) _)))) (sl_up Ent.cells_length (sl_of_own Ent.cells_length HU.out) (by repeat (first | with_reducible (first | exact World.gained_refl _ | exact ⟨_, rfl⟩ | apply gain_ext | apply gain_alloc | apply gain_drewN | apply gain_drew) | (refine gain_setCell ?_ (by first | exact Nat.le_refl _ | exact World.size_ext _ _ | (simp; done) | (simp; omega)) _)))) (by simp; omega) ?_
            intro vB dB hoB hgB
            have HA2 := Lib.hid hoB
            clear hoB hgB HA1 HU
            (try dsimp only)
            refine hK.out _ _ ?_ (fun hHeld => ?_)
            · (try dsimp only); (refine ⟨?_, ?_, ?_, ?_, ?_⟩ <;> (with_reducible (repeat (first | assumption | refine cell_ext ?_ _ | refine cell_drew ?_ | refine cell_alloc ?_ _))))
            clear hK K
            try simp only [Act.put, List.setIfInBounds_toArray]
            refine wpAnyH_ready (rs := [11]) (by kernel_rfl) (by simp) ?_
            refine AllReadyH.cons rfl (fun K hK => ?_) (AllReadyH.nil)
            refine step_append_gain (W := X) (w := X.ext dB) (base := X.heap.size) (v := vB) (m := l.drop k) (u := .slice (some A) (l.length - k) (c - k)) rfl (.tmp 35) (.tmp 38) rfl Try.underlying26 info_Ent (by rfl) (by omega) Ent.cells_length Ent.cells_one (by omega) (by repeat (first | with_reducible (first | exact World.gained_refl _ | exact ⟨_, rfl⟩ | apply gain_ext | apply gain_alloc | apply gain_drewN | apply gain_drew) | (refine gain_setCell ?_ (by first | exact Nat.le_refl _ | exact World.size_ext _ _ | (simp; done) | (simp; omega)) _))) (Nat.le_refl _) (gain_size (by repeat (first | with_reducible (first | exact World.gained_refl _ | exact ⟨_, rfl⟩ | apply gain_ext | apply gain_alloc | apply gain_drewN | apply gain_drew) | (refine gain_setCell ?_ (by first | exact Nat.le_refl _ | exact World.size_ext _ _ | (simp; done) | (simp; omega)) _)))) (by first | rfl | (simp; done) | (simp [World.size_alloc]; done)) (by first | rfl | (simp; done) | (simp [World.size_alloc]; done) | (rw [show l.length - k = 0 by omega]; rfl)) (HA2.out) (sl_drop_any (by with_reducible (repeat (first | exact HLX.out | refine World.sl_ext Ent.cells_length ?_ _ | refine sl_alloc Ent.cells_length ?_ _ | refine sl_drew ?_))) (by omega) hA) (by simp; omega) ?_
            intro vC dC hoC hgC
            (try dsimp only)
            refine hK.out _ _ ?_ (fun hHeld => ?_)
            · (try dsimp only); (refine ⟨?_, ?_, ?_, ?_, ?_⟩ <;> (with_reducible (repeat (first | assumption | refine cell_ext ?_ _ | refine cell_drew ?_ | refine cell_alloc ?_ _))))
            clear hK K
            try simp only [Act.put, List.setIfInBounds_toArray]
            refine wpAnyH_take (i := 12) (oi := ⟨_, _, _, _, _, _⟩) (v := ?_) rfl (by kernel_rfl) (by kernel_rfl) (by kernel_rfl) (fun _ _ _ h => h) (Or.inl ⟨by rfl, ?_⟩) (by assumption) ?_
            rotate_left
            · intro w hSw; (try dsimp only at hSw); go_simp; (try with_reducible rfl)
            try simp only [Act.put, List.setIfInBounds_toArray, List.set_cons_zero, List.set_cons_succ]
            refine wpAnyH_done (by kernel_rfl) ?_ _
            rw [HI] at hoC
            have HO := Lib.hid hoC
            clear hoC hgC HA2
            go_wp2_with fail
            refine (l11Good_any _ (entIns l e) _ (by with_reducible (repeat (first | exact sl_of_own Ent.cells_length HO.out | refine World.sl_ext Ent.cells_length ?_ _ | refine sl_alloc Ent.cells_length ?_ _ | refine sl_drew ?_))) (by rw [entIns_len]; omega)).mono ?_
            cases hC : entsB (entIns l e) with
            | true =>
              rintro x w1 ⟨rfl, d8, rfl⟩
              go_wp2_with fail
              go_ret2
              rw [hLT.out hC, hC]
              exact ⟨_, rfl, gain_trans HGW.out (gain_trans HGX.out (by repeat (first | with_reducible (first | exact World.gained_refl _ | exact ⟨_, rfl⟩ | apply gain_ext | apply gain_alloc | apply gain_drewN | apply gain_drew) | (refine gain_setCell ?_ (by first | exact Nat.le_refl _ | exact World.size_ext _ _ | (simp; done) | (simp; omega)) _)))), own_base (own_up HO.out (by repeat (first | with_reducible (first | exact World.gained_refl _ | exact ⟨_, rfl⟩ | apply gain_ext | apply gain_alloc | apply gain_drewN | apply gain_drew) | (refine gain_setCell ?_ (by first | exact Nat.le_refl _ | exact World.size_ext _ _ | (simp; done) | (simp; omega)) _)))) (by omega)⟩
            | false =>
              rintro x w1 ⟨rfl, d8, rfl⟩
              go_wp2_with fail
              go_ret2
              rw [hLF.out hC, hC]
              exact ⟨_, rfl, gain_trans HGW.out (gain_trans HGX.out (by repeat (first | with_reducible (first | exact World.gained_refl _ | exact ⟨_, rfl⟩ | apply gain_ext | apply gain_alloc | apply gain_drewN | apply gain_drew) | (refine gain_setCell ?_ (by first | exact Nat.le_refl _ | exact World.size_ext _ _ | (simp; done) | (simp; omega)) _)))), own_lit' (l := ([] : List Ent)) Ent.cells_length rfl rfl (by have := World.size_ext X dC; have := World.size_ext (X.ext dC) d8; omega)⟩
          · skip
            go_simp
            have HU := Lib.hid (own_lit' (w := (X.drew.alloc (.cells #[] 30))) (e := 30) (base := X.heap.size) (C := #[.int .i64 e.runner, .int .i64 e.cls, .int .i64 e.day, .bool e.rent, .int .i64 e.paid]) (l := [e]) (g := X.heap.size + 1) Ent.cells_length rfl (by first | rfl | (simp; done) | (simp [World.size_alloc]; done)) (by first | exact Nat.le_refl _ | exact World.size_ext _ _ | (simp; done) | (simp; omega) | (simp [World.size_alloc]; done) | (simp [World.size_alloc]; omega)))
            (try dsimp only)
            refine hK.out _ _ ?_ (fun hHeld => ?_)
            · (try dsimp only); (refine ⟨?_, ?_, ?_, ?_, ?_⟩ <;> (with_reducible (repeat (first | assumption | refine cell_ext ?_ _ | refine cell_drew ?_ | refine cell_alloc ?_ _))))
            clear hK K
            try simp only [Act.put, List.setIfInBounds_toArray]
            refine wpAnyH_ready (rs := [4]) (by kernel_rfl) (by simp) ?_
            refine AllReadyH.cons rfl (fun K hK => ?_) (AllReadyH.nil)
            refine step_append_gain (W := X) (w := (X.drew.alloc (.cells #[] 30)).alloc (.cells #[.int .i64 e.runner, .int .i64 e.cls, .int .i64 e.day, .bool e.rent, .int .i64 e.paid] 30)) (base := X.heap.size) (v := .slice (some ⟨X.heap.size, 0, none⟩) 0 0) (m := l.take k) (u := .slice (some ⟨b, o, none⟩) k c) rfl (.tmp 28) (.tmp 31) rfl Try.underlying26 info_Ent (by rfl) (by omega) Ent.cells_length Ent.cells_one (by omega) (by repeat (first | with_reducible (first | exact World.gained_refl _ | exact ⟨_, rfl⟩ | apply gain_ext | apply gain_alloc | apply gain_drewN | apply gain_drew) | (refine gain_setCell ?_ (by first | exact Nat.le_refl _ | exact World.size_ext _ _ | (simp; done) | (simp; omega)) _))) (Nat.le_refl _) (gain_size (by repeat (first | with_reducible (first | exact World.gained_refl _ | exact ⟨_, rfl⟩ | apply gain_ext | apply gain_alloc | apply gain_drewN | apply gain_drew) | (refine gain_setCell ?_ (by first | exact Nat.le_refl _ | exact World.size_ext _ _ | (simp; done) | (simp; omega)) _)))) (by first | rfl | (simp; done) | (simp [World.size_alloc]; done)) (by first | rfl | (simp; done) | (simp [World.size_alloc]; done) | (rw [show l.length - k = 0 by omega]; rfl)) (own_up HA.out (by repeat (first | with_reducible (first | exact World.gained_refl _ | exact ⟨_, rfl⟩ | apply gain_ext | apply gain_alloc | apply gain_drewN | apply gain_drew) | (refine gain_setCell ?_ (by first | exact Nat.le_refl _ | exact World.size_ext _ _ | (simp; done) | (simp; omega)) _)))) (sl_take (by with_reducible (repeat (first | exact HLX.out | refine World.sl_ext Ent.cells_length ?_ _ | refine sl_alloc Ent.cells_length ?_ _ | refine sl_drew ?_))) (by omega)) (by simp; omega) ?_
            intro vA dA hoA hgA
            rw [List.nil_append] at hoA
            replace HU := Lib.hid (own_mark (own_up HU.out (w' := _) (by repeat (first | with_reducible (first | exact World.gained_refl _ | exact ⟨_, rfl⟩ | apply gain_ext | apply gain_alloc | apply gain_drewN | apply gain_drew) | (refine gain_setCell ?_ (by first | exact Nat.le_refl _ | exact World.size_ext _ _ | (simp; done) | (simp; omega)) _)))) hgA (by first | (simp; done) | (simp [Value.ownBlock]; done) | (simp [Value.ownBlock, World.size_alloc]; done)))
            have HA1 := Lib.hid hoA
            clear hoA hgA HA
            (try dsimp only)
            refine hK.out _ _ ?_ (fun hHeld => ?_)
            · (try dsimp only); (refine ⟨?_, ?_, ?_, ?_, ?_⟩ <;> (with_reducible (repeat (first | assumption | refine cell_ext ?_ _ | refine cell_drew ?_ | refine cell_alloc ?_ _))))
            clear hK K
            try simp only [Act.put, List.setIfInBounds_toArray]
            refine wpAnyH_ready (rs := [7]) (by kernel_rfl) (by simp) ?_
            refine AllReadyH.cons rfl (fun K hK => ?_) (AllReadyH.nil)
            refine step_append_gain (W := X) (w := X.ext dA) (base := X.heap.size) (v := vA) (m := [e]) (u := .slice (some ⟨X.heap.size + 1, 0, none⟩) 1 1) rfl (.tmp 32) (.tmp 34) rfl Try.underlying26 info_Ent (by rfl) (by omega) Ent.cells_length Ent.cells_one (by omega) (by repeat (first | with_reducible (first | exact World.gained_refl _ | exact ⟨_, rfl⟩ | apply gain_ext | apply gain_alloc | apply gain_drewN | apply gain_drew) | (refine gain_setCell ?_ (by first | exact Nat.le_refl _ | exact World.size_ext _ _ | (simp; done) | (simp; omega)) _))) (Nat.le_refl _) (gain_size (by repeat (first | with_reducible (first | exact World.gained_refl _ | exact ⟨_, rfl⟩ | apply gain_ext | apply gain_alloc | apply gain_drewN | apply gain_drew) | (refine gain_setCell ?_ (by first | exact Nat.le_refl _ | exact World.size_ext _ _ | (simp; done) | (simp; omega)) _)))) (by first | rfl | (simp; done) | (simp [World.size_alloc]; done)) (by first | rfl | (simp; done) | (simp [World.size_alloc]; done) | (rw [show l.length - k = 0 by omega]; rfl)) (own_up HA1.out (by repeat (first | with_reducible (first | exact World.gained_refl _ | exact ⟨_, rfl⟩ | apply gain_ext | apply gain_alloc | apply gain_drewN | apply gain_drew) | (refine gain_setCell ?_ (by first | exact Nat.le_refl _ | exact World.size_ext _ _ | (simp; done) | (simp; omega)) _)))) (sl_up Ent.cells_length (sl_of_own Ent.cells_length HU.out) (by repeat (first | with_reducible (first | exact World.gained_refl _ | exact ⟨_, rfl⟩ | apply gain_ext | apply gain_alloc | apply gain_drewN | apply gain_drew) | (refine gain_setCell ?_ (by first | exact Nat.le_refl _ | exact World.size_ext _ _ | (simp; done) | (simp; omega)) _)))) (by simp; omega) ?_
            intro vB dB hoB hgB
            have HA2 := Lib.hid hoB
            clear hoB hgB HA1 HU
            (try dsimp only)
            refine hK.out _ _ ?_ (fun hHeld => ?_)
            · (try dsimp only); (refine ⟨?_, ?_, ?_, ?_, ?_⟩ <;> (with_reducible (repeat (first | assumption | refine cell_ext ?_ _ | refine cell_drew ?_ | refine cell_alloc ?_ _))))
            clear hK K
            try simp only [Act.put, List.setIfInBounds_toArray]
            refine wpAnyH_ready (rs := [11]) (by kernel_rfl) (by simp) ?_
            refine AllReadyH.cons rfl (fun K hK => ?_) (AllReadyH.nil)
            refine step_append_gain (W := X) (w := X.ext dB) (base := X.heap.size) (v := vB) (m := l.drop k) (u := .slice (some A) (l.length - k) (c - k)) rfl (.tmp 35) (.tmp 38) rfl Try.underlying26 info_Ent (by rfl) (by omega) Ent.cells_length Ent.cells_one (by omega) (by repeat (first | with_reducible (first | exact World.gained_refl _ | exact ⟨_, rfl⟩ | apply gain_ext | apply gain_alloc | apply gain_drewN | apply gain_drew) | (refine gain_setCell ?_ (by first | exact Nat.le_refl _ | exact World.size_ext _ _ | (simp; done) | (simp; omega)) _))) (Nat.le_refl _) (gain_size (by repeat (first | with_reducible (first | exact World.gained_refl _ | exact ⟨_, rfl⟩ | apply gain_ext | apply gain_alloc | apply gain_drewN | apply gain_drew) | (refine gain_setCell ?_ (by first | exact Nat.le_refl _ | exact World.size_ext _ _ | (simp; done) | (simp; omega)) _)))) (by first | rfl | (simp; done) | (simp [World.size_alloc]; done)) (by first | rfl | (simp; done) | (simp [World.size_alloc]; done) | (rw [show l.length - k = 0 by omega]; rfl)) (HA2.out) (sl_drop_any (by with_reducible (repeat (first | exact HLX.out | refine World.sl_ext Ent.cells_length ?_ _ | refine sl_alloc Ent.cells_length ?_ _ | refine sl_drew ?_))) (by omega) hA) (by simp; omega) ?_
            intro vC dC hoC hgC
            (try dsimp only)
            refine hK.out _ _ ?_ (fun hHeld => ?_)
            · (try dsimp only); (refine ⟨?_, ?_, ?_, ?_, ?_⟩ <;> (with_reducible (repeat (first | assumption | refine cell_ext ?_ _ | refine cell_drew ?_ | refine cell_alloc ?_ _))))
            clear hK K
            try simp only [Act.put, List.setIfInBounds_toArray]
            refine wpAnyH_take (i := 12) (oi := ⟨_, _, _, _, _, _⟩) (v := ?_) rfl (by kernel_rfl) (by kernel_rfl) (by kernel_rfl) (fun _ _ _ h => h) (Or.inl ⟨by rfl, ?_⟩) (by assumption) ?_
            rotate_left
            · intro w hSw; (try dsimp only at hSw); go_simp; (try with_reducible rfl)
            try simp only [Act.put, List.setIfInBounds_toArray, List.set_cons_zero, List.set_cons_succ]
            refine wpAnyH_done (by kernel_rfl) ?_ _
            rw [HI] at hoC
            have HO := Lib.hid hoC
            clear hoC hgC HA2
            go_wp2_with fail
            refine (l11Good_any _ (entIns l e) _ (by with_reducible (repeat (first | exact sl_of_own Ent.cells_length HO.out | refine World.sl_ext Ent.cells_length ?_ _ | refine sl_alloc Ent.cells_length ?_ _ | refine sl_drew ?_))) (by rw [entIns_len]; omega)).mono ?_
            cases hC : entsB (entIns l e) with
            | true =>
              rintro x w1 ⟨rfl, d8, rfl⟩
              go_wp2_with fail
              go_ret2
              rw [hLT.out hC, hC]
              exact ⟨_, rfl, gain_trans HGW.out (gain_trans HGX.out (by repeat (first | with_reducible (first | exact World.gained_refl _ | exact ⟨_, rfl⟩ | apply gain_ext | apply gain_alloc | apply gain_drewN | apply gain_drew) | (refine gain_setCell ?_ (by first | exact Nat.le_refl _ | exact World.size_ext _ _ | (simp; done) | (simp; omega)) _)))), own_base (own_up HO.out (by repeat (first | with_reducible (first | exact World.gained_refl _ | exact ⟨_, rfl⟩ | apply gain_ext | apply gain_alloc | apply gain_drewN | apply gain_drew) | (refine gain_setCell ?_ (by first | exact Nat.le_refl _ | exact World.size_ext _ _ | (simp; done) | (simp; omega)) _)))) (by omega)⟩
            | false =>
              rintro x w1 ⟨rfl, d8, rfl⟩
              go_wp2_with fail
              go_ret2
              rw [hLF.out hC, hC]
              exact ⟨_, rfl, gain_trans HGW.out (gain_trans HGX.out (by repeat (first | with_reducible (first | exact World.gained_refl _ | exact ⟨_, rfl⟩ | apply gain_ext | apply gain_alloc | apply gain_drewN | apply gain_drew) | (refine gain_setCell ?_ (by first | exact Nat.le_refl _ | exact World.size_ext _ _ | (simp; done) | (simp; omega)) _)))), own_lit' (l := ([] : List Ent)) Ent.cells_length rfl rfl (by have := World.size_ext X dC; have := World.size_ext (X.ext dC) d8; omega)⟩
        · skip
          go_simp
          have HU := Lib.hid (own_lit' (w := X.drew) (e := 30) (base := X.heap.size) (C := #[.int .i64 e.runner, .int .i64 e.cls, .int .i64 e.day, .bool e.rent, .int .i64 e.paid]) (l := [e]) (g := X.heap.size) Ent.cells_length rfl (by first | rfl | (simp; done) | (simp [World.size_alloc]; done)) (by first | exact Nat.le_refl _ | exact World.size_ext _ _ | (simp; done) | (simp; omega) | (simp [World.size_alloc]; done) | (simp [World.size_alloc]; omega)))
          (try dsimp only)
          refine hK.out _ _ ?_ (fun hHeld => ?_)
          · (try dsimp only); (refine ⟨?_, ?_, ?_, ?_, ?_⟩ <;> (with_reducible (repeat (first | assumption | refine cell_ext ?_ _ | refine cell_drew ?_ | refine cell_alloc ?_ _))))
          clear hK K
          try simp only [Act.put, List.setIfInBounds_toArray]
          refine wpAnyH_ready (rs := [0]) (by kernel_rfl) (by simp) ?_
          refine AllReadyH.cons rfl (fun K hK => ?_) (AllReadyH.nil)
          go_simp
          have HA := Lib.hid (own_lit' (w := (X.drew.alloc (.cells #[.int .i64 e.runner, .int .i64 e.cls, .int .i64 e.day, .bool e.rent, .int .i64 e.paid] 30))) (e := 30) (base := X.heap.size) (C := #[]) (l := ([] : List Ent)) (g := X.heap.size + 1) Ent.cells_length rfl (by first | rfl | (simp; done) | (simp [World.size_alloc]; done)) (by first | exact Nat.le_refl _ | exact World.size_ext _ _ | (simp; done) | (simp; omega) | (simp [World.size_alloc]; done) | (simp [World.size_alloc]; omega)))
          (try dsimp only)
          refine hK.out _ _ ?_ (fun hHeld => ?_)
          · (try dsimp only); (refine ⟨?_, ?_, ?_, ?_, ?_⟩ <;> (with_reducible (repeat (first | assumption | refine cell_ext ?_ _ | refine cell_drew ?_ | refine cell_alloc ?_ _))))
          clear hK K
          try simp only [Act.put, List.setIfInBounds_toArray]
          refine wpAnyH_ready (rs := [4]) (by kernel_rfl) (by simp) ?_
          refine AllReadyH.cons rfl (fun K hK => ?_) (AllReadyH.nil)
          refine step_append_gain (W := X) (w := (X.drew.alloc (.cells #[.int .i64 e.runner, .int .i64 e.cls, .int .i64 e.day, .bool e.rent, .int .i64 e.paid] 30)).alloc (.cells #[] 30)) (base := X.heap.size) (v := .slice (some ⟨X.heap.size + 1, 0, none⟩) 0 0) (m := l.take k) (u := .slice (some ⟨b, o, none⟩) k c) rfl (.tmp 28) (.tmp 31) rfl Try.underlying26 info_Ent (by rfl) (by omega) Ent.cells_length Ent.cells_one (by omega) (by repeat (first | with_reducible (first | exact World.gained_refl _ | exact ⟨_, rfl⟩ | apply gain_ext | apply gain_alloc | apply gain_drewN | apply gain_drew) | (refine gain_setCell ?_ (by first | exact Nat.le_refl _ | exact World.size_ext _ _ | (simp; done) | (simp; omega)) _))) (Nat.le_refl _) (gain_size (by repeat (first | with_reducible (first | exact World.gained_refl _ | exact ⟨_, rfl⟩ | apply gain_ext | apply gain_alloc | apply gain_drewN | apply gain_drew) | (refine gain_setCell ?_ (by first | exact Nat.le_refl _ | exact World.size_ext _ _ | (simp; done) | (simp; omega)) _)))) (by first | rfl | (simp; done) | (simp [World.size_alloc]; done)) (by first | rfl | (simp; done) | (simp [World.size_alloc]; done) | (rw [show l.length - k = 0 by omega]; rfl)) (HA.out) (sl_take (by with_reducible (repeat (first | exact HLX.out | refine World.sl_ext Ent.cells_length ?_ _ | refine sl_alloc Ent.cells_length ?_ _ | refine sl_drew ?_))) (by omega)) (by simp; omega) ?_
          intro vA dA hoA hgA
          rw [List.nil_append] at hoA
          replace HU := Lib.hid (own_mark (own_up HU.out (w' := _) (by repeat (first | with_reducible (first | exact World.gained_refl _ | exact ⟨_, rfl⟩ | apply gain_ext | apply gain_alloc | apply gain_drewN | apply gain_drew) | (refine gain_setCell ?_ (by first | exact Nat.le_refl _ | exact World.size_ext _ _ | (simp; done) | (simp; omega)) _)))) hgA (by first | (simp; done) | (simp [Value.ownBlock]; done) | (simp [Value.ownBlock, World.size_alloc]; done)))
          have HA1 := Lib.hid hoA
          clear hoA hgA HA
          (try dsimp only)
          refine hK.out _ _ ?_ (fun hHeld => ?_)
          · (try dsimp only); (refine ⟨?_, ?_, ?_, ?_, ?_⟩ <;> (with_reducible (repeat (first | assumption | refine cell_ext ?_ _ | refine cell_drew ?_ | refine cell_alloc ?_ _))))
          clear hK K
          try simp only [Act.put, List.setIfInBounds_toArray]
          refine wpAnyH_ready (rs := [7]) (by kernel_rfl) (by simp) ?_
          refine AllReadyH.cons rfl (fun K hK => ?_) (AllReadyH.nil)
          refine step_append_gain (W := X) (w := X.ext dA) (base := X.heap.size) (v := vA) (m := [e]) (u := .slice (some ⟨X.heap.size, 0, none⟩) 1 1) rfl (.tmp 32) (.tmp 34) rfl Try.underlying26 info_Ent (by rfl) (by omega) Ent.cells_length Ent.cells_one (by omega) (by repeat (first | with_reducible (first | exact World.gained_refl _ | exact ⟨_, rfl⟩ | apply gain_ext | apply gain_alloc | apply gain_drewN | apply gain_drew) | (refine gain_setCell ?_ (by first | exact Nat.le_refl _ | exact World.size_ext _ _ | (simp; done) | (simp; omega)) _))) (Nat.le_refl _) (gain_size (by repeat (first | with_reducible (first | exact World.gained_refl _ | exact ⟨_, rfl⟩ | apply gain_ext | apply gain_alloc | apply gain_drewN | apply gain_drew) | (refine gain_setCell ?_ (by first | exact Nat.le_refl _ | exact World.size_ext _ _ | (simp; done) | (simp; omega)) _)))) (by first | rfl | (simp; done) | (simp [World.size_alloc]; done)) (by first | rfl | (simp; done) | (simp [World.size_alloc]; done) | (rw [show l.length - k = 0 by omega]; rfl)) (own_up HA1.out (by repeat (first | with_reducible (first | exact World.gained_refl _ | exact ⟨_, rfl⟩ | apply gain_ext | apply gain_alloc | apply gain_drewN | apply gain_drew) | (refine gain_setCell ?_ (by first | exact Nat.le_refl _ | exact World.size_ext _ _ | (simp; done) | (simp; omega)) _)))) (sl_up Ent.cells_length (sl_of_own Ent.cells_length HU.out) (by repeat (first | with_reducible (first | exact World.gained_refl _ | exact ⟨_, rfl⟩ | apply gain_ext | apply gain_alloc | apply gain_drewN | apply gain_drew) | (refine gain_setCell ?_ (by first | exact Nat.le_refl _ | exact World.size_ext _ _ | (simp; done) | (simp; omega)) _)))) (by simp; omega) ?_
          intro vB dB hoB hgB
          have HA2 := Lib.hid hoB
          clear hoB hgB HA1 HU
          (try dsimp only)
          refine hK.out _ _ ?_ (fun hHeld => ?_)
          · (try dsimp only); (refine ⟨?_, ?_, ?_, ?_, ?_⟩ <;> (with_reducible (repeat (first | assumption | refine cell_ext ?_ _ | refine cell_drew ?_ | refine cell_alloc ?_ _))))
          clear hK K
          try simp only [Act.put, List.setIfInBounds_toArray]
          refine wpAnyH_ready (rs := [11]) (by kernel_rfl) (by simp) ?_
          refine AllReadyH.cons rfl (fun K hK => ?_) (AllReadyH.nil)
          refine step_append_gain (W := X) (w := X.ext dB) (base := X.heap.size) (v := vB) (m := l.drop k) (u := .slice (some A) (l.length - k) (c - k)) rfl (.tmp 35) (.tmp 38) rfl Try.underlying26 info_Ent (by rfl) (by omega) Ent.cells_length Ent.cells_one (by omega) (by repeat (first | with_reducible (first | exact World.gained_refl _ | exact ⟨_, rfl⟩ | apply gain_ext | apply gain_alloc | apply gain_drewN | apply gain_drew) | (refine gain_setCell ?_ (by first | exact Nat.le_refl _ | exact World.size_ext _ _ | (simp; done) | (simp; omega)) _))) (Nat.le_refl _) (gain_size (by repeat (first | with_reducible (first | exact World.gained_refl _ | exact ⟨_, rfl⟩ | apply gain_ext | apply gain_alloc | apply gain_drewN | apply gain_drew) | (refine gain_setCell ?_ (by first | exact Nat.le_refl _ | exact World.size_ext _ _ | (simp; done) | (simp; omega)) _)))) (by first | rfl | (simp; done) | (simp [World.size_alloc]; done)) (by first | rfl | (simp; done) | (simp [World.size_alloc]; done) | (rw [show l.length - k = 0 by omega]; rfl)) (HA2.out) (sl_drop_any (by with_reducible (repeat (first | exact HLX.out | refine World.sl_ext Ent.cells_length ?_ _ | refine sl_alloc Ent.cells_length ?_ _ | refine sl_drew ?_))) (by omega) hA) (by simp; omega) ?_
          intro vC dC hoC hgC
          (try dsimp only)
          refine hK.out _ _ ?_ (fun hHeld => ?_)
          · (try dsimp only); (refine ⟨?_, ?_, ?_, ?_, ?_⟩ <;> (with_reducible (repeat (first | assumption | refine cell_ext ?_ _ | refine cell_drew ?_ | refine cell_alloc ?_ _))))
          clear hK K
          try simp only [Act.put, List.setIfInBounds_toArray]
          refine wpAnyH_take (i := 12) (oi := ⟨_, _, _, _, _, _⟩) (v := ?_) rfl (by kernel_rfl) (by kernel_rfl) (by kernel_rfl) (fun _ _ _ h => h) (Or.inl ⟨by rfl, ?_⟩) (by assumption) ?_
          rotate_left
          · intro w hSw; (try dsimp only at hSw); go_simp; (try with_reducible rfl)
          try simp only [Act.put, List.setIfInBounds_toArray, List.set_cons_zero, List.set_cons_succ]
          refine wpAnyH_done (by kernel_rfl) ?_ _
          rw [HI] at hoC
          have HO := Lib.hid hoC
          clear hoC hgC HA2
          go_wp2_with fail
          refine (l11Good_any _ (entIns l e) _ (by with_reducible (repeat (first | exact sl_of_own Ent.cells_length HO.out | refine World.sl_ext Ent.cells_length ?_ _ | refine sl_alloc Ent.cells_length ?_ _ | refine sl_drew ?_))) (by rw [entIns_len]; omega)).mono ?_
          cases hC : entsB (entIns l e) with
          | true =>
            rintro x w1 ⟨rfl, d8, rfl⟩
            go_wp2_with fail
            go_ret2
            rw [hLT.out hC, hC]
            exact ⟨_, rfl, gain_trans HGW.out (gain_trans HGX.out (by repeat (first | with_reducible (first | exact World.gained_refl _ | exact ⟨_, rfl⟩ | apply gain_ext | apply gain_alloc | apply gain_drewN | apply gain_drew) | (refine gain_setCell ?_ (by first | exact Nat.le_refl _ | exact World.size_ext _ _ | (simp; done) | (simp; omega)) _)))), own_base (own_up HO.out (by repeat (first | with_reducible (first | exact World.gained_refl _ | exact ⟨_, rfl⟩ | apply gain_ext | apply gain_alloc | apply gain_drewN | apply gain_drew) | (refine gain_setCell ?_ (by first | exact Nat.le_refl _ | exact World.size_ext _ _ | (simp; done) | (simp; omega)) _)))) (by omega)⟩
          | false =>
            rintro x w1 ⟨rfl, d8, rfl⟩
            go_wp2_with fail
            go_ret2
            rw [hLF.out hC, hC]
            exact ⟨_, rfl, gain_trans HGW.out (gain_trans HGX.out (by repeat (first | with_reducible (first | exact World.gained_refl _ | exact ⟨_, rfl⟩ | apply gain_ext | apply gain_alloc | apply gain_drewN | apply gain_drew) | (refine gain_setCell ?_ (by first | exact Nat.le_refl _ | exact World.size_ext _ _ | (simp; done) | (simp; omega)) _)))), own_lit' (l := ([] : List Ent)) Ent.cells_length rfl rfl (by have := World.size_ext X dC; have := World.size_ext (X.ext dC) d8; omega)⟩
    · have hltd : decide ((k : Int) < (l.length : Int)) = false := decide_eq_false (by omega)
      have HE := Lib.hid (hAT.out k hk HN.out (fun h => absurd h hlt))
      have hk9 : l.length ≤ k := by omega
      cases p with
      | none =>
        have HI : l.take k ++ [e] ++ l.drop k = entIns l e := by rw [entIns, HE.out]
        go_wp2_with fail
        refine wp_region_gain (by kernel_rfl) (by kernel_rfl) ?_
        repeat (first | go_big_quiet_skip | (go_big_quiet_want; go_big_quiet_op; first | go_big_quiet_on))
        refine wpQuiet_nil ?_
        rintro _ ⟨d', rfl⟩
        go_upto_region 6 with fail
        have HGX : Hid (∃ dd, (W1.ext d).ext d' = W1.ext dd) := Lib.hid (by repeat (first | with_reducible (first | exact World.gained_refl _ | exact ⟨_, rfl⟩ | apply gain_ext | apply gain_alloc | apply gain_drewN | apply gain_drew) | (refine gain_setCell ?_ (by first | exact Nat.le_refl _ | exact World.size_ext _ _ | (simp; done) | (simp; omega)) _)))
        generalize (W1.ext d).ext d' = X at HGX ⊢
        have by0 := cell_upE bx0 HGX.out
        have by1 := cell_upE bx1 HGX.out
        have by2 := cell_upE bx2 HGX.out
        have by3 := cell_upE bx3 HGX.out
        have by4 := cell_upE bx4 HGX.out
        have obX := World.oldB_of_cell by0
        have HLX := Lib.hid (sl_up Ent.cells_length HL1.out HGX.out)
        have hXs : W1.heap.size ≤ X.heap.size := gain_size HGX.out
        skip
        refine wp_region_held_drew (S := (fun w' => w'.cell? ⟨w.heap.size, 0, none⟩ = some (.int .i64 e.runner) ∧ w'.cell? ⟨w.heap.size, 1, none⟩ = some (.int .i64 e.cls) ∧ w'.cell? ⟨w.heap.size, 2, none⟩ = some (.int .i64 e.day) ∧ w'.cell? ⟨w.heap.size, 3, none⟩ = some (.bool e.rent) ∧ w'.cell? ⟨w.heap.size, 4, none⟩ = some (.int .i64 e.paid))) (by kernel_rfl) (by (try dsimp only); (refine ⟨?_, ?_, ?_, ?_, ?_⟩ <;> (with_reducible (repeat (first | assumption | refine cell_ext ?_ _ | refine cell_drew ?_ | refine cell_alloc ?_ _))))) (fun hHeld => ?_)
        refine wpAnyH_take (i := 1) (oi := ⟨_, _, _, _, _, _⟩) (v := ?_) rfl (by kernel_rfl) (by kernel_rfl) (by kernel_rfl) (fun _ _ _ h => h) (Or.inl ⟨by rfl, ?_⟩) (by assumption) ?_
        rotate_left
        · intro w hSw; (try dsimp only at hSw); go_simp; (try with_reducible rfl)
        try simp only [Act.put, List.setIfInBounds_toArray, List.set_cons_zero, List.set_cons_succ]
        refine wpAnyH_take (i := 2) (oi := ⟨_, _, _, _, _, _⟩) (v := ?_) rfl (by kernel_rfl) (by kernel_rfl) (by kernel_rfl) (fun _ _ _ h => h) (Or.inl ⟨by rfl, ?_⟩) (by assumption) ?_
        rotate_left
        · intro w hSw; (try dsimp only at hSw); go_simp; (try with_reducible rfl)
        try simp only [Act.put, List.setIfInBounds_toArray, List.set_cons_zero, List.set_cons_succ]
        refine wpAnyH_take (i := 3) (oi := ⟨_, _, _, _, _, _⟩) (v := ?_) rfl (by kernel_rfl) (by kernel_rfl) (by kernel_rfl) (fun _ _ _ h => h) (Or.inl ⟨by rfl, ?_⟩) (by assumption) ?_
        rotate_left
        · intro w hSw; (try dsimp only at hSw); go_simp; (try with_reducible rfl)
        try simp only [Act.put, List.setIfInBounds_toArray, List.set_cons_zero, List.set_cons_succ]
        refine wpAnyH_take (i := 5) (oi := ⟨_, _, _, _, _, _⟩) (v := ?_) rfl (by kernel_rfl) (by kernel_rfl) (by kernel_rfl) (fun _ _ _ h => h) (Or.inl ⟨by rfl, ?_⟩) (by assumption) ?_
        rotate_left
        · intro w hSw; (try dsimp only at hSw); go_simp; (try with_reducible rfl)
        try simp only [Act.put, List.setIfInBounds_toArray, List.set_cons_zero, List.set_cons_succ]
        refine wpAnyH_take (i := 8) (oi := ⟨_, _, _, _, _, _⟩) (v := ?_) rfl (by kernel_rfl) (by kernel_rfl) (by kernel_rfl) (fun _ _ _ h => h) (Or.inl ⟨by rfl, ?_⟩) (by assumption) ?_
        rotate_left
        · intro w hSw; (try dsimp only at hSw); go_simp; (try with_reducible rfl)
        try simp only [Act.put, List.setIfInBounds_toArray, List.set_cons_zero, List.set_cons_succ]
        refine wpAnyH_take (i := 9) (oi := ⟨_, _, _, _, _, _⟩) (v := ?_) rfl (by kernel_rfl) (by kernel_rfl) (by kernel_rfl) (fun _ _ _ h => h) (Or.inl ⟨by rfl, ?_⟩) (by assumption) ?_
        rotate_left
        · intro w hSw; (try dsimp only at hSw); go_simp; (try with_reducible rfl)
        try simp only [Act.put, List.setIfInBounds_toArray, List.set_cons_zero, List.set_cons_succ]
        refine wpAnyH_take (i := 10) (oi := ⟨_, _, _, _, _, _⟩) (v := ?_) rfl (by kernel_rfl) (by kernel_rfl) (by kernel_rfl) (fun _ _ _ h => h) (Or.inl ⟨by rfl, ?_⟩) (by assumption) ?_
        rotate_left
        · intro w hSw; (try dsimp only at hSw); go_simp; (try with_reducible rfl)
        try simp only [Act.put, List.setIfInBounds_toArray, List.set_cons_zero, List.set_cons_succ]
        refine wpAnyH_ready (rs := [0, 6]) (by kernel_rfl) (by simp) ?_
        refine AllReadyH.cons rfl (fun K hK => ?_) (AllReadyH.cons rfl (fun K hK => ?_) (AllReadyH.nil))
        · skip
          go_simp
          have HA := Lib.hid (own_lit' (w := X.drew) (e := 30) (base := X.heap.size) (C := #[]) (l := ([] : List Ent)) (g := X.heap.size) Ent.cells_length rfl (by first | rfl | (simp; done) | (simp [World.size_alloc]; done)) (by first | exact Nat.le_refl _ | exact World.size_ext _ _ | (simp; done) | (simp; omega) | (simp [World.size_alloc]; done) | (simp [World.size_alloc]; omega)))
          (try dsimp only)
          refine hK.out _ _ ?_ (fun hHeld => ?_)
          · (try dsimp only); (refine ⟨?_, ?_, ?_, ?_, ?_⟩ <;> (with_reducible (repeat (first | assumption | refine cell_ext ?_ _ | refine cell_drew ?_ | refine cell_alloc ?_ _))))
          clear hK K
          try simp only [Act.put, List.setIfInBounds_toArray]
          refine wpAnyH_ready (rs := [4, 6]) (by kernel_rfl) (by simp) ?_
          refine AllReadyH.cons rfl (fun K hK => ?_) (AllReadyH.cons rfl (fun K hK => ?_) (AllReadyH.nil))
          · skip
            refine step_append_gain (W := X) (w := X.drew.alloc (.cells #[] 30)) (base := X.heap.size) (v := .slice (some ⟨X.heap.size, 0, none⟩) 0 0) (m := l.take k) (u := .slice none k c) rfl (.tmp 28) (.tmp 31) rfl Try.underlying26 info_Ent (by rfl) (by omega) Ent.cells_length Ent.cells_one (by omega) (by repeat (first | with_reducible (first | exact World.gained_refl _ | exact ⟨_, rfl⟩ | apply gain_ext | apply gain_alloc | apply gain_drewN | apply gain_drew) | (refine gain_setCell ?_ (by first | exact Nat.le_refl _ | exact World.size_ext _ _ | (simp; done) | (simp; omega)) _))) (Nat.le_refl _) (gain_size (by repeat (first | with_reducible (first | exact World.gained_refl _ | exact ⟨_, rfl⟩ | apply gain_ext | apply gain_alloc | apply gain_drewN | apply gain_drew) | (refine gain_setCell ?_ (by first | exact Nat.le_refl _ | exact World.size_ext _ _ | (simp; done) | (simp; omega)) _)))) (by first | rfl | (simp; done) | (simp [World.size_alloc]; done)) (by first | rfl | (simp; done) | (simp [World.size_alloc]; done) | (rw [show l.length - k = 0 by omega]; rfl)) (HA.out) (sl_take (by with_reducible (repeat (first | exact HLX.out | refine World.sl_ext Ent.cells_length ?_ _ | refine sl_alloc Ent.cells_length ?_ _ | refine sl_drew ?_))) (by omega)) (by simp; omega) ?_
            intro vA dA hoA hgA
            rw [List.nil_append] at hoA
            have HA1 := Lib.hid hoA
            clear hoA hgA HA
            (try dsimp only)
            refine hK.out _ _ ?_ (fun hHeld => ?_)
            · (try dsimp only); (refine ⟨?_, ?_, ?_, ?_, ?_⟩ <;> (with_reducible (repeat (first | assumption | refine cell_ext ?_ _ | refine cell_drew ?_ | refine cell_alloc ?_ _))))
            clear hK K
            try simp only [Act.put, List.setIfInBounds_toArray]
            refine wpAnyH_ready (rs := [6]) (by kernel_rfl) (by simp) ?_
            refine AllReadyH.cons rfl (fun K hK => ?_) (AllReadyH.nil)
            go_simp
            have HU := Lib.hid (own_lit' (w := (X.ext dA)) (e := 30) (base := X.heap.size) (C := #[.int .i64 e.runner, .int .i64 e.cls, .int .i64 e.day, .bool e.rent, .int .i64 e.paid]) (l := [e]) (g := (X.ext dA).heap.size) Ent.cells_length rfl (by first | rfl | (simp; done) | (simp [World.size_alloc]; done)) (by first | exact Nat.le_refl _ | exact World.size_ext _ _ | (simp; done) | (simp; omega) | (simp [World.size_alloc]; done) | (simp [World.size_alloc]; omega)))
            (try dsimp only)
            refine hK.out _ _ ?_ (fun hHeld => ?_)
            · (try dsimp only); (refine ⟨?_, ?_, ?_, ?_, ?_⟩ <;> (with_reducible (repeat (first | assumption | refine cell_ext ?_ _ | refine cell_drew ?_ | refine cell_alloc ?_ _))))
            clear hK K
            try simp only [Act.put, List.setIfInBounds_toArray]
            refine wpAnyH_ready (rs := [7]) (by kernel_rfl) (by simp) ?_
            refine AllReadyH.cons rfl (fun K hK => ?_) (AllReadyH.nil)
            refine step_append_gain (W := X) (w := (X.ext dA).alloc (.cells #[.int .i64 e.runner, .int .i64 e.cls, .int .i64 e.day, .bool e.rent, .int .i64 e.paid] 30)) (base := X.heap.size) (v := vA) (m := [e]) (u := .slice (some ⟨(X.ext dA).heap.size, 0, none⟩) 1 1) rfl (.tmp 32) (.tmp 34) rfl Try.underlying26 info_Ent (by rfl) (by omega) Ent.cells_length Ent.cells_one (by omega) (by repeat (first | with_reducible (first | exact World.gained_refl _ | exact ⟨_, rfl⟩ | apply gain_ext | apply gain_alloc | apply gain_drewN | apply gain_drew) | (refine gain_setCell ?_ (by first | exact Nat.le_refl _ | exact World.size_ext _ _ | (simp; done) | (simp; omega)) _))) (Nat.le_refl _) (gain_size (by repeat (first | with_reducible (first | exact World.gained_refl _ | exact ⟨_, rfl⟩ | apply gain_ext | apply gain_alloc | apply gain_drewN | apply gain_drew) | (refine gain_setCell ?_ (by first | exact Nat.le_refl _ | exact World.size_ext _ _ | (simp; done) | (simp; omega)) _)))) (by first | rfl | (simp; done) | (simp [World.size_alloc]; done)) (by first | rfl | (simp; done) | (simp [World.size_alloc]; done) | (rw [show l.length - k = 0 by omega]; rfl)) (own_up HA1.out (by repeat (first | with_reducible (first | exact World.gained_refl _ | exact ⟨_, rfl⟩ | apply gain_ext | apply gain_alloc | apply gain_drewN | apply gain_drew) | (refine gain_setCell ?_ (by first | exact Nat.le_refl _ | exact World.size_ext _ _ | (simp; done) | (simp; omega)) _)))) (sl_up Ent.cells_length (sl_of_own Ent.cells_length HU.out) (by repeat (first | with_reducible (first | exact World.gained_refl _ | exact ⟨_, rfl⟩ | apply gain_ext | apply gain_alloc | apply gain_drewN | apply gain_drew) | (refine gain_setCell ?_ (by first | exact Nat.le_refl _ | exact World.size_ext _ _ | (simp; done) | (simp; omega)) _)))) (by simp; omega) ?_
            intro vB dB hoB hgB
            have HA2 := Lib.hid hoB
            clear hoB hgB HA1 HU
            (try dsimp only)
            refine hK.out _ _ ?_ (fun hHeld => ?_)
            · (try dsimp only); (refine ⟨?_, ?_, ?_, ?_, ?_⟩ <;> (with_reducible (repeat (first | assumption | refine cell_ext ?_ _ | refine cell_drew ?_ | refine cell_alloc ?_ _))))
            clear hK K
            try simp only [Act.put, List.setIfInBounds_toArray]
            refine wpAnyH_ready (rs := [11]) (by kernel_rfl) (by simp) ?_
            refine AllReadyH.cons rfl (fun K hK => ?_) (AllReadyH.nil)
            refine step_append_gain (W := X) (w := X.ext dB) (base := X.heap.size) (v := vB) (m := l.drop k) (u := .slice none (l.length - k) (c - k)) rfl (.tmp 35) (.tmp 38) rfl Try.underlying26 info_Ent (by rfl) (by omega) Ent.cells_length Ent.cells_one (by omega) (by repeat (first | with_reducible (first | exact World.gained_refl _ | exact ⟨_, rfl⟩ | apply gain_ext | apply gain_alloc | apply gain_drewN | apply gain_drew) | (refine gain_setCell ?_ (by first | exact Nat.le_refl _ | exact World.size_ext _ _ | (simp; done) | (simp; omega)) _))) (Nat.le_refl _) (gain_size (by repeat (first | with_reducible (first | exact World.gained_refl _ | exact ⟨_, rfl⟩ | apply gain_ext | apply gain_alloc | apply gain_drewN | apply gain_drew) | (refine gain_setCell ?_ (by first | exact Nat.le_refl _ | exact World.size_ext _ _ | (simp; done) | (simp; omega)) _)))) (by first | rfl | (simp; done) | (simp [World.size_alloc]; done)) (by first | rfl | (simp; done) | (simp [World.size_alloc]; done) | (rw [show l.length - k = 0 by omega]; rfl)) (HA2.out) (sl_tail0 _ _ _ _ _ _ hk9) (by simp; omega) ?_
            intro vC dC hoC hgC
            (try dsimp only)
            refine hK.out _ _ ?_ (fun hHeld => ?_)
            · (try dsimp only); (refine ⟨?_, ?_, ?_, ?_, ?_⟩ <;> (with_reducible (repeat (first | assumption | refine cell_ext ?_ _ | refine cell_drew ?_ | refine cell_alloc ?_ _))))
            clear hK K
            try simp only [Act.put, List.setIfInBounds_toArray]
            refine wpAnyH_take (i := 12) (oi := ⟨_, _, _, _, _, _⟩) (v := ?_) rfl (by kernel_rfl) (by kernel_rfl) (by kernel_rfl) (fun _ _ _ h => h) (Or.inl ⟨by rfl, ?_⟩) (by assumption) ?_
            rotate_left
            · intro w hSw; (try dsimp only at hSw); go_simp; (try with_reducible rfl)
            try simp only [Act.put, List.setIfInBounds_toArray, List.set_cons_zero, List.set_cons_succ]
            refine wpAnyH_done (by kernel_rfl) ?_ _
            rw [HI] at hoC
            have HO := Lib.hid hoC
            clear hoC hgC HA2
            go_wp2_with fail
            refine (l11Good_any _ (entIns l e) _ (by with_reducible (repeat (first | exact sl_of_own Ent.cells_length HO.out | refine World.sl_ext Ent.cells_length ?_ _ | refine sl_alloc Ent.cells_length ?_ _ | refine sl_drew ?_))) (by rw [entIns_len]; omega)).mono ?_
            cases hC : entsB (entIns l e) with
            | true =>
              rintro x w1 ⟨rfl, d8, rfl⟩
              go_wp2_with fail
              go_ret2
              rw [hLT.out hC, hC]
              exact ⟨_, rfl, gain_trans HGW.out (gain_trans HGX.out (by repeat (first | with_reducible (first | exact World.gained_refl _ | exact ⟨_, rfl⟩ | apply gain_ext | apply gain_alloc | apply gain_drewN | apply gain_drew) | (refine gain_setCell ?_ (by first | exact Nat.le_refl _ | exact World.size_ext _ _ | (simp; done) | (simp; omega)) _)))), own_base (own_up HO.out (by repeat (first | with_reducible (first | exact World.gained_refl _ | exact ⟨_, rfl⟩ | apply gain_ext | apply gain_alloc | apply gain_drewN | apply gain_drew) | (refine gain_setCell ?_ (by first | exact Nat.le_refl _ | exact World.size_ext _ _ | (simp; done) | (simp; omega)) _)))) (by omega)⟩
            | false =>
              rintro x w1 ⟨rfl, d8, rfl⟩
              go_wp2_with fail
              go_ret2
              rw [hLF.out hC, hC]
              exact ⟨_, rfl, gain_trans HGW.out (gain_trans HGX.out (by repeat (first | with_reducible (first | exact World.gained_refl _ | exact ⟨_, rfl⟩ | apply gain_ext | apply gain_alloc | apply gain_drewN | apply gain_drew) | (refine gain_setCell ?_ (by first | exact Nat.le_refl _ | exact World.size_ext _ _ | (simp; done) | (simp; omega)) _)))), own_lit' (l := ([] : List Ent)) Ent.cells_length rfl rfl (by have := World.size_ext X dC; have := World.size_ext (X.ext dC) d8; omega)⟩
          · skip
            go_simp
            have HU := Lib.hid (own_lit' (w := (X.drew.alloc (.cells #[] 30))) (e := 30) (base := X.heap.size) (C := #[.int .i64 e.runner, .int .i64 e.cls, .int .i64 e.day, .bool e.rent, .int .i64 e.paid]) (l := [e]) (g := X.heap.size + 1) Ent.cells_length rfl (by first | rfl | (simp; done) | (simp [World.size_alloc]; done)) (by first | exact Nat.le_refl _ | exact World.size_ext _ _ | (simp; done) | (simp; omega) | (simp [World.size_alloc]; done) | (simp [World.size_alloc]; omega)))
            (try dsimp only)
            refine hK.out _ _ ?_ (fun hHeld => ?_)
            · (try dsimp only); (refine ⟨?_, ?_, ?_, ?_, ?_⟩ <;> (with_reducible (repeat (first | assumption | refine cell_ext ?_ _ | refine cell_drew ?_ | refine cell_alloc ?_ _))))
            clear hK K
            try simp only [Act.put, List.setIfInBounds_toArray]
            refine wpAnyH_ready (rs := [4]) (by kernel_rfl) (by simp) ?_
            refine AllReadyH.cons rfl (fun K hK => ?_) (AllReadyH.nil)
            refine step_append_gain (W := X) (w := (X.drew.alloc (.cells #[] 30)).alloc (.cells #[.int .i64 e.runner, .int .i64 e.cls, .int .i64 e.day, .bool e.rent, .int .i64 e.paid] 30)) (base := X.heap.size) (v := .slice (some ⟨X.heap.size, 0, none⟩) 0 0) (m := l.take k) (u := .slice none k c) rfl (.tmp 28) (.tmp 31) rfl Try.underlying26 info_Ent (by rfl) (by omega) Ent.cells_length Ent.cells_one (by omega) (by repeat (first | with_reducible (first | exact World.gained_refl _ | exact ⟨_, rfl⟩ | apply gain_ext | apply gain_alloc | apply gain_drewN | apply gain_drew) | (refine gain_setCell ?_ (by first | exact Nat.le_refl _ | exact World.size_ext _ _ | (simp; done) | (simp; omega)) _))) (Nat.le_refl _) (gain_size (by repeat (first | with_reducible (first | exact World.gained_refl _ | exact ⟨_, rfl⟩ | apply gain_ext | apply gain_alloc | apply gain_drewN | apply gain_drew) | (refine gain_setCell ?_ (by first | exact Nat.le_refl _ | exact World.size_ext _ _ | (simp; done) | (simp; omega)) _)))) (by first | rfl | (simp; done) | (simp [World.size_alloc]; done)) (by first | rfl | (simp; done) | (simp [World.size_alloc]; done) | (rw [show l.length - k = 0 by omega]; rfl)) (own_up HA.out (by repeat (first | with_reducible (first | exact World.gained_refl _ | exact ⟨_, rfl⟩ | apply gain_ext | apply gain_alloc | apply gain_drewN | apply gain_drew) | (refine gain_setCell ?_ (by first | exact Nat.le_refl _ | exact World.size_ext _ _ | (simp; done) | (simp; omega)) _)))) (sl_take (by with_reducible (repeat (first | exact HLX.out | refine World.sl_ext Ent.cells_length ?_ _ | refine sl_alloc Ent.cells_length ?_ _ | refine sl_drew ?_))) (by omega)) (by simp; omega) ?_
            intro vA dA hoA hgA
            rw [List.nil_append] at hoA
            replace HU := Lib.hid (own_mark (own_up HU.out (w' := _) (by repeat (first | with_reducible (first | exact World.gained_refl _ | exact ⟨_, rfl⟩ | apply gain_ext | apply gain_alloc | apply gain_drewN | apply gain_drew) | (refine gain_setCell ?_ (by first | exact Nat.le_refl _ | exact World.size_ext _ _ | (simp; done) | (simp; omega)) _)))) hgA (by first | (simp; done) | (simp [Value.ownBlock]; done) | (simp [Value.ownBlock, World.size_alloc]; done)))
            have HA1 := Lib.hid hoA
            clear hoA hgA HA
            (try dsimp only)
            refine hK.out _ _ ?_ (fun hHeld => ?_)
            · (try dsimp only); (refine ⟨?_, ?_, ?_, ?_, ?_⟩ <;> (with_reducible (repeat (first | assumption | refine cell_ext ?_ _ | refine cell_drew ?_ | refine cell_alloc ?_ _))))
            clear hK K
            try simp only [Act.put, List.setIfInBounds_toArray]
            refine wpAnyH_ready (rs := [7]) (by kernel_rfl) (by simp) ?_
            refine AllReadyH.cons rfl (fun K hK => ?_) (AllReadyH.nil)
            refine step_append_gain (W := X) (w := X.ext dA) (base := X.heap.size) (v := vA) (m := [e]) (u := .slice (some ⟨X.heap.size + 1, 0, none⟩) 1 1) rfl (.tmp 32) (.tmp 34) rfl Try.underlying26 info_Ent (by rfl) (by omega) Ent.cells_length Ent.cells_one (by omega) (by repeat (first | with_reducible (first | exact World.gained_refl _ | exact ⟨_, rfl⟩ | apply gain_ext | apply gain_alloc | apply gain_drewN | apply gain_drew) | (refine gain_setCell ?_ (by first | exact Nat.le_refl _ | exact World.size_ext _ _ | (simp; done) | (simp; omega)) _))) (Nat.le_refl _) (gain_size (by repeat (first | with_reducible (first | exact World.gained_refl _ | exact ⟨_, rfl⟩ | apply gain_ext | apply gain_alloc | apply gain_drewN | apply gain_drew) | (refine gain_setCell ?_ (by first | exact Nat.le_refl _ | exact World.size_ext _ _ | (simp; done) | (simp; omega)) _)))) (by first | rfl | (simp; done) | (simp [World.size_alloc]; done)) (by first | rfl | (simp; done) | (simp [World.size_alloc]; done) | (rw [show l.length - k = 0 by omega]; rfl)) (own_up HA1.out (by repeat (first | with_reducible (first | exact World.gained_refl _ | exact ⟨_, rfl⟩ | apply gain_ext | apply gain_alloc | apply gain_drewN | apply gain_drew) | (refine gain_setCell ?_ (by first | exact Nat.le_refl _ | exact World.size_ext _ _ | (simp; done) | (simp; omega)) _)))) (sl_up Ent.cells_length (sl_of_own Ent.cells_length HU.out) (by repeat (first | with_reducible (first | exact World.gained_refl _ | exact ⟨_, rfl⟩ | apply gain_ext | apply gain_alloc | apply gain_drewN | apply gain_drew) | (refine gain_setCell ?_ (by first | exact Nat.le_refl _ | exact World.size_ext _ _ | (simp; done) | (simp; omega)) _)))) (by simp; omega) ?_
            intro vB dB hoB hgB
            have HA2 := Lib.hid hoB
            clear hoB hgB HA1 HU
            (try dsimp only)
            refine hK.out _ _ ?_ (fun hHeld => ?_)
            · (try dsimp only); (refine ⟨?_, ?_, ?_, ?_, ?_⟩ <;> (with_reducible (repeat (first | assumption | refine cell_ext ?_ _ | refine cell_drew ?_ | refine cell_alloc ?_ _))))
            clear hK K
            try simp only [Act.put, List.setIfInBounds_toArray]
            refine wpAnyH_ready (rs := [11]) (by kernel_rfl) (by simp) ?_
            refine AllReadyH.cons rfl (fun K hK => ?_) (AllReadyH.nil)
            refine step_append_gain (W := X) (w := X.ext dB) (base := X.heap.size) (v := vB) (m := l.drop k) (u := .slice none (l.length - k) (c - k)) rfl (.tmp 35) (.tmp 38) rfl Try.underlying26 info_Ent (by rfl) (by omega) Ent.cells_length Ent.cells_one (by omega) (by repeat (first | with_reducible (first | exact World.gained_refl _ | exact ⟨_, rfl⟩ | apply gain_ext | apply gain_alloc | apply gain_drewN | apply gain_drew) | (refine gain_setCell ?_ (by first | exact Nat.le_refl _ | exact World.size_ext _ _ | (simp; done) | (simp; omega)) _))) (Nat.le_refl _) (gain_size (by repeat (first | with_reducible (first | exact World.gained_refl _ | exact ⟨_, rfl⟩ | apply gain_ext | apply gain_alloc | apply gain_drewN | apply gain_drew) | (refine gain_setCell ?_ (by first | exact Nat.le_refl _ | exact World.size_ext _ _ | (simp; done) | (simp; omega)) _)))) (by first | rfl | (simp; done) | (simp [World.size_alloc]; done)) (by first | rfl | (simp; done) | (simp [World.size_alloc]; done) | (rw [show l.length - k = 0 by omega]; rfl)) (HA2.out) (sl_tail0 _ _ _ _ _ _ hk9) (by simp; omega) ?_
            intro vC dC hoC hgC
            (try dsimp only)
            refine hK.out _ _ ?_ (fun hHeld => ?_)
            · (try dsimp only); (refine ⟨?_, ?_, ?_, ?_, ?_⟩ <;> (with_reducible (repeat (first | assumption | refine cell_ext ?_ _ | refine cell_drew ?_ | refine cell_alloc ?_ _))))
            clear hK K
            try simp only [Act.put, List.setIfInBounds_toArray]
            refine wpAnyH_take (i := 12) (oi := ⟨_, _, _, _, _, _⟩) (v := ?_) rfl (by kernel_rfl) (by kernel_rfl) (by kernel_rfl) (fun _ _ _ h => h) (Or.inl ⟨by rfl, ?_⟩) (by assumption) ?_
            rotate_left
            · intro w hSw; (try dsimp only at hSw); go_simp; (try with_reducible rfl)
            try simp only [Act.put, List.setIfInBounds_toArray, List.set_cons_zero, List.set_cons_succ]
            refine wpAnyH_done (by kernel_rfl) ?_ _
            rw [HI] at hoC
            have HO := Lib.hid hoC
            clear hoC hgC HA2
            go_wp2_with fail
            refine (l11Good_any _ (entIns l e) _ (by with_reducible (repeat (first | exact sl_of_own Ent.cells_length HO.out | refine World.sl_ext Ent.cells_length ?_ _ | refine sl_alloc Ent.cells_length ?_ _ | refine sl_drew ?_))) (by rw [entIns_len]; omega)).mono ?_
            cases hC : entsB (entIns l e) with
            | true =>
              rintro x w1 ⟨rfl, d8, rfl⟩
              go_wp2_with fail
              go_ret2
              rw [hLT.out hC, hC]
              exact ⟨_, rfl, gain_trans HGW.out (gain_trans HGX.out (by repeat (first | with_reducible (first | exact World.gained_refl _ | exact ⟨_, rfl⟩ | apply gain_ext | apply gain_alloc | apply gain_drewN | apply gain_drew) | (refine gain_setCell ?_ (by first | exact Nat.le_refl _ | exact World.size_ext _ _ | (simp; done) | (simp; omega)) _)))), own_base (own_up HO.out (by repeat (first | with_reducible (first | exact World.gained_refl _ | exact ⟨_, rfl⟩ | apply gain_ext | apply gain_alloc | apply gain_drewN | apply gain_drew) | (refine gain_setCell ?_ (by first | exact Nat.le_refl _ | exact World.size_ext _ _ | (simp; done) | (simp; omega)) _)))) (by omega)⟩
            | false =>
              rintro x w1 ⟨rfl, d8, rfl⟩
              go_wp2_with fail
              go_ret2
              rw [hLF.out hC, hC]
              exact ⟨_, rfl, gain_trans HGW.out (gain_trans HGX.out (by repeat (first | with_reducible (first | exact World.gained_refl _ | exact ⟨_, rfl⟩ | apply gain_ext | apply gain_alloc | apply gain_drewN | apply gain_drew) | (refine gain_setCell ?_ (by first | exact Nat.le_refl _ | exact World.size_ext _ _ | (simp; done) | (simp; omega)) _)))), own_lit' (l := ([] : List Ent)) Ent.cells_length rfl rfl (by have := World.size_ext X dC; have := World.size_ext (X.ext dC) d8; omega)⟩
        · skip
          go_simp
          have HU := Lib.hid (own_lit' (w := X.drew) (e := 30) (base := X.heap.size) (C := #[.int .i64 e.runner, .int .i64 e.cls, .int .i64 e.day, .bool e.rent, .int .i64 e.paid]) (l := [e]) (g := X.heap.size) Ent.cells_length rfl (by first | rfl | (simp; done) | (simp [World.size_alloc]; done)) (by first | exact Nat.le_refl _ | exact World.size_ext _ _ | (simp; done) | (simp; omega) | (simp [World.size_alloc]; done) | (simp [World.size_alloc]; omega)))
          (try dsimp only)
          refine hK.out _ _ ?_ (fun hHeld => ?_)
          · (try dsimp only); (refine ⟨?_, ?_, ?_, ?_, ?_⟩ <;> (with_reducible (repeat (first | assumption | refine cell_ext ?_ _ | refine cell_drew ?_ | refine cell_alloc ?_ _))))
          clear hK K
          try simp only [Act.put, List.setIfInBounds_toArray]
          refine wpAnyH_ready (rs := [0]) (by kernel_rfl) (by simp) ?_
          refine AllReadyH.cons rfl (fun K hK => ?_) (AllReadyH.nil)
          go_simp
          have HA := Lib.hid (own_lit' (w := (X.drew.alloc (.cells #[.int .i64 e.runner, .int .i64 e.cls, .int .i64 e.day, .bool e.rent, .int .i64 e.paid] 30))) (e := 30) (base := X.heap.size) (C := #[]) (l := ([] : List Ent)) (g := X.heap.size + 1) Ent.cells_length rfl (by first | rfl | (simp; done) | (simp [World.size_alloc]; done)) (by first | exact Nat.le_refl _ | exact World.size_ext _ _ | (simp; done) | (simp; omega) | (simp [World.size_alloc]; done) | (simp [World.size_alloc]; omega)))
          (try dsimp only)
          refine hK.out _ _ ?_ (fun hHeld => ?_)
          · (try dsimp only); (refine ⟨?_, ?_, ?_, ?_, ?_⟩ <;> (with_reducible (repeat (first | assumption | refine cell_ext ?_ _ | refine cell_drew ?_ | refine cell_alloc ?_ _))))
          clear hK K
          try simp only [Act.put, List.setIfInBounds_toArray]
          refine wpAnyH_ready (rs := [4]) (by kernel_rfl) (by simp) ?_
          refine AllReadyH.cons rfl (fun K hK => ?_) (AllReadyH.nil)
          refine step_append_gain (W := X) (w := (X.drew.alloc (.cells #[.int .i64 e.runner, .int .i64 e.cls, .int .i64 e.day, .bool e.rent, .int .i64 e.paid] 30)).alloc (.cells #[] 30)) (base := X.heap.size) (v := .slice (some ⟨X.heap.size + 1, 0, none⟩) 0 0) (m := l.take k) (u := .slice none k c) rfl (.tmp 28) (.tmp 31) rfl Try.underlying26 info_Ent (by rfl) (by omega) Ent.cells_length Ent.cells_one (by omega) (by repeat (first | with_reducible (first | exact World.gained_refl _ | exact ⟨_, rfl⟩ | apply gain_ext | apply gain_alloc | apply gain_drewN | apply gain_drew) | (refine gain_setCell ?_ (by first | exact Nat.le_refl _ | exact World.size_ext _ _ | (simp; done) | (simp; omega)) _))) (Nat.le_refl _) (gain_size (by repeat (first | with_reducible (first | exact World.gained_refl _ | exact ⟨_, rfl⟩ | apply gain_ext | apply gain_alloc | apply gain_drewN | apply gain_drew) | (refine gain_setCell ?_ (by first | exact Nat.le_refl _ | exact World.size_ext _ _ | (simp; done) | (simp; omega)) _)))) (by first | rfl | (simp; done) | (simp [World.size_alloc]; done)) (by first | rfl | (simp; done) | (simp [World.size_alloc]; done) | (rw [show l.length - k = 0 by omega]; rfl)) (HA.out) (sl_take (by with_reducible (repeat (first | exact HLX.out | refine World.sl_ext Ent.cells_length ?_ _ | refine sl_alloc Ent.cells_length ?_ _ | refine sl_drew ?_))) (by omega)) (by simp; omega) ?_
          intro vA dA hoA hgA
          rw [List.nil_append] at hoA
          replace HU := Lib.hid (own_mark (own_up HU.out (w' := _) (by repeat (first | with_reducible (first | exact World.gained_refl _ | exact ⟨_, rfl⟩ | apply gain_ext | apply gain_alloc | apply gain_drewN | apply gain_drew) | (refine gain_setCell ?_ (by first | exact Nat.le_refl _ | exact World.size_ext _ _ | (simp; done) | (simp; omega)) _)))) hgA (by first | (simp; done) | (simp [Value.ownBlock]; done) | (simp [Value.ownBlock, World.size_alloc]; done)))
          have HA1 := Lib.hid hoA
          clear hoA hgA HA
          (try dsimp only)
          refine hK.out _ _ ?_ (fun hHeld => ?_)
          · (try dsimp only); (refine ⟨?_, ?_, ?_, ?_, ?_⟩ <;> (with_reducible (repeat (first | assumption | refine cell_ext ?_ _ | refine cell_drew ?_ | refine cell_alloc ?_ _))))
          clear hK K
          try simp only [Act.put, List.setIfInBounds_toArray]
          refine wpAnyH_ready (rs := [7]) (by kernel_rfl) (by simp) ?_
          refine AllReadyH.cons rfl (fun K hK => ?_) (AllReadyH.nil)
          refine step_append_gain (W := X) (w := X.ext dA) (base := X.heap.size) (v := vA) (m := [e]) (u := .slice (some ⟨X.heap.size, 0, none⟩) 1 1) rfl (.tmp 32) (.tmp 34) rfl Try.underlying26 info_Ent (by rfl) (by omega) Ent.cells_length Ent.cells_one (by omega) (by repeat (first | with_reducible (first | exact World.gained_refl _ | exact ⟨_, rfl⟩ | apply gain_ext | apply gain_alloc | apply gain_drewN | apply gain_drew) | (refine gain_setCell ?_ (by first | exact Nat.le_refl _ | exact World.size_ext _ _ | (simp; done) | (simp; omega)) _))) (Nat.le_refl _) (gain_size (by repeat (first | with_reducible (first | exact World.gained_refl _ | exact ⟨_, rfl⟩ | apply gain_ext | apply gain_alloc | apply gain_drewN | apply gain_drew) | (refine gain_setCell ?_ (by first | exact Nat.le_refl _ | exact World.size_ext _ _ | (simp; done) | (simp; omega)) _)))) (by first | rfl | (simp; done) | (simp [World.size_alloc]; done)) (by first | rfl | (simp; done) | (simp [World.size_alloc]; done) | (rw [show l.length - k = 0 by omega]; rfl)) (own_up HA1.out (by repeat (first | with_reducible (first | exact World.gained_refl _ | exact ⟨_, rfl⟩ | apply gain_ext | apply gain_alloc | apply gain_drewN | apply gain_drew) | (refine gain_setCell ?_ (by first | exact Nat.le_refl _ | exact World.size_ext _ _ | (simp; done) | (simp; omega)) _)))) (sl_up Ent.cells_length (sl_of_own Ent.cells_length HU.out) (by repeat (first | with_reducible (first | exact World.gained_refl _ | exact ⟨_, rfl⟩ | apply gain_ext | apply gain_alloc | apply gain_drewN | apply gain_drew) | (refine gain_setCell ?_ (by first | exact Nat.le_refl _ | exact World.size_ext _ _ | (simp; done) | (simp; omega)) _)))) (by simp; omega) ?_
          intro vB dB hoB hgB
          have HA2 := Lib.hid hoB
          clear hoB hgB HA1 HU
          (try dsimp only)
          refine hK.out _ _ ?_ (fun hHeld => ?_)
          · (try dsimp only); (refine ⟨?_, ?_, ?_, ?_, ?_⟩ <;> (with_reducible (repeat (first | assumption | refine cell_ext ?_ _ | refine cell_drew ?_ | refine cell_alloc ?_ _))))
          clear hK K
          try simp only [Act.put, List.setIfInBounds_toArray]
          refine wpAnyH_ready (rs := [11]) (by kernel_rfl) (by simp) ?_
          refine AllReadyH.cons rfl (fun K hK => ?_) (AllReadyH.nil)
          refine step_append_gain (W := X) (w := X.ext dB) (base := X.heap.size) (v := vB) (m := l.drop k) (u := .slice none (l.length - k) (c - k)) rfl (.tmp 35) (.tmp 38) rfl Try.underlying26 info_Ent (by rfl) (by omega) Ent.cells_length Ent.cells_one (by omega) (by repeat (first | with_reducible (first | exact World.gained_refl _ | exact ⟨_, rfl⟩ | apply gain_ext | apply gain_alloc | apply gain_drewN | apply gain_drew) | (refine gain_setCell ?_ (by first | exact Nat.le_refl _ | exact World.size_ext _ _ | (simp; done) | (simp; omega)) _))) (Nat.le_refl _) (gain_size (by repeat (first | with_reducible (first | exact World.gained_refl _ | exact ⟨_, rfl⟩ | apply gain_ext | apply gain_alloc | apply gain_drewN | apply gain_drew) | (refine gain_setCell ?_ (by first | exact Nat.le_refl _ | exact World.size_ext _ _ | (simp; done) | (simp; omega)) _)))) (by first | rfl | (simp; done) | (simp [World.size_alloc]; done)) (by first | rfl | (simp; done) | (simp [World.size_alloc]; done) | (rw [show l.length - k = 0 by omega]; rfl)) (HA2.out) (sl_tail0 _ _ _ _ _ _ hk9) (by simp; omega) ?_
          intro vC dC hoC hgC
          (try dsimp only)
          refine hK.out _ _ ?_ (fun hHeld => ?_)
          · (try dsimp only); (refine ⟨?_, ?_, ?_, ?_, ?_⟩ <;> (with_reducible (repeat (first | assumption | refine cell_ext ?_ _ | refine cell_drew ?_ | refine cell_alloc ?_ _))))
          clear hK K
          try simp only [Act.put, List.setIfInBounds_toArray]
          refine wpAnyH_take (i := 12) (oi := ⟨_, _, _, _, _, _⟩) (v := ?_) rfl (by kernel_rfl) (by kernel_rfl) (by kernel_rfl) (fun _ _ _ h => h) (Or.inl ⟨by rfl, ?_⟩) (by assumption) ?_
          rotate_left
          · intro w hSw; (try dsimp only at hSw); go_simp; (try with_reducible rfl)
          try simp only [Act.put, List.setIfInBounds_toArray, List.set_cons_zero, List.set_cons_succ]
          refine wpAnyH_done (by kernel_rfl) ?_ _
          rw [HI] at hoC
          have HO := Lib.hid hoC
          clear hoC hgC HA2
          go_wp2_with fail
          refine (l11Good_any _ (entIns l e) _ (by with_reducible (repeat (first | exact sl_of_own Ent.cells_length HO.out | refine World.sl_ext Ent.cells_length ?_ _ | refine sl_alloc Ent.cells_length ?_ _ | refine sl_drew ?_))) (by rw [entIns_len]; omega)).mono ?_
          cases hC : entsB (entIns l e) with
          | true =>
            rintro x w1 ⟨rfl, d8, rfl⟩
            go_wp2_with fail
            go_ret2
            rw [hLT.out hC, hC]
            exact ⟨_, rfl, gain_trans HGW.out (gain_trans HGX.out (by repeat (first | with_reducible (first | exact World.gained_refl _ | exact ⟨_, rfl⟩ | apply gain_ext | apply gain_alloc | apply gain_drewN | apply gain_drew) | (refine gain_setCell ?_ (by first | exact Nat.le_refl _ | exact World.size_ext _ _ | (simp; done) | (simp; omega)) _)))), own_base (own_up HO.out (by repeat (first | with_reducible (first | exact World.gained_refl _ | exact ⟨_, rfl⟩ | apply gain_ext | apply gain_alloc | apply gain_drewN | apply gain_drew) | (refine gain_setCell ?_ (by first | exact Nat.le_refl _ | exact World.size_ext _ _ | (simp; done) | (simp; omega)) _)))) (by omega)⟩
          | false =>
            rintro x w1 ⟨rfl, d8, rfl⟩
            go_wp2_with fail
            go_ret2
            rw [hLF.out hC, hC]
            exact ⟨_, rfl, gain_trans HGW.out (gain_trans HGX.out (by repeat (first | with_reducible (first | exact World.gained_refl _ | exact ⟨_, rfl⟩ | apply gain_ext | apply gain_alloc | apply gain_drewN | apply gain_drew) | (refine gain_setCell ?_ (by first | exact Nat.le_refl _ | exact World.size_ext _ _ | (simp; done) | (simp; omega)) _)))), own_lit' (l := ([] : List Ent)) Ent.cells_length rfl rfl (by have := World.size_ext X dC; have := World.size_ext (X.ext dC) d8; omega)⟩
      | some a =>
        obtain ⟨b, o, sp⟩ := a
        have HI : l.take k ++ [e] ++ l.drop k = entIns l e := by rw [entIns, HE.out]
        go_wp2_with fail
        refine wp_region_gain (by kernel_rfl) (by kernel_rfl) ?_
        repeat (first | go_big_quiet_skip | (go_big_quiet_want; go_big_quiet_op; first | go_big_quiet_on))
        refine wpQuiet_nil ?_
        rintro _ ⟨d', rfl⟩
        go_upto_region 6 with fail
        have HGX : Hid (∃ dd, (W1.ext d).ext d' = W1.ext dd) := Lib.hid (by repeat (first | with_reducible (first | exact World.gained_refl _ | exact ⟨_, rfl⟩ | apply gain_ext | apply gain_alloc | apply gain_drewN | apply gain_drew) | (refine gain_setCell ?_ (by first | exact Nat.le_refl _ | exact World.size_ext _ _ | (simp; done) | (simp; omega)) _)))
        generalize (W1.ext d).ext d' = X at HGX ⊢
        have by0 := cell_upE bx0 HGX.out
        have by1 := cell_upE bx1 HGX.out
        have by2 := cell_upE bx2 HGX.out
        have by3 := cell_upE bx3 HGX.out
        have by4 := cell_upE bx4 HGX.out
        have obX := World.oldB_of_cell by0
        have HLX := Lib.hid (sl_up Ent.cells_length HL1.out HGX.out)
        have hXs : W1.heap.size ≤ X.heap.size := gain_size HGX.out
        obtain ⟨A, hA⟩ : ∃ A : Addr, (if c = k then some (⟨b, o, sp⟩ : Addr) else some ((⟨b, o, sp⟩ : Addr).add (k * 5))) = some A := by split <;> exact ⟨_, rfl⟩
        refine wp_region_held_drew (S := (fun w' => w'.cell? ⟨w.heap.size, 0, none⟩ = some (.int .i64 e.runner) ∧ w'.cell? ⟨w.heap.size, 1, none⟩ = some (.int .i64 e.cls) ∧ w'.cell? ⟨w.heap.size, 2, none⟩ = some (.int .i64 e.day) ∧ w'.cell? ⟨w.heap.size, 3, none⟩ = some (.bool e.rent) ∧ w'.cell? ⟨w.heap.size, 4, none⟩ = some (.int .i64 e.paid))) (by kernel_rfl) (by (try dsimp only); (refine ⟨?_, ?_, ?_, ?_, ?_⟩ <;> (with_reducible (repeat (first | assumption | refine cell_ext ?_ _ | refine cell_drew ?_ | refine cell_alloc ?_ _))))) (fun hHeld => ?_)
        refine wpAnyH_take (i := 1) (oi := ⟨_, _, _, _, _, _⟩) (v := ?_) rfl (by kernel_rfl) (by kernel_rfl) (by kernel_rfl) (fun _ _ _ h => h) (Or.inl ⟨by rfl, ?_⟩) (by assumption) ?_
        rotate_left
        · intro w hSw; (try dsimp only at hSw); go_simp; (try with_reducible rfl)
        try simp only [Act.put, List.setIfInBounds_toArray, List.set_cons_zero, List.set_cons_succ]
        refine wpAnyH_take (i := 2) (oi := ⟨_, _, _, _, _, _⟩) (v := ?_) rfl (by kernel_rfl) (by kernel_rfl) (by kernel_rfl) (fun _ _ _ h => h) (Or.inl ⟨by rfl, ?_⟩) (by assumption) ?_
        rotate_left
        · intro w hSw; (try dsimp only at hSw); go_simp; (try with_reducible rfl)
        try simp only [Act.put, List.setIfInBounds_toArray, List.set_cons_zero, List.set_cons_succ]
        refine wpAnyH_take (i := 3) (oi := ⟨_, _, _, _, _, _⟩) (v := ?_) rfl (by kernel_rfl) (by kernel_rfl) (by kernel_rfl) (fun _ _ _ h => h) (Or.inl ⟨by rfl, ?_⟩) (by assumption) ?_
        rotate_left
        · intro w hSw; (try dsimp only at hSw); go_simp; (try with_reducible rfl)
        try simp only [Act.put, List.setIfInBounds_toArray, List.set_cons_zero, List.set_cons_succ]
        refine wpAnyH_take (i := 5) (oi := ⟨_, _, _, _, _, _⟩) (v := ?_) rfl (by kernel_rfl) (by kernel_rfl) (by kernel_rfl) (fun _ _ _ h => h) (Or.inl ⟨by rfl, ?_⟩) (by assumption) ?_
        rotate_left
        · intro w hSw; (try dsimp only at hSw); go_simp; (try with_reducible rfl)
        try simp only [Act.put, List.setIfInBounds_toArray, List.set_cons_zero, List.set_cons_succ]
        refine wpAnyH_take (i := 8) (oi := ⟨_, _, _, _, _, _⟩) (v := ?_) rfl (by kernel_rfl) (by kernel_rfl) (by kernel_rfl) (fun _ _ _ h => h) (Or.inl ⟨by rfl, ?_⟩) (by assumption) ?_
        rotate_left
        · intro w hSw; (try dsimp only at hSw); go_simp; (try with_reducible rfl)
        try simp only [Act.put, List.setIfInBounds_toArray, List.set_cons_zero, List.set_cons_succ]
        refine wpAnyH_take (i := 9) (oi := ⟨_, _, _, _, _, _⟩) (v := ?_) rfl (by kernel_rfl) (by kernel_rfl) (by kernel_rfl) (fun _ _ _ h => h) (Or.inl ⟨by rfl, ?_⟩) (by assumption) ?_
        rotate_left
        · intro w hSw; (try dsimp only at hSw); go_simp; (try with_reducible rfl)
        try simp only [Act.put, List.setIfInBounds_toArray, List.set_cons_zero, List.set_cons_succ]
        refine wpAnyH_take (i := 10) (oi := ⟨_, _, _, _, _, _⟩) (v := ?_) rfl (by kernel_rfl) (by kernel_rfl) (by kernel_rfl) (fun _ _ _ h => h) (Or.inl ⟨by rfl, ?_⟩) (by assumption) ?_
        rotate_left
        · intro w hSw; (try dsimp only at hSw); go_simp; (try with_reducible rfl)
        try simp only [Act.put, List.setIfInBounds_toArray, List.set_cons_zero, List.set_cons_succ]
        refine wpAnyH_ready (rs := [0, 6]) (by kernel_rfl) (by simp) ?_
        refine AllReadyH.cons rfl (fun K hK => ?_) (AllReadyH.cons rfl (fun K hK => ?_) (AllReadyH.nil))
        · skip
          go_simp
          have HA := Lib.hid (own_lit' (w := X.drew) (e := 30) (base := X.heap.size) (C := #[]) (l := ([] : List Ent)) (g := X.heap.size) Ent.cells_length rfl (by first | rfl | (simp; done) | (simp [World.size_alloc]; done)) (by first | exact Nat.le_refl _ | exact World.size_ext _ _ | (simp; done) | (simp; omega) | (simp [World.size_alloc]; done) | (simp [World.size_alloc]; omega)))
          (try dsimp only)
          refine hK.out _ _ ?_ (fun hHeld => ?_)
          · (try dsimp only); (refine ⟨?_, ?_, ?_, ?_, ?_⟩ <;> (with_reducible (repeat (first | assumption | refine cell_ext ?_ _ | refine cell_drew ?_ | refine cell_alloc ?_ _))))
          clear hK K
          try simp only [Act.put, List.setIfInBounds_toArray]
          refine wpAnyH_ready (rs := [4, 6]) (by kernel_rfl) (by simp) ?_
          refine AllReadyH.cons rfl (fun K hK => ?_) (AllReadyH.cons rfl (fun K hK => ?_) (AllReadyH.nil))
          · skip
            refine step_append_gain (W := X) (w := X.drew.alloc (.cells #[] 30)) (base := X.heap.size) (v := .slice (some ⟨X.heap.size, 0, none⟩) 0 0) (m := l.take k) (u := .slice (some ⟨b, o, sp⟩) k c) rfl (.tmp 28) (.tmp 31) rfl Try.underlying26 info_Ent (by rfl) (by omega) Ent.cells_length Ent.cells_one (by omega) (by repeat (first | with_reducible (first | exact World.gained_refl _ | exact ⟨_, rfl⟩ | apply gain_ext | apply gain_alloc | apply gain_drewN | apply gain_drew) | (refine gain_setCell ?_ (by first | exact Nat.le_refl _ | exact World.size_ext _ _ | (simp; done) | (simp; omega)) _))) (Nat.le_refl _) (gain_size (by repeat (first | with_reducible (first | exact World.gained_refl _ | exact ⟨_, rfl⟩ | apply gain_ext | apply gain_alloc | apply gain_drewN | apply gain_drew) | (refine gain_setCell ?_ (by first | exact Nat.le_refl _ | exact World.size_ext _ _ | (simp; done) | (simp; omega)) _)))) (by first | rfl | (simp; done) | (simp [World.size_alloc]; done)) (by first | rfl | (simp; done) | (simp [World.size_alloc]; done) | (rw [show l.length - k = 0 by omega]; rfl)) (HA.out) (sl_take (by with_reducible (repeat (first | exact HLX.out | refine World.sl_ext Ent.cells_length ?_ _ | refine sl_alloc Ent.cells_length ?_ _ | refine sl_drew ?_))) (by omega)) (by simp; omega) ?_
            intro vA dA hoA hgA
            rw [List.nil_append] at hoA
            have HA1 := Lib.hid hoA
            clear hoA hgA HA
            (try dsimp only)
            refine hK.out _ _ ?_ (fun hHeld => ?_)
            · (try dsimp only); (refine ⟨?_, ?_, ?_, ?_, ?_⟩ <;> (with_reducible (repeat (first | assumption | refine cell_ext ?_ _ | refine cell_drew ?_ | refine cell_alloc ?_ _))))
            clear hK K
            try simp only [Act.put, List.setIfInBounds_toArray]
            refine wpAnyH_ready (rs := [6]) (by kernel_rfl) (by simp) ?_
            refine AllReadyH.cons rfl (fun K hK => ?_) (AllReadyH.nil)
            go_simp
            have HU := Lib.hid (own_lit' (w := (X.ext dA)) (e := 30) (base := X.heap.size) (C := #[.int .i64 e.runner, .int .i64 e.cls, .int .i64 e.day, .bool e.rent, .int .i64 e.paid]) (l := [e]) (g := (X.ext dA).heap.size) Ent.cells_length rfl (by first | rfl | (simp; done) | (simp [World.size_alloc]; done)) (by first | exact Nat.le_refl _ | exact World.size_ext _ _ | (simp; done) | (simp; omega) | (simp [World.size_alloc]; done) | (simp [World.size_alloc]; omega)))
            (try dsimp only)
            refine hK.out _ _ ?_ (fun hHeld => ?_)
            · (try dsimp only); (refine ⟨?_, ?_, ?_, ?_, ?_⟩ <;> (with_reducible (repeat (first | assumption | refine cell_ext ?_ _ | refine cell_drew ?_ | refine cell_alloc ?_ _))))
            clear hK K
            try simp only [Act.put, List.setIfInBounds_toArray]
            refine wpAnyH_ready (rs := [7]) (by kernel_rfl) (by simp) ?_
            refine AllReadyH.cons rfl (fun K hK => ?_) (AllReadyH.nil)
            refine step_append_gain (W := X) (w := (X.ext dA).alloc (.cells #[.int .i64 e.runner, .int .i64 e.cls, .int .i64 e.day, .bool e.rent, .int .i64 e.paid] 30)) (base := X.heap.size) (v := vA) (m := [e]) (u := .slice (some ⟨(X.ext dA).heap.size, 0, none⟩) 1 1) rfl (.tmp 32) (.tmp 34) rfl Try.underlying26 info_Ent (by rfl) (by omega) Ent.cells_length Ent.cells_one (by omega) (by repeat (first | with_reducible (first | exact World.gained_refl _ | exact ⟨_, rfl⟩ | apply gain_ext | apply gain_alloc | apply gain_drewN | apply gain_drew) | (refine gain_setCell ?_ (by first | exact Nat.le_refl _ | exact World.size_ext _ _ | (simp; done) | (simp; omega)) _))) (Nat.le_refl _) (gain_size (by repeat (first | with_reducible (first | exact World.gained_refl _ | exact ⟨_, rfl⟩ | apply gain_ext | apply gain_alloc | apply gain_drewN | apply gain_drew) | (refine gain_setCell ?_ (by first | exact Nat.le_refl _ | exact World.size_ext _ _ | (simp; done) | (simp; omega)) _)))) (by first | rfl | (simp; done) | (simp [World.size_alloc]; done)) (by first | rfl | (simp; done) | (simp [World.size_alloc]; done) | (rw [show l.length - k = 0 by omega]; rfl)) (own_up HA1.out (by repeat (first | with_reducible (first | exact World.gained_refl _ | exact ⟨_, rfl⟩ | apply gain_ext | apply gain_alloc | apply gain_drewN | apply gain_drew) | (refine gain_setCell ?_ (by first | exact Nat.le_refl _ | exact World.size_ext _ _ | (simp; done) | (simp; omega)) _)))) (sl_up Ent.cells_length (sl_of_own Ent.cells_length HU.out) (by repeat (first | with_reducible (first | exact World.gained_refl _ | exact ⟨_, rfl⟩ | apply gain_ext | apply gain_alloc | apply gain_drewN | apply gain_drew) | (refine gain_setCell ?_ (by first | exact Nat.le_refl _ | exact World.size_ext _ _ | (simp; done) | (simp; omega)) _)))) (by simp; omega) ?_
            intro vB dB hoB hgB
            have HA2 := Lib.hid hoB
            clear hoB hgB HA1 HU
            (try dsimp only)
            refine hK.out _ _ ?_ (fun hHeld => ?_)
            · (try dsimp only); (refine ⟨?_, ?_, ?_, ?_, ?_⟩ <;> (with_reducible (repeat (first | assumption | refine cell_ext ?_ _ | refine cell_drew ?_ | refine cell_alloc ?_ _))))
            clear hK K
            try simp only [Act.put, List.setIfInBounds_toArray]
            refine wpAnyH_ready (rs := [11]) (by kernel_rfl) (by simp) ?_
            refine AllReadyH.cons rfl (fun K hK => ?_) (AllReadyH.nil)
            refine step_append_gain (W := X) (w := X.ext dB) (base := X.heap.size) (v := vB) (m := l.drop k) (u := .slice (some A) (l.length - k) (c - k)) rfl (.tmp 35) (.tmp 38) rfl Try.underlying26 info_Ent (by rfl) (by omega) Ent.cells_length Ent.cells_one (by omega) (by repeat (first | with_reducible (first | exact World.gained_refl _ | exact ⟨_, rfl⟩ | apply gain_ext | apply gain_alloc | apply gain_drewN | apply gain_drew) | (refine gain_setCell ?_ (by first | exact Nat.le_refl _ | exact World.size_ext _ _ | (simp; done) | (simp; omega)) _))) (Nat.le_refl _) (gain_size (by repeat (first | with_reducible (first | exact World.gained_refl _ | exact ⟨_, rfl⟩ | apply gain_ext | apply gain_alloc | apply gain_drewN | apply gain_drew) | (refine gain_setCell ?_ (by first | exact Nat.le_refl _ | exact World.size_ext _ _ | (simp; done) | (simp; omega)) _)))) (by first | rfl | (simp; done) | (simp [World.size_alloc]; done)) (by first | rfl | (simp; done) | (simp [World.size_alloc]; done) | (rw [show l.length - k = 0 by omega]; rfl)) (HA2.out) (sl_tail0 _ _ _ _ _ _ hk9) (by simp; omega) ?_
            intro vC dC hoC hgC
            (try dsimp only)
            refine hK.out _ _ ?_ (fun hHeld => ?_)
            · (try dsimp only); (refine ⟨?_, ?_, ?_, ?_, ?_⟩ <;> (with_reducible (repeat (first | assumption | refine cell_ext ?_ _ | refine cell_drew ?_ | refine cell_alloc ?_ _))))
            clear hK K
            try simp only [Act.put, List.setIfInBounds_toArray]
            refine wpAnyH_take (i := 12) (oi := ⟨_, _, _, _, _, _⟩) (v := ?_) rfl (by kernel_rfl) (by kernel_rfl) (by kernel_rfl) (fun _ _ _ h => h) (Or.inl ⟨by rfl, ?_⟩) (by assumption) ?_
            rotate_left
            · intro w hSw; (try dsimp only at hSw); go_simp; (try with_reducible rfl)
            try simp only [Act.put, List.setIfInBounds_toArray, List.set_cons_zero, List.set_cons_succ]
            refine wpAnyH_done (by kernel_rfl) ?_ _
            rw [HI] at hoC
            have HO := Lib.hid hoC
            clear hoC hgC HA2
            go_wp2_with fail
            refine (l11Good_any _ (entIns l e) _ (by with_reducible (repeat (first | exact sl_of_own Ent.cells_length HO.out | refine World.sl_ext Ent.cells_length ?_ _ | refine sl_alloc Ent.cells_length ?_ _ | refine sl_drew ?_))) (by rw [entIns_len]; omega)).mono ?_
            cases hC : entsB (entIns l e) with
            | true =>
              rintro x w1 ⟨rfl, d8, rfl⟩
              go_wp2_with fail
              go_ret2
              rw [hLT.out hC, hC]
              exact ⟨_, rfl, gain_trans HGW.out (gain_trans HGX.out (by repeat (first | with_reducible (first | exact World.gained_refl _ | exact ⟨_, rfl⟩ | apply gain_ext | apply gain_alloc | apply gain_drewN | apply gain_drew) | (refine gain_setCell ?_ (by first | exact Nat.le_refl _ | exact World.size_ext _ _ | (simp; done) | (simp; omega)) _)))), own_base (own_up HO.out (by repeat (first | with_reducible (first | exact World.gained_refl _ | exact ⟨_, rfl⟩ | apply gain_ext | apply gain_alloc | apply gain_drewN | apply gain_drew) | (refine gain_setCell ?_ (by first | exact Nat.le_refl _ | exact World.size_ext _ _ | (simp; done) | (simp; omega)) _)))) (by omega)⟩
            | false =>
              rintro x w1 ⟨rfl, d8, rfl⟩
              go_wp2_with fail
              go_ret2
              rw [hLF.out hC, hC]
              exact ⟨_, rfl, gain_trans HGW.out (gain_trans HGX.out (by repeat (first | with_reducible (first | exact World.gained_refl _ | exact ⟨_, rfl⟩ | apply gain_ext | apply gain_alloc | apply gain_drewN | apply gain_drew) | (refine gain_setCell ?_ (by first | exact Nat.le_refl _ | exact World.size_ext _ _ | (simp; done) | (simp; omega)) _)))), own_lit' (l := ([] : List Ent)) Ent.cells_length rfl rfl (by have := World.size_ext X dC; have := World.size_ext (X.ext dC) d8; omega)⟩
          · skip
            go_simp
            have HU := Lib.hid (own_lit' (w := (X.drew.alloc (.cells #[] 30))) (e := 30) (base := X.heap.size) (C := #[.int .i64 e.runner, .int .i64 e.cls, .int .i64 e.day, .bool e.rent, .int .i64 e.paid]) (l := [e]) (g := X.heap.size + 1) Ent.cells_length rfl (by first | rfl | (simp; done) | (simp [World.size_alloc]; done)) (by first | exact Nat.le_refl _ | exact World.size_ext _ _ | (simp; done) | (simp; omega) | (simp [World.size_alloc]; done) | (simp [World.size_alloc]; omega)))
            (try dsimp only)
            refine hK.out _ _ ?_ (fun hHeld => ?_)
            · (try dsimp only); (refine ⟨?_, ?_, ?_, ?_, ?_⟩ <;> (with_reducible (repeat (first | assumption | refine cell_ext ?_ _ | refine cell_drew ?_ | refine cell_alloc ?_ _))))
            clear hK K
            try simp only [Act.put, List.setIfInBounds_toArray]
            refine wpAnyH_ready (rs := [4]) (by kernel_rfl) (by simp) ?_
            refine AllReadyH.cons rfl (fun K hK => ?_) (AllReadyH.nil)
            refine step_append_gain (W := X) (w := (X.drew.alloc (.cells #[] 30)).alloc (.cells #[.int .i64 e.runner, .int .i64 e.cls, .int .i64 e.day, .bool e.rent, .int .i64 e.paid] 30)) (base := X.heap.size) (v := .slice (some ⟨X.heap.size, 0, none⟩) 0 0) (m := l.take k) (u := .slice (some ⟨b, o, sp⟩) k c) rfl (.tmp 28) (.tmp 31) rfl Try.underlying26 info_Ent (by rfl) (by omega) Ent.cells_length Ent.cells_one (by omega) (by repeat (first | with_reducible (first | exact World.gained_refl _ | exact ⟨_, rfl⟩ | apply gain_ext | apply gain_alloc | apply gain_drewN | apply gain_drew) | (refine gain_setCell ?_ (by first | exact Nat.le_refl _ | exact World.size_ext _ _ | (simp; done) | (simp; omega)) _))) (Nat.le_refl _) (gain_size (by repeat (first | with_reducible (first | exact World.gained_refl _ | exact ⟨_, rfl⟩ | apply gain_ext | apply gain_alloc | apply gain_drewN | apply gain_drew) | (refine gain_setCell ?_ (by first | exact Nat.le_refl _ | exact World.size_ext _ _ | (simp; done) | (simp; omega)) _)))) (by first | rfl | (simp; done) | (simp [World.size_alloc]; done)) (by first | rfl | (simp; done) | (simp [World.size_alloc]; done) | (rw [show l.length - k = 0 by omega]; rfl)) (own_up HA.out (by repeat (first | with_reducible (first | exact World.gained_refl _ | exact ⟨_, rfl⟩ | apply gain_ext | apply gain_alloc | apply gain_drewN | apply gain_drew) | (refine gain_setCell ?_ (by first | exact Nat.le_refl _ | exact World.size_ext _ _ | (simp; done) | (simp; omega)) _)))) (sl_take (by with_reducible (repeat (first | exact HLX.out | refine World.sl_ext Ent.cells_length ?_ _ | refine sl_alloc Ent.cells_length ?_ _ | refine sl_drew ?_))) (by omega)) (by simp; omega) ?_
            intro vA dA hoA hgA
            rw [List.nil_append] at hoA
            replace HU := Lib.hid (own_mark (own_up HU.out (w' := _) (by repeat (first | with_reducible (first | exact World.gained_refl _ | exact ⟨_, rfl⟩ | apply gain_ext | apply gain_alloc | apply gain_drewN | apply gain_drew) | (refine gain_setCell ?_ (by first | exact Nat.le_refl _ | exact World.size_ext _ _ | (simp; done) | (simp; omega)) _)))) hgA (by first | (simp; done) | (simp [Value.ownBlock]; done) | (simp [Value.ownBlock, World.size_alloc]; done)))
            have HA1 := Lib.hid hoA
            clear hoA hgA HA
            (try dsimp only)
            refine hK.out _ _ ?_ (fun hHeld => ?_)
            · (try dsimp only); (refine ⟨?_, ?_, ?_, ?_, ?_⟩ <;> (with_reducible (repeat (first | assumption | refine cell_ext ?_ _ | refine cell_drew ?_ | refine cell_alloc ?_ _))))
            clear hK K
            try simp only [Act.put, List.setIfInBounds_toArray]
            refine wpAnyH_ready (rs := [7]) (by kernel_rfl) (by simp) ?_
            refine AllReadyH.cons rfl (fun K hK => ?_) (AllReadyH.nil)
            refine step_append_gain (W := X) (w := X.ext dA) (base := X.heap.size) (v := vA) (m := [e]) (u := .slice (some ⟨X.heap.size + 1, 0, none⟩) 1 1) rfl (.tmp 32) (.tmp 34) rfl Try.underlying26 info_Ent (by rfl) (by omega) Ent.cells_length Ent.cells_one (by omega) (by repeat (first | with_reducible (first | exact World.gained_refl _ | exact ⟨_, rfl⟩ | apply gain_ext | apply gain_alloc | apply gain_drewN | apply gain_drew) | (refine gain_setCell ?_ (by first | exact Nat.le_refl _ | exact World.size_ext _ _ | (simp; done) | (simp; omega)) _))) (Nat.le_refl _) (gain_size (by repeat (first | with_reducible (first | exact World.gained_refl _ | exact ⟨_, rfl⟩ | apply gain_ext | apply gain_alloc | apply gain_drewN | apply gain_drew) | (refine gain_setCell ?_ (by first | exact Nat.le_refl _ | exact World.size_ext _ _ | (simp; done) | (simp; omega)) _)))) (by first | rfl | (simp; done) | (simp [World.size_alloc]; done)) (by first | rfl | (simp; done) | (simp [World.size_alloc]; done) | (rw [show l.length - k = 0 by omega]; rfl)) (own_up HA1.out (by repeat (first | with_reducible (first | exact World.gained_refl _ | exact ⟨_, rfl⟩ | apply gain_ext | apply gain_alloc | apply gain_drewN | apply gain_drew) | (refine gain_setCell ?_ (by first | exact Nat.le_refl _ | exact World.size_ext _ _ | (simp; done) | (simp; omega)) _)))) (sl_up Ent.cells_length (sl_of_own Ent.cells_length HU.out) (by repeat (first | with_reducible (first | exact World.gained_refl _ | exact ⟨_, rfl⟩ | apply gain_ext | apply gain_alloc | apply gain_drewN | apply gain_drew) | (refine gain_setCell ?_ (by first | exact Nat.le_refl _ | exact World.size_ext _ _ | (simp; done) | (simp; omega)) _)))) (by simp; omega) ?_
            intro vB dB hoB hgB
            have HA2 := Lib.hid hoB
            clear hoB hgB HA1 HU
            (try dsimp only)
            refine hK.out _ _ ?_ (fun hHeld => ?_)
            · (try dsimp only); (refine ⟨?_, ?_, ?_, ?_, ?_⟩ <;> (with_reducible (repeat (first | assumption | refine cell_ext ?_ _ | refine cell_drew ?_ | refine cell_alloc ?_ _))))
            clear hK K
            try simp only [Act.put, List.setIfInBounds_toArray]
            refine wpAnyH_ready (rs := [11]) (by kernel_rfl) (by simp) ?_
            refine AllReadyH.cons rfl (fun K hK => ?_) (AllReadyH.nil)
            refine step_append_gain (W := X) (w := X.ext dB) (base := X.heap.size) (v := vB) (m := l.drop k) (u := .slice (some A) (l.length - k) (c - k)) rfl (.tmp 35) (.tmp 38) rfl Try.underlying26 info_Ent (by rfl) (by omega) Ent.cells_length Ent.cells_one (by omega) (by repeat (first | with_reducible (first | exact World.gained_refl _ | exact ⟨_, rfl⟩ | apply gain_ext | apply gain_alloc | apply gain_drewN | apply gain_drew) | (refine gain_setCell ?_ (by first | exact Nat.le_refl _ | exact World.size_ext _ _ | (simp; done) | (simp; omega)) _))) (Nat.le_refl _) (gain_size (by repeat (first | with_reducible (first | exact World.gained_refl _ | exact ⟨_, rfl⟩ | apply gain_ext | apply gain_alloc | apply gain_drewN | apply gain_drew) | (refine gain_setCell ?_ (by first | exact Nat.le_refl _ | exact World.size_ext _ _ | (simp; done) | (simp; omega)) _)))) (by first | rfl | (simp; done) | (simp [World.size_alloc]; done)) (by first | rfl | (simp; done) | (simp [World.size_alloc]; done) | (rw [show l.length - k = 0 by omega]; rfl)) (HA2.out) (sl_tail0 _ _ _ _ _ _ hk9) (by simp; omega) ?_
            intro vC dC hoC hgC
            (try dsimp only)
            refine hK.out _ _ ?_ (fun hHeld => ?_)
            · (try dsimp only); (refine ⟨?_, ?_, ?_, ?_, ?_⟩ <;> (with_reducible (repeat (first | assumption | refine cell_ext ?_ _ | refine cell_drew ?_ | refine cell_alloc ?_ _))))
            clear hK K
            try simp only [Act.put, List.setIfInBounds_toArray]
            refine wpAnyH_take (i := 12) (oi := ⟨_, _, _, _, _, _⟩) (v := ?_) rfl (by kernel_rfl) (by kernel_rfl) (by kernel_rfl) (fun _ _ _ h => h) (Or.inl ⟨by rfl, ?_⟩) (by assumption) ?_
            rotate_left
            · intro w hSw; (try dsimp only at hSw); go_simp; (try with_reducible rfl)
            try simp only [Act.put, List.setIfInBounds_toArray, List.set_cons_zero, List.set_cons_succ]
            refine wpAnyH_done (by kernel_rfl) ?_ _
            rw [HI] at hoC
            have HO := Lib.hid hoC
            clear hoC hgC HA2
            go_wp2_with fail
            refine (l11Good_any _ (entIns l e) _ (by with_reducible (repeat (first | exact sl_of_own Ent.cells_length HO.out | refine World.sl_ext Ent.cells_length ?_ _ | refine sl_alloc Ent.cells_length ?_ _ | refine sl_drew ?_))) (by rw [entIns_len]; omega)).mono ?_
            cases hC : entsB (entIns l e) with
            | true =>
              rintro x w1 ⟨rfl, d8, rfl⟩
              go_wp2_with fail
              go_ret2
              rw [hLT.out hC, hC]
              exact ⟨_, rfl, gain_trans HGW.out (gain_trans HGX.out (by repeat (first | with_reducible (first | exact World.gained_refl _ | exact ⟨_, rfl⟩ | apply gain_ext | apply gain_alloc | apply gain_drewN | apply gain_drew) | (refine gain_setCell ?_ (by first | exact Nat.le_refl _ | exact World.size_ext _ _ | (simp; done) | (simp; omega)) _)))), own_base (own_up HO.out (by repeat (first | with_reducible (first | exact World.gained_refl _ | exact ⟨_, rfl⟩ | apply gain_ext | apply gain_alloc | apply gain_drewN | apply gain_drew) | (refine gain_setCell ?_ (by first | exact Nat.le_refl _ | exact World.size_ext _ _ | (simp; done) | (simp; omega)) _)))) (by omega)⟩
            | false =>
              rintro x w1 ⟨rfl, d8, rfl⟩
              go_wp2_with fail
              go_ret2
              rw [hLF.out hC, hC]
              exact ⟨_, rfl, gain_trans HGW.out (gain_trans HGX.out (by repeat (first | with_reducible (first | exact World.gained_refl _ | exact ⟨_, rfl⟩ | apply gain_ext | apply gain_alloc | apply gain_drewN | apply gain_drew) | (refine gain_setCell ?_ (by first | exact Nat.le_refl _ | exact World.size_ext _ _ | (simp; done) | (simp; omega)) _)))), own_lit' (l := ([] : List Ent)) Ent.cells_length rfl rfl (by have := World.size_ext X dC; have := World.size_ext (X.ext dC) d8; omega)⟩
        · skip
          go_simp
          have HU := Lib.hid (own_lit' (w := X.drew) (e := 30) (base := X.heap.size) (C := #[.int .i64 e.runner, .int .i64 e.cls, .int .i64 e.day, .bool e.rent, .int .i64 e.paid]) (l := [e]) (g := X.heap.size) Ent.cells_length rfl (by first | rfl | (simp; done) | (simp [World.size_alloc]; done)) (by first | exact Nat.le_refl _ | exact World.size_ext _ _ | (simp; done) | (simp; omega) | (simp [World.size_alloc]; done) | (simp [World.size_alloc]; omega)))
          (try dsimp only)
          refine hK.out _ _ ?_ (fun hHeld => ?_)
          · (try dsimp only); (refine ⟨?_, ?_, ?_, ?_, ?_⟩ <;> (with_reducible (repeat (first | assumption | refine cell_ext ?_ _ | refine cell_drew ?_ | refine cell_alloc ?_ _))))
          clear hK K
          try simp only [Act.put, List.setIfInBounds_toArray]
          refine wpAnyH_ready (rs := [0]) (by kernel_rfl) (by simp) ?_
          refine AllReadyH.cons rfl (fun K hK => ?_) (AllReadyH.nil)
          go_simp
          have HA := Lib.hid (own_lit' (w := (X.drew.alloc (.cells #[.int .i64 e.runner, .int .i64 e.cls, .int .i64 e.day, .bool e.rent, .int .i64 e.paid] 30))) (e := 30) (base := X.heap.size) (C := #[]) (l := ([] : List Ent)) (g := X.heap.size + 1) Ent.cells_length rfl (by first | rfl | (simp; done) | (simp [World.size_alloc]; done)) (by first | exact Nat.le_refl _ | exact World.size_ext _ _ | (simp; done) | (simp; omega) | (simp [World.size_alloc]; done) | (simp [World.size_alloc]; omega)))
          (try dsimp only)
          refine hK.out _ _ ?_ (fun hHeld => ?_)
          · (try dsimp only); (refine ⟨?_, ?_, ?_, ?_, ?_⟩ <;> (with_reducible (repeat (first | assumption | refine cell_ext ?_ _ | refine cell_drew ?_ | refine cell_alloc ?_ _))))
          clear hK K
          try simp only [Act.put, List.setIfInBounds_toArray]
          refine wpAnyH_ready (rs := [4]) (by kernel_rfl) (by simp) ?_
          refine AllReadyH.cons rfl (fun K hK => ?_) (AllReadyH.nil)
          refine step_append_gain (W := X) (w := (X.drew.alloc (.cells #[.int .i64 e.runner, .int .i64 e.cls, .int .i64 e.day, .bool e.rent, .int .i64 e.paid] 30)).alloc (.cells #[] 30)) (base := X.heap.size) (v := .slice (some ⟨X.heap.size + 1, 0, none⟩) 0 0) (m := l.take k) (u := .slice (some ⟨b, o, sp⟩) k c) rfl (.tmp 28) (.tmp 31) rfl Try.underlying26 info_Ent (by rfl) (by omega) Ent.cells_length Ent.cells_one (by omega) (by repeat (first | with_reducible (first | exact World.gained_refl _ | exact ⟨_, rfl⟩ | apply gain_ext | apply gain_alloc | apply gain_drewN | apply gain_drew) | (refine gain_setCell ?_ (by first | exact Nat.le_refl _ | exact World.size_ext _ _ | (simp; done) | (simp; omega)) _))) (Nat.le_refl _) (gain_size (by repeat (first | with_reducible (first | exact World.gained_refl _ | exact ⟨_, rfl⟩ | apply gain_ext | apply gain_alloc | apply gain_drewN | apply gain_drew) | (refine gain_setCell ?_ (by first | exact Nat.le_refl _ | exact World.size_ext _ _ | (simp; done) | (simp; omega)) _)))) (by first | rfl | (simp; done) | (simp [World.size_alloc]; done)) (by first | rfl | (simp; done) | (simp [World.size_alloc]; done) | (rw [show l.length - k = 0 by omega]; rfl)) (HA.out) (sl_take (by with_reducible (repeat (first | exact HLX.out | refine World.sl_ext Ent.cells_length ?_ _ | refine sl_alloc Ent.cells_length ?_ _ | refine sl_drew ?_))) (by omega)) (by simp; omega) ?_
          intro vA dA hoA hgA
          rw [List.nil_append] at hoA
          replace HU := Lib.hid (own_mark (own_up HU.out (w' := _) (by repeat (first | with_reducible (first | exact World.gained_refl _ | exact ⟨_, rfl⟩ | apply gain_ext | apply gain_alloc | apply gain_drewN | apply gain_drew) | (refine gain_setCell ?_ (by first | exact Nat.le_refl _ | exact World.size_ext _ _ | (simp; done) | (simp; omega)) _)))) hgA (by first | (simp; done) | (simp [Value.ownBlock]; done) | (simp [Value.ownBlock, World.size_alloc]; done)))
          have HA1 := Lib.hid hoA
          clear hoA hgA HA
          (try dsimp only)
          refine hK.out _ _ ?_ (fun hHeld => ?_)
          · (try dsimp only); (refine ⟨?_, ?_, ?_, ?_, ?_⟩ <;> (with_reducible (repeat (first | assumption | refine cell_ext ?_ _ | refine cell_drew ?_ | refine cell_alloc ?_ _))))
          clear hK K
          try simp only [Act.put, List.setIfInBounds_toArray]
          refine wpAnyH_ready (rs := [7]) (by kernel_rfl) (by simp) ?_
          refine AllReadyH.cons rfl (fun K hK => ?_) (AllReadyH.nil)
          refine step_append_gain (W := X) (w := X.ext dA) (base := X.heap.size) (v := vA) (m := [e]) (u := .slice (some ⟨X.heap.size, 0, none⟩) 1 1) rfl (.tmp 32) (.tmp 34) rfl Try.underlying26 info_Ent (by rfl) (by omega) Ent.cells_length Ent.cells_one (by omega) (by repeat (first | with_reducible (first | exact World.gained_refl _ | exact ⟨_, rfl⟩ | apply gain_ext | apply gain_alloc | apply gain_drewN | apply gain_drew) | (refine gain_setCell ?_ (by first | exact Nat.le_refl _ | exact World.size_ext _ _ | (simp; done) | (simp; omega)) _))) (Nat.le_refl _) (gain_size (by repeat (first | with_reducible (first | exact World.gained_refl _ | exact ⟨_, rfl⟩ | apply gain_ext | apply gain_alloc | apply gain_drewN | apply gain_drew) | (refine gain_setCell ?_ (by first | exact Nat.le_refl _ | exact World.size_ext _ _ | (simp; done) | (simp; omega)) _)))) (by first | rfl | (simp; done) | (simp [World.size_alloc]; done)) (by first | rfl | (simp; done) | (simp [World.size_alloc]; done) | (rw [show l.length - k = 0 by omega]; rfl)) (own_up HA1.out (by repeat (first | with_reducible (first | exact World.gained_refl _ | exact ⟨_, rfl⟩ | apply gain_ext | apply gain_alloc | apply gain_drewN | apply gain_drew) | (refine gain_setCell ?_ (by first | exact Nat.le_refl _ | exact World.size_ext _ _ | (simp; done) | (simp; omega)) _)))) (sl_up Ent.cells_length (sl_of_own Ent.cells_length HU.out) (by repeat (first | with_reducible (first | exact World.gained_refl _ | exact ⟨_, rfl⟩ | apply gain_ext | apply gain_alloc | apply gain_drewN | apply gain_drew) | (refine gain_setCell ?_ (by first | exact Nat.le_refl _ | exact World.size_ext _ _ | (simp; done) | (simp; omega)) _)))) (by simp; omega) ?_
          intro vB dB hoB hgB
          have HA2 := Lib.hid hoB
          clear hoB hgB HA1 HU
          (try dsimp only)
          refine hK.out _ _ ?_ (fun hHeld => ?_)
          · (try dsimp only); (refine ⟨?_, ?_, ?_, ?_, ?_⟩ <;> (with_reducible (repeat (first | assumption | refine cell_ext ?_ _ | refine cell_drew ?_ | refine cell_alloc ?_ _))))
          clear hK K
          try simp only [Act.put, List.setIfInBounds_toArray]
          refine wpAnyH_ready (rs := [11]) (by kernel_rfl) (by simp) ?_
          refine AllReadyH.cons rfl (fun K hK => ?_) (AllReadyH.nil)
          refine step_append_gain (W := X) (w := X.ext dB) (base := X.heap.size) (v := vB) (m := l.drop k) (u := .slice (some A) (l.length - k) (c - k)) rfl (.tmp 35) (.tmp 38) rfl Try.underlying26 info_Ent (by rfl) (by omega) Ent.cells_length Ent.cells_one (by omega) (by repeat (first | with_reducible (first | exact World.gained_refl _ | exact ⟨_, rfl⟩ | apply gain_ext | apply gain_alloc | apply gain_drewN | apply gain_drew) | (refine gain_setCell ?_ (by first | exact Nat.le_refl _ | exact World.size_ext _ _ | (simp; done) | (simp; omega)) _))) (Nat.le_refl _) (gain_size (by repeat (first | with_reducible (first | exact World.gained_refl _ | exact ⟨_, rfl⟩ | apply gain_ext | apply gain_alloc | apply gain_drewN | apply gain_drew) | (refine gain_setCell ?_ (by first | exact Nat.le_refl _ | exact World.size_ext _ _ | (simp; done) | (simp; omega)) _)))) (by first | rfl | (simp; done) | (simp [World.size_alloc]; done)) (by first | rfl | (simp; done) | (simp [World.size_alloc]; done) | (rw [show l.length - k = 0 by omega]; rfl)) (HA2.out) (sl_tail0 _ _ _ _ _ _ hk9) (by simp; omega) ?_
          intro vC dC hoC hgC
          (try dsimp only)
          refine hK.out _ _ ?_ (fun hHeld => ?_)
          · (try dsimp only); (refine ⟨?_, ?_, ?_, ?_, ?_⟩ <;> (with_reducible (repeat (first | assumption | refine cell_ext ?_ _ | refine cell_drew ?_ | refine cell_alloc ?_ _))))
          clear hK K
          try simp only [Act.put, List.setIfInBounds_toArray]
          refine wpAnyH_take (i := 12) (oi := ⟨_, _, _, _, _, _⟩) (v := ?_) rfl (by kernel_rfl) (by kernel_rfl) (by kernel_rfl) (fun _ _ _ h => h) (Or.inl ⟨by rfl, ?_⟩) (by assumption) ?_
          rotate_left
          · intro w hSw; (try dsimp only at hSw); go_simp; (try with_reducible rfl)
          try simp only [Act.put, List.setIfInBounds_toArray, List.set_cons_zero, List.set_cons_succ]
          refine wpAnyH_done (by kernel_rfl) ?_ _
          rw [HI] at hoC
          have HO := Lib.hid hoC
          clear hoC hgC HA2
          go_wp2_with fail
          refine (l11Good_any _ (entIns l e) _ (by with_reducible (repeat (first | exact sl_of_own Ent.cells_length HO.out | refine World.sl_ext Ent.cells_length ?_ _ | refine sl_alloc Ent.cells_length ?_ _ | refine sl_drew ?_))) (by rw [entIns_len]; omega)).mono ?_
          cases hC : entsB (entIns l e) with
          | true =>
            rintro x w1 ⟨rfl, d8, rfl⟩
            go_wp2_with fail
            go_ret2
            rw [hLT.out hC, hC]
            exact ⟨_, rfl, gain_trans HGW.out (gain_trans HGX.out (by repeat (first | with_reducible (first | exact World.gained_refl _ | exact ⟨_, rfl⟩ | apply gain_ext | apply gain_alloc | apply gain_drewN | apply gain_drew) | (refine gain_setCell ?_ (by first | exact Nat.le_refl _ | exact World.size_ext _ _ | (simp; done) | (simp; omega)) _)))), own_base (own_up HO.out (by repeat (first | with_reducible (first | exact World.gained_refl _ | exact ⟨_, rfl⟩ | apply gain_ext | apply gain_alloc | apply gain_drewN | apply gain_drew) | (refine gain_setCell ?_ (by first | exact Nat.le_refl _ | exact World.size_ext _ _ | (simp; done) | (simp; omega)) _)))) (by omega)⟩
          | false =>
            rintro x w1 ⟨rfl, d8, rfl⟩
            go_wp2_with fail
            go_ret2
            rw [hLF.out hC, hC]
            exact ⟨_, rfl, gain_trans HGW.out (gain_trans HGX.out (by repeat (first | with_reducible (first | exact World.gained_refl _ | exact ⟨_, rfl⟩ | apply gain_ext | apply gain_alloc | apply gain_drewN | apply gain_drew) | (refine gain_setCell ?_ (by first | exact Nat.le_refl _ | exact World.size_ext _ _ | (simp; done) | (simp; omega)) _)))), own_lit' (l := ([] : List Ent)) Ent.cells_length rfl rfl (by have := World.size_ext X dC; have := World.size_ext (X.ext dC) d8; omega)⟩
end Go.Proofs.Ytnpfghpjlbjpnaa
