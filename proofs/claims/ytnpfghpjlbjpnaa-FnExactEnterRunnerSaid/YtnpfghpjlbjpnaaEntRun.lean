/- impl.EnterRunner. Condition: at most 1048576 entries. -/
import Derived.Test.YtnpfghpjlbjpnaaEntIns
import Derived.Test.YtnpfghpjlbjpnaaL11
import Derived.Test.YtnpfghpjlbjpnaaAppWhere2
namespace Go.Proofs.Ytnpfghpjlbjpnaa
open Go.RowKit Go.Ori
theorem cell_upE {w w' : World} {a : Addr} {v : Value} (h : w.cell? a = some v) (hg : ∃ d, w' = w.ext d) : w'.cell? a = some v := by
  obtain ⟨d, rfl⟩ := hg
  exact cell_ext h d
theorem sl_tail0 {α : Type} (w : World) (enc : α → List Value) (sz : Nat) (p : Option Addr) (c : Nat) (l : List α) {k : Nat} (hk : l.length ≤ k) : w.sl enc sz (.slice p (l.length - k) (c - k)) (l.drop k) :=
  ⟨p, c - k, by rw [List.length_drop], fun h0 => absurd h0 (by rw [List.length_drop]; omega), by rw [List.length_drop]; omega⟩
set_option maxHeartbeats 8000000 in
theorem enterRunner_any (v : Value) (l : List Ent) (e : Ent) (w : World) (h : w.sl Ent.cells 5 v l) (hl : l.length ≤ 1048576) :
    Calls Try.prog 8 #[v, .agg #[.int .i64 e.runner, .int .i64 e.cls, .int .i64 e.day, .bool e.rent, .int .i64 e.paid]] w fun x w' => ∃ R, x = .returned (.tuple #[R, .bool (entrB l e)]) ∧ (∃ d, w' = w.ext d) ∧ w'.own w.heap.size 30 Ent.cells 5 R (entrL l e) := by
  have hs := Lib.hid h
  obtain ⟨p, c, rfl, _, hcap⟩ := id h
  clear h
  cases hB : entsB l with
  | false =>
    have h0 : entrB l e = false := by simp [entrB, hB]
    have hG := Lib.hid (fun W hL => areEntries_any (.slice p l.length c) l W hL hl)
    rw [entrL_no h0, h0]
    rw [hB] at hG
    clear h0 hB
    go_enter Try.func8, Try.ntmps8
    go_wp2_with (go_at_call 13; refine (hG.out _ (by with_reducible (repeat (first | exact hs.out | refine World.sl_ext Ent.cells_length ?_ _ | refine sl_alloc Ent.cells_length ?_ _ | refine sl_drew ?_)))).mono ?_; rintro x w1 ⟨rfl, d1, rfl⟩)
    go_ret2
    exact ⟨_, rfl, (by repeat (first | with_reducible (first | exact World.gained_refl _ | exact ⟨_, rfl⟩ | apply gain_ext | apply gain_alloc | apply gain_drewN | apply gain_drew) | (refine gain_setCell ?_ (by first | exact Nat.le_refl _ | exact World.size_ext _ _ | (simp; done) | (simp; omega)) _))), own_nil _ _ _ _ _⟩
  | true =>
  have hl12 := entsB_len hB
  have hBT : Hid (entrB l e = entsB (entIns l e)) := Lib.hid (by simp [entrB, hB])
  have hLT : Hid (entsB (entIns l e) = true → entrL l e = entIns l e) := Lib.hid (fun h => by simp [entrL, entrB, hB, h])
  have hLF : Hid (entsB (entIns l e) = false → entrL l e = []) := Lib.hid (fun h => by simp [entrL, entrB, hB, h])
  have hAT := Lib.hid (fun k hk h1 h2 => entAt_eq (l := l) (e := e) (k := k) hk h1 h2)
  have hG := Lib.hid (fun W hL => areEntries_any (.slice p l.length c) l W hL hl)
  rw [hBT.out]
  rw [hB] at hG
  clear hB hBT
  go_enter Try.func8, Try.ntmps8
  go_wp2_with fail
  generalize hW1 : w.alloc (.cells #[.int .i64 e.runner, .int .i64 e.cls, .int .i64 e.day, .bool e.rent, .int .i64 e.paid] 30) = W1
  have bx0 : W1.cell? ⟨w.heap.size, 0, none⟩ = some (.int .i64 e.runner) := by rw [← hW1]; simp [go_sem]
  have bx1 : W1.cell? ⟨w.heap.size, 1, none⟩ = some (.int .i64 e.cls) := by rw [← hW1]; simp [go_sem]
  have bx2 : W1.cell? ⟨w.heap.size, 2, none⟩ = some (.int .i64 e.day) := by rw [← hW1]; simp [go_sem]
  have bx3 : W1.cell? ⟨w.heap.size, 3, none⟩ = some (.bool e.rent) := by rw [← hW1]; simp [go_sem]
  have bx4 : W1.cell? ⟨w.heap.size, 4, none⟩ = some (.int .i64 e.paid) := by rw [← hW1]; simp [go_sem]
  have HL1 : Hid (W1.sl Ent.cells 5 (.slice p l.length c) l) := Lib.hid (by rw [← hW1]; exact (by with_reducible (repeat (first | exact hs.out | refine World.sl_ext Ent.cells_length ?_ _ | refine sl_alloc Ent.cells_length ?_ _ | refine sl_drew ?_))))
  have HGW : Hid (∃ d, W1 = w.ext d) := Lib.hid (by rw [← hW1]; exact (by repeat (first | with_reducible (first | exact World.gained_refl _ | exact ⟨_, rfl⟩ | apply gain_ext | apply gain_alloc | apply gain_drewN | apply gain_drew) | (refine gain_setCell ?_ (by first | exact Nat.le_refl _ | exact World.size_ext _ _ | (simp; done) | (simp; omega)) _))))
  have hgw := gain_size HGW.out
  have obx := World.oldB_of_cell bx0
  clear hW1 hs
  refine (hG.out _ (by with_reducible (repeat (first | exact HL1.out | refine World.sl_ext Ent.cells_length ?_ _ | refine sl_alloc Ent.cells_length ?_ _ | refine sl_drew ?_)))).mono ?_
  rintro x w1 ⟨rfl, d1, rfl⟩
  clear hG
  go_wp2_with fail
  go_loopw [6] (fun i_ wr => ∃ k : Nat, k ≤ l.length ∧ i_ = .int .i64 k ∧ (∀ (j : Nat) (hj : j < l.length), j < k → l[j].runner < e.runner) ∧ ∃ d, wr = W1.ext d) (fun i_ _ => l.length - (intOf i_).toNat)
  case atStart => exact ⟨0, by omega, by go_num, by simp, (by repeat (first | with_reducible (first | exact World.gained_refl _ | exact ⟨_, rfl⟩ | apply gain_ext | apply gain_alloc | apply gain_drewN | apply gain_drew) | (refine gain_setCell ?_ (by first | exact Nat.le_refl _ | exact World.size_ext _ _ | (simp; done) | (simp; omega)) _)))⟩
  case round =>
    obtain ⟨k, hk, rfl, hno, d, rfl⟩ := hrel
    have HN := Lib.hid hno
    clear hno
    have hkc : k ≤ c := by omega
    have hk0 : (0 : Int) ≤ (k : Int) := by omega
    have hk1 : (k : Int) ≤ (c : Int) := by omega
    have hk2 : (k : Int) ≤ (l.length : Int) := by omega
    have HL2 := Lib.hid (sl_up Ent.cells_length HL1.out (w' := W1.ext d) ⟨_, rfl⟩)
    by_cases hlt : k < l.length
    · obtain ⟨b, o, rfl⟩ := sl_some HL1.out (by omega)
      have r0 := sl_cells HL2.out hlt (j := 0) (by omega)
      have hltd : decide ((k : Int) < (l.length : Int)) = true := decide_eq_true (by omega)
      have HNX := Lib.hid (fun (h : l[k].runner < e.runner) => (show ∀ (j : Nat) (hj : j < l.length), j < k + 1 → l[j].runner < e.runner from fun j hj hjk => by
        by_cases e1 : j = k
        · subst e1; exact h
        · exact HN.out j hj (by omega)))
      have HST := Lib.hid (fun (h : ¬ l[k].runner < e.runner) => hAT.out k hk HN.out (fun _ => by omega))
      generalize l[k] = y at r0 HNX HST
      simp only [Ent.cells, List.getElem?_cons_zero, Nat.add_zero] at r0
      have obB := World.oldB_of_cell r0
      by_cases hy : y.runner < e.runner
      · have hyd : decide (y.runner < e.runner) = true := decide_eq_true hy
        have HNX2 := Lib.hid (HNX.out hy)
        go_wp2_with fail
        refine wp_region_gain (by kernel_rfl) (by kernel_rfl) ?_
        repeat (first | go_big_quiet_skip | (go_big_quiet_want; go_big_quiet_op; first | go_big_quiet_on))
        refine wpQuiet_nil ?_
        rintro _ ⟨d', rfl⟩
        go_wp2
        go_roundw
        case rel => exact ⟨k + 1, by omega, by go_num, HNX2.out, (by repeat (first | with_reducible (first | exact World.gained_refl _ | exact ⟨_, rfl⟩ | apply gain_ext | apply gain_alloc | apply gain_drewN | apply gain_drew) | (refine gain_setCell ?_ (by first | exact Nat.le_refl _ | exact World.size_ext _ _ | (simp; done) | (simp; omega)) _)))⟩
        case measure => simp [intOf]; omega
      · have hyd : decide (y.runner < e.runner) = false := decide_eq_false hy
        have HE := Lib.hid (HST.out hy)
        clear HNX HST
        have HI : l.take k ++ [e] ++ l.drop k = entIns l e := by rw [entIns, HE.out]
        go_wp2_with fail
        refine wp_region_gain (by kernel_rfl) (by kernel_rfl) ?_
        repeat (first | go_big_quiet_skip | (go_big_quiet_want; go_big_quiet_op; first | go_big_quiet_on))
        refine wpQuiet_nil ?_
        rintro _ ⟨d', rfl⟩
        go_upto_region 6 with fail
        have HGX : Hid (∃ dd, (W1.ext d).ext d' = W1.ext dd) := Lib.hid (by repeat (first | with_reducible (first | exact World.gained_refl _ | exact ⟨_, rfl⟩ | apply gain_ext | apply gain_alloc | apply gain_drewN | apply gain_drew) | (refine gain_setCell ?_ (by first | exact Nat.le_refl _ | exact World.size_ext _ _ | (simp; done) | (simp; omega)) _)))
        generalize (W1.ext d).ext d' = X at HGX ⊢
        have by0 := cell_upE bx0 HGX.out
        have by1 := cell_upE bx1 HGX.out
        have by2 := cell_upE bx2 HGX.out
        have by3 := cell_upE bx3 HGX.out
        have by4 := cell_upE bx4 HGX.out
        have obX := World.oldB_of_cell by0
        have HLX := Lib.hid (sl_up Ent.cells_length HL1.out HGX.out)
        have hXs : W1.heap.size ≤ X.heap.size := gain_size HGX.out
        refine wp_region_held_drew (S := (fun w' => w'.cell? ⟨w.heap.size, 0, none⟩ = some (.int .i64 e.runner) ∧ w'.cell? ⟨w.heap.size, 1, none⟩ = some (.int .i64 e.cls) ∧ w'.cell? ⟨w.heap.size, 2, none⟩ = some (.int .i64 e.day) ∧ w'.cell? ⟨w.heap.size, 3, none⟩ = some (.bool e.rent) ∧ w'.cell? ⟨w.heap.size, 4, none⟩ = some (.int .i64 e.paid))) (by kernel_rfl) (by (try dsimp only); (refine ⟨?_, ?_, ?_, ?_, ?_⟩ <;> (with_reducible (repeat (first | assumption | refine cell_ext ?_ _ | refine cell_drew ?_ | refine cell_alloc ?_ _))))) (fun hHeld => ?_)
        refine wpAnyH_take (i := 1) (oi := ⟨_, _, _, _, _, _⟩) (v := ?_) rfl (by kernel_rfl) (by kernel_rfl) (by kernel_rfl) (fun _ _ _ h => h) (Or.inl ⟨by rfl, ?_⟩) (by assumption) ?_
        rotate_left
        · intro w hSw; (try dsimp only at hSw); go_simp; (try with_reducible rfl)
        try simp only [Act.put, List.setIfInBounds_toArray, List.set_cons_zero, List.set_cons_succ]
        refine wpAnyH_take (i := 3) (oi := ⟨_, _, _, _, _, _⟩) (v := ?_) rfl (by kernel_rfl) (by kernel_rfl) (by kernel_rfl) (fun _ _ _ h => h) (Or.inl ⟨by rfl, ?_⟩) (by assumption) ?_
        rotate_left
        · intro w hSw; (try dsimp only at hSw); go_simp; (try with_reducible rfl)
        try simp only [Act.put, List.setIfInBounds_toArray, List.set_cons_zero, List.set_cons_succ]
        refine wpAnyH_take (i := 4) (oi := ⟨_, _, _, _, _, _⟩) (v := ?_) rfl (by kernel_rfl) (by kernel_rfl) (by kernel_rfl) (fun _ _ _ h => h) (Or.inl ⟨by rfl, ?_⟩) (by assumption) ?_
        rotate_left
        · intro w hSw; (try dsimp only at hSw); go_simp; (try with_reducible rfl)
        try simp only [Act.put, List.setIfInBounds_toArray, List.set_cons_zero, List.set_cons_succ]
        refine wpAnyH_ready (rs := [0, 5]) (by kernel_rfl) (by simp) ?_
        refine AllReadyH.cons rfl (fun K hK => ?_) (AllReadyH.cons rfl (fun K hK => ?_) (AllReadyH.nil))
        · skip
          go_simp
          have HA := Lib.hid (own_lit' (w := X.drew) (e := 30) (base := X.heap.size) (C := #[]) (l := ([] : List Ent)) (g := X.heap.size) Ent.cells_length rfl (by first | rfl | (simp; done) | (simp [World.size_alloc]; done)) (by first | exact Nat.le_refl _ | (simp; done) | (simp; omega) | (simp [World.size_alloc]; done) | (simp [World.size_alloc]; omega)))
          (try dsimp only)
          refine hK.out _ _ ?_ (fun hHeld => ?_)
          · (try dsimp only); (refine ⟨?_, ?_, ?_, ?_, ?_⟩ <;> (with_reducible (repeat (first | assumption | refine cell_ext ?_ _ | refine cell_drew ?_ | refine cell_alloc ?_ _))))
          clear hK K
          try simp only [Act.put, List.setIfInBounds_toArray, List.set_cons_zero, List.set_cons_succ]
          refine wpAnyH_ready (rs := [2, 5]) (by kernel_rfl) (by simp) ?_
          refine AllReadyH.cons rfl (fun K hK => ?_) (AllReadyH.cons rfl (fun K hK => ?_) (AllReadyH.nil))
          · skip
            refine step_append_where (W := X) (w := X.drew.alloc (.cells #[] 30)) (base := X.heap.size) (v := .slice (some ⟨X.heap.size, 0, none⟩) 0 0) (m := l) (u := .slice (some ⟨b, o, none⟩) l.length c) rfl (.tmp 27) (.tmp 28) rfl Try.underlying26 info_Ent (by rfl) (by omega) Ent.cells_length Ent.cells_one (by omega) (by repeat (first | with_reducible (first | exact World.gained_refl _ | exact ⟨_, rfl⟩ | apply gain_ext | apply gain_alloc | apply gain_drewN | apply gain_drew) | (refine gain_setCell ?_ (by first | exact Nat.le_refl _ | exact World.size_ext _ _ | (simp; done) | (simp; omega)) _))) (Nat.le_refl _) (gain_size (by repeat (first | with_reducible (first | exact World.gained_refl _ | exact ⟨_, rfl⟩ | apply gain_ext | apply gain_alloc | apply gain_drewN | apply gain_drew) | (refine gain_setCell ?_ (by first | exact Nat.le_refl _ | exact World.size_ext _ _ | (simp; done) | (simp; omega)) _)))) (by first | rfl | (simp; done) | (simp [World.size_alloc]; done)) (by first | rfl | (simp; done) | (simp [World.size_alloc]; done)) (own_up HA.out (by repeat (first | with_reducible (first | exact World.gained_refl _ | exact ⟨_, rfl⟩ | apply gain_ext | apply gain_alloc | apply gain_drewN | apply gain_drew) | (refine gain_setCell ?_ (by first | exact Nat.le_refl _ | exact World.size_ext _ _ | (simp; done) | (simp; omega)) _)))) (by with_reducible (repeat (first | exact HLX.out | refine World.sl_ext Ent.cells_length ?_ _ | refine sl_alloc Ent.cells_length ?_ _ | refine sl_drew ?_))) (by simp; omega) ?_
            intro vA dA hoA hgA hwA
            rw [List.nil_append] at hoA
            have hvA := own_lt hoA
            have HAX := Lib.hid hoA
            clear hoA hgA hwA
            (try dsimp only)
            refine hK.out _ _ ?_ (fun hHeld => ?_)
            · (try dsimp only); (refine ⟨?_, ?_, ?_, ?_, ?_⟩ <;> (with_reducible (repeat (first | assumption | refine cell_ext ?_ _ | refine cell_drew ?_ | refine cell_alloc ?_ _))))
            clear hK K
            try simp only [Act.put, List.setIfInBounds_toArray, List.set_cons_zero, List.set_cons_succ]
            refine wpAnyH_ready (rs := [5]) (by kernel_rfl) (by simp) ?_
            refine AllReadyH.cons rfl (fun K hK => ?_) (AllReadyH.nil)
            go_simp
            have HU := Lib.hid (own_lit' (w := X.ext dA) (e := 30) (base := X.heap.size) (C := #[.int .i64 e.runner, .int .i64 e.cls, .int .i64 e.day, .bool e.rent, .int .i64 e.paid]) (l := [e]) (g := (X.ext dA).heap.size) Ent.cells_length rfl (by first | rfl | (simp; done) | (simp [World.size_alloc]; done)) (by first | exact Nat.le_refl _ | exact World.size_ext _ _ | (simp; done) | (simp; omega) | (simp [World.size_alloc]; done) | (simp [World.size_alloc]; omega)))
            (try dsimp only)
            refine hK.out _ _ ?_ (fun hHeld => ?_)
            · (try dsimp only); (refine ⟨?_, ?_, ?_, ?_, ?_⟩ <;> (with_reducible (repeat (first | assumption | refine cell_ext ?_ _ | refine cell_drew ?_ | refine cell_alloc ?_ _))))
            clear hK K
            try simp only [Act.put, List.setIfInBounds_toArray, List.set_cons_zero, List.set_cons_succ]
            have hne : vA.ownBlock ≠ some (X.ext dA).heap.size := fun h => by have := (hvA _ h).2; omega
            have HA2 := HAX
            clear hvA HAX HA
            refine wpAnyH_ready (rs := [6]) (by kernel_rfl) (by simp) ?_
            refine AllReadyH.cons rfl (fun K hK => ?_) AllReadyH.nil
            go_simp
            go_wp2_with fail
            refine (insert_any W1 _ W1.heap.size k _ 1 vA l e (gain_trans HGX.out (by repeat (first | with_reducible (first | exact World.gained_refl _ | exact ⟨_, rfl⟩ | apply gain_ext | apply gain_alloc | apply gain_drewN | apply gain_drew) | (refine gain_setCell ?_ (by first | exact Nat.le_refl _ | exact World.size_ext _ _ | (simp; done) | (simp; omega)) _)))) (Nat.le_refl _) (Nat.le_trans hXs (gain_size (by repeat (first | with_reducible (first | exact World.gained_refl _ | exact ⟨_, rfl⟩ | apply gain_ext | apply gain_alloc | apply gain_drewN | apply gain_drew) | (refine gain_setCell ?_ (by first | exact Nat.le_refl _ | exact World.size_ext _ _ | (simp; done) | (simp; omega)) _))))) (own_base (own_up (HA2.out) (by repeat (first | with_reducible (first | exact World.gained_refl _ | exact ⟨_, rfl⟩ | apply gain_ext | apply gain_alloc | apply gain_drewN | apply gain_drew) | (refine gain_setCell ?_ (by first | exact Nat.le_refl _ | exact World.size_ext _ _ | (simp; done) | (simp; omega)) _)))) hXs) (own_base (own_up (HU.out) (by repeat (first | with_reducible (first | exact World.gained_refl _ | exact ⟨_, rfl⟩ | apply gain_ext | apply gain_alloc | apply gain_drewN | apply gain_drew) | (refine gain_setCell ?_ (by first | exact Nat.le_refl _ | exact World.size_ext _ _ | (simp; done) | (simp; omega)) _)))) hXs) hne hk hl).mono ?_
            rintro x w1 ⟨R, rfl, ⟨d3, rfl⟩, ho⟩
            (try dsimp only)
            refine hK.out _ _ ?_ (fun hHeld => ?_)
            · (try dsimp only); (refine ⟨?_, ?_, ?_, ?_, ?_⟩ <;> (with_reducible (repeat (first | assumption | refine cell_ext ?_ _ | refine cell_drew ?_ | refine cell_alloc ?_ _))))
            clear hK K HA2 HU hne
            try simp only [Act.put, List.setIfInBounds_toArray, List.set_cons_zero, List.set_cons_succ]
            refine wpAnyH_take (i := 7) (oi := ⟨_, _, _, _, _, _⟩) (v := ?_) rfl (by kernel_rfl) (by kernel_rfl) (by kernel_rfl) (fun _ _ _ h => h) (Or.inl ⟨by rfl, ?_⟩) (by assumption) ?_
            rotate_left
            · intro w hSw; (try dsimp only at hSw); go_simp; (try with_reducible rfl)
            try simp only [Act.put, List.setIfInBounds_toArray, List.set_cons_zero, List.set_cons_succ]
            refine wpAnyH_done (by kernel_rfl) ?_ _
            rw [HI] at ho
            have HO := Lib.hid ho
            clear ho
            go_wp2_with fail
            refine (areEntries_any _ (entIns l e) _ (by with_reducible (repeat (first | exact sl_of_own Ent.cells_length HO.out | refine World.sl_ext Ent.cells_length ?_ _ | refine sl_alloc Ent.cells_length ?_ _ | refine sl_drew ?_))) (by rw [entIns_len]; omega)).mono ?_
            cases hC : entsB (entIns l e) with
            | true =>
              rintro x w1 ⟨rfl, d8, rfl⟩
              go_wp2_with fail
              go_ret2
              rw [hLT.out hC, hC]
              exact ⟨_, rfl, gain_trans HGW.out (by repeat (first | with_reducible (first | exact World.gained_refl _ | exact ⟨_, rfl⟩ | apply gain_ext | apply gain_alloc | apply gain_drewN | apply gain_drew) | (refine gain_setCell ?_ (by first | exact Nat.le_refl _ | exact World.size_ext _ _ | (simp; done) | (simp; omega)) _))), own_base (own_up HO.out (by repeat (first | with_reducible (first | exact World.gained_refl _ | exact ⟨_, rfl⟩ | apply gain_ext | apply gain_alloc | apply gain_drewN | apply gain_drew) | (refine gain_setCell ?_ (by first | exact Nat.le_refl _ | exact World.size_ext _ _ | (simp; done) | (simp; omega)) _)))) hgw⟩
            | false =>
              rintro x w1 ⟨rfl, d8, rfl⟩
              go_wp2_with fail
              go_ret2
              rw [hLF.out hC, hC]
              exact ⟨_, rfl, gain_trans HGW.out (by repeat (first | with_reducible (first | exact World.gained_refl _ | exact ⟨_, rfl⟩ | apply gain_ext | apply gain_alloc | apply gain_drewN | apply gain_drew) | (refine gain_setCell ?_ (by first | exact Nat.le_refl _ | exact World.size_ext _ _ | (simp; done) | (simp; omega)) _))), own_nil _ _ _ _ _⟩
          · skip
            go_simp
            have HU := Lib.hid (own_lit' (w := (X.drew.alloc (.cells #[] 30))) (e := 30) (base := X.heap.size) (C := #[.int .i64 e.runner, .int .i64 e.cls, .int .i64 e.day, .bool e.rent, .int .i64 e.paid]) (l := [e]) (g := X.heap.size + 1) Ent.cells_length rfl (by first | rfl | (simp; done) | (simp [World.size_alloc]; done)) (by first | exact Nat.le_refl _ | exact World.size_ext _ _ | (simp; done) | (simp; omega) | (simp [World.size_alloc]; done) | (simp [World.size_alloc]; omega)))
            (try dsimp only)
            refine hK.out _ _ ?_ (fun hHeld => ?_)
            · (try dsimp only); (refine ⟨?_, ?_, ?_, ?_, ?_⟩ <;> (with_reducible (repeat (first | assumption | refine cell_ext ?_ _ | refine cell_drew ?_ | refine cell_alloc ?_ _))))
            clear hK K
            try simp only [Act.put, List.setIfInBounds_toArray, List.set_cons_zero, List.set_cons_succ]
            refine wpAnyH_ready (rs := [2]) (by kernel_rfl) (by simp) ?_
            refine AllReadyH.cons rfl (fun K hK => ?_) (AllReadyH.nil)
            refine step_append_where (W := X) (w := (X.drew.alloc (.cells #[] 30)).alloc (.cells #[.int .i64 e.runner, .int .i64 e.cls, .int .i64 e.day, .bool e.rent, .int .i64 e.paid] 30)) (base := X.heap.size) (v := .slice (some ⟨X.heap.size, 0, none⟩) 0 0) (m := l) (u := .slice (some ⟨b, o, none⟩) l.length c) rfl (.tmp 27) (.tmp 28) rfl Try.underlying26 info_Ent (by rfl) (by omega) Ent.cells_length Ent.cells_one (by omega) (by repeat (first | with_reducible (first | exact World.gained_refl _ | exact ⟨_, rfl⟩ | apply gain_ext | apply gain_alloc | apply gain_drewN | apply gain_drew) | (refine gain_setCell ?_ (by first | exact Nat.le_refl _ | exact World.size_ext _ _ | (simp; done) | (simp; omega)) _))) (Nat.le_refl _) (gain_size (by repeat (first | with_reducible (first | exact World.gained_refl _ | exact ⟨_, rfl⟩ | apply gain_ext | apply gain_alloc | apply gain_drewN | apply gain_drew) | (refine gain_setCell ?_ (by first | exact Nat.le_refl _ | exact World.size_ext _ _ | (simp; done) | (simp; omega)) _)))) (by first | rfl | (simp; done) | (simp [World.size_alloc]; done)) (by first | rfl | (simp; done) | (simp [World.size_alloc]; done)) (own_up HA.out (by repeat (first | with_reducible (first | exact World.gained_refl _ | exact ⟨_, rfl⟩ | apply gain_ext | apply gain_alloc | apply gain_drewN | apply gain_drew) | (refine gain_setCell ?_ (by first | exact Nat.le_refl _ | exact World.size_ext _ _ | (simp; done) | (simp; omega)) _)))) (by with_reducible (repeat (first | exact HLX.out | refine World.sl_ext Ent.cells_length ?_ _ | refine sl_alloc Ent.cells_length ?_ _ | refine sl_drew ?_))) (by simp; omega) ?_
            intro vA dA hoA hgA hwA
            rw [List.nil_append] at hoA
            have hne : vA.ownBlock ≠ some (X.heap.size + 1) := by
              rcases hwA with h | h
              · rw [h]; (first | (simp; done) | (simp [Value.ownBlock]; done))
              · rw [h]; (first | (simp; done) | (simp; omega) | (simp [Value.ownBlock]; done) | (simp [Value.ownBlock]; omega) | (simp [World.size_alloc, Value.ownBlock]; done) | (simp [World.size_alloc, Value.ownBlock]; omega))
            have HA2 := Lib.hid hoA
            replace HU := Lib.hid (own_mark (own_up HU.out (w' := _) (by repeat (first | with_reducible (first | exact World.gained_refl _ | exact ⟨_, rfl⟩ | apply gain_ext | apply gain_alloc | apply gain_drewN | apply gain_drew) | (refine gain_setCell ?_ (by first | exact Nat.le_refl _ | exact World.size_ext _ _ | (simp; done) | (simp; omega)) _)))) hgA (by first | (simp; done) | (simp [Value.ownBlock]; done)))
            clear hoA hgA hwA HA
            (try dsimp only)
            refine hK.out _ _ ?_ (fun hHeld => ?_)
            · (try dsimp only); (refine ⟨?_, ?_, ?_, ?_, ?_⟩ <;> (with_reducible (repeat (first | assumption | refine cell_ext ?_ _ | refine cell_drew ?_ | refine cell_alloc ?_ _))))
            clear hK K
            try simp only [Act.put, List.setIfInBounds_toArray, List.set_cons_zero, List.set_cons_succ]
            refine wpAnyH_ready (rs := [6]) (by kernel_rfl) (by simp) ?_
            refine AllReadyH.cons rfl (fun K hK => ?_) AllReadyH.nil
            go_simp
            go_wp2_with fail
            refine (insert_any W1 _ W1.heap.size k _ 1 vA l e (gain_trans HGX.out (by repeat (first | with_reducible (first | exact World.gained_refl _ | exact ⟨_, rfl⟩ | apply gain_ext | apply gain_alloc | apply gain_drewN | apply gain_drew) | (refine gain_setCell ?_ (by first | exact Nat.le_refl _ | exact World.size_ext _ _ | (simp; done) | (simp; omega)) _)))) (Nat.le_refl _) (Nat.le_trans hXs (gain_size (by repeat (first | with_reducible (first | exact World.gained_refl _ | exact ⟨_, rfl⟩ | apply gain_ext | apply gain_alloc | apply gain_drewN | apply gain_drew) | (refine gain_setCell ?_ (by first | exact Nat.le_refl _ | exact World.size_ext _ _ | (simp; done) | (simp; omega)) _))))) (own_base (own_up (HA2.out) (by repeat (first | with_reducible (first | exact World.gained_refl _ | exact ⟨_, rfl⟩ | apply gain_ext | apply gain_alloc | apply gain_drewN | apply gain_drew) | (refine gain_setCell ?_ (by first | exact Nat.le_refl _ | exact World.size_ext _ _ | (simp; done) | (simp; omega)) _)))) hXs) (own_base (own_up (HU.out) (by repeat (first | with_reducible (first | exact World.gained_refl _ | exact ⟨_, rfl⟩ | apply gain_ext | apply gain_alloc | apply gain_drewN | apply gain_drew) | (refine gain_setCell ?_ (by first | exact Nat.le_refl _ | exact World.size_ext _ _ | (simp; done) | (simp; omega)) _)))) hXs) hne hk hl).mono ?_
            rintro x w1 ⟨R, rfl, ⟨d3, rfl⟩, ho⟩
            (try dsimp only)
            refine hK.out _ _ ?_ (fun hHeld => ?_)
            · (try dsimp only); (refine ⟨?_, ?_, ?_, ?_, ?_⟩ <;> (with_reducible (repeat (first | assumption | refine cell_ext ?_ _ | refine cell_drew ?_ | refine cell_alloc ?_ _))))
            clear hK K HA2 HU hne
            try simp only [Act.put, List.setIfInBounds_toArray, List.set_cons_zero, List.set_cons_succ]
            refine wpAnyH_take (i := 7) (oi := ⟨_, _, _, _, _, _⟩) (v := ?_) rfl (by kernel_rfl) (by kernel_rfl) (by kernel_rfl) (fun _ _ _ h => h) (Or.inl ⟨by rfl, ?_⟩) (by assumption) ?_
            rotate_left
            · intro w hSw; (try dsimp only at hSw); go_simp; (try with_reducible rfl)
            try simp only [Act.put, List.setIfInBounds_toArray, List.set_cons_zero, List.set_cons_succ]
            refine wpAnyH_done (by kernel_rfl) ?_ _
            rw [HI] at ho
            have HO := Lib.hid ho
            clear ho
            go_wp2_with fail
            refine (areEntries_any _ (entIns l e) _ (by with_reducible (repeat (first | exact sl_of_own Ent.cells_length HO.out | refine World.sl_ext Ent.cells_length ?_ _ | refine sl_alloc Ent.cells_length ?_ _ | refine sl_drew ?_))) (by rw [entIns_len]; omega)).mono ?_
            cases hC : entsB (entIns l e) with
            | true =>
              rintro x w1 ⟨rfl, d8, rfl⟩
              go_wp2_with fail
              go_ret2
              rw [hLT.out hC, hC]
              exact ⟨_, rfl, gain_trans HGW.out (by repeat (first | with_reducible (first | exact World.gained_refl _ | exact ⟨_, rfl⟩ | apply gain_ext | apply gain_alloc | apply gain_drewN | apply gain_drew) | (refine gain_setCell ?_ (by first | exact Nat.le_refl _ | exact World.size_ext _ _ | (simp; done) | (simp; omega)) _))), own_base (own_up HO.out (by repeat (first | with_reducible (first | exact World.gained_refl _ | exact ⟨_, rfl⟩ | apply gain_ext | apply gain_alloc | apply gain_drewN | apply gain_drew) | (refine gain_setCell ?_ (by first | exact Nat.le_refl _ | exact World.size_ext _ _ | (simp; done) | (simp; omega)) _)))) hgw⟩
            | false =>
              rintro x w1 ⟨rfl, d8, rfl⟩
              go_wp2_with fail
              go_ret2
              rw [hLF.out hC, hC]
              exact ⟨_, rfl, gain_trans HGW.out (by repeat (first | with_reducible (first | exact World.gained_refl _ | exact ⟨_, rfl⟩ | apply gain_ext | apply gain_alloc | apply gain_drewN | apply gain_drew) | (refine gain_setCell ?_ (by first | exact Nat.le_refl _ | exact World.size_ext _ _ | (simp; done) | (simp; omega)) _))), own_nil _ _ _ _ _⟩
        · skip
          go_simp
          have HU := Lib.hid (own_lit' (w := X.drew) (e := 30) (base := X.heap.size) (C := #[.int .i64 e.runner, .int .i64 e.cls, .int .i64 e.day, .bool e.rent, .int .i64 e.paid]) (l := [e]) (g := X.heap.size) Ent.cells_length rfl (by first | rfl | (simp; done) | (simp [World.size_alloc]; done)) (by first | exact Nat.le_refl _ | exact World.size_ext _ _ | (simp; done) | (simp; omega) | (simp [World.size_alloc]; done) | (simp [World.size_alloc]; omega)))
          (try dsimp only)
          refine hK.out _ _ ?_ (fun hHeld => ?_)
          · (try dsimp only); (refine ⟨?_, ?_, ?_, ?_, ?_⟩ <;> (with_reducible (repeat (first | assumption | refine cell_ext ?_ _ | refine cell_drew ?_ | refine cell_alloc ?_ _))))
          clear hK K
          try simp only [Act.put, List.setIfInBounds_toArray, List.set_cons_zero, List.set_cons_succ]
          refine wpAnyH_ready (rs := [0]) (by kernel_rfl) (by simp) ?_
          refine AllReadyH.cons rfl (fun K hK => ?_) (AllReadyH.nil)
          go_simp
          have HA := Lib.hid (own_lit' (w := (X.drew.alloc (.cells #[.int .i64 e.runner, .int .i64 e.cls, .int .i64 e.day, .bool e.rent, .int .i64 e.paid] 30))) (e := 30) (base := X.heap.size) (C := #[]) (l := ([] : List Ent)) (g := X.heap.size + 1) Ent.cells_length rfl (by first | rfl | (simp; done) | (simp [World.size_alloc]; done)) (by first | exact Nat.le_refl _ | (simp; done) | (simp; omega) | (simp [World.size_alloc]; done) | (simp [World.size_alloc]; omega)))
          (try dsimp only)
          refine hK.out _ _ ?_ (fun hHeld => ?_)
          · (try dsimp only); (refine ⟨?_, ?_, ?_, ?_, ?_⟩ <;> (with_reducible (repeat (first | assumption | refine cell_ext ?_ _ | refine cell_drew ?_ | refine cell_alloc ?_ _))))
          clear hK K
          try simp only [Act.put, List.setIfInBounds_toArray, List.set_cons_zero, List.set_cons_succ]
          refine wpAnyH_ready (rs := [2]) (by kernel_rfl) (by simp) ?_
          refine AllReadyH.cons rfl (fun K hK => ?_) (AllReadyH.nil)
          refine step_append_where (W := X) (w := (X.drew.alloc (.cells #[.int .i64 e.runner, .int .i64 e.cls, .int .i64 e.day, .bool e.rent, .int .i64 e.paid] 30)).alloc (.cells #[] 30)) (base := X.heap.size) (v := .slice (some ⟨X.heap.size + 1, 0, none⟩) 0 0) (m := l) (u := .slice (some ⟨b, o, none⟩) l.length c) rfl (.tmp 27) (.tmp 28) rfl Try.underlying26 info_Ent (by rfl) (by omega) Ent.cells_length Ent.cells_one (by omega) (by repeat (first | with_reducible (first | exact World.gained_refl _ | exact ⟨_, rfl⟩ | apply gain_ext | apply gain_alloc | apply gain_drewN | apply gain_drew) | (refine gain_setCell ?_ (by first | exact Nat.le_refl _ | exact World.size_ext _ _ | (simp; done) | (simp; omega)) _))) (Nat.le_refl _) (gain_size (by repeat (first | with_reducible (first | exact World.gained_refl _ | exact ⟨_, rfl⟩ | apply gain_ext | apply gain_alloc | apply gain_drewN | apply gain_drew) | (refine gain_setCell ?_ (by first | exact Nat.le_refl _ | exact World.size_ext _ _ | (simp; done) | (simp; omega)) _)))) (by first | rfl | (simp; done) | (simp [World.size_alloc]; done)) (by first | rfl | (simp; done) | (simp [World.size_alloc]; done)) (own_up HA.out (by repeat (first | with_reducible (first | exact World.gained_refl _ | exact ⟨_, rfl⟩ | apply gain_ext | apply gain_alloc | apply gain_drewN | apply gain_drew) | (refine gain_setCell ?_ (by first | exact Nat.le_refl _ | exact World.size_ext _ _ | (simp; done) | (simp; omega)) _)))) (by with_reducible (repeat (first | exact HLX.out | refine World.sl_ext Ent.cells_length ?_ _ | refine sl_alloc Ent.cells_length ?_ _ | refine sl_drew ?_))) (by simp; omega) ?_
          intro vA dA hoA hgA hwA
          rw [List.nil_append] at hoA
          have hne : vA.ownBlock ≠ some X.heap.size := by
            rcases hwA with h | h
            · rw [h]; (first | (simp; done) | (simp [Value.ownBlock]; done))
            · rw [h]; (first | (simp; done) | (simp; omega) | (simp [Value.ownBlock]; done) | (simp [Value.ownBlock]; omega) | (simp [World.size_alloc, Value.ownBlock]; done) | (simp [World.size_alloc, Value.ownBlock]; omega))
          have HA2 := Lib.hid hoA
          replace HU := Lib.hid (own_mark (own_up HU.out (w' := _) (by repeat (first | with_reducible (first | exact World.gained_refl _ | exact ⟨_, rfl⟩ | apply gain_ext | apply gain_alloc | apply gain_drewN | apply gain_drew) | (refine gain_setCell ?_ (by first | exact Nat.le_refl _ | exact World.size_ext _ _ | (simp; done) | (simp; omega)) _)))) hgA (by first | (simp; done) | (simp [Value.ownBlock]; done)))
          clear hoA hgA hwA HA
          (try dsimp only)
          refine hK.out _ _ ?_ (fun hHeld => ?_)
          · (try dsimp only); (refine ⟨?_, ?_, ?_, ?_, ?_⟩ <;> (with_reducible (repeat (first | assumption | refine cell_ext ?_ _ | refine cell_drew ?_ | refine cell_alloc ?_ _))))
          clear hK K
          try simp only [Act.put, List.setIfInBounds_toArray, List.set_cons_zero, List.set_cons_succ]
          refine wpAnyH_ready (rs := [6]) (by kernel_rfl) (by simp) ?_
          refine AllReadyH.cons rfl (fun K hK => ?_) AllReadyH.nil
          go_simp
          go_wp2_with fail
          refine (insert_any W1 _ W1.heap.size k _ 1 vA l e (gain_trans HGX.out (by repeat (first | with_reducible (first | exact World.gained_refl _ | exact ⟨_, rfl⟩ | apply gain_ext | apply gain_alloc | apply gain_drewN | apply gain_drew) | (refine gain_setCell ?_ (by first | exact Nat.le_refl _ | exact World.size_ext _ _ | (simp; done) | (simp; omega)) _)))) (Nat.le_refl _) (Nat.le_trans hXs (gain_size (by repeat (first | with_reducible (first | exact World.gained_refl _ | exact ⟨_, rfl⟩ | apply gain_ext | apply gain_alloc | apply gain_drewN | apply gain_drew) | (refine gain_setCell ?_ (by first | exact Nat.le_refl _ | exact World.size_ext _ _ | (simp; done) | (simp; omega)) _))))) (own_base (own_up (HA2.out) (by repeat (first | with_reducible (first | exact World.gained_refl _ | exact ⟨_, rfl⟩ | apply gain_ext | apply gain_alloc | apply gain_drewN | apply gain_drew) | (refine gain_setCell ?_ (by first | exact Nat.le_refl _ | exact World.size_ext _ _ | (simp; done) | (simp; omega)) _)))) hXs) (own_base (own_up (HU.out) (by repeat (first | with_reducible (first | exact World.gained_refl _ | exact ⟨_, rfl⟩ | apply gain_ext | apply gain_alloc | apply gain_drewN | apply gain_drew) | (refine gain_setCell ?_ (by first | exact Nat.le_refl _ | exact World.size_ext _ _ | (simp; done) | (simp; omega)) _)))) hXs) hne hk hl).mono ?_
          rintro x w1 ⟨R, rfl, ⟨d3, rfl⟩, ho⟩
          (try dsimp only)
          refine hK.out _ _ ?_ (fun hHeld => ?_)
          · (try dsimp only); (refine ⟨?_, ?_, ?_, ?_, ?_⟩ <;> (with_reducible (repeat (first | assumption | refine cell_ext ?_ _ | refine cell_drew ?_ | refine cell_alloc ?_ _))))
          clear hK K HA2 HU hne
          try simp only [Act.put, List.setIfInBounds_toArray, List.set_cons_zero, List.set_cons_succ]
          refine wpAnyH_take (i := 7) (oi := ⟨_, _, _, _, _, _⟩) (v := ?_) rfl (by kernel_rfl) (by kernel_rfl) (by kernel_rfl) (fun _ _ _ h => h) (Or.inl ⟨by rfl, ?_⟩) (by assumption) ?_
          rotate_left
          · intro w hSw; (try dsimp only at hSw); go_simp; (try with_reducible rfl)
          try simp only [Act.put, List.setIfInBounds_toArray, List.set_cons_zero, List.set_cons_succ]
          refine wpAnyH_done (by kernel_rfl) ?_ _
          rw [HI] at ho
          have HO := Lib.hid ho
          clear ho
          go_wp2_with fail
          refine (areEntries_any _ (entIns l e) _ (by with_reducible (repeat (first | exact sl_of_own Ent.cells_length HO.out | refine World.sl_ext Ent.cells_length ?_ _ | refine sl_alloc Ent.cells_length ?_ _ | refine sl_drew ?_))) (by rw [entIns_len]; omega)).mono ?_
          cases hC : entsB (entIns l e) with
          | true =>
            rintro x w1 ⟨rfl, d8, rfl⟩
            go_wp2_with fail
            go_ret2
            rw [hLT.out hC, hC]
            exact ⟨_, rfl, gain_trans HGW.out (by repeat (first | with_reducible (first | exact World.gained_refl _ | exact ⟨_, rfl⟩ | apply gain_ext | apply gain_alloc | apply gain_drewN | apply gain_drew) | (refine gain_setCell ?_ (by first | exact Nat.le_refl _ | exact World.size_ext _ _ | (simp; done) | (simp; omega)) _))), own_base (own_up HO.out (by repeat (first | with_reducible (first | exact World.gained_refl _ | exact ⟨_, rfl⟩ | apply gain_ext | apply gain_alloc | apply gain_drewN | apply gain_drew) | (refine gain_setCell ?_ (by first | exact Nat.le_refl _ | exact World.size_ext _ _ | (simp; done) | (simp; omega)) _)))) hgw⟩
          | false =>
            rintro x w1 ⟨rfl, d8, rfl⟩
            go_wp2_with fail
            go_ret2
            rw [hLF.out hC, hC]
            exact ⟨_, rfl, gain_trans HGW.out (by repeat (first | with_reducible (first | exact World.gained_refl _ | exact ⟨_, rfl⟩ | apply gain_ext | apply gain_alloc | apply gain_drewN | apply gain_drew) | (refine gain_setCell ?_ (by first | exact Nat.le_refl _ | exact World.size_ext _ _ | (simp; done) | (simp; omega)) _))), own_nil _ _ _ _ _⟩
    · have hltd : decide ((k : Int) < (l.length : Int)) = false := decide_eq_false (by omega)
      have HE := Lib.hid (hAT.out k hk HN.out (fun h => absurd h hlt))
      have hk9 : l.length ≤ k := by omega
      cases p with
      | none =>
        have HI : l.take k ++ [e] ++ l.drop k = entIns l e := by rw [entIns, HE.out]
        go_wp2_with fail
        refine wp_region_gain (by kernel_rfl) (by kernel_rfl) ?_
        repeat (first | go_big_quiet_skip | (go_big_quiet_want; go_big_quiet_op; first | go_big_quiet_on))
        refine wpQuiet_nil ?_
        rintro _ ⟨d', rfl⟩
        go_upto_region 6 with fail
        have HGX : Hid (∃ dd, (W1.ext d).ext d' = W1.ext dd) := Lib.hid (by repeat (first | with_reducible (first | exact World.gained_refl _ | exact ⟨_, rfl⟩ | apply gain_ext | apply gain_alloc | apply gain_drewN | apply gain_drew) | (refine gain_setCell ?_ (by first | exact Nat.le_refl _ | exact World.size_ext _ _ | (simp; done) | (simp; omega)) _)))
        generalize (W1.ext d).ext d' = X at HGX ⊢
        have by0 := cell_upE bx0 HGX.out
        have by1 := cell_upE bx1 HGX.out
        have by2 := cell_upE bx2 HGX.out
        have by3 := cell_upE bx3 HGX.out
        have by4 := cell_upE bx4 HGX.out
        have obX := World.oldB_of_cell by0
        have HLX := Lib.hid (sl_up Ent.cells_length HL1.out HGX.out)
        have hXs : W1.heap.size ≤ X.heap.size := gain_size HGX.out
        refine wp_region_held_drew (S := (fun w' => w'.cell? ⟨w.heap.size, 0, none⟩ = some (.int .i64 e.runner) ∧ w'.cell? ⟨w.heap.size, 1, none⟩ = some (.int .i64 e.cls) ∧ w'.cell? ⟨w.heap.size, 2, none⟩ = some (.int .i64 e.day) ∧ w'.cell? ⟨w.heap.size, 3, none⟩ = some (.bool e.rent) ∧ w'.cell? ⟨w.heap.size, 4, none⟩ = some (.int .i64 e.paid))) (by kernel_rfl) (by (try dsimp only); (refine ⟨?_, ?_, ?_, ?_, ?_⟩ <;> (with_reducible (repeat (first | assumption | refine cell_ext ?_ _ | refine cell_drew ?_ | refine cell_alloc ?_ _))))) (fun hHeld => ?_)
        refine wpAnyH_take (i := 1) (oi := ⟨_, _, _, _, _, _⟩) (v := ?_) rfl (by kernel_rfl) (by kernel_rfl) (by kernel_rfl) (fun _ _ _ h => h) (Or.inl ⟨by rfl, ?_⟩) (by assumption) ?_
        rotate_left
        · intro w hSw; (try dsimp only at hSw); go_simp; (try with_reducible rfl)
        try simp only [Act.put, List.setIfInBounds_toArray, List.set_cons_zero, List.set_cons_succ]
        refine wpAnyH_take (i := 3) (oi := ⟨_, _, _, _, _, _⟩) (v := ?_) rfl (by kernel_rfl) (by kernel_rfl) (by kernel_rfl) (fun _ _ _ h => h) (Or.inl ⟨by rfl, ?_⟩) (by assumption) ?_
        rotate_left
        · intro w hSw; (try dsimp only at hSw); go_simp; (try with_reducible rfl)
        try simp only [Act.put, List.setIfInBounds_toArray, List.set_cons_zero, List.set_cons_succ]
        refine wpAnyH_take (i := 4) (oi := ⟨_, _, _, _, _, _⟩) (v := ?_) rfl (by kernel_rfl) (by kernel_rfl) (by kernel_rfl) (fun _ _ _ h => h) (Or.inl ⟨by rfl, ?_⟩) (by assumption) ?_
        rotate_left
        · intro w hSw; (try dsimp only at hSw); go_simp; (try with_reducible rfl)
        try simp only [Act.put, List.setIfInBounds_toArray, List.set_cons_zero, List.set_cons_succ]
        refine wpAnyH_ready (rs := [0, 5]) (by kernel_rfl) (by simp) ?_
        refine AllReadyH.cons rfl (fun K hK => ?_) (AllReadyH.cons rfl (fun K hK => ?_) (AllReadyH.nil))
        · skip
          go_simp
          have HA := Lib.hid (own_lit' (w := X.drew) (e := 30) (base := X.heap.size) (C := #[]) (l := ([] : List Ent)) (g := X.heap.size) Ent.cells_length rfl (by first | rfl | (simp; done) | (simp [World.size_alloc]; done)) (by first | exact Nat.le_refl _ | (simp; done) | (simp; omega) | (simp [World.size_alloc]; done) | (simp [World.size_alloc]; omega)))
          (try dsimp only)
          refine hK.out _ _ ?_ (fun hHeld => ?_)
          · (try dsimp only); (refine ⟨?_, ?_, ?_, ?_, ?_⟩ <;> (with_reducible (repeat (first | assumption | refine cell_ext ?_ _ | refine cell_drew ?_ | refine cell_alloc ?_ _))))
          clear hK K
          try simp only [Act.put, List.setIfInBounds_toArray, List.set_cons_zero, List.set_cons_succ]
          refine wpAnyH_ready (rs := [2, 5]) (by kernel_rfl) (by simp) ?_
          refine AllReadyH.cons rfl (fun K hK => ?_) (AllReadyH.cons rfl (fun K hK => ?_) (AllReadyH.nil))
          · skip
            refine step_append_where (W := X) (w := X.drew.alloc (.cells #[] 30)) (base := X.heap.size) (v := .slice (some ⟨X.heap.size, 0, none⟩) 0 0) (m := l) (u := .slice none l.length c) rfl (.tmp 27) (.tmp 28) rfl Try.underlying26 info_Ent (by rfl) (by omega) Ent.cells_length Ent.cells_one (by omega) (by repeat (first | with_reducible (first | exact World.gained_refl _ | exact ⟨_, rfl⟩ | apply gain_ext | apply gain_alloc | apply gain_drewN | apply gain_drew) | (refine gain_setCell ?_ (by first | exact Nat.le_refl _ | exact World.size_ext _ _ | (simp; done) | (simp; omega)) _))) (Nat.le_refl _) (gain_size (by repeat (first | with_reducible (first | exact World.gained_refl _ | exact ⟨_, rfl⟩ | apply gain_ext | apply gain_alloc | apply gain_drewN | apply gain_drew) | (refine gain_setCell ?_ (by first | exact Nat.le_refl _ | exact World.size_ext _ _ | (simp; done) | (simp; omega)) _)))) (by first | rfl | (simp; done) | (simp [World.size_alloc]; done)) (by first | rfl | (simp; done) | (simp [World.size_alloc]; done)) (own_up HA.out (by repeat (first | with_reducible (first | exact World.gained_refl _ | exact ⟨_, rfl⟩ | apply gain_ext | apply gain_alloc | apply gain_drewN | apply gain_drew) | (refine gain_setCell ?_ (by first | exact Nat.le_refl _ | exact World.size_ext _ _ | (simp; done) | (simp; omega)) _)))) (by with_reducible (repeat (first | exact HLX.out | refine World.sl_ext Ent.cells_length ?_ _ | refine sl_alloc Ent.cells_length ?_ _ | refine sl_drew ?_))) (by simp; omega) ?_
            intro vA dA hoA hgA hwA
            rw [List.nil_append] at hoA
            have hvA := own_lt hoA
            have HAX := Lib.hid hoA
            clear hoA hgA hwA
            (try dsimp only)
            refine hK.out _ _ ?_ (fun hHeld => ?_)
            · (try dsimp only); (refine ⟨?_, ?_, ?_, ?_, ?_⟩ <;> (with_reducible (repeat (first | assumption | refine cell_ext ?_ _ | refine cell_drew ?_ | refine cell_alloc ?_ _))))
            clear hK K
            try simp only [Act.put, List.setIfInBounds_toArray, List.set_cons_zero, List.set_cons_succ]
            refine wpAnyH_ready (rs := [5]) (by kernel_rfl) (by simp) ?_
            refine AllReadyH.cons rfl (fun K hK => ?_) (AllReadyH.nil)
            go_simp
            have HU := Lib.hid (own_lit' (w := X.ext dA) (e := 30) (base := X.heap.size) (C := #[.int .i64 e.runner, .int .i64 e.cls, .int .i64 e.day, .bool e.rent, .int .i64 e.paid]) (l := [e]) (g := (X.ext dA).heap.size) Ent.cells_length rfl (by first | rfl | (simp; done) | (simp [World.size_alloc]; done)) (by first | exact Nat.le_refl _ | exact World.size_ext _ _ | (simp; done) | (simp; omega) | (simp [World.size_alloc]; done) | (simp [World.size_alloc]; omega)))
            (try dsimp only)
            refine hK.out _ _ ?_ (fun hHeld => ?_)
            · (try dsimp only); (refine ⟨?_, ?_, ?_, ?_, ?_⟩ <;> (with_reducible (repeat (first | assumption | refine cell_ext ?_ _ | refine cell_drew ?_ | refine cell_alloc ?_ _))))
            clear hK K
            try simp only [Act.put, List.setIfInBounds_toArray, List.set_cons_zero, List.set_cons_succ]
            have hne : vA.ownBlock ≠ some (X.ext dA).heap.size := fun h => by have := (hvA _ h).2; omega
            have HA2 := HAX
            clear hvA HAX HA
            refine wpAnyH_ready (rs := [6]) (by kernel_rfl) (by simp) ?_
            refine AllReadyH.cons rfl (fun K hK => ?_) AllReadyH.nil
            go_simp
            go_wp2_with fail
            refine (insert_any W1 _ W1.heap.size k _ 1 vA l e (gain_trans HGX.out (by repeat (first | with_reducible (first | exact World.gained_refl _ | exact ⟨_, rfl⟩ | apply gain_ext | apply gain_alloc | apply gain_drewN | apply gain_drew) | (refine gain_setCell ?_ (by first | exact Nat.le_refl _ | exact World.size_ext _ _ | (simp; done) | (simp; omega)) _)))) (Nat.le_refl _) (Nat.le_trans hXs (gain_size (by repeat (first | with_reducible (first | exact World.gained_refl _ | exact ⟨_, rfl⟩ | apply gain_ext | apply gain_alloc | apply gain_drewN | apply gain_drew) | (refine gain_setCell ?_ (by first | exact Nat.le_refl _ | exact World.size_ext _ _ | (simp; done) | (simp; omega)) _))))) (own_base (own_up (HA2.out) (by repeat (first | with_reducible (first | exact World.gained_refl _ | exact ⟨_, rfl⟩ | apply gain_ext | apply gain_alloc | apply gain_drewN | apply gain_drew) | (refine gain_setCell ?_ (by first | exact Nat.le_refl _ | exact World.size_ext _ _ | (simp; done) | (simp; omega)) _)))) hXs) (own_base (own_up (HU.out) (by repeat (first | with_reducible (first | exact World.gained_refl _ | exact ⟨_, rfl⟩ | apply gain_ext | apply gain_alloc | apply gain_drewN | apply gain_drew) | (refine gain_setCell ?_ (by first | exact Nat.le_refl _ | exact World.size_ext _ _ | (simp; done) | (simp; omega)) _)))) hXs) hne hk hl).mono ?_
            rintro x w1 ⟨R, rfl, ⟨d3, rfl⟩, ho⟩
            (try dsimp only)
            refine hK.out _ _ ?_ (fun hHeld => ?_)
            · (try dsimp only); (refine ⟨?_, ?_, ?_, ?_, ?_⟩ <;> (with_reducible (repeat (first | assumption | refine cell_ext ?_ _ | refine cell_drew ?_ | refine cell_alloc ?_ _))))
            clear hK K HA2 HU hne
            try simp only [Act.put, List.setIfInBounds_toArray, List.set_cons_zero, List.set_cons_succ]
            refine wpAnyH_take (i := 7) (oi := ⟨_, _, _, _, _, _⟩) (v := ?_) rfl (by kernel_rfl) (by kernel_rfl) (by kernel_rfl) (fun _ _ _ h => h) (Or.inl ⟨by rfl, ?_⟩) (by assumption) ?_
            rotate_left
            · intro w hSw; (try dsimp only at hSw); go_simp; (try with_reducible rfl)
            try simp only [Act.put, List.setIfInBounds_toArray, List.set_cons_zero, List.set_cons_succ]
            refine wpAnyH_done (by kernel_rfl) ?_ _
            rw [HI] at ho
            have HO := Lib.hid ho
            clear ho
            go_wp2_with fail
            refine (areEntries_any _ (entIns l e) _ (by with_reducible (repeat (first | exact sl_of_own Ent.cells_length HO.out | refine World.sl_ext Ent.cells_length ?_ _ | refine sl_alloc Ent.cells_length ?_ _ | refine sl_drew ?_))) (by rw [entIns_len]; omega)).mono ?_
            cases hC : entsB (entIns l e) with
            | true =>
              rintro x w1 ⟨rfl, d8, rfl⟩
              go_wp2_with fail
              go_ret2
              rw [hLT.out hC, hC]
              exact ⟨_, rfl, gain_trans HGW.out (by repeat (first | with_reducible (first | exact World.gained_refl _ | exact ⟨_, rfl⟩ | apply gain_ext | apply gain_alloc | apply gain_drewN | apply gain_drew) | (refine gain_setCell ?_ (by first | exact Nat.le_refl _ | exact World.size_ext _ _ | (simp; done) | (simp; omega)) _))), own_base (own_up HO.out (by repeat (first | with_reducible (first | exact World.gained_refl _ | exact ⟨_, rfl⟩ | apply gain_ext | apply gain_alloc | apply gain_drewN | apply gain_drew) | (refine gain_setCell ?_ (by first | exact Nat.le_refl _ | exact World.size_ext _ _ | (simp; done) | (simp; omega)) _)))) hgw⟩
            | false =>
              rintro x w1 ⟨rfl, d8, rfl⟩
              go_wp2_with fail
              go_ret2
              rw [hLF.out hC, hC]
              exact ⟨_, rfl, gain_trans HGW.out (by repeat (first | with_reducible (first | exact World.gained_refl _ | exact ⟨_, rfl⟩ | apply gain_ext | apply gain_alloc | apply gain_drewN | apply gain_drew) | (refine gain_setCell ?_ (by first | exact Nat.le_refl _ | exact World.size_ext _ _ | (simp; done) | (simp; omega)) _))), own_nil _ _ _ _ _⟩
          · skip
            go_simp
            have HU := Lib.hid (own_lit' (w := (X.drew.alloc (.cells #[] 30))) (e := 30) (base := X.heap.size) (C := #[.int .i64 e.runner, .int .i64 e.cls, .int .i64 e.day, .bool e.rent, .int .i64 e.paid]) (l := [e]) (g := X.heap.size + 1) Ent.cells_length rfl (by first | rfl | (simp; done) | (simp [World.size_alloc]; done)) (by first | exact Nat.le_refl _ | exact World.size_ext _ _ | (simp; done) | (simp; omega) | (simp [World.size_alloc]; done) | (simp [World.size_alloc]; omega)))
            (try dsimp only)
            refine hK.out _ _ ?_ (fun hHeld => ?_)
            · (try dsimp only); (refine ⟨?_, ?_, ?_, ?_, ?_⟩ <;> (with_reducible (repeat (first | assumption | refine cell_ext ?_ _ | refine cell_drew ?_ | refine cell_alloc ?_ _))))
            clear hK K
            try simp only [Act.put, List.setIfInBounds_toArray, List.set_cons_zero, List.set_cons_succ]
            refine wpAnyH_ready (rs := [2]) (by kernel_rfl) (by simp) ?_
            refine AllReadyH.cons rfl (fun K hK => ?_) (AllReadyH.nil)
            refine step_append_where (W := X) (w := (X.drew.alloc (.cells #[] 30)).alloc (.cells #[.int .i64 e.runner, .int .i64 e.cls, .int .i64 e.day, .bool e.rent, .int .i64 e.paid] 30)) (base := X.heap.size) (v := .slice (some ⟨X.heap.size, 0, none⟩) 0 0) (m := l) (u := .slice none l.length c) rfl (.tmp 27) (.tmp 28) rfl Try.underlying26 info_Ent (by rfl) (by omega) Ent.cells_length Ent.cells_one (by omega) (by repeat (first | with_reducible (first | exact World.gained_refl _ | exact ⟨_, rfl⟩ | apply gain_ext | apply gain_alloc | apply gain_drewN | apply gain_drew) | (refine gain_setCell ?_ (by first | exact Nat.le_refl _ | exact World.size_ext _ _ | (simp; done) | (simp; omega)) _))) (Nat.le_refl _) (gain_size (by repeat (first | with_reducible (first | exact World.gained_refl _ | exact ⟨_, rfl⟩ | apply gain_ext | apply gain_alloc | apply gain_drewN | apply gain_drew) | (refine gain_setCell ?_ (by first | exact Nat.le_refl _ | exact World.size_ext _ _ | (simp; done) | (simp; omega)) _)))) (by first | rfl | (simp; done) | (simp [World.size_alloc]; done)) (by first | rfl | (simp; done) | (simp [World.size_alloc]; done)) (own_up HA.out (by repeat (first | with_reducible (first | exact World.gained_refl _ | exact ⟨_, rfl⟩ | apply gain_ext | apply gain_alloc | apply gain_drewN | apply gain_drew) | (refine gain_setCell ?_ (by first | exact Nat.le_refl _ | exact World.size_ext _ _ | (simp; done) | (simp; omega)) _)))) (by with_reducible (repeat (first | exact HLX.out | refine World.sl_ext Ent.cells_length ?_ _ | refine sl_alloc Ent.cells_length ?_ _ | refine sl_drew ?_))) (by simp; omega) ?_
            intro vA dA hoA hgA hwA
            rw [List.nil_append] at hoA
            have hne : vA.ownBlock ≠ some (X.heap.size + 1) := by
              rcases hwA with h | h
              · rw [h]; (first | (simp; done) | (simp [Value.ownBlock]; done))
              · rw [h]; (first | (simp; done) | (simp; omega) | (simp [Value.ownBlock]; done) | (simp [Value.ownBlock]; omega) | (simp [World.size_alloc, Value.ownBlock]; done) | (simp [World.size_alloc, Value.ownBlock]; omega))
            have HA2 := Lib.hid hoA
            replace HU := Lib.hid (own_mark (own_up HU.out (w' := _) (by repeat (first | with_reducible (first | exact World.gained_refl _ | exact ⟨_, rfl⟩ | apply gain_ext | apply gain_alloc | apply gain_drewN | apply gain_drew) | (refine gain_setCell ?_ (by first | exact Nat.le_refl _ | exact World.size_ext _ _ | (simp; done) | (simp; omega)) _)))) hgA (by first | (simp; done) | (simp [Value.ownBlock]; done)))
            clear hoA hgA hwA HA
            (try dsimp only)
            refine hK.out _ _ ?_ (fun hHeld => ?_)
            · (try dsimp only); (refine ⟨?_, ?_, ?_, ?_, ?_⟩ <;> (with_reducible (repeat (first | assumption | refine cell_ext ?_ _ | refine cell_drew ?_ | refine cell_alloc ?_ _))))
            clear hK K
            try simp only [Act.put, List.setIfInBounds_toArray, List.set_cons_zero, List.set_cons_succ]
            refine wpAnyH_ready (rs := [6]) (by kernel_rfl) (by simp) ?_
            refine AllReadyH.cons rfl (fun K hK => ?_) AllReadyH.nil
            go_simp
            go_wp2_with fail
            refine (insert_any W1 _ W1.heap.size k _ 1 vA l e (gain_trans HGX.out (by repeat (first | with_reducible (first | exact World.gained_refl _ | exact ⟨_, rfl⟩ | apply gain_ext | apply gain_alloc | apply gain_drewN | apply gain_drew) | (refine gain_setCell ?_ (by first | exact Nat.le_refl _ | exact World.size_ext _ _ | (simp; done) | (simp; omega)) _)))) (Nat.le_refl _) (Nat.le_trans hXs (gain_size (by repeat (first | with_reducible (first | exact World.gained_refl _ | exact ⟨_, rfl⟩ | apply gain_ext | apply gain_alloc | apply gain_drewN | apply gain_drew) | (refine gain_setCell ?_ (by first | exact Nat.le_refl _ | exact World.size_ext _ _ | (simp; done) | (simp; omega)) _))))) (own_base (own_up (HA2.out) (by repeat (first | with_reducible (first | exact World.gained_refl _ | exact ⟨_, rfl⟩ | apply gain_ext | apply gain_alloc | apply gain_drewN | apply gain_drew) | (refine gain_setCell ?_ (by first | exact Nat.le_refl _ | exact World.size_ext _ _ | (simp; done) | (simp; omega)) _)))) hXs) (own_base (own_up (HU.out) (by repeat (first | with_reducible (first | exact World.gained_refl _ | exact ⟨_, rfl⟩ | apply gain_ext | apply gain_alloc | apply gain_drewN | apply gain_drew) | (refine gain_setCell ?_ (by first | exact Nat.le_refl _ | exact World.size_ext _ _ | (simp; done) | (simp; omega)) _)))) hXs) hne hk hl).mono ?_
            rintro x w1 ⟨R, rfl, ⟨d3, rfl⟩, ho⟩
            (try dsimp only)
            refine hK.out _ _ ?_ (fun hHeld => ?_)
            · (try dsimp only); (refine ⟨?_, ?_, ?_, ?_, ?_⟩ <;> (with_reducible (repeat (first | assumption | refine cell_ext ?_ _ | refine cell_drew ?_ | refine cell_alloc ?_ _))))
            clear hK K HA2 HU hne
            try simp only [Act.put, List.setIfInBounds_toArray, List.set_cons_zero, List.set_cons_succ]
            refine wpAnyH_take (i := 7) (oi := ⟨_, _, _, _, _, _⟩) (v := ?_) rfl (by kernel_rfl) (by kernel_rfl) (by kernel_rfl) (fun _ _ _ h => h) (Or.inl ⟨by rfl, ?_⟩) (by assumption) ?_
            rotate_left
            · intro w hSw; (try dsimp only at hSw); go_simp; (try with_reducible rfl)
            try simp only [Act.put, List.setIfInBounds_toArray, List.set_cons_zero, List.set_cons_succ]
            refine wpAnyH_done (by kernel_rfl) ?_ _
            rw [HI] at ho
            have HO := Lib.hid ho
            clear ho
            go_wp2_with fail
            refine (areEntries_any _ (entIns l e) _ (by with_reducible (repeat (first | exact sl_of_own Ent.cells_length HO.out | refine World.sl_ext Ent.cells_length ?_ _ | refine sl_alloc Ent.cells_length ?_ _ | refine sl_drew ?_))) (by rw [entIns_len]; omega)).mono ?_
            cases hC : entsB (entIns l e) with
            | true =>
              rintro x w1 ⟨rfl, d8, rfl⟩
              go_wp2_with fail
              go_ret2
              rw [hLT.out hC, hC]
              exact ⟨_, rfl, gain_trans HGW.out (by repeat (first | with_reducible (first | exact World.gained_refl _ | exact ⟨_, rfl⟩ | apply gain_ext | apply gain_alloc | apply gain_drewN | apply gain_drew) | (refine gain_setCell ?_ (by first | exact Nat.le_refl _ | exact World.size_ext _ _ | (simp; done) | (simp; omega)) _))), own_base (own_up HO.out (by repeat (first | with_reducible (first | exact World.gained_refl _ | exact ⟨_, rfl⟩ | apply gain_ext | apply gain_alloc | apply gain_drewN | apply gain_drew) | (refine gain_setCell ?_ (by first | exact Nat.le_refl _ | exact World.size_ext _ _ | (simp; done) | (simp; omega)) _)))) hgw⟩
            | false =>
              rintro x w1 ⟨rfl, d8, rfl⟩
              go_wp2_with fail
              go_ret2
              rw [hLF.out hC, hC]
              exact ⟨_, rfl, gain_trans HGW.out (by repeat (first | with_reducible (first | exact World.gained_refl _ | exact ⟨_, rfl⟩ | apply gain_ext | apply gain_alloc | apply gain_drewN | apply gain_drew) | (refine gain_setCell ?_ (by first | exact Nat.le_refl _ | exact World.size_ext _ _ | (simp; done) | (simp; omega)) _))), own_nil _ _ _ _ _⟩
        · skip
          go_simp
          have HU := Lib.hid (own_lit' (w := X.drew) (e := 30) (base := X.heap.size) (C := #[.int .i64 e.runner, .int .i64 e.cls, .int .i64 e.day, .bool e.rent, .int .i64 e.paid]) (l := [e]) (g := X.heap.size) Ent.cells_length rfl (by first | rfl | (simp; done) | (simp [World.size_alloc]; done)) (by first | exact Nat.le_refl _ | exact World.size_ext _ _ | (simp; done) | (simp; omega) | (simp [World.size_alloc]; done) | (simp [World.size_alloc]; omega)))
          (try dsimp only)
          refine hK.out _ _ ?_ (fun hHeld => ?_)
          · (try dsimp only); (refine ⟨?_, ?_, ?_, ?_, ?_⟩ <;> (with_reducible (repeat (first | assumption | refine cell_ext ?_ _ | refine cell_drew ?_ | refine cell_alloc ?_ _))))
          clear hK K
          try simp only [Act.put, List.setIfInBounds_toArray, List.set_cons_zero, List.set_cons_succ]
          refine wpAnyH_ready (rs := [0]) (by kernel_rfl) (by simp) ?_
          refine AllReadyH.cons rfl (fun K hK => ?_) (AllReadyH.nil)
          go_simp
          have HA := Lib.hid (own_lit' (w := (X.drew.alloc (.cells #[.int .i64 e.runner, .int .i64 e.cls, .int .i64 e.day, .bool e.rent, .int .i64 e.paid] 30))) (e := 30) (base := X.heap.size) (C := #[]) (l := ([] : List Ent)) (g := X.heap.size + 1) Ent.cells_length rfl (by first | rfl | (simp; done) | (simp [World.size_alloc]; done)) (by first | exact Nat.le_refl _ | (simp; done) | (simp; omega) | (simp [World.size_alloc]; done) | (simp [World.size_alloc]; omega)))
          (try dsimp only)
          refine hK.out _ _ ?_ (fun hHeld => ?_)
          · (try dsimp only); (refine ⟨?_, ?_, ?_, ?_, ?_⟩ <;> (with_reducible (repeat (first | assumption | refine cell_ext ?_ _ | refine cell_drew ?_ | refine cell_alloc ?_ _))))
          clear hK K
          try simp only [Act.put, List.setIfInBounds_toArray, List.set_cons_zero, List.set_cons_succ]
          refine wpAnyH_ready (rs := [2]) (by kernel_rfl) (by simp) ?_
          refine AllReadyH.cons rfl (fun K hK => ?_) (AllReadyH.nil)
          refine step_append_where (W := X) (w := (X.drew.alloc (.cells #[.int .i64 e.runner, .int .i64 e.cls, .int .i64 e.day, .bool e.rent, .int .i64 e.paid] 30)).alloc (.cells #[] 30)) (base := X.heap.size) (v := .slice (some ⟨X.heap.size + 1, 0, none⟩) 0 0) (m := l) (u := .slice none l.length c) rfl (.tmp 27) (.tmp 28) rfl Try.underlying26 info_Ent (by rfl) (by omega) Ent.cells_length Ent.cells_one (by omega) (by repeat (first | with_reducible (first | exact World.gained_refl _ | exact ⟨_, rfl⟩ | apply gain_ext | apply gain_alloc | apply gain_drewN | apply gain_drew) | (refine gain_setCell ?_ (by first | exact Nat.le_refl _ | exact World.size_ext _ _ | (simp; done) | (simp; omega)) _))) (Nat.le_refl _) (gain_size (by repeat (first | with_reducible (first | exact World.gained_refl _ | exact ⟨_, rfl⟩ | apply gain_ext | apply gain_alloc | apply gain_drewN | apply gain_drew) | (refine gain_setCell ?_ (by first | exact Nat.le_refl _ | exact World.size_ext _ _ | (simp; done) | (simp; omega)) _)))) (by first | rfl | (simp; done) | (simp [World.size_alloc]; done)) (by first | rfl | (simp; done) | (simp [World.size_alloc]; done)) (own_up HA.out (by repeat (first | with_reducible (first | exact World.gained_refl _ | exact ⟨_, rfl⟩ | apply gain_ext | apply gain_alloc | apply gain_drewN | apply gain_drew) | (refine gain_setCell ?_ (by first | exact Nat.le_refl _ | exact World.size_ext _ _ | (simp; done) | (simp; omega)) _)))) (by with_reducible (repeat (first | exact HLX.out | refine World.sl_ext Ent.cells_length ?_ _ | refine sl_alloc Ent.cells_length ?_ _ | refine sl_drew ?_))) (by simp; omega) ?_
          intro vA dA hoA hgA hwA
          rw [List.nil_append] at hoA
          have hne : vA.ownBlock ≠ some X.heap.size := by
            rcases hwA with h | h
            · rw [h]; (first | (simp; done) | (simp [Value.ownBlock]; done))
            · rw [h]; (first | (simp; done) | (simp; omega) | (simp [Value.ownBlock]; done) | (simp [Value.ownBlock]; omega) | (simp [World.size_alloc, Value.ownBlock]; done) | (simp [World.size_alloc, Value.ownBlock]; omega))
          have HA2 := Lib.hid hoA
          replace HU := Lib.hid (own_mark (own_up HU.out (w' := _) (by repeat (first | with_reducible (first | exact World.gained_refl _ | exact ⟨_, rfl⟩ | apply gain_ext | apply gain_alloc | apply gain_drewN | apply gain_drew) | (refine gain_setCell ?_ (by first | exact Nat.le_refl _ | exact World.size_ext _ _ | (simp; done) | (simp; omega)) _)))) hgA (by first | (simp; done) | (simp [Value.ownBlock]; done)))
          clear hoA hgA hwA HA
          (try dsimp only)
          refine hK.out _ _ ?_ (fun hHeld => ?_)
          · (try dsimp only); (refine ⟨?_, ?_, ?_, ?_, ?_⟩ <;> (with_reducible (repeat (first | assumption | refine cell_ext ?_ _ | refine cell_drew ?_ | refine cell_alloc ?_ _))))
          clear hK K
          try simp only [Act.put, List.setIfInBounds_toArray, List.set_cons_zero, List.set_cons_succ]
          refine wpAnyH_ready (rs := [6]) (by kernel_rfl) (by simp) ?_
          refine AllReadyH.cons rfl (fun K hK => ?_) AllReadyH.nil
          go_simp
          go_wp2_with fail
          refine (insert_any W1 _ W1.heap.size k _ 1 vA l e (gain_trans HGX.out (by repeat (first | with_reducible (first | exact World.gained_refl _ | exact ⟨_, rfl⟩ | apply gain_ext | apply gain_alloc | apply gain_drewN | apply gain_drew) | (refine gain_setCell ?_ (by first | exact Nat.le_refl _ | exact World.size_ext _ _ | (simp; done) | (simp; omega)) _)))) (Nat.le_refl _) (Nat.le_trans hXs (gain_size (by repeat (first | with_reducible (first | exact World.gained_refl _ | exact ⟨_, rfl⟩ | apply gain_ext | apply gain_alloc | apply gain_drewN | apply gain_drew) | (refine gain_setCell ?_ (by first | exact Nat.le_refl _ | exact World.size_ext _ _ | (simp; done) | (simp; omega)) _))))) (own_base (own_up (HA2.out) (by repeat (first | with_reducible (first | exact World.gained_refl _ | exact ⟨_, rfl⟩ | apply gain_ext | apply gain_alloc | apply gain_drewN | apply gain_drew) | (refine gain_setCell ?_ (by first | exact Nat.le_refl _ | exact World.size_ext _ _ | (simp; done) | (simp; omega)) _)))) hXs) (own_base (own_up (HU.out) (by repeat (first | with_reducible (first | exact World.gained_refl _ | exact ⟨_, rfl⟩ | apply gain_ext | apply gain_alloc | apply gain_drewN | apply gain_drew) | (refine gain_setCell ?_ (by first | exact Nat.le_refl _ | exact World.size_ext _ _ | (simp; done) | (simp; omega)) _)))) hXs) hne hk hl).mono ?_
          rintro x w1 ⟨R, rfl, ⟨d3, rfl⟩, ho⟩
          (try dsimp only)
          refine hK.out _ _ ?_ (fun hHeld => ?_)
          · (try dsimp only); (refine ⟨?_, ?_, ?_, ?_, ?_⟩ <;> (with_reducible (repeat (first | assumption | refine cell_ext ?_ _ | refine cell_drew ?_ | refine cell_alloc ?_ _))))
          clear hK K HA2 HU hne
          try simp only [Act.put, List.setIfInBounds_toArray, List.set_cons_zero, List.set_cons_succ]
          refine wpAnyH_take (i := 7) (oi := ⟨_, _, _, _, _, _⟩) (v := ?_) rfl (by kernel_rfl) (by kernel_rfl) (by kernel_rfl) (fun _ _ _ h => h) (Or.inl ⟨by rfl, ?_⟩) (by assumption) ?_
          rotate_left
          · intro w hSw; (try dsimp only at hSw); go_simp; (try with_reducible rfl)
          try simp only [Act.put, List.setIfInBounds_toArray, List.set_cons_zero, List.set_cons_succ]
          refine wpAnyH_done (by kernel_rfl) ?_ _
          rw [HI] at ho
          have HO := Lib.hid ho
          clear ho
          go_wp2_with fail
          refine (areEntries_any _ (entIns l e) _ (by with_reducible (repeat (first | exact sl_of_own Ent.cells_length HO.out | refine World.sl_ext Ent.cells_length ?_ _ | refine sl_alloc Ent.cells_length ?_ _ | refine sl_drew ?_))) (by rw [entIns_len]; omega)).mono ?_
          cases hC : entsB (entIns l e) with
          | true =>
            rintro x w1 ⟨rfl, d8, rfl⟩
            go_wp2_with fail
            go_ret2
            rw [hLT.out hC, hC]
            exact ⟨_, rfl, gain_trans HGW.out (by repeat (first | with_reducible (first | exact World.gained_refl _ | exact ⟨_, rfl⟩ | apply gain_ext | apply gain_alloc | apply gain_drewN | apply gain_drew) | (refine gain_setCell ?_ (by first | exact Nat.le_refl _ | exact World.size_ext _ _ | (simp; done) | (simp; omega)) _))), own_base (own_up HO.out (by repeat (first | with_reducible (first | exact World.gained_refl _ | exact ⟨_, rfl⟩ | apply gain_ext | apply gain_alloc | apply gain_drewN | apply gain_drew) | (refine gain_setCell ?_ (by first | exact Nat.le_refl _ | exact World.size_ext _ _ | (simp; done) | (simp; omega)) _)))) hgw⟩
          | false =>
            rintro x w1 ⟨rfl, d8, rfl⟩
            go_wp2_with fail
            go_ret2
            rw [hLF.out hC, hC]
            exact ⟨_, rfl, gain_trans HGW.out (by repeat (first | with_reducible (first | exact World.gained_refl _ | exact ⟨_, rfl⟩ | apply gain_ext | apply gain_alloc | apply gain_drewN | apply gain_drew) | (refine gain_setCell ?_ (by first | exact Nat.le_refl _ | exact World.size_ext _ _ | (simp; done) | (simp; omega)) _))), own_nil _ _ _ _ _⟩
      | some a =>
        obtain ⟨b, o, sp⟩ := a
        have HI : l.take k ++ [e] ++ l.drop k = entIns l e := by rw [entIns, HE.out]
        go_wp2_with fail
        refine wp_region_gain (by kernel_rfl) (by kernel_rfl) ?_
        repeat (first | go_big_quiet_skip | (go_big_quiet_want; go_big_quiet_op; first | go_big_quiet_on))
        refine wpQuiet_nil ?_
        rintro _ ⟨d', rfl⟩
        go_upto_region 6 with fail
        have HGX : Hid (∃ dd, (W1.ext d).ext d' = W1.ext dd) := Lib.hid (by repeat (first | with_reducible (first | exact World.gained_refl _ | exact ⟨_, rfl⟩ | apply gain_ext | apply gain_alloc | apply gain_drewN | apply gain_drew) | (refine gain_setCell ?_ (by first | exact Nat.le_refl _ | exact World.size_ext _ _ | (simp; done) | (simp; omega)) _)))
        generalize (W1.ext d).ext d' = X at HGX ⊢
        have by0 := cell_upE bx0 HGX.out
        have by1 := cell_upE bx1 HGX.out
        have by2 := cell_upE bx2 HGX.out
        have by3 := cell_upE bx3 HGX.out
        have by4 := cell_upE bx4 HGX.out
        have obX := World.oldB_of_cell by0
        have HLX := Lib.hid (sl_up Ent.cells_length HL1.out HGX.out)
        have hXs : W1.heap.size ≤ X.heap.size := gain_size HGX.out
        refine wp_region_held_drew (S := (fun w' => w'.cell? ⟨w.heap.size, 0, none⟩ = some (.int .i64 e.runner) ∧ w'.cell? ⟨w.heap.size, 1, none⟩ = some (.int .i64 e.cls) ∧ w'.cell? ⟨w.heap.size, 2, none⟩ = some (.int .i64 e.day) ∧ w'.cell? ⟨w.heap.size, 3, none⟩ = some (.bool e.rent) ∧ w'.cell? ⟨w.heap.size, 4, none⟩ = some (.int .i64 e.paid))) (by kernel_rfl) (by (try dsimp only); (refine ⟨?_, ?_, ?_, ?_, ?_⟩ <;> (with_reducible (repeat (first | assumption | refine cell_ext ?_ _ | refine cell_drew ?_ | refine cell_alloc ?_ _))))) (fun hHeld => ?_)
        refine wpAnyH_take (i := 1) (oi := ⟨_, _, _, _, _, _⟩) (v := ?_) rfl (by kernel_rfl) (by kernel_rfl) (by kernel_rfl) (fun _ _ _ h => h) (Or.inl ⟨by rfl, ?_⟩) (by assumption) ?_
        rotate_left
        · intro w hSw; (try dsimp only at hSw); go_simp; (try with_reducible rfl)
        try simp only [Act.put, List.setIfInBounds_toArray, List.set_cons_zero, List.set_cons_succ]
        refine wpAnyH_take (i := 3) (oi := ⟨_, _, _, _, _, _⟩) (v := ?_) rfl (by kernel_rfl) (by kernel_rfl) (by kernel_rfl) (fun _ _ _ h => h) (Or.inl ⟨by rfl, ?_⟩) (by assumption) ?_
        rotate_left
        · intro w hSw; (try dsimp only at hSw); go_simp; (try with_reducible rfl)
        try simp only [Act.put, List.setIfInBounds_toArray, List.set_cons_zero, List.set_cons_succ]
        refine wpAnyH_take (i := 4) (oi := ⟨_, _, _, _, _, _⟩) (v := ?_) rfl (by kernel_rfl) (by kernel_rfl) (by kernel_rfl) (fun _ _ _ h => h) (Or.inl ⟨by rfl, ?_⟩) (by assumption) ?_
        rotate_left
        · intro w hSw; (try dsimp only at hSw); go_simp; (try with_reducible rfl)
        try simp only [Act.put, List.setIfInBounds_toArray, List.set_cons_zero, List.set_cons_succ]
        refine wpAnyH_ready (rs := [0, 5]) (by kernel_rfl) (by simp) ?_
        refine AllReadyH.cons rfl (fun K hK => ?_) (AllReadyH.cons rfl (fun K hK => ?_) (AllReadyH.nil))
        · skip
          go_simp
          have HA := Lib.hid (own_lit' (w := X.drew) (e := 30) (base := X.heap.size) (C := #[]) (l := ([] : List Ent)) (g := X.heap.size) Ent.cells_length rfl (by first | rfl | (simp; done) | (simp [World.size_alloc]; done)) (by first | exact Nat.le_refl _ | (simp; done) | (simp; omega) | (simp [World.size_alloc]; done) | (simp [World.size_alloc]; omega)))
          (try dsimp only)
          refine hK.out _ _ ?_ (fun hHeld => ?_)
          · (try dsimp only); (refine ⟨?_, ?_, ?_, ?_, ?_⟩ <;> (with_reducible (repeat (first | assumption | refine cell_ext ?_ _ | refine cell_drew ?_ | refine cell_alloc ?_ _))))
          clear hK K
          try simp only [Act.put, List.setIfInBounds_toArray, List.set_cons_zero, List.set_cons_succ]
          refine wpAnyH_ready (rs := [2, 5]) (by kernel_rfl) (by simp) ?_
          refine AllReadyH.cons rfl (fun K hK => ?_) (AllReadyH.cons rfl (fun K hK => ?_) (AllReadyH.nil))
          · skip
            refine step_append_where (W := X) (w := X.drew.alloc (.cells #[] 30)) (base := X.heap.size) (v := .slice (some ⟨X.heap.size, 0, none⟩) 0 0) (m := l) (u := .slice (some ⟨b, o, sp⟩) l.length c) rfl (.tmp 27) (.tmp 28) rfl Try.underlying26 info_Ent (by rfl) (by omega) Ent.cells_length Ent.cells_one (by omega) (by repeat (first | with_reducible (first | exact World.gained_refl _ | exact ⟨_, rfl⟩ | apply gain_ext | apply gain_alloc | apply gain_drewN | apply gain_drew) | (refine gain_setCell ?_ (by first | exact Nat.le_refl _ | exact World.size_ext _ _ | (simp; done) | (simp; omega)) _))) (Nat.le_refl _) (gain_size (by repeat (first | with_reducible (first | exact World.gained_refl _ | exact ⟨_, rfl⟩ | apply gain_ext | apply gain_alloc | apply gain_drewN | apply gain_drew) | (refine gain_setCell ?_ (by first | exact Nat.le_refl _ | exact World.size_ext _ _ | (simp; done) | (simp; omega)) _)))) (by first | rfl | (simp; done) | (simp [World.size_alloc]; done)) (by first | rfl | (simp; done) | (simp [World.size_alloc]; done)) (own_up HA.out (by repeat (first | with_reducible (first | exact World.gained_refl _ | exact ⟨_, rfl⟩ | apply gain_ext | apply gain_alloc | apply gain_drewN | apply gain_drew) | (refine gain_setCell ?_ (by first | exact Nat.le_refl _ | exact World.size_ext _ _ | (simp; done) | (simp; omega)) _)))) (by with_reducible (repeat (first | exact HLX.out | refine World.sl_ext Ent.cells_length ?_ _ | refine sl_alloc Ent.cells_length ?_ _ | refine sl_drew ?_))) (by simp; omega) ?_
            intro vA dA hoA hgA hwA
            rw [List.nil_append] at hoA
            have hvA := own_lt hoA
            have HAX := Lib.hid hoA
            clear hoA hgA hwA
            (try dsimp only)
            refine hK.out _ _ ?_ (fun hHeld => ?_)
            · (try dsimp only); (refine ⟨?_, ?_, ?_, ?_, ?_⟩ <;> (with_reducible (repeat (first | assumption | refine cell_ext ?_ _ | refine cell_drew ?_ | refine cell_alloc ?_ _))))
            clear hK K
            try simp only [Act.put, List.setIfInBounds_toArray, List.set_cons_zero, List.set_cons_succ]
            refine wpAnyH_ready (rs := [5]) (by kernel_rfl) (by simp) ?_
            refine AllReadyH.cons rfl (fun K hK => ?_) (AllReadyH.nil)
            go_simp
            have HU := Lib.hid (own_lit' (w := X.ext dA) (e := 30) (base := X.heap.size) (C := #[.int .i64 e.runner, .int .i64 e.cls, .int .i64 e.day, .bool e.rent, .int .i64 e.paid]) (l := [e]) (g := (X.ext dA).heap.size) Ent.cells_length rfl (by first | rfl | (simp; done) | (simp [World.size_alloc]; done)) (by first | exact Nat.le_refl _ | exact World.size_ext _ _ | (simp; done) | (simp; omega) | (simp [World.size_alloc]; done) | (simp [World.size_alloc]; omega)))
            (try dsimp only)
            refine hK.out _ _ ?_ (fun hHeld => ?_)
            · (try dsimp only); (refine ⟨?_, ?_, ?_, ?_, ?_⟩ <;> (with_reducible (repeat (first | assumption | refine cell_ext ?_ _ | refine cell_drew ?_ | refine cell_alloc ?_ _))))
            clear hK K
            try simp only [Act.put, List.setIfInBounds_toArray, List.set_cons_zero, List.set_cons_succ]
            have hne : vA.ownBlock ≠ some (X.ext dA).heap.size := fun h => by have := (hvA _ h).2; omega
            have HA2 := HAX
            clear hvA HAX HA
            refine wpAnyH_ready (rs := [6]) (by kernel_rfl) (by simp) ?_
            refine AllReadyH.cons rfl (fun K hK => ?_) AllReadyH.nil
            go_simp
            go_wp2_with fail
            refine (insert_any W1 _ W1.heap.size k _ 1 vA l e (gain_trans HGX.out (by repeat (first | with_reducible (first | exact World.gained_refl _ | exact ⟨_, rfl⟩ | apply gain_ext | apply gain_alloc | apply gain_drewN | apply gain_drew) | (refine gain_setCell ?_ (by first | exact Nat.le_refl _ | exact World.size_ext _ _ | (simp; done) | (simp; omega)) _)))) (Nat.le_refl _) (Nat.le_trans hXs (gain_size (by repeat (first | with_reducible (first | exact World.gained_refl _ | exact ⟨_, rfl⟩ | apply gain_ext | apply gain_alloc | apply gain_drewN | apply gain_drew) | (refine gain_setCell ?_ (by first | exact Nat.le_refl _ | exact World.size_ext _ _ | (simp; done) | (simp; omega)) _))))) (own_base (own_up (HA2.out) (by repeat (first | with_reducible (first | exact World.gained_refl _ | exact ⟨_, rfl⟩ | apply gain_ext | apply gain_alloc | apply gain_drewN | apply gain_drew) | (refine gain_setCell ?_ (by first | exact Nat.le_refl _ | exact World.size_ext _ _ | (simp; done) | (simp; omega)) _)))) hXs) (own_base (own_up (HU.out) (by repeat (first | with_reducible (first | exact World.gained_refl _ | exact ⟨_, rfl⟩ | apply gain_ext | apply gain_alloc | apply gain_drewN | apply gain_drew) | (refine gain_setCell ?_ (by first | exact Nat.le_refl _ | exact World.size_ext _ _ | (simp; done) | (simp; omega)) _)))) hXs) hne hk hl).mono ?_
            rintro x w1 ⟨R, rfl, ⟨d3, rfl⟩, ho⟩
            (try dsimp only)
            refine hK.out _ _ ?_ (fun hHeld => ?_)
            · (try dsimp only); (refine ⟨?_, ?_, ?_, ?_, ?_⟩ <;> (with_reducible (repeat (first | assumption | refine cell_ext ?_ _ | refine cell_drew ?_ | refine cell_alloc ?_ _))))
            clear hK K HA2 HU hne
            try simp only [Act.put, List.setIfInBounds_toArray, List.set_cons_zero, List.set_cons_succ]
            refine wpAnyH_take (i := 7) (oi := ⟨_, _, _, _, _, _⟩) (v := ?_) rfl (by kernel_rfl) (by kernel_rfl) (by kernel_rfl) (fun _ _ _ h => h) (Or.inl ⟨by rfl, ?_⟩) (by assumption) ?_
            rotate_left
            · intro w hSw; (try dsimp only at hSw); go_simp; (try with_reducible rfl)
            try simp only [Act.put, List.setIfInBounds_toArray, List.set_cons_zero, List.set_cons_succ]
            refine wpAnyH_done (by kernel_rfl) ?_ _
            rw [HI] at ho
            have HO := Lib.hid ho
            clear ho
            go_wp2_with fail
            refine (areEntries_any _ (entIns l e) _ (by with_reducible (repeat (first | exact sl_of_own Ent.cells_length HO.out | refine World.sl_ext Ent.cells_length ?_ _ | refine sl_alloc Ent.cells_length ?_ _ | refine sl_drew ?_))) (by rw [entIns_len]; omega)).mono ?_
            cases hC : entsB (entIns l e) with
            | true =>
              rintro x w1 ⟨rfl, d8, rfl⟩
              go_wp2_with fail
              go_ret2
              rw [hLT.out hC, hC]
              exact ⟨_, rfl, gain_trans HGW.out (by repeat (first | with_reducible (first | exact World.gained_refl _ | exact ⟨_, rfl⟩ | apply gain_ext | apply gain_alloc | apply gain_drewN | apply gain_drew) | (refine gain_setCell ?_ (by first | exact Nat.le_refl _ | exact World.size_ext _ _ | (simp; done) | (simp; omega)) _))), own_base (own_up HO.out (by repeat (first | with_reducible (first | exact World.gained_refl _ | exact ⟨_, rfl⟩ | apply gain_ext | apply gain_alloc | apply gain_drewN | apply gain_drew) | (refine gain_setCell ?_ (by first | exact Nat.le_refl _ | exact World.size_ext _ _ | (simp; done) | (simp; omega)) _)))) hgw⟩
            | false =>
              rintro x w1 ⟨rfl, d8, rfl⟩
              go_wp2_with fail
              go_ret2
              rw [hLF.out hC, hC]
              exact ⟨_, rfl, gain_trans HGW.out (by repeat (first | with_reducible (first | exact World.gained_refl _ | exact ⟨_, rfl⟩ | apply gain_ext | apply gain_alloc | apply gain_drewN | apply gain_drew) | (refine gain_setCell ?_ (by first | exact Nat.le_refl _ | exact World.size_ext _ _ | (simp; done) | (simp; omega)) _))), own_nil _ _ _ _ _⟩
          · skip
            go_simp
            have HU := Lib.hid (own_lit' (w := (X.drew.alloc (.cells #[] 30))) (e := 30) (base := X.heap.size) (C := #[.int .i64 e.runner, .int .i64 e.cls, .int .i64 e.day, .bool e.rent, .int .i64 e.paid]) (l := [e]) (g := X.heap.size + 1) Ent.cells_length rfl (by first | rfl | (simp; done) | (simp [World.size_alloc]; done)) (by first | exact Nat.le_refl _ | exact World.size_ext _ _ | (simp; done) | (simp; omega) | (simp [World.size_alloc]; done) | (simp [World.size_alloc]; omega)))
            (try dsimp only)
            refine hK.out _ _ ?_ (fun hHeld => ?_)
            · (try dsimp only); (refine ⟨?_, ?_, ?_, ?_, ?_⟩ <;> (with_reducible (repeat (first | assumption | refine cell_ext ?_ _ | refine cell_drew ?_ | refine cell_alloc ?_ _))))
            clear hK K
            try simp only [Act.put, List.setIfInBounds_toArray, List.set_cons_zero, List.set_cons_succ]
            refine wpAnyH_ready (rs := [2]) (by kernel_rfl) (by simp) ?_
            refine AllReadyH.cons rfl (fun K hK => ?_) (AllReadyH.nil)
            refine step_append_where (W := X) (w := (X.drew.alloc (.cells #[] 30)).alloc (.cells #[.int .i64 e.runner, .int .i64 e.cls, .int .i64 e.day, .bool e.rent, .int .i64 e.paid] 30)) (base := X.heap.size) (v := .slice (some ⟨X.heap.size, 0, none⟩) 0 0) (m := l) (u := .slice (some ⟨b, o, sp⟩) l.length c) rfl (.tmp 27) (.tmp 28) rfl Try.underlying26 info_Ent (by rfl) (by omega) Ent.cells_length Ent.cells_one (by omega) (by repeat (first | with_reducible (first | exact World.gained_refl _ | exact ⟨_, rfl⟩ | apply gain_ext | apply gain_alloc | apply gain_drewN | apply gain_drew) | (refine gain_setCell ?_ (by first | exact Nat.le_refl _ | exact World.size_ext _ _ | (simp; done) | (simp; omega)) _))) (Nat.le_refl _) (gain_size (by repeat (first | with_reducible (first | exact World.gained_refl _ | exact ⟨_, rfl⟩ | apply gain_ext | apply gain_alloc | apply gain_drewN | apply gain_drew) | (refine gain_setCell ?_ (by first | exact Nat.le_refl _ | exact World.size_ext _ _ | (simp; done) | (simp; omega)) _)))) (by first | rfl | (simp; done) | (simp [World.size_alloc]; done)) (by first | rfl | (simp; done) | (simp [World.size_alloc]; done)) (own_up HA.out (by repeat (first | with_reducible (first | exact World.gained_refl _ | exact ⟨_, rfl⟩ | apply gain_ext | apply gain_alloc | apply gain_drewN | apply gain_drew) | (refine gain_setCell ?_ (by first | exact Nat.le_refl _ | exact World.size_ext _ _ | (simp; done) | (simp; omega)) _)))) (by with_reducible (repeat (first | exact HLX.out | refine World.sl_ext Ent.cells_length ?_ _ | refine sl_alloc Ent.cells_length ?_ _ | refine sl_drew ?_))) (by simp; omega) ?_
            intro vA dA hoA hgA hwA
            rw [List.nil_append] at hoA
            have hne : vA.ownBlock ≠ some (X.heap.size + 1) := by
              rcases hwA with h | h
              · rw [h]; (first | (simp; done) | (simp [Value.ownBlock]; done))
              · rw [h]; (first | (simp; done) | (simp; omega) | (simp [Value.ownBlock]; done) | (simp [Value.ownBlock]; omega) | (simp [World.size_alloc, Value.ownBlock]; done) | (simp [World.size_alloc, Value.ownBlock]; omega))
            have HA2 := Lib.hid hoA
            replace HU := Lib.hid (own_mark (own_up HU.out (w' := _) (by repeat (first | with_reducible (first | exact World.gained_refl _ | exact ⟨_, rfl⟩ | apply gain_ext | apply gain_alloc | apply gain_drewN | apply gain_drew) | (refine gain_setCell ?_ (by first | exact Nat.le_refl _ | exact World.size_ext _ _ | (simp; done) | (simp; omega)) _)))) hgA (by first | (simp; done) | (simp [Value.ownBlock]; done)))
            clear hoA hgA hwA HA
            (try dsimp only)
            refine hK.out _ _ ?_ (fun hHeld => ?_)
            · (try dsimp only); (refine ⟨?_, ?_, ?_, ?_, ?_⟩ <;> (with_reducible (repeat (first | assumption | refine cell_ext ?_ _ | refine cell_drew ?_ | refine cell_alloc ?_ _))))
            clear hK K
            try simp only [Act.put, List.setIfInBounds_toArray, List.set_cons_zero, List.set_cons_succ]
            refine wpAnyH_ready (rs := [6]) (by kernel_rfl) (by simp) ?_
            refine AllReadyH.cons rfl (fun K hK => ?_) AllReadyH.nil
            go_simp
            go_wp2_with fail
            refine (insert_any W1 _ W1.heap.size k _ 1 vA l e (gain_trans HGX.out (by repeat (first | with_reducible (first | exact World.gained_refl _ | exact ⟨_, rfl⟩ | apply gain_ext | apply gain_alloc | apply gain_drewN | apply gain_drew) | (refine gain_setCell ?_ (by first | exact Nat.le_refl _ | exact World.size_ext _ _ | (simp; done) | (simp; omega)) _)))) (Nat.le_refl _) (Nat.le_trans hXs (gain_size (by repeat (first | with_reducible (first | exact World.gained_refl _ | exact ⟨_, rfl⟩ | apply gain_ext | apply gain_alloc | apply gain_drewN | apply gain_drew) | (refine gain_setCell ?_ (by first | exact Nat.le_refl _ | exact World.size_ext _ _ | (simp; done) | (simp; omega)) _))))) (own_base (own_up (HA2.out) (by repeat (first | with_reducible (first | exact World.gained_refl _ | exact ⟨_, rfl⟩ | apply gain_ext | apply gain_alloc | apply gain_drewN | apply gain_drew) | (refine gain_setCell ?_ (by first | exact Nat.le_refl _ | exact World.size_ext _ _ | (simp; done) | (simp; omega)) _)))) hXs) (own_base (own_up (HU.out) (by repeat (first | with_reducible (first | exact World.gained_refl _ | exact ⟨_, rfl⟩ | apply gain_ext | apply gain_alloc | apply gain_drewN | apply gain_drew) | (refine gain_setCell ?_ (by first | exact Nat.le_refl _ | exact World.size_ext _ _ | (simp; done) | (simp; omega)) _)))) hXs) hne hk hl).mono ?_
            rintro x w1 ⟨R, rfl, ⟨d3, rfl⟩, ho⟩
            (try dsimp only)
            refine hK.out _ _ ?_ (fun hHeld => ?_)
            · (try dsimp only); (refine ⟨?_, ?_, ?_, ?_, ?_⟩ <;> (with_reducible (repeat (first | assumption | refine cell_ext ?_ _ | refine cell_drew ?_ | refine cell_alloc ?_ _))))
            clear hK K HA2 HU hne
            try simp only [Act.put, List.setIfInBounds_toArray, List.set_cons_zero, List.set_cons_succ]
            refine wpAnyH_take (i := 7) (oi := ⟨_, _, _, _, _, _⟩) (v := ?_) rfl (by kernel_rfl) (by kernel_rfl) (by kernel_rfl) (fun _ _ _ h => h) (Or.inl ⟨by rfl, ?_⟩) (by assumption) ?_
            rotate_left
            · intro w hSw; (try dsimp only at hSw); go_simp; (try with_reducible rfl)
            try simp only [Act.put, List.setIfInBounds_toArray, List.set_cons_zero, List.set_cons_succ]
            refine wpAnyH_done (by kernel_rfl) ?_ _
            rw [HI] at ho
            have HO := Lib.hid ho
            clear ho
            go_wp2_with fail
            refine (areEntries_any _ (entIns l e) _ (by with_reducible (repeat (first | exact sl_of_own Ent.cells_length HO.out | refine World.sl_ext Ent.cells_length ?_ _ | refine sl_alloc Ent.cells_length ?_ _ | refine sl_drew ?_))) (by rw [entIns_len]; omega)).mono ?_
            cases hC : entsB (entIns l e) with
            | true =>
              rintro x w1 ⟨rfl, d8, rfl⟩
              go_wp2_with fail
              go_ret2
              rw [hLT.out hC, hC]
              exact ⟨_, rfl, gain_trans HGW.out (by repeat (first | with_reducible (first | exact World.gained_refl _ | exact ⟨_, rfl⟩ | apply gain_ext | apply gain_alloc | apply gain_drewN | apply gain_drew) | (refine gain_setCell ?_ (by first | exact Nat.le_refl _ | exact World.size_ext _ _ | (simp; done) | (simp; omega)) _))), own_base (own_up HO.out (by repeat (first | with_reducible (first | exact World.gained_refl _ | exact ⟨_, rfl⟩ | apply gain_ext | apply gain_alloc | apply gain_drewN | apply gain_drew) | (refine gain_setCell ?_ (by first | exact Nat.le_refl _ | exact World.size_ext _ _ | (simp; done) | (simp; omega)) _)))) hgw⟩
            | false =>
              rintro x w1 ⟨rfl, d8, rfl⟩
              go_wp2_with fail
              go_ret2
              rw [hLF.out hC, hC]
              exact ⟨_, rfl, gain_trans HGW.out (by repeat (first | with_reducible (first | exact World.gained_refl _ | exact ⟨_, rfl⟩ | apply gain_ext | apply gain_alloc | apply gain_drewN | apply gain_drew) | (refine gain_setCell ?_ (by first | exact Nat.le_refl _ | exact World.size_ext _ _ | (simp; done) | (simp; omega)) _))), own_nil _ _ _ _ _⟩
        · skip
          go_simp
          have HU := Lib.hid (own_lit' (w := X.drew) (e := 30) (base := X.heap.size) (C := #[.int .i64 e.runner, .int .i64 e.cls, .int .i64 e.day, .bool e.rent, .int .i64 e.paid]) (l := [e]) (g := X.heap.size) Ent.cells_length rfl (by first | rfl | (simp; done) | (simp [World.size_alloc]; done)) (by first | exact Nat.le_refl _ | exact World.size_ext _ _ | (simp; done) | (simp; omega) | (simp [World.size_alloc]; done) | (simp [World.size_alloc]; omega)))
          (try dsimp only)
          refine hK.out _ _ ?_ (fun hHeld => ?_)
          · (try dsimp only); (refine ⟨?_, ?_, ?_, ?_, ?_⟩ <;> (with_reducible (repeat (first | assumption | refine cell_ext ?_ _ | refine cell_drew ?_ | refine cell_alloc ?_ _))))
          clear hK K
          try simp only [Act.put, List.setIfInBounds_toArray, List.set_cons_zero, List.set_cons_succ]
          refine wpAnyH_ready (rs := [0]) (by kernel_rfl) (by simp) ?_
          refine AllReadyH.cons rfl (fun K hK => ?_) (AllReadyH.nil)
          go_simp
          have HA := Lib.hid (own_lit' (w := (X.drew.alloc (.cells #[.int .i64 e.runner, .int .i64 e.cls, .int .i64 e.day, .bool e.rent, .int .i64 e.paid] 30))) (e := 30) (base := X.heap.size) (C := #[]) (l := ([] : List Ent)) (g := X.heap.size + 1) Ent.cells_length rfl (by first | rfl | (simp; done) | (simp [World.size_alloc]; done)) (by first | exact Nat.le_refl _ | (simp; done) | (simp; omega) | (simp [World.size_alloc]; done) | (simp [World.size_alloc]; omega)))
          (try dsimp only)
          refine hK.out _ _ ?_ (fun hHeld => ?_)
          · (try dsimp only); (refine ⟨?_, ?_, ?_, ?_, ?_⟩ <;> (with_reducible (repeat (first | assumption | refine cell_ext ?_ _ | refine cell_drew ?_ | refine cell_alloc ?_ _))))
          clear hK K
          try simp only [Act.put, List.setIfInBounds_toArray, List.set_cons_zero, List.set_cons_succ]
          refine wpAnyH_ready (rs := [2]) (by kernel_rfl) (by simp) ?_
          refine AllReadyH.cons rfl (fun K hK => ?_) (AllReadyH.nil)
          refine step_append_where (W := X) (w := (X.drew.alloc (.cells #[.int .i64 e.runner, .int .i64 e.cls, .int .i64 e.day, .bool e.rent, .int .i64 e.paid] 30)).alloc (.cells #[] 30)) (base := X.heap.size) (v := .slice (some ⟨X.heap.size + 1, 0, none⟩) 0 0) (m := l) (u := .slice (some ⟨b, o, sp⟩) l.length c) rfl (.tmp 27) (.tmp 28) rfl Try.underlying26 info_Ent (by rfl) (by omega) Ent.cells_length Ent.cells_one (by omega) (by repeat (first | with_reducible (first | exact World.gained_refl _ | exact ⟨_, rfl⟩ | apply gain_ext | apply gain_alloc | apply gain_drewN | apply gain_drew) | (refine gain_setCell ?_ (by first | exact Nat.le_refl _ | exact World.size_ext _ _ | (simp; done) | (simp; omega)) _))) (Nat.le_refl _) (gain_size (by repeat (first | with_reducible (first | exact World.gained_refl _ | exact ⟨_, rfl⟩ | apply gain_ext | apply gain_alloc | apply gain_drewN | apply gain_drew) | (refine gain_setCell ?_ (by first | exact Nat.le_refl _ | exact World.size_ext _ _ | (simp; done) | (simp; omega)) _)))) (by first | rfl | (simp; done) | (simp [World.size_alloc]; done)) (by first | rfl | (simp; done) | (simp [World.size_alloc]; done)) (own_up HA.out (by repeat (first | with_reducible (first | exact World.gained_refl _ | exact ⟨_, rfl⟩ | apply gain_ext | apply gain_alloc | apply gain_drewN | apply gain_drew) | (refine gain_setCell ?_ (by first | exact Nat.le_refl _ | exact World.size_ext _ _ | (simp; done) | (simp; omega)) _)))) (by with_reducible (repeat (first | exact HLX.out | refine World.sl_ext Ent.cells_length ?_ _ | refine sl_alloc Ent.cells_length ?_ _ | refine sl_drew ?_))) (by simp; omega) ?_
          intro vA dA hoA hgA hwA
          rw [List.nil_append] at hoA
          have hne : vA.ownBlock ≠ some X.heap.size := by
            rcases hwA with h | h
            · rw [h]; (first | (simp; done) | (simp [Value.ownBlock]; done))
            · rw [h]; (first | (simp; done) | (simp; omega) | (simp [Value.ownBlock]; done) | (simp [Value.ownBlock]; omega) | (simp [World.size_alloc, Value.ownBlock]; done) | (simp [World.size_alloc, Value.ownBlock]; omega))
          have HA2 := Lib.hid hoA
          replace HU := Lib.hid (own_mark (own_up HU.out (w' := _) (by repeat (first | with_reducible (first | exact World.gained_refl _ | exact ⟨_, rfl⟩ | apply gain_ext | apply gain_alloc | apply gain_drewN | apply gain_drew) | (refine gain_setCell ?_ (by first | exact Nat.le_refl _ | exact World.size_ext _ _ | (simp; done) | (simp; omega)) _)))) hgA (by first | (simp; done) | (simp [Value.ownBlock]; done)))
          clear hoA hgA hwA HA
          (try dsimp only)
          refine hK.out _ _ ?_ (fun hHeld => ?_)
          · (try dsimp only); (refine ⟨?_, ?_, ?_, ?_, ?_⟩ <;> (with_reducible (repeat (first | assumption | refine cell_ext ?_ _ | refine cell_drew ?_ | refine cell_alloc ?_ _))))
          clear hK K
          try simp only [Act.put, List.setIfInBounds_toArray, List.set_cons_zero, List.set_cons_succ]
          refine wpAnyH_ready (rs := [6]) (by kernel_rfl) (by simp) ?_
          refine AllReadyH.cons rfl (fun K hK => ?_) AllReadyH.nil
          go_simp
          go_wp2_with fail
          refine (insert_any W1 _ W1.heap.size k _ 1 vA l e (gain_trans HGX.out (by repeat (first | with_reducible (first | exact World.gained_refl _ | exact ⟨_, rfl⟩ | apply gain_ext | apply gain_alloc | apply gain_drewN | apply gain_drew) | (refine gain_setCell ?_ (by first | exact Nat.le_refl _ | exact World.size_ext _ _ | (simp; done) | (simp; omega)) _)))) (Nat.le_refl _) (Nat.le_trans hXs (gain_size (by repeat (first | with_reducible (first | exact World.gained_refl _ | exact ⟨_, rfl⟩ | apply gain_ext | apply gain_alloc | apply gain_drewN | apply gain_drew) | (refine gain_setCell ?_ (by first | exact Nat.le_refl _ | exact World.size_ext _ _ | (simp; done) | (simp; omega)) _))))) (own_base (own_up (HA2.out) (by repeat (first | with_reducible (first | exact World.gained_refl _ | exact ⟨_, rfl⟩ | apply gain_ext | apply gain_alloc | apply gain_drewN | apply gain_drew) | (refine gain_setCell ?_ (by first | exact Nat.le_refl _ | exact World.size_ext _ _ | (simp; done) | (simp; omega)) _)))) hXs) (own_base (own_up (HU.out) (by repeat (first | with_reducible (first | exact World.gained_refl _ | exact ⟨_, rfl⟩ | apply gain_ext | apply gain_alloc | apply gain_drewN | apply gain_drew) | (refine gain_setCell ?_ (by first | exact Nat.le_refl _ | exact World.size_ext _ _ | (simp; done) | (simp; omega)) _)))) hXs) hne hk hl).mono ?_
          rintro x w1 ⟨R, rfl, ⟨d3, rfl⟩, ho⟩
          (try dsimp only)
          refine hK.out _ _ ?_ (fun hHeld => ?_)
          · (try dsimp only); (refine ⟨?_, ?_, ?_, ?_, ?_⟩ <;> (with_reducible (repeat (first | assumption | refine cell_ext ?_ _ | refine cell_drew ?_ | refine cell_alloc ?_ _))))
          clear hK K HA2 HU hne
          try simp only [Act.put, List.setIfInBounds_toArray, List.set_cons_zero, List.set_cons_succ]
          refine wpAnyH_take (i := 7) (oi := ⟨_, _, _, _, _, _⟩) (v := ?_) rfl (by kernel_rfl) (by kernel_rfl) (by kernel_rfl) (fun _ _ _ h => h) (Or.inl ⟨by rfl, ?_⟩) (by assumption) ?_
          rotate_left
          · intro w hSw; (try dsimp only at hSw); go_simp; (try with_reducible rfl)
          try simp only [Act.put, List.setIfInBounds_toArray, List.set_cons_zero, List.set_cons_succ]
          refine wpAnyH_done (by kernel_rfl) ?_ _
          rw [HI] at ho
          have HO := Lib.hid ho
          clear ho
          go_wp2_with fail
          refine (areEntries_any _ (entIns l e) _ (by with_reducible (repeat (first | exact sl_of_own Ent.cells_length HO.out | refine World.sl_ext Ent.cells_length ?_ _ | refine sl_alloc Ent.cells_length ?_ _ | refine sl_drew ?_))) (by rw [entIns_len]; omega)).mono ?_
          cases hC : entsB (entIns l e) with
          | true =>
            rintro x w1 ⟨rfl, d8, rfl⟩
            go_wp2_with fail
            go_ret2
            rw [hLT.out hC, hC]
            exact ⟨_, rfl, gain_trans HGW.out (by repeat (first | with_reducible (first | exact World.gained_refl _ | exact ⟨_, rfl⟩ | apply gain_ext | apply gain_alloc | apply gain_drewN | apply gain_drew) | (refine gain_setCell ?_ (by first | exact Nat.le_refl _ | exact World.size_ext _ _ | (simp; done) | (simp; omega)) _))), own_base (own_up HO.out (by repeat (first | with_reducible (first | exact World.gained_refl _ | exact ⟨_, rfl⟩ | apply gain_ext | apply gain_alloc | apply gain_drewN | apply gain_drew) | (refine gain_setCell ?_ (by first | exact Nat.le_refl _ | exact World.size_ext _ _ | (simp; done) | (simp; omega)) _)))) hgw⟩
          | false =>
            rintro x w1 ⟨rfl, d8, rfl⟩
            go_wp2_with fail
            go_ret2
            rw [hLF.out hC, hC]
            exact ⟨_, rfl, gain_trans HGW.out (by repeat (first | with_reducible (first | exact World.gained_refl _ | exact ⟨_, rfl⟩ | apply gain_ext | apply gain_alloc | apply gain_drewN | apply gain_drew) | (refine gain_setCell ?_ (by first | exact Nat.le_refl _ | exact World.size_ext _ _ | (simp; done) | (simp; omega)) _))), own_nil _ _ _ _ _⟩
end Go.Proofs.Ytnpfghpjlbjpnaa
