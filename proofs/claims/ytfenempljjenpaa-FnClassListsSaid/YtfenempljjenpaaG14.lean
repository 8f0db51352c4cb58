/- spec.AddRunner: a list of runners of the call's own, one longer at most. Condition: at most a thousand runners, their strings at most 1048576 bytes. -/
import Derived.Test.YtfenempljjenpaaG12
import Derived.Test.YtfenempljjenpaaG13
import Derived.Test.YtfenempljjenpaaG2
namespace Go.Proofs.Ytfenempljjenpaa
open Go.RowKit Go.Ori
theorem cell_upR {w w' : World} {a : Addr} {v : Value} (h : w.cell? a = some v) (hg : ∃ d, w' = w.ext d) : w'.cell? a = some v := by
  obtain ⟨d, rfl⟩ := hg
  exact cell_ext h d
theorem sl_tailR {α : Type} (w : World) (enc : α → List Value) (sz : Nat) (p : Option Addr) (c : Nat) (l : List α) {k : Nat} (hk : l.length ≤ k) : w.sl enc sz (.slice p (l.length - k) (c - k)) (l.drop k) :=
  ⟨p, c - k, by rw [List.length_drop], fun h0 => absurd h0 (by rw [List.length_drop]; omega), by rw [List.length_drop]; omega⟩
set_option maxHeartbeats 8000000 in
theorem addRunner_any (v : Value) (l : List Runner) (e : Runner) (w : World) (h : w.sl Runner.cells 6 v l) (hl : l.length ≤ 1000) (hq : ∀ x ∈ l, Runner.small x) (hr : Runner.small e) :
    Calls Try.prog 45 #[v, .agg #[.int .i64 e.id, .string e.name, .string e.club, .int .i64 e.born, .bool e.woman, .int .i64 e.card]] w fun x w' => ∃ (R : Value) (M : List Runner) (b : Bool), x = .returned (.tuple #[R, .bool b]) ∧ (∃ d, w' = w.ext d) ∧ w'.own w.heap.size 37 Runner.cells 6 R M ∧ M.length ≤ l.length + 1 ∧ ∀ x ∈ M, Runner.small x := by
  have hs := Lib.hid h
  have HQ := Lib.hid hq
  have HR := Lib.hid hr
  obtain ⟨p, c, rfl, _, hcap⟩ := id h
  clear h hq hr
  have hG := Lib.hid (fun W hL => l5Good_any (.slice p l.length c) l W hL (by omega) HQ.out)
  cases hB : runsB l with
  | false =>
    rw [hB] at hG
    clear hB
    go_enter Try.func45, Try.ntmps45
    go_wp2_with (go_at_call 26; refine (hG.out _ (by with_reducible (repeat (first | exact hs.out | refine World.sl_ext Runner.cells_length ?_ _ | refine sl_alloc Runner.cells_length ?_ _ | refine sl_drew ?_)))).mono ?_; rintro x w1 ⟨rfl, d1, rfl⟩)
    go_ret2
    exact ⟨_, [], _, rfl, (by repeat (first | with_reducible (first | exact World.gained_refl _ | exact ⟨_, rfl⟩ | apply gain_ext | apply gain_alloc | apply gain_drewN | apply gain_drew) | (refine gain_setCell ?_ (by first | exact Nat.le_refl _ | exact World.size_ext _ _ | (simp; done) | (simp; omega)) _))), own_lit' (l := ([] : List Runner)) Runner.cells_length rfl rfl (gain_size (by repeat (first | with_reducible (first | exact World.gained_refl _ | exact ⟨_, rfl⟩ | apply gain_ext | apply gain_alloc | apply gain_drewN | apply gain_drew) | (refine gain_setCell ?_ (by first | exact Nat.le_refl _ | exact World.size_ext _ _ | (simp; done) | (simp; omega)) _)))), by simp, by simp⟩
  | true =>
  rw [hB] at hG
  clear hB
  go_enter Try.func45, Try.ntmps45
  go_wp2_with fail
  generalize hW1 : w.alloc (.cells #[.int .i64 e.id, .string e.name, .string e.club, .int .i64 e.born, .bool e.woman, .int .i64 e.card] 37) = W1
  have bx0 : W1.cell? ⟨w.heap.size, 0, none⟩ = some (.int .i64 e.id) := by rw [← hW1]; simp [go_sem]
  have bx1 : W1.cell? ⟨w.heap.size, 1, none⟩ = some (.string e.name) := by rw [← hW1]; simp [go_sem]
  have bx2 : W1.cell? ⟨w.heap.size, 2, none⟩ = some (.string e.club) := by rw [← hW1]; simp [go_sem]
  have bx3 : W1.cell? ⟨w.heap.size, 3, none⟩ = some (.int .i64 e.born) := by rw [← hW1]; simp [go_sem]
  have bx4 : W1.cell? ⟨w.heap.size, 4, none⟩ = some (.bool e.woman) := by rw [← hW1]; simp [go_sem]
  have bx5 : W1.cell? ⟨w.heap.size, 5, none⟩ = some (.int .i64 e.card) := by rw [← hW1]; simp [go_sem]
  have HL1 : Hid (W1.sl Runner.cells 6 (.slice p l.length c) l) := Lib.hid (by rw [← hW1]; exact (by with_reducible (repeat (first | exact hs.out | refine World.sl_ext Runner.cells_length ?_ _ | refine sl_alloc Runner.cells_length ?_ _ | refine sl_drew ?_))))
  have HGW : Hid (∃ d, W1 = w.ext d) := Lib.hid (by rw [← hW1]; exact (by repeat (first | with_reducible (first | exact World.gained_refl _ | exact ⟨_, rfl⟩ | apply gain_ext | apply gain_alloc | apply gain_drewN | apply gain_drew) | (refine gain_setCell ?_ (by first | exact Nat.le_refl _ | exact World.size_ext _ _ | (simp; done) | (simp; omega)) _))))
  have hgw := gain_size HGW.out
  have obx := World.oldB_of_cell bx0
  clear hW1 hs
  refine (hG.out _ (by with_reducible (repeat (first | exact HL1.out | refine World.sl_ext Runner.cells_length ?_ _ | refine sl_alloc Runner.cells_length ?_ _ | refine sl_drew ?_)))).mono ?_
  rintro x w1 ⟨rfl, d1, rfl⟩
  clear hG
  go_wp2_with fail
  go_loopw [6] (fun i_ wr => ∃ k : Nat, k ≤ l.length ∧ i_ = .int .i64 k ∧ ∃ d, wr = W1.ext d) (fun i_ _ => l.length - (intOf i_).toNat)
  case atStart => exact ⟨0, by omega, by go_num, (by repeat (first | with_reducible (first | exact World.gained_refl _ | exact ⟨_, rfl⟩ | apply gain_ext | apply gain_alloc | apply gain_drewN | apply gain_drew) | (refine gain_setCell ?_ (by first | exact Nat.le_refl _ | exact World.size_ext _ _ | (simp; done) | (simp; omega)) _)))⟩
  case round =>
    obtain ⟨k, hk, rfl, d, rfl⟩ := hrel
    have hkc : k ≤ c := by omega
    have hk0 : (0 : Int) ≤ (k : Int) := by omega
    have hk1 : (k : Int) ≤ (c : Int) := by omega
    have hk2 : (k : Int) ≤ (l.length : Int) := by omega
    have HL2 := Lib.hid (sl_up Runner.cells_length HL1.out (w' := W1.ext d) ⟨_, rfl⟩)
    by_cases hlt : k < l.length
    · obtain ⟨b, o, rfl⟩ := sl_some HL1.out (by omega)
      have r0 := sl_cells HL2.out hlt (j := 0) (by omega)
      have hltd : decide ((k : Int) < (l.length : Int)) = true := decide_eq_true (by omega)
      generalize l[k] = y at r0
      simp only [Runner.cells, List.getElem?_cons_zero, Nat.add_zero] at r0
      have obB := World.oldB_of_cell r0
      by_cases hy : y.id < e.id
      · have hyd : decide (y.id < e.id) = true := decide_eq_true hy
        go_wp2_with fail
        refine wp_region_gain (by kernel_rfl) (by kernel_rfl) ?_
        repeat (first | go_big_quiet_skip | (go_big_quiet_want; go_big_quiet_op; first | go_big_quiet_on))
        refine wpQuiet_nil ?_
        rintro _ ⟨d', rfl⟩
        go_wp2
        go_roundw
        case rel => exact ⟨k + 1, by omega, by go_num, (by repeat (first | with_reducible (first | exact World.gained_refl _ | exact ⟨_, rfl⟩ | apply gain_ext | apply gain_alloc | apply gain_drewN | apply gain_drew) | (refine gain_setCell ?_ (by first | exact Nat.le_refl _ | exact World.size_ext _ _ | (simp; done) | (simp; omega)) _)))⟩
        case measure => simp [intOf]; omega
      · have hyd : decide (y.id < e.id) = false := decide_eq_false hy
        go_wp2_with fail
        refine wp_region_gain (by kernel_rfl) (by kernel_rfl) ?_
        repeat (first | go_big_quiet_skip | (go_big_quiet_want; go_big_quiet_op; first | go_big_quiet_on))
        refine wpQuiet_nil ?_
        rintro _ ⟨d', rfl⟩
        go_upto_region 6 with fail
        have HGX : Hid (∃ dd, (W1.ext d).ext d' = W1.ext dd) := Lib.hid (by repeat (first | with_reducible (first | exact World.gained_refl _ | exact ⟨_, rfl⟩ | apply gain_ext | apply gain_alloc | apply gain_drewN | apply gain_drew) | (refine gain_setCell ?_ (by first | exact Nat.le_refl _ | exact World.size_ext _ _ | (simp; done) | (simp; omega)) _)))
        generalize (W1.ext d).ext d' = X at HGX ⊢
        have by0 := cell_upR bx0 HGX.out
        have by1 := cell_upR bx1 HGX.out
        have by2 := cell_upR bx2 HGX.out
        have by3 := cell_upR bx3 HGX.out
        have by4 := cell_upR bx4 HGX.out
        have by5 := cell_upR bx5 HGX.out
        have obX := World.oldB_of_cell by0
        have HLX := Lib.hid (sl_up Runner.cells_length HL1.out HGX.out)
        have hXs : W1.heap.size ≤ X.heap.size := gain_size HGX.out
        obtain ⟨A, hA⟩ : ∃ A : Addr, (if c = k then some (⟨b, o, none⟩ : Addr) else some ⟨b, o + k * 6, none⟩) = some A := by split <;> exact ⟨_, rfl⟩
        refine wp_region_held_drew (S := (fun w' => w'.cell? ⟨w.heap.size, 0, none⟩ = some (.int .i64 e.id) ∧ w'.cell? ⟨w.heap.size, 1, none⟩ = some (.string e.name) ∧ w'.cell? ⟨w.heap.size, 2, none⟩ = some (.string e.club) ∧ w'.cell? ⟨w.heap.size, 3, none⟩ = some (.int .i64 e.born) ∧ w'.cell? ⟨w.heap.size, 4, none⟩ = some (.bool e.woman) ∧ w'.cell? ⟨w.heap.size, 5, none⟩ = some (.int .i64 e.card))) (by kernel_rfl) (by (try dsimp only); (refine ⟨?_, ?_, ?_, ?_, ?_, ?_⟩ <;> (with_reducible (repeat (first | assumption | refine cell_ext ?_ _ | refine cell_drew ?_ | refine cell_alloc ?_ _))))) (fun hHeld => ?_)
        refine wpAnyH_take (i := 1) (oi := ⟨_, _, _, _, _, _⟩) (v := ?_) rfl (by kernel_rfl) (by kernel_rfl) (by kernel_rfl) (fun _ _ _ h => h) (Or.inl ⟨by rfl, ?_⟩) (by assumption) ?_
        rotate_left
        · intro w hSw; (try dsimp only at hSw); go_simp; (try with_reducible rfl)
        try simp only [Act.put, List.setIfInBounds_toArray, List.set_cons_zero, List.set_cons_succ]
        refine wpAnyH_take (i := 2) (oi := ⟨_, _, _, _, _, _⟩) (v := ?_) rfl (by kernel_rfl) (by kernel_rfl) (by kernel_rfl) (fun _ _ _ h => h) (Or.inl ⟨by rfl, ?_⟩) (by assumption) ?_
        rotate_left
        · intro w hSw; (try dsimp only at hSw); go_simp; (try with_reducible rfl)
        try simp only [Act.put, List.setIfInBounds_toArray, List.set_cons_zero, List.set_cons_succ]
        refine wpAnyH_take (i := 3) (oi := ⟨_, _, _, _, _, _⟩) (v := ?_) rfl (by kernel_rfl) (by kernel_rfl) (by kernel_rfl) (fun _ _ _ h => h) (Or.inl ⟨by rfl, ?_⟩) (by assumption) ?_
        rotate_left
        · intro w hSw; (try dsimp only at hSw); go_simp; (try with_reducible rfl)
        try simp only [Act.put, List.setIfInBounds_toArray, List.set_cons_zero, List.set_cons_succ]
        refine wpAnyH_take (i := 5) (oi := ⟨_, _, _, _, _, _⟩) (v := ?_) rfl (by kernel_rfl) (by kernel_rfl) (by kernel_rfl) (fun _ _ _ h => h) (Or.inl ⟨by rfl, ?_⟩) (by assumption) ?_
        rotate_left
        · intro w hSw; (try dsimp only at hSw); go_simp; (try with_reducible rfl)
        try simp only [Act.put, List.setIfInBounds_toArray, List.set_cons_zero, List.set_cons_succ]
        refine wpAnyH_take (i := 8) (oi := ⟨_, _, _, _, _, _⟩) (v := ?_) rfl (by kernel_rfl) (by kernel_rfl) (by kernel_rfl) (fun _ _ _ h => h) (Or.inl ⟨by rfl, ?_⟩) (by assumption) ?_
        rotate_left
        · intro w hSw; (try dsimp only at hSw); go_simp; (try with_reducible rfl)
        try simp only [Act.put, List.setIfInBounds_toArray, List.set_cons_zero, List.set_cons_succ]
        refine wpAnyH_take (i := 9) (oi := ⟨_, _, _, _, _, _⟩) (v := ?_) rfl (by kernel_rfl) (by kernel_rfl) (by kernel_rfl) (fun _ _ _ h => h) (Or.inl ⟨by rfl, ?_⟩) (by assumption) ?_
        rotate_left
        · intro w hSw; (try dsimp only at hSw); go_simp; (try with_reducible rfl)
        try simp only [Act.put, List.setIfInBounds_toArray, List.set_cons_zero, List.set_cons_succ]
        refine wpAnyH_take (i := 10) (oi := ⟨_, _, _, _, _, _⟩) (v := ?_) rfl (by kernel_rfl) (by kernel_rfl) (by kernel_rfl) (fun _ _ _ h => h) (Or.inl ⟨by rfl, ?_⟩) (by assumption) ?_
        rotate_left
        · intro w hSw; (try dsimp only at hSw); go_simp; (try with_reducible rfl)
        try simp only [Act.put, List.setIfInBounds_toArray, List.set_cons_zero, List.set_cons_succ]
        refine wpAnyH_ready (rs := [0, 6]) (by kernel_rfl) (by simp) ?_
        refine AllReadyH.cons rfl (fun K hK => ?_) (AllReadyH.cons rfl (fun K hK => ?_) (AllReadyH.nil))
        · skip
          go_simp
          have HA := Lib.hid (own_lit' (w := X.drew) (e := 37) (base := X.heap.size) (C := #[]) (l := ([] : List Runner)) (g := X.heap.size) Runner.cells_length rfl (by first | rfl | (simp; done) | (simp [World.size_alloc]; done)) (by first | exact Nat.le_refl _ | exact World.size_ext _ _ | (simp; done) | (simp; omega) | (simp [World.size_alloc]; done) | (simp [World.size_alloc]; omega)))
          (try dsimp only)
          refine hK.out _ _ ?_ (fun hHeld => ?_)
          · (try dsimp only); (refine ⟨?_, ?_, ?_, ?_, ?_, ?_⟩ <;> (with_reducible (repeat (first | assumption | refine cell_ext ?_ _ | refine cell_drew ?_ | refine cell_alloc ?_ _))))
          clear hK K
          try simp only [Act.put, List.setIfInBounds_toArray]
          refine wpAnyH_ready (rs := [4, 6]) (by kernel_rfl) (by simp) ?_
          refine AllReadyH.cons rfl (fun K hK => ?_) (AllReadyH.cons rfl (fun K hK => ?_) (AllReadyH.nil))
          · skip
            refine step_append_gain (W := X) (w := X.drew.alloc (.cells #[] 37)) (base := X.heap.size) (v := .slice (some ⟨X.heap.size, 0, none⟩) 0 0) (m := l.take k) (u := .slice (some ⟨b, o, none⟩) k c) rfl (.tmp 28) (.tmp 31) rfl Try.underlying25 info_Runner (by rfl) (by omega) Runner.cells_length Runner.cells_one (by omega) (by repeat (first | with_reducible (first | exact World.gained_refl _ | exact ⟨_, rfl⟩ | apply gain_ext | apply gain_alloc | apply gain_drewN | apply gain_drew) | (refine gain_setCell ?_ (by first | exact Nat.le_refl _ | exact World.size_ext _ _ | (simp; done) | (simp; omega)) _))) (Nat.le_refl _) (gain_size (by repeat (first | with_reducible (first | exact World.gained_refl _ | exact ⟨_, rfl⟩ | apply gain_ext | apply gain_alloc | apply gain_drewN | apply gain_drew) | (refine gain_setCell ?_ (by first | exact Nat.le_refl _ | exact World.size_ext _ _ | (simp; done) | (simp; omega)) _)))) (by first | rfl | (simp; done) | (simp [World.size_alloc]; done)) (by first | rfl | (simp; done) | (simp [World.size_alloc]; done) | (rw [show l.length - k = 0 by omega]; rfl)) (HA.out) (sl_take (by with_reducible (repeat (first | exact HLX.out | refine World.sl_ext Runner.cells_length ?_ _ | refine sl_alloc Runner.cells_length ?_ _ | refine sl_drew ?_))) (by omega)) (by simp; omega) ?_
            intro vA dA hoA hgA
            rw [List.nil_append] at hoA
            have HA1 := Lib.hid hoA
            clear hoA hgA HA
            (try dsimp only)
            refine hK.out _ _ ?_ (fun hHeld => ?_)
            · (try dsimp only); (refine ⟨?_, ?_, ?_, ?_, ?_, ?_⟩ <;> (with_reducible (repeat (first | assumption | refine cell_ext ?_ _ | refine cell_drew ?_ | refine cell_alloc ?_ _))))
            clear hK K
            try simp only [Act.put, List.setIfInBounds_toArray]
            refine wpAnyH_ready (rs := [6]) (by kernel_rfl) (by simp) ?_
            refine AllReadyH.cons rfl (fun K hK => ?_) (AllReadyH.nil)
            go_simp
            have HU := Lib.hid (own_lit' (w := (X.ext dA)) (e := 37) (base := X.heap.size) (C := #[.int .i64 e.id, .string e.name, .string e.club, .int .i64 e.born, .bool e.woman, .int .i64 e.card]) (l := [e]) (g := (X.ext dA).heap.size) Runner.cells_length rfl (by first | rfl | (simp; done) | (simp [World.size_alloc]; done)) (by first | exact Nat.le_refl _ | exact World.size_ext _ _ | (simp; done) | (simp; omega) | (simp [World.size_alloc]; done) | (simp [World.size_alloc]; omega)))
            (try dsimp only)
            refine hK.out _ _ ?_ (fun hHeld => ?_)
            · (try dsimp only); (refine ⟨?_, ?_, ?_, ?_, ?_, ?_⟩ <;> (with_reducible (repeat (first | assumption | refine cell_ext ?_ _ | refine cell_drew ?_ | refine cell_alloc ?_ _))))
            clear hK K
            try simp only [Act.put, List.setIfInBounds_toArray]
            refine wpAnyH_ready (rs := [7]) (by kernel_rfl) (by simp) ?_
            refine AllReadyH.cons rfl (fun K hK => ?_) (AllReadyH.nil)
            refine step_append_gain (W := X) (w := (X.ext dA).alloc (.cells #[.int .i64 e.id, .string e.name, .string e.club, .int .i64 e.born, .bool e.woman, .int .i64 e.card] 37)) (base := X.heap.size) (v := vA) (m := [e]) (u := .slice (some ⟨(X.ext dA).heap.size, 0, none⟩) 1 1) rfl (.tmp 32) (.tmp 34) rfl Try.underlying25 info_Runner (by rfl) (by omega) Runner.cells_length Runner.cells_one (by omega) (by repeat (first | with_reducible (first | exact World.gained_refl _ | exact ⟨_, rfl⟩ | apply gain_ext | apply gain_alloc | apply gain_drewN | apply gain_drew) | (refine gain_setCell ?_ (by first | exact Nat.le_refl _ | exact World.size_ext _ _ | (simp; done) | (simp; omega)) _))) (Nat.le_refl _) (gain_size (by repeat (first | with_reducible (first | exact World.gained_refl _ | exact ⟨_, rfl⟩ | apply gain_ext | apply gain_alloc | apply gain_drewN | apply gain_drew) | (refine gain_setCell ?_ (by first | exact Nat.le_refl _ | exact World.size_ext _ _ | (simp; done) | (simp; omega)) _)))) (by first | rfl | (simp; done) | (simp [World.size_alloc]; done)) (by first | rfl | (simp; done) | (simp [World.size_alloc]; done) | (rw [show l.length - k = 0 by omega]; rfl)) (own_up HA1.out (by repeat (first | with_reducible (first | exact World.gained_refl _ | exact ⟨_, rfl⟩ | apply gain_ext | apply gain_alloc | apply gain_drewN | apply gain_drew) | (refine gain_setCell ?_ (by first | exact Nat.le_refl _ | exact World.size_ext _ _ | (simp; done) | (simp; omega)) _)))) (sl_up Runner.cells_length (sl_of_own Runner.cells_length HU.out) (by repeat (first | with_reducible (first | exact World.gained_refl _ | exact ⟨_, rfl⟩ | apply gain_ext | apply gain_alloc | apply gain_drewN | apply gain_drew) | (refine gain_setCell ?_ (by first | exact Nat.le_refl _ | exact World.size_ext _ _ | (simp; done) | (simp; omega)) _)))) (by simp; omega) ?_
            intro vB dB hoB hgB
            have HA2 := Lib.hid hoB
            clear hoB hgB HA1 HU
            (try dsimp only)
            refine hK.out _ _ ?_ (fun hHeld => ?_)
            · (try dsimp only); (refine ⟨?_, ?_, ?_, ?_, ?_, ?_⟩ <;> (with_reducible (repeat (first | assumption | refine cell_ext ?_ _ | refine cell_drew ?_ | refine cell_alloc ?_ _))))
            clear hK K
            try simp only [Act.put, List.setIfInBounds_toArray]
            refine wpAnyH_ready (rs := [11]) (by kernel_rfl) (by simp) ?_
            refine AllReadyH.cons rfl (fun K hK => ?_) (AllReadyH.nil)
            refine step_append_gain (W := X) (w := X.ext dB) (base := X.heap.size) (v := vB) (m := l.drop k) (u := .slice (some A) (l.length - k) (c - k)) rfl (.tmp 35) (.tmp 38) rfl Try.underlying25 info_Runner (by rfl) (by omega) Runner.cells_length Runner.cells_one (by omega) (by repeat (first | with_reducible (first | exact World.gained_refl _ | exact ⟨_, rfl⟩ | apply gain_ext | apply gain_alloc | apply gain_drewN | apply gain_drew) | (refine gain_setCell ?_ (by first | exact Nat.le_refl _ | exact World.size_ext _ _ | (simp; done) | (simp; omega)) _))) (Nat.le_refl _) (gain_size (by repeat (first | with_reducible (first | exact World.gained_refl _ | exact ⟨_, rfl⟩ | apply gain_ext | apply gain_alloc | apply gain_drewN | apply gain_drew) | (refine gain_setCell ?_ (by first | exact Nat.le_refl _ | exact World.size_ext _ _ | (simp; done) | (simp; omega)) _)))) (by first | rfl | (simp; done) | (simp [World.size_alloc]; done)) (by first | rfl | (simp; done) | (simp [World.size_alloc]; done) | (rw [show l.length - k = 0 by omega]; rfl)) (HA2.out) (sl_drop_any (by with_reducible (repeat (first | exact HLX.out | refine World.sl_ext Runner.cells_length ?_ _ | refine sl_alloc Runner.cells_length ?_ _ | refine sl_drew ?_))) (by omega) hA) (by simp; omega) ?_
            intro vC dC hoC hgC
            (try dsimp only)
            refine hK.out _ _ ?_ (fun hHeld => ?_)
            · (try dsimp only); (refine ⟨?_, ?_, ?_, ?_, ?_, ?_⟩ <;> (with_reducible (repeat (first | assumption | refine cell_ext ?_ _ | refine cell_drew ?_ | refine cell_alloc ?_ _))))
            clear hK K
            try simp only [Act.put, List.setIfInBounds_toArray]
            refine wpAnyH_take (i := 12) (oi := ⟨_, _, _, _, _, _⟩) (v := ?_) rfl (by kernel_rfl) (by kernel_rfl) (by kernel_rfl) (fun _ _ _ h => h) (Or.inl ⟨by rfl, ?_⟩) (by assumption) ?_
            rotate_left
            · intro w hSw; (try dsimp only at hSw); go_simp; (try with_reducible rfl)
            try simp only [Act.put, List.setIfInBounds_toArray, List.set_cons_zero, List.set_cons_succ]
            refine wpAnyH_done (by kernel_rfl) ?_ _
            have hLn : (l.take k ++ [e] ++ l.drop k).length = l.length + 1 := by simp; omega
            have HSM : Hid (∀ x ∈ l.take k ++ [e] ++ l.drop k, Runner.small x) := Lib.hid (fun x hx => by
              rcases List.mem_append.1 hx with hx | hx
              · rcases List.mem_append.1 hx with hx | hx
                · exact HQ.out x (List.mem_of_mem_take hx)
                · simp only [List.mem_singleton] at hx
                  subst hx
                  exact HR.out
              · exact HQ.out x (List.mem_of_mem_drop hx))
            have HO := Lib.hid hoC
            clear hoC hgC HA2
            generalize l.take k ++ [e] ++ l.drop k = M at HO HSM hLn
            go_wp2_with fail
            refine (l5Good_any _ M _ (by with_reducible (repeat (first | exact sl_of_own Runner.cells_length HO.out | refine World.sl_ext Runner.cells_length ?_ _ | refine sl_alloc Runner.cells_length ?_ _ | refine sl_drew ?_))) (by omega) HSM.out).mono ?_
            cases hC : runsB M with
            | true =>
              rintro x w1 ⟨rfl, d8, rfl⟩
              go_wp2_with fail
              go_ret2
              exact ⟨_, M, _, rfl, gain_trans HGW.out (gain_trans HGX.out (by repeat (first | with_reducible (first | exact World.gained_refl _ | exact ⟨_, rfl⟩ | apply gain_ext | apply gain_alloc | apply gain_drewN | apply gain_drew) | (refine gain_setCell ?_ (by first | exact Nat.le_refl _ | exact World.size_ext _ _ | (simp; done) | (simp; omega)) _)))), own_base (own_up HO.out (by repeat (first | with_reducible (first | exact World.gained_refl _ | exact ⟨_, rfl⟩ | apply gain_ext | apply gain_alloc | apply gain_drewN | apply gain_drew) | (refine gain_setCell ?_ (by first | exact Nat.le_refl _ | exact World.size_ext _ _ | (simp; done) | (simp; omega)) _)))) (by omega), by omega, HSM.out⟩
            | false =>
              rintro x w1 ⟨rfl, d8, rfl⟩
              go_wp2_with fail
              go_ret2
              exact ⟨_, [], _, rfl, gain_trans HGW.out (gain_trans HGX.out (by repeat (first | with_reducible (first | exact World.gained_refl _ | exact ⟨_, rfl⟩ | apply gain_ext | apply gain_alloc | apply gain_drewN | apply gain_drew) | (refine gain_setCell ?_ (by first | exact Nat.le_refl _ | exact World.size_ext _ _ | (simp; done) | (simp; omega)) _)))), own_lit' (l := ([] : List Runner)) Runner.cells_length rfl rfl (by have := World.size_ext X dC; have := World.size_ext (X.ext dC) d8; omega), by simp, by simp⟩
          · skip
            go_simp
            have HU := Lib.hid (own_lit' (w := (X.drew.alloc (.cells #[] 37))) (e := 37) (base := X.heap.size) (C := #[.int .i64 e.id, .string e.name, .string e.club, .int .i64 e.born, .bool e.woman, .int .i64 e.card]) (l := [e]) (g := X.heap.size + 1) Runner.cells_length rfl (by first | rfl | (simp; done) | (simp [World.size_alloc]; done)) (by first | exact Nat.le_refl _ | exact World.size_ext _ _ | (simp; done) | (simp; omega) | (simp [World.size_alloc]; done) | (simp [World.size_alloc]; omega)))
            (try dsimp only)
            refine hK.out _ _ ?_ (fun hHeld => ?_)
            · (try dsimp only); (refine ⟨?_, ?_, ?_, ?_, ?_, ?_⟩ <;> (with_reducible (repeat (first | assumption | refine cell_ext ?_ _ | refine cell_drew ?_ | refine cell_alloc ?_ _))))
            clear hK K
            try simp only [Act.put, List.setIfInBounds_toArray]
            refine wpAnyH_ready (rs := [4]) (by kernel_rfl) (by simp) ?_
            refine AllReadyH.cons rfl (fun K hK => ?_) (AllReadyH.nil)
            refine step_append_gain (W := X) (w := (X.drew.alloc (.cells #[] 37)).alloc (.cells #[.int .i64 e.id, .string e.name, .string e.club, .int .i64 e.born, .bool e.woman, .int .i64 e.card] 37)) (base := X.heap.size) (v := .slice (some ⟨X.heap.size, 0, none⟩) 0 0) (m := l.take k) (u := .slice (some ⟨b, o, none⟩) k c) rfl (.tmp 28) (.tmp 31) rfl Try.underlying25 info_Runner (by rfl) (by omega) Runner.cells_length Runner.cells_one (by omega) (by repeat (first | with_reducible (first | exact World.gained_refl _ | exact ⟨_, rfl⟩ | apply gain_ext | apply gain_alloc | apply gain_drewN | apply gain_drew) | (refine gain_setCell ?_ (by first | exact Nat.le_refl _ | exact World.size_ext _ _ | (simp; done) | (simp; omega)) _))) (Nat.le_refl _) (gain_size (by repeat (first | with_reducible (first | exact World.gained_refl _ | exact ⟨_, rfl⟩ | apply gain_ext | apply gain_alloc | apply gain_drewN | apply gain_drew) | (refine gain_setCell ?_ (by first | exact Nat.le_refl _ | exact World.size_ext _ _ | (simp; done) | (simp; omega)) _)))) (by first | rfl | (simp; done) | (simp [World.size_alloc]; done)) (by first | rfl | (simp; done) | (simp [World.size_alloc]; done) | (rw [show l.length - k = 0 by omega]; rfl)) (own_up HA.out (by repeat (first | with_reducible (first | exact World.gained_refl _ | exact ⟨_, rfl⟩ | apply gain_ext | apply gain_alloc | apply gain_drewN | apply gain_drew) | (refine gain_setCell ?_ (by first | exact Nat.le_refl _ | exact World.size_ext _ _ | (simp; done) | (simp; omega)) _)))) (sl_take (by with_reducible (repeat (first | exact HLX.out | refine World.sl_ext Runner.cells_length ?_ _ | refine sl_alloc Runner.cells_length ?_ _ | refine sl_drew ?_))) (by omega)) (by simp; omega) ?_
            intro vA dA hoA hgA
            rw [List.nil_append] at hoA
            replace HU := Lib.hid (own_mark (own_up HU.out (w' := _) (by repeat (first | with_reducible (first | exact World.gained_refl _ | exact ⟨_, rfl⟩ | apply gain_ext | apply gain_alloc | apply gain_drewN | apply gain_drew) | (refine gain_setCell ?_ (by first | exact Nat.le_refl _ | exact World.size_ext _ _ | (simp; done) | (simp; omega)) _)))) hgA (by first | (simp; done) | (simp [Value.ownBlock]; done) | (simp [Value.ownBlock, World.size_alloc]; done)))
            have HA1 := Lib.hid hoA
            clear hoA hgA HA
            (try dsimp only)
            refine hK.out _ _ ?_ (fun hHeld => ?_)
            · (try dsimp only); (refine ⟨?_, ?_, ?_, ?_, ?_, ?_⟩ <;> (with_reducible (repeat (first | assumption | refine cell_ext ?_ _ | refine cell_drew ?_ | refine cell_alloc ?_ _))))
            clear hK K
            try simp only [Act.put, List.setIfInBounds_toArray]
            refine wpAnyH_ready (rs := [7]) (by kernel_rfl) (by simp) ?_
            refine AllReadyH.cons rfl (fun K hK => ?_) (AllReadyH.nil)
            refine step_append_gain (W := X) (w := X.ext dA) (base := X.heap.size) (v := vA) (m := [e]) (u := .slice (some ⟨X.heap.size + 1, 0, none⟩) 1 1) rfl (.tmp 32) (.tmp 34) rfl Try.underlying25 info_Runner (by rfl) (by omega) Runner.cells_length Runner.cells_one (by omega) (by repeat (first | with_reducible (first | exact World.gained_refl _ | exact ⟨_, rfl⟩ | apply gain_ext | apply gain_alloc | apply gain_drewN | apply gain_drew) | (refine gain_setCell ?_ (by first | exact Nat.le_refl _ | exact World.size_ext _ _ | (simp; done) | (simp; omega)) _))) (Nat.le_refl _) (gain_size (by repeat (first | with_reducible (first | exact World.gained_refl _ | exact ⟨_, rfl⟩ | apply gain_ext | apply gain_alloc | apply gain_drewN | apply gain_drew) | (refine gain_setCell ?_ (by first | exact Nat.le_refl _ | exact World.size_ext _ _ | (simp; done) | (simp; omega)) _)))) (by first | rfl | (simp; done) | (simp [World.size_alloc]; done)) (by first | rfl | (simp; done) | (simp [World.size_alloc]; done) | (rw [show l.length - k = 0 by omega]; rfl)) (own_up HA1.out (by repeat (first | with_reducible (first | exact World.gained_refl _ | exact ⟨_, rfl⟩ | apply gain_ext | apply gain_alloc | apply gain_drewN | apply gain_drew) | (refine gain_setCell ?_ (by first | exact Nat.le_refl _ | exact World.size_ext _ _ | (simp; done) | (simp; omega)) _)))) (sl_up Runner.cells_length (sl_of_own Runner.cells_length HU.out) (by repeat (first | with_reducible (first | exact World.gained_refl _ | exact ⟨_, rfl⟩ | apply gain_ext | apply gain_alloc | apply gain_drewN | apply gain_drew) | (refine gain_setCell ?_ (by first | exact Nat.le_refl _ | exact World.size_ext _ _ | (simp; done) | (simp; omega)) _)))) (by simp; omega) ?_
            intro vB dB hoB hgB
            have HA2 := Lib.hid hoB
            clear hoB hgB HA1 HU
            (try dsimp only)
            refine hK.out _ _ ?_ (fun hHeld => ?_)
            · (try dsimp only); (refine ⟨?_, ?_, ?_, ?_, ?_, ?_⟩ <;> (with_reducible (repeat (first | assumption | refine cell_ext ?_ _ | refine cell_drew ?_ | refine cell_alloc ?_ _))))
            clear hK K
            try simp only [Act.put, List.setIfInBounds_toArray]
            refine wpAnyH_ready (rs := [11]) (by kernel_rfl) (by simp) ?_
            refine AllReadyH.cons rfl (fun K hK => ?_) (AllReadyH.nil)
            refine step_append_gain (W := X) (w := X.ext dB) (base := X.heap.size) (v := vB) (m := l.drop k) (u := .slice (some A) (l.length - k) (c - k)) rfl (.tmp 35) (.tmp 38) rfl Try.underlying25 info_Runner (by rfl) (by omega) Runner.cells_length Runner.cells_one (by omega) (by repeat (first | with_reducible (first | exact World.gained_refl _ | exact ⟨_, rfl⟩ | apply gain_ext | apply gain_alloc | apply gain_drewN | apply gain_drew) | (refine gain_setCell ?_ (by first | exact Nat.le_refl _ | exact World.size_ext _ _ | (simp; done) | (simp; omega)) _))) (Nat.le_refl _) (gain_size (by repeat (first | with_reducible (first | exact World.gained_refl _ | exact ⟨_, rfl⟩ | apply gain_ext | apply gain_alloc | apply gain_drewN | apply gain_drew) | (refine gain_setCell ?_ (by first | exact Nat.le_refl _ | exact World.size_ext _ _ | (simp; done) | (simp; omega)) _)))) (by first | rfl | (simp; done) | (simp [World.size_alloc]; done)) (by first | rfl | (simp; done) | (simp [World.size_alloc]; done) | (rw [show l.length - k = 0 by omega]; rfl)) (HA2.out) (sl_drop_any (by with_reducible (repeat (first | exact HLX.out | refine World.sl_ext Runner.cells_length ?_ _ | refine sl_alloc Runner.cells_length ?_ _ | refine sl_drew ?_))) (by omega) hA) (by simp; omega) ?_
            intro vC dC hoC hgC
            (try dsimp only)
            refine hK.out _ _ ?_ (fun hHeld => ?_)
            · (try dsimp only); (refine ⟨?_, ?_, ?_, ?_, ?_, ?_⟩ <;> (with_reducible (repeat (first | assumption | refine cell_ext ?_ _ | refine cell_drew ?_ | refine cell_alloc ?_ _))))
            clear hK K
            try simp only [Act.put, List.setIfInBounds_toArray]
            refine wpAnyH_take (i := 12) (oi := ⟨_, _, _, _, _, _⟩) (v := ?_) rfl (by kernel_rfl) (by kernel_rfl) (by kernel_rfl) (fun _ _ _ h => h) (Or.inl ⟨by rfl, ?_⟩) (by assumption) ?_
            rotate_left
            · intro w hSw; (try dsimp only at hSw); go_simp; (try with_reducible rfl)
            try simp only [Act.put, List.setIfInBounds_toArray, List.set_cons_zero, List.set_cons_succ]
            refine wpAnyH_done (by kernel_rfl) ?_ _
            have hLn : (l.take k ++ [e] ++ l.drop k).length = l.length + 1 := by simp; omega
            have HSM : Hid (∀ x ∈ l.take k ++ [e] ++ l.drop k, Runner.small x) := Lib.hid (fun x hx => by
              rcases List.mem_append.1 hx with hx | hx
              · rcases List.mem_append.1 hx with hx | hx
                · exact HQ.out x (List.mem_of_mem_take hx)
                · simp only [List.mem_singleton] at hx
                  subst hx
                  exact HR.out
              · exact HQ.out x (List.mem_of_mem_drop hx))
            have HO := Lib.hid hoC
            clear hoC hgC HA2
            generalize l.take k ++ [e] ++ l.drop k = M at HO HSM hLn
            go_wp2_with fail
            refine (l5Good_any _ M _ (by with_reducible (repeat (first | exact sl_of_own Runner.cells_length HO.out | refine World.sl_ext Runner.cells_length ?_ _ | refine sl_alloc Runner.cells_length ?_ _ | refine sl_drew ?_))) (by omega) HSM.out).mono ?_
            cases hC : runsB M with
            | true =>
              rintro x w1 ⟨rfl, d8, rfl⟩
              go_wp2_with fail
              go_ret2
              exact ⟨_, M, _, rfl, gain_trans HGW.out (gain_trans HGX.out (by repeat (first | with_reducible (first | exact World.gained_refl _ | exact ⟨_, rfl⟩ | apply gain_ext | apply gain_alloc | apply gain_drewN | apply gain_drew) | (refine gain_setCell ?_ (by first | exact Nat.le_refl _ | exact World.size_ext _ _ | (simp; done) | (simp; omega)) _)))), own_base (own_up HO.out (by repeat (first | with_reducible (first | exact World.gained_refl _ | exact ⟨_, rfl⟩ | apply gain_ext | apply gain_alloc | apply gain_drewN | apply gain_drew) | (refine gain_setCell ?_ (by first | exact Nat.le_refl _ | exact World.size_ext _ _ | (simp; done) | (simp; omega)) _)))) (by omega), by omega, HSM.out⟩
            | false =>
              rintro x w1 ⟨rfl, d8, rfl⟩
              go_wp2_with fail
              go_ret2
              exact ⟨_, [], _, rfl, gain_trans HGW.out (gain_trans HGX.out (by repeat (first | with_reducible (first | exact World.gained_refl _ | exact ⟨_, rfl⟩ | apply gain_ext | apply gain_alloc | apply gain_drewN | apply gain_drew) | (refine gain_setCell ?_ (by first | exact Nat.le_refl _ | exact World.size_ext _ _ | (simp; done) | (simp; omega)) _)))), own_lit' (l := ([] : List Runner)) Runner.cells_length rfl rfl (by have := World.size_ext X dC; have := World.size_ext (X.ext dC) d8; omega), by simp, by simp⟩
        · skip
          go_simp
          have HU := Lib.hid (own_lit' (w := X.drew) (e := 37) (base := X.heap.size) (C := #[.int .i64 e.id, .string e.name, .string e.club, .int .i64 e.born, .bool e.woman, .int .i64 e.card]) (l := [e]) (g := X.heap.size) Runner.cells_length rfl (by first | rfl | (simp; done) | (simp [World.size_alloc]; done)) (by first | exact Nat.le_refl _ | exact World.size_ext _ _ | (simp; done) | (simp; omega) | (simp [World.size_alloc]; done) | (simp [World.size_alloc]; omega)))
          (try dsimp only)
          refine hK.out _ _ ?_ (fun hHeld => ?_)
          · (try dsimp only); (refine ⟨?_, ?_, ?_, ?_, ?_, ?_⟩ <;> (with_reducible (repeat (first | assumption | refine cell_ext ?_ _ | refine cell_drew ?_ | refine cell_alloc ?_ _))))
          clear hK K
          try simp only [Act.put, List.setIfInBounds_toArray]
          refine wpAnyH_ready (rs := [0]) (by kernel_rfl) (by simp) ?_
          refine AllReadyH.cons rfl (fun K hK => ?_) (AllReadyH.nil)
          go_simp
          have HA := Lib.hid (own_lit' (w := (X.drew.alloc (.cells #[.int .i64 e.id, .string e.name, .string e.club, .int .i64 e.born, .bool e.woman, .int .i64 e.card] 37))) (e := 37) (base := X.heap.size) (C := #[]) (l := ([] : List Runner)) (g := X.heap.size + 1) Runner.cells_length rfl (by first | rfl | (simp; done) | (simp [World.size_alloc]; done)) (by first | exact Nat.le_refl _ | exact World.size_ext _ _ | (simp; done) | (simp; omega) | (simp [World.size_alloc]; done) | (simp [World.size_alloc]; omega)))
          (try dsimp only)
          refine hK.out _ _ ?_ (fun hHeld => ?_)
          · (try dsimp only); (refine ⟨?_, ?_, ?_, ?_, ?_, ?_⟩ <;> (with_reducible (repeat (first | assumption | refine cell_ext ?_ _ | refine cell_drew ?_ | refine cell_alloc ?_ _))))
          clear hK K
          try simp only [Act.put, List.setIfInBounds_toArray]
          refine wpAnyH_ready (rs := [4]) (by kernel_rfl) (by simp) ?_
          refine AllReadyH.cons rfl (fun K hK => ?_) (AllReadyH.nil)
          refine step_append_gain (W := X) (w := (X.drew.alloc (.cells #[.int .i64 e.id, .string e.name, .string e.club, .int .i64 e.born, .bool e.woman, .int .i64 e.card] 37)).alloc (.cells #[] 37)) (base := X.heap.size) (v := .slice (some ⟨X.heap.size + 1, 0, none⟩) 0 0) (m := l.take k) (u := .slice (some ⟨b, o, none⟩) k c) rfl (.tmp 28) (.tmp 31) rfl Try.underlying25 info_Runner (by rfl) (by omega) Runner.cells_length Runner.cells_one (by omega) (by repeat (first | with_reducible (first | exact World.gained_refl _ | exact ⟨_, rfl⟩ | apply gain_ext | apply gain_alloc | apply gain_drewN | apply gain_drew) | (refine gain_setCell ?_ (by first | exact Nat.le_refl _ | exact World.size_ext _ _ | (simp; done) | (simp; omega)) _))) (Nat.le_refl _) (gain_size (by repeat (first | with_reducible (first | exact World.gained_refl _ | exact ⟨_, rfl⟩ | apply gain_ext | apply gain_alloc | apply gain_drewN | apply gain_drew) | (refine gain_setCell ?_ (by first | exact Nat.le_refl _ | exact World.size_ext _ _ | (simp; done) | (simp; omega)) _)))) (by first | rfl | (simp; done) | (simp [World.size_alloc]; done)) (by first | rfl | (simp; done) | (simp [World.size_alloc]; done) | (rw [show l.length - k = 0 by omega]; rfl)) (HA.out) (sl_take (by with_reducible (repeat (first | exact HLX.out | refine World.sl_ext Runner.cells_length ?_ _ | refine sl_alloc Runner.cells_length ?_ _ | refine sl_drew ?_))) (by omega)) (by simp; omega) ?_
          intro vA dA hoA hgA
          rw [List.nil_append] at hoA
          replace HU := Lib.hid (own_mark (own_up HU.out (w' := _) (by repeat (first | with_reducible (first | exact World.gained_refl _ | exact ⟨_, rfl⟩ | apply gain_ext | apply gain_alloc | apply gain_drewN | apply gain_drew) | (refine gain_setCell ?_ (by first | exact Nat.le_refl _ | exact World.size_ext _ _ | (simp; done) | (simp; omega)) _)))) hgA (by first | (simp; done) | (simp [Value.ownBlock]; done) | (simp [Value.ownBlock, World.size_alloc]; done)))
          have HA1 := Lib.hid hoA
          clear hoA hgA HA
          (try dsimp only)
          refine hK.out _ _ ?_ (fun hHeld => ?_)
          · (try dsimp only); (refine ⟨?_, ?_, ?_, ?_, ?_, ?_⟩ <;> (with_reducible (repeat (first | assumption | refine cell_ext ?_ _ | refine cell_drew ?_ | refine cell_alloc ?_ _))))
          clear hK K
          try simp only [Act.put, List.setIfInBounds_toArray]
          refine wpAnyH_ready (rs := [7]) (by kernel_rfl) (by simp) ?_
          refine AllReadyH.cons rfl (fun K hK => ?_) (AllReadyH.nil)
          refine step_append_gain (W := X) (w := X.ext dA) (base := X.heap.size) (v := vA) (m := [e]) (u := .slice (some ⟨X.heap.size, 0, none⟩) 1 1) rfl (.tmp 32) (.tmp 34) rfl Try.underlying25 info_Runner (by rfl) (by omega) Runner.cells_length Runner.cells_one (by omega) (by repeat (first | with_reducible (first | exact World.gained_refl _ | exact ⟨_, rfl⟩ | apply gain_ext | apply gain_alloc | apply gain_drewN | apply gain_drew) | (refine gain_setCell ?_ (by first | exact Nat.le_refl _ | exact World.size_ext _ _ | (simp; done) | (simp; omega)) _))) (Nat.le_refl _) (gain_size (by repeat (first | with_reducible (first | exact World.gained_refl _ | exact ⟨_, rfl⟩ | apply gain_ext | apply gain_alloc | apply gain_drewN | apply gain_drew) | (refine gain_setCell ?_ (by first | exact Nat.le_refl _ | exact World.size_ext _ _ | (simp; done) | (simp; omega)) _)))) (by first | rfl | (simp; done) | (simp [World.size_alloc]; done)) (by first | rfl | (simp; done) | (simp [World.size_alloc]; done) | (rw [show l.length - k = 0 by omega]; rfl)) (own_up HA1.out (by repeat (first | with_reducible (first | exact World.gained_refl _ | exact ⟨_, rfl⟩ | apply gain_ext | apply gain_alloc | apply gain_drewN | apply gain_drew) | (refine gain_setCell ?_ (by first | exact Nat.le_refl _ | exact World.size_ext _ _ | (simp; done) | (simp; omega)) _)))) (sl_up Runner.cells_length (sl_of_own Runner.cells_length HU.out) (by repeat (first | with_reducible (first | exact World.gained_refl _ | exact ⟨_, rfl⟩ | apply gain_ext | apply gain_alloc | apply gain_drewN | apply gain_drew) | (refine gain_setCell ?_ (by first | exact Nat.le_refl _ | exact World.size_ext _ _ | (simp; done) | (simp; omega)) _)))) (by simp; omega) ?_
          intro vB dB hoB hgB
          have HA2 := Lib.hid hoB
          clear hoB hgB HA1 HU
          (try dsimp only)
          refine hK.out _ _ ?_ (fun hHeld => ?_)
          · (try dsimp only); (refine ⟨?_, ?_, ?_, ?_, ?_, ?_⟩ <;> (with_reducible (repeat (first | assumption | refine cell_ext ?_ _ | refine cell_drew ?_ | refine cell_alloc ?_ _))))
          clear hK K
          try simp only [Act.put, List.setIfInBounds_toArray]
          refine wpAnyH_ready (rs := [11]) (by kernel_rfl) (by simp) ?_
          refine AllReadyH.cons rfl (fun K hK => ?_) (AllReadyH.nil)
          refine step_append_gain (W := X) (w := X.ext dB) (base := X.heap.size) (v := vB) (m := l.drop k) (u := .slice (some A) (l.length - k) (c - k)) rfl (.tmp 35) (.tmp 38) rfl Try.underlying25 info_Runner (by rfl) (by omega) Runner.cells_length Runner.cells_one (by omega) (by repeat (first | with_reducible (first | exact World.gained_refl _ | exact ⟨_, rfl⟩ | apply gain_ext | apply gain_alloc | apply gain_drewN | apply gain_drew) | (refine gain_setCell ?_ (by first | exact Nat.le_refl _ | exact World.size_ext _ _ | (simp; done) | (simp; omega)) _))) (Nat.le_refl _) (gain_size (by repeat (first | with_reducible (first | exact World.gained_refl _ | exact ⟨_, rfl⟩ | apply gain_ext | apply gain_alloc | apply gain_drewN | apply gain_drew) | (refine gain_setCell ?_ (by first | exact Nat.le_refl _ | exact World.size_ext _ _ | (simp; done) | (simp; omega)) _)))) (by first | rfl | (simp; done) | (simp [World.size_alloc]; done)) (by first | rfl | (simp; done) | (simp [World.size_alloc]; done) | (rw [show l.length - k = 0 by omega]; rfl)) (HA2.out) (sl_drop_any (by with_reducible (repeat (first | exact HLX.out | refine World.sl_ext Runner.cells_length ?_ _ | refine sl_alloc Runner.cells_length ?_ _ | refine sl_drew ?_))) (by omega) hA) (by simp; omega) ?_
          intro vC dC hoC hgC
          (try dsimp only)
          refine hK.out _ _ ?_ (fun hHeld => ?_)
          · (try dsimp only); (refine ⟨?_, ?_, ?_, ?_, ?_, ?_⟩ <;> (with_reducible (repeat (first | assumption | refine cell_ext ?_ _ | refine cell_drew ?_ | refine cell_alloc ?_ _))))
          clear hK K
          try simp only [Act.put, List.setIfInBounds_toArray]
          refine wpAnyH_take (i := 12) (oi := ⟨_, _, _, _, _, _⟩) (v := ?_) rfl (by kernel_rfl) (by kernel_rfl) (by kernel_rfl) (fun _ _ _ h => h) (Or.inl ⟨by rfl, ?_⟩) (by assumption) ?_
          rotate_left
          · intro w hSw; (try dsimp only at hSw); go_simp; (try with_reducible rfl)
          try simp only [Act.put, List.setIfInBounds_toArray, List.set_cons_zero, List.set_cons_succ]
          refine wpAnyH_done (by kernel_rfl) ?_ _
          have hLn : (l.take k ++ [e] ++ l.drop k).length = l.length + 1 := by simp; omega
          have HSM : Hid (∀ x ∈ l.take k ++ [e] ++ l.drop k, Runner.small x) := Lib.hid (fun x hx => by
            rcases List.mem_append.1 hx with hx | hx
            · rcases List.mem_append.1 hx with hx | hx
              · exact HQ.out x (List.mem_of_mem_take hx)
              · simp only [List.mem_singleton] at hx
                subst hx
                exact HR.out
            · exact HQ.out x (List.mem_of_mem_drop hx))
          have HO := Lib.hid hoC
          clear hoC hgC HA2
          generalize l.take k ++ [e] ++ l.drop k = M at HO HSM hLn
          go_wp2_with fail
          refine (l5Good_any _ M _ (by with_reducible (repeat (first | exact sl_of_own Runner.cells_length HO.out | refine World.sl_ext Runner.cells_length ?_ _ | refine sl_alloc Runner.cells_length ?_ _ | refine sl_drew ?_))) (by omega) HSM.out).mono ?_
          cases hC : runsB M with
          | true =>
            rintro x w1 ⟨rfl, d8, rfl⟩
            go_wp2_with fail
            go_ret2
            exact ⟨_, M, _, rfl, gain_trans HGW.out (gain_trans HGX.out (by repeat (first | with_reducible (first | exact World.gained_refl _ | exact ⟨_, rfl⟩ | apply gain_ext | apply gain_alloc | apply gain_drewN | apply gain_drew) | (refine gain_setCell ?_ (by first | exact Nat.le_refl _ | exact World.size_ext _ _ | (simp; done) | (simp; omega)) _)))), own_base (own_up HO.out (by repeat (first | with_reducible (first | exact World.gained_refl _ | exact ⟨_, rfl⟩ | apply gain_ext | apply gain_alloc | apply gain_drewN | apply gain_drew) | (refine gain_setCell ?_ (by first | exact Nat.le_refl _ | exact World.size_ext _ _ | (simp; done) | (simp; omega)) _)))) (by omega), by omega, HSM.out⟩
          | false =>
            rintro x w1 ⟨rfl, d8, rfl⟩
            go_wp2_with fail
            go_ret2
            exact ⟨_, [], _, rfl, gain_trans HGW.out (gain_trans HGX.out (by repeat (first | with_reducible (first | exact World.gained_refl _ | exact ⟨_, rfl⟩ | apply gain_ext | apply gain_alloc | apply gain_drewN | apply gain_drew) | (refine gain_setCell ?_ (by first | exact Nat.le_refl _ | exact World.size_ext _ _ | (simp; done) | (simp; omega)) _)))), own_lit' (l := ([] : List Runner)) Runner.cells_length rfl rfl (by have := World.size_ext X dC; have := World.size_ext (X.ext dC) d8; omega), by simp, by simp⟩
    · have hltd : decide ((k : Int) < (l.length : Int)) = false := decide_eq_false (by omega)
      have hk9 : l.length ≤ k := by omega
      cases p with
      | none =>
        go_wp2_with fail
        refine wp_region_gain (by kernel_rfl) (by kernel_rfl) ?_
        repeat (first | go_big_quiet_skip | (go_big_quiet_want; go_big_quiet_op; first | go_big_quiet_on))
        refine wpQuiet_nil ?_
        rintro _ ⟨d', rfl⟩
        go_upto_region 6 with fail
        have HGX : Hid (∃ dd, (W1.ext d).ext d' = W1.ext dd) := Lib.hid (by repeat (first | with_reducible (first | exact World.gained_refl _ | exact ⟨_, rfl⟩ | apply gain_ext | apply gain_alloc | apply gain_drewN | apply gain_drew) | (refine gain_setCell ?_ (by first | exact Nat.le_refl _ | exact World.size_ext _ _ | (simp; done) | (simp; omega)) _)))
        generalize (W1.ext d).ext d' = X at HGX ⊢
        have by0 := cell_upR bx0 HGX.out
        have by1 := cell_upR bx1 HGX.out
        have by2 := cell_upR bx2 HGX.out
        have by3 := cell_upR bx3 HGX.out
        have by4 := cell_upR bx4 HGX.out
        have by5 := cell_upR bx5 HGX.out
        have obX := World.oldB_of_cell by0
        have HLX := Lib.hid (sl_up Runner.cells_length HL1.out HGX.out)
        have hXs : W1.heap.size ≤ X.heap.size := gain_size HGX.out
        skip
        refine wp_region_held_drew (S := (fun w' => w'.cell? ⟨w.heap.size, 0, none⟩ = some (.int .i64 e.id) ∧ w'.cell? ⟨w.heap.size, 1, none⟩ = some (.string e.name) ∧ w'.cell? ⟨w.heap.size, 2, none⟩ = some (.string e.club) ∧ w'.cell? ⟨w.heap.size, 3, none⟩ = some (.int .i64 e.born) ∧ w'.cell? ⟨w.heap.size, 4, none⟩ = some (.bool e.woman) ∧ w'.cell? ⟨w.heap.size, 5, none⟩ = some (.int .i64 e.card))) (by kernel_rfl) (by (try dsimp only); (refine ⟨?_, ?_, ?_, ?_, ?_, ?_⟩ <;> (with_reducible (repeat (first | assumption | refine cell_ext ?_ _ | refine cell_drew ?_ | refine cell_alloc ?_ _))))) (fun hHeld => ?_)
        refine wpAnyH_take (i := 1) (oi := ⟨_, _, _, _, _, _⟩) (v := ?_) rfl (by kernel_rfl) (by kernel_rfl) (by kernel_rfl) (fun _ _ _ h => h) (Or.inl ⟨by rfl, ?_⟩) (by assumption) ?_
        rotate_left
        · intro w hSw; (try dsimp only at hSw); go_simp; (try with_reducible rfl)
        try simp only [Act.put, List.setIfInBounds_toArray, List.set_cons_zero, List.set_cons_succ]
        refine wpAnyH_take (i := 2) (oi := ⟨_, _, _, _, _, _⟩) (v := ?_) rfl (by kernel_rfl) (by kernel_rfl) (by kernel_rfl) (fun _ _ _ h => h) (Or.inl ⟨by rfl, ?_⟩) (by assumption) ?_
        rotate_left
        · intro w hSw; (try dsimp only at hSw); go_simp; (try with_reducible rfl)
        try simp only [Act.put, List.setIfInBounds_toArray, List.set_cons_zero, List.set_cons_succ]
        refine wpAnyH_take (i := 3) (oi := ⟨_, _, _, _, _, _⟩) (v := ?_) rfl (by kernel_rfl) (by kernel_rfl) (by kernel_rfl) (fun _ _ _ h => h) (Or.inl ⟨by rfl, ?_⟩) (by assumption) ?_
        rotate_left
        · intro w hSw; (try dsimp only at hSw); go_simp; (try with_reducible rfl)
        try simp only [Act.put, List.setIfInBounds_toArray, List.set_cons_zero, List.set_cons_succ]
        refine wpAnyH_take (i := 5) (oi := ⟨_, _, _, _, _, _⟩) (v := ?_) rfl (by kernel_rfl) (by kernel_rfl) (by kernel_rfl) (fun _ _ _ h => h) (Or.inl ⟨by rfl, ?_⟩) (by assumption) ?_
        rotate_left
        · intro w hSw; (try dsimp only at hSw); go_simp; (try with_reducible rfl)
        try simp only [Act.put, List.setIfInBounds_toArray, List.set_cons_zero, List.set_cons_succ]
        refine wpAnyH_take (i := 8) (oi := ⟨_, _, _, _, _, _⟩) (v := ?_) rfl (by kernel_rfl) (by kernel_rfl) (by kernel_rfl) (fun _ _ _ h => h) (Or.inl ⟨by rfl, ?_⟩) (by assumption) ?_
        rotate_left
        · intro w hSw; (try dsimp only at hSw); go_simp; (try with_reducible rfl)
        try simp only [Act.put, List.setIfInBounds_toArray, List.set_cons_zero, List.set_cons_succ]
        refine wpAnyH_take (i := 9) (oi := ⟨_, _, _, _, _, _⟩) (v := ?_) rfl (by kernel_rfl) (by kernel_rfl) (by kernel_rfl) (fun _ _ _ h => h) (Or.inl ⟨by rfl, ?_⟩) (by assumption) ?_
        rotate_left
        · intro w hSw; (try dsimp only at hSw); go_simp; (try with_reducible rfl)
        try simp only [Act.put, List.setIfInBounds_toArray, List.set_cons_zero, List.set_cons_succ]
        refine wpAnyH_take (i := 10) (oi := ⟨_, _, _, _, _, _⟩) (v := ?_) rfl (by kernel_rfl) (by kernel_rfl) (by kernel_rfl) (fun _ _ _ h => h) (Or.inl ⟨by rfl, ?_⟩) (by assumption) ?_
        rotate_left
        · intro w hSw; (try dsimp only at hSw); go_simp; (try with_reducible rfl)
        try simp only [Act.put, List.setIfInBounds_toArray, List.set_cons_zero, List.set_cons_succ]
        refine wpAnyH_ready (rs := [0, 6]) (by kernel_rfl) (by simp) ?_
        refine AllReadyH.cons rfl (fun K hK => ?_) (AllReadyH.cons rfl (fun K hK => ?_) (AllReadyH.nil))
        · skip
          go_simp
          have HA := Lib.hid (own_lit' (w := X.drew) (e := 37) (base := X.heap.size) (C := #[]) (l := ([] : List Runner)) (g := X.heap.size) Runner.cells_length rfl (by first | rfl | (simp; done) | (simp [World.size_alloc]; done)) (by first | exact Nat.le_refl _ | exact World.size_ext _ _ | (simp; done) | (simp; omega) | (simp [World.size_alloc]; done) | (simp [World.size_alloc]; omega)))
          (try dsimp only)
          refine hK.out _ _ ?_ (fun hHeld => ?_)
          · (try dsimp only); (refine ⟨?_, ?_, ?_, ?_, ?_, ?_⟩ <;> (with_reducible (repeat (first | assumption | refine cell_ext ?_ _ | refine cell_drew ?_ | refine cell_alloc ?_ _))))
          clear hK K
          try simp only [Act.put, List.setIfInBounds_toArray]
          refine wpAnyH_ready (rs := [4, 6]) (by kernel_rfl) (by simp) ?_
          refine AllReadyH.cons rfl (fun K hK => ?_) (AllReadyH.cons rfl (fun K hK => ?_) (AllReadyH.nil))
          · skip
            refine step_append_gain (W := X) (w := X.drew.alloc (.cells #[] 37)) (base := X.heap.size) (v := .slice (some ⟨X.heap.size, 0, none⟩) 0 0) (m := l.take k) (u := .slice none k c) rfl (.tmp 28) (.tmp 31) rfl Try.underlying25 info_Runner (by rfl) (by omega) Runner.cells_length Runner.cells_one (by omega) (by repeat (first | with_reducible (first | exact World.gained_refl _ | exact ⟨_, rfl⟩ | apply gain_ext | apply gain_alloc | apply gain_drewN | apply gain_drew) | (refine gain_setCell ?_ (by first | exact Nat.le_refl _ | exact World.size_ext _ _ | (simp; done) | (simp; omega)) _))) (Nat.le_refl _) (gain_size (by repeat (first | with_reducible (first | exact World.gained_refl _ | exact ⟨_, rfl⟩ | apply gain_ext | apply gain_alloc | apply gain_drewN | apply gain_drew) | (refine gain_setCell ?_ (by first | exact Nat.le_refl _ | exact World.size_ext _ _ | (simp; done) | (simp; omega)) _)))) (by first | rfl | (simp; done) | (simp [World.size_alloc]; done)) (by first | rfl | (simp; done) | (simp [World.size_alloc]; done) | (rw [show l.length - k = 0 by omega]; rfl)) (HA.out) (sl_take (by with_reducible (repeat (first | exact HLX.out | refine World.sl_ext Runner.cells_length ?_ _ | refine sl_alloc Runner.cells_length ?_ _ | refine sl_drew ?_))) (by omega)) (by simp; omega) ?_
            intro vA dA hoA hgA
            rw [List.nil_append] at hoA
            have HA1 := Lib.hid hoA
            clear hoA hgA HA
            (try dsimp only)
            refine hK.out _ _ ?_ (fun hHeld => ?_)
            · (try dsimp only); (refine ⟨?_, ?_, ?_, ?_, ?_, ?_⟩ <;> (with_reducible (repeat (first | assumption | refine cell_ext ?_ _ | refine cell_drew ?_ | refine cell_alloc ?_ _))))
            clear hK K
            try simp only [Act.put, List.setIfInBounds_toArray]
            refine wpAnyH_ready (rs := [6]) (by kernel_rfl) (by simp) ?_
            refine AllReadyH.cons rfl (fun K hK => ?_) (AllReadyH.nil)
            go_simp
            have HU := Lib.hid (own_lit' (w := (X.ext dA)) (e := 37) (base := X.heap.size) (C := #[.int .i64 e.id, .string e.name, .string e.club, .int .i64 e.born, .bool e.woman, .int .i64 e.card]) (l := [e]) (g := (X.ext dA).heap.size) Runner.cells_length rfl (by first | rfl | (simp; done) | (simp [World.size_alloc]; done)) (by first | exact Nat.le_refl _ | exact World.size_ext _ _ | (simp; done) | (simp; omega) | (simp [World.size_alloc]; done) | (simp [World.size_alloc]; omega)))
            (try dsimp only)
            refine hK.out _ _ ?_ (fun hHeld => ?_)
            · (try dsimp only); (refine ⟨?_, ?_, ?_, ?_, ?_, ?_⟩ <;> (with_reducible (repeat (first | assumption | refine cell_ext ?_ _ | refine cell_drew ?_ | refine cell_alloc ?_ _))))
            clear hK K
            try simp only [Act.put, List.setIfInBounds_toArray]
            refine wpAnyH_ready (rs := [7]) (by kernel_rfl) (by simp) ?_
            refine AllReadyH.cons rfl (fun K hK => ?_) (AllReadyH.nil)
            refine step_append_gain (W := X) (w := (X.ext dA).alloc (.cells #[.int .i64 e.id, .string e.name, .string e.club, .int .i64 e.born, .bool e.woman, .int .i64 e.card] 37)) (base := X.heap.size) (v := vA) (m := [e]) (u := .slice (some ⟨(X.ext dA).heap.size, 0, none⟩) 1 1) rfl (.tmp 32) (.tmp 34) rfl Try.underlying25 info_Runner (by rfl) (by omega) Runner.cells_length Runner.cells_one (by omega) (by repeat (first | with_reducible (first | exact World.gained_refl _ | exact ⟨_, rfl⟩ | apply gain_ext | apply gain_alloc | apply gain_drewN | apply gain_drew) | (refine gain_setCell ?_ (by first | exact Nat.le_refl _ | exact World.size_ext _ _ | (simp; done) | (simp; omega)) _))) (Nat.le_refl _) (gain_size (by repeat (first | with_reducible (first | exact World.gained_refl _ | exact ⟨_, rfl⟩ | apply gain_ext | apply gain_alloc | apply gain_drewN | apply gain_drew) | (refine gain_setCell ?_ (by first | exact Nat.le_refl _ | exact World.size_ext _ _ | (simp; done) | (simp; omega)) _)))) (by first | rfl | (simp; done) | (simp [World.size_alloc]; done)) (by first | rfl | (simp; done) | (simp [World.size_alloc]; done) | (rw [show l.length - k = 0 by omega]; rfl)) (own_up HA1.out (by repeat (first | with_reducible (first | exact World.gained_refl _ | exact ⟨_, rfl⟩ | apply gain_ext | apply gain_alloc | apply gain_drewN | apply gain_drew) | (refine gain_setCell ?_ (by first | exact Nat.le_refl _ | exact World.size_ext _ _ | (simp; done) | (simp; omega)) _)))) (sl_up Runner.cells_length (sl_of_own Runner.cells_length HU.out) (by repeat (first | with_reducible (first | exact World.gained_refl _ | exact ⟨_, rfl⟩ | apply gain_ext | apply gain_alloc | apply gain_drewN | apply gain_drew) | (refine gain_setCell ?_ (by first | exact Nat.le_refl _ | exact World.size_ext _ _ | (simp; done) | (simp; omega)) _)))) (by simp; omega) ?_
            intro vB dB hoB hgB
            have HA2 := Lib.hid hoB
            clear hoB hgB HA1 HU
            (try dsimp only)
            refine hK.out _ _ ?_ (fun hHeld => ?_)
            · (try dsimp only); (refine ⟨?_, ?_, ?_, ?_, ?_, ?_⟩ <;> (with_reducible (repeat (first | assumption | refine cell_ext ?_ _ | refine cell_drew ?_ | refine cell_alloc ?_ _))))
            clear hK K
            try simp only [Act.put, List.setIfInBounds_toArray]
            refine wpAnyH_ready (rs := [11]) (by kernel_rfl) (by simp) ?_
            refine AllReadyH.cons rfl (fun K hK => ?_) (AllReadyH.nil)
            refine step_append_gain (W := X) (w := X.ext dB) (base := X.heap.size) (v := vB) (m := l.drop k) (u := .slice none (l.length - k) (c - k)) rfl (.tmp 35) (.tmp 38) rfl Try.underlying25 info_Runner (by rfl) (by omega) Runner.cells_length Runner.cells_one (by omega) (by repeat (first | with_reducible (first | exact World.gained_refl _ | exact ⟨_, rfl⟩ | apply gain_ext | apply gain_alloc | apply gain_drewN | apply gain_drew) | (refine gain_setCell ?_ (by first | exact Nat.le_refl _ | exact World.size_ext _ _ | (simp; done) | (simp; omega)) _))) (Nat.le_refl _) (gain_size (by repeat (first | with_reducible (first | exact World.gained_refl _ | exact ⟨_, rfl⟩ | apply gain_ext | apply gain_alloc | apply gain_drewN | apply gain_drew) | (refine gain_setCell ?_ (by first | exact Nat.le_refl _ | exact World.size_ext _ _ | (simp; done) | (simp; omega)) _)))) (by first | rfl | (simp; done) | (simp [World.size_alloc]; done)) (by first | rfl | (simp; done) | (simp [World.size_alloc]; done) | (rw [show l.length - k = 0 by omega]; rfl)) (HA2.out) (sl_tailR _ _ _ _ _ _ hk9) (by simp; omega) ?_
            intro vC dC hoC hgC
            (try dsimp only)
            refine hK.out _ _ ?_ (fun hHeld => ?_)
            · (try dsimp only); (refine ⟨?_, ?_, ?_, ?_, ?_, ?_⟩ <;> (with_reducible (repeat (first | assumption | refine cell_ext ?_ _ | refine cell_drew ?_ | refine cell_alloc ?_ _))))
            clear hK K
            try simp only [Act.put, List.setIfInBounds_toArray]
            refine wpAnyH_take (i := 12) (oi := ⟨_, _, _, _, _, _⟩) (v := ?_) rfl (by kernel_rfl) (by kernel_rfl) (by kernel_rfl) (fun _ _ _ h => h) (Or.inl ⟨by rfl, ?_⟩) (by assumption) ?_
            rotate_left
            · intro w hSw; (try dsimp only at hSw); go_simp; (try with_reducible rfl)
            try simp only [Act.put, List.setIfInBounds_toArray, List.set_cons_zero, List.set_cons_succ]
            refine wpAnyH_done (by kernel_rfl) ?_ _
            have hLn : (l.take k ++ [e] ++ l.drop k).length = l.length + 1 := by simp; omega
            have HSM : Hid (∀ x ∈ l.take k ++ [e] ++ l.drop k, Runner.small x) := Lib.hid (fun x hx => by
              rcases List.mem_append.1 hx with hx | hx
              · rcases List.mem_append.1 hx with hx | hx
                · exact HQ.out x (List.mem_of_mem_take hx)
                · simp only [List.mem_singleton] at hx
                  subst hx
                  exact HR.out
              · exact HQ.out x (List.mem_of_mem_drop hx))
            have HO := Lib.hid hoC
            clear hoC hgC HA2
            generalize l.take k ++ [e] ++ l.drop k = M at HO HSM hLn
            go_wp2_with fail
            refine (l5Good_any _ M _ (by with_reducible (repeat (first | exact sl_of_own Runner.cells_length HO.out | refine World.sl_ext Runner.cells_length ?_ _ | refine sl_alloc Runner.cells_length ?_ _ | refine sl_drew ?_))) (by omega) HSM.out).mono ?_
            cases hC : runsB M with
            | true =>
              rintro x w1 ⟨rfl, d8, rfl⟩
              go_wp2_with fail
              go_ret2
              exact ⟨_, M, _, rfl, gain_trans HGW.out (gain_trans HGX.out (by repeat (first | with_reducible (first | exact World.gained_refl _ | exact ⟨_, rfl⟩ | apply gain_ext | apply gain_alloc | apply gain_drewN | apply gain_drew) | (refine gain_setCell ?_ (by first | exact Nat.le_refl _ | exact World.size_ext _ _ | (simp; done) | (simp; omega)) _)))), own_base (own_up HO.out (by repeat (first | with_reducible (first | exact World.gained_refl _ | exact ⟨_, rfl⟩ | apply gain_ext | apply gain_alloc | apply gain_drewN | apply gain_drew) | (refine gain_setCell ?_ (by first | exact Nat.le_refl _ | exact World.size_ext _ _ | (simp; done) | (simp; omega)) _)))) (by omega), by omega, HSM.out⟩
            | false =>
              rintro x w1 ⟨rfl, d8, rfl⟩
              go_wp2_with fail
              go_ret2
              exact ⟨_, [], _, rfl, gain_trans HGW.out (gain_trans HGX.out (by repeat (first | with_reducible (first | exact World.gained_refl _ | exact ⟨_, rfl⟩ | apply gain_ext | apply gain_alloc | apply gain_drewN | apply gain_drew) | (refine gain_setCell ?_ (by first | exact Nat.le_refl _ | exact World.size_ext _ _ | (simp; done) | (simp; omega)) _)))), own_lit' (l := ([] : List Runner)) Runner.cells_length rfl rfl (by have := World.size_ext X dC; have := World.size_ext (X.ext dC) d8; omega), by simp, by simp⟩
          · skip
            go_simp
            have HU := Lib.hid (own_lit' (w := (X.drew.alloc (.cells #[] 37))) (e := 37) (base := X.heap.size) (C := #[.int .i64 e.id, .string e.name, .string e.club, .int .i64 e.born, .bool e.woman, .int .i64 e.card]) (l := [e]) (g := X.heap.size + 1) Runner.cells_length rfl (by first | rfl | (simp; done) | (simp [World.size_alloc]; done)) (by first | exact Nat.le_refl _ | exact World.size_ext _ _ | (simp; done) | (simp; omega) | (simp [World.size_alloc]; done) | (simp [World.size_alloc]; omega)))
            (try dsimp only)
            refine hK.out _ _ ?_ (fun hHeld => ?_)
            · (try dsimp only); (refine ⟨?_, ?_, ?_, ?_, ?_, ?_⟩ <;> (with_reducible (repeat (first | assumption | refine cell_ext ?_ _ | refine cell_drew ?_ | refine cell_alloc ?_ _))))
            clear hK K
            try simp only [Act.put, List.setIfInBounds_toArray]
            refine wpAnyH_ready (rs := [4]) (by kernel_rfl) (by simp) ?_
            refine AllReadyH.cons rfl (fun K hK => ?_) (AllReadyH.nil)
            refine step_append_gain (W := X) (w := (X.drew.alloc (.cells #[] 37)).alloc (.cells #[.int .i64 e.id, .string e.name, .string e.club, .int .i64 e.born, .bool e.woman, .int .i64 e.card] 37)) (base := X.heap.size) (v := .slice (some ⟨X.heap.size, 0, none⟩) 0 0) (m := l.take k) (u := .slice none k c) rfl (.tmp 28) (.tmp 31) rfl Try.underlying25 info_Runner (by rfl) (by omega) Runner.cells_length Runner.cells_one (by omega) (by repeat (first | with_reducible (first | exact World.gained_refl _ | exact ⟨_, rfl⟩ | apply gain_ext | apply gain_alloc | apply gain_drewN | apply gain_drew) | (refine gain_setCell ?_ (by first | exact Nat.le_refl _ | exact World.size_ext _ _ | (simp; done) | (simp; omega)) _))) (Nat.le_refl _) (gain_size (by repeat (first | with_reducible (first | exact World.gained_refl _ | exact ⟨_, rfl⟩ | apply gain_ext | apply gain_alloc | apply gain_drewN | apply gain_drew) | (refine gain_setCell ?_ (by first | exact Nat.le_refl _ | exact World.size_ext _ _ | (simp; done) | (simp; omega)) _)))) (by first | rfl | (simp; done) | (simp [World.size_alloc]; done)) (by first | rfl | (simp; done) | (simp [World.size_alloc]; done) | (rw [show l.length - k = 0 by omega]; rfl)) (own_up HA.out (by repeat (first | with_reducible (first | exact World.gained_refl _ | exact ⟨_, rfl⟩ | apply gain_ext | apply gain_alloc | apply gain_drewN | apply gain_drew) | (refine gain_setCell ?_ (by first | exact Nat.le_refl _ | exact World.size_ext _ _ | (simp; done) | (simp; omega)) _)))) (sl_take (by with_reducible (repeat (first | exact HLX.out | refine World.sl_ext Runner.cells_length ?_ _ | refine sl_alloc Runner.cells_length ?_ _ | refine sl_drew ?_))) (by omega)) (by simp; omega) ?_
            intro vA dA hoA hgA
            rw [List.nil_append] at hoA
            replace HU := Lib.hid (own_mark (own_up HU.out (w' := _) (by repeat (first | with_reducible (first | exact World.gained_refl _ | exact ⟨_, rfl⟩ | apply gain_ext | apply gain_alloc | apply gain_drewN | apply gain_drew) | (refine gain_setCell ?_ (by first | exact Nat.le_refl _ | exact World.size_ext _ _ | (simp; done) | (simp; omega)) _)))) hgA (by first | (simp; done) | (simp [Value.ownBlock]; done) | (simp [Value.ownBlock, World.size_alloc]; done)))
            have HA1 := Lib.hid hoA
            clear hoA hgA HA
            (try dsimp only)
            refine hK.out _ _ ?_ (fun hHeld => ?_)
            · (try dsimp only); (refine ⟨?_, ?_, ?_, ?_, ?_, ?_⟩ <;> (with_reducible (repeat (first | assumption | refine cell_ext ?_ _ | refine cell_drew ?_ | refine cell_alloc ?_ _))))
            clear hK K
            try simp only [Act.put, List.setIfInBounds_toArray]
            refine wpAnyH_ready (rs := [7]) (by kernel_rfl) (by simp) ?_
            refine AllReadyH.cons rfl (fun K hK => ?_) (AllReadyH.nil)
            refine step_append_gain (W := X) (w := X.ext dA) (base := X.heap.size) (v := vA) (m := [e]) (u := .slice (some ⟨X.heap.size + 1, 0, none⟩) 1 1) rfl (.tmp 32) (.tmp 34) rfl Try.underlying25 info_Runner (by rfl) (by omega) Runner.cells_length Runner.cells_one (by omega) (by repeat (first | with_reducible (first | exact World.gained_refl _ | exact ⟨_, rfl⟩ | apply gain_ext | apply gain_alloc | apply gain_drewN | apply gain_drew) | (refine gain_setCell ?_ (by first | exact Nat.le_refl _ | exact World.size_ext _ _ | (simp; done) | (simp; omega)) _))) (Nat.le_refl _) (gain_size (by repeat (first | with_reducible (first | exact World.gained_refl _ | exact ⟨_, rfl⟩ | apply gain_ext | apply gain_alloc | apply gain_drewN | apply gain_drew) | (refine gain_setCell ?_ (by first | exact Nat.le_refl _ | exact World.size_ext _ _ | (simp; done) | (simp; omega)) _)))) (by first | rfl | (simp; done) | (simp [World.size_alloc]; done)) (by first | rfl | (simp; done) | (simp [World.size_alloc]; done) | (rw [show l.length - k = 0 by omega]; rfl)) (own_up HA1.out (by repeat (first | with_reducible (first | exact World.gained_refl _ | exact ⟨_, rfl⟩ | apply gain_ext | apply gain_alloc | apply gain_drewN | apply gain_drew) | (refine gain_setCell ?_ (by first | exact Nat.le_refl _ | exact World.size_ext _ _ | (simp; done) | (simp; omega)) _)))) (sl_up Runner.cells_length (sl_of_own Runner.cells_length HU.out) (by repeat (first | with_reducible (first | exact World.gained_refl _ | exact ⟨_, rfl⟩ | apply gain_ext | apply gain_alloc | apply gain_drewN | apply gain_drew) | (refine gain_setCell ?_ (by first | exact Nat.le_refl _ | exact World.size_ext _ _ | (simp; done) | (simp; omega)) _)))) (by simp; omega) ?_
            intro vB dB hoB hgB
            have HA2 := Lib.hid hoB
            clear hoB hgB HA1 HU
            (try dsimp only)
            refine hK.out _ _ ?_ (fun hHeld => ?_)
            · (try dsimp only); (refine ⟨?_, ?_, ?_, ?_, ?_, ?_⟩ <;> (with_reducible (repeat (first | assumption | refine cell_ext ?_ _ | refine cell_drew ?_ | refine cell_alloc ?_ _))))
            clear hK K
            try simp only [Act.put, List.setIfInBounds_toArray]
            refine wpAnyH_ready (rs := [11]) (by kernel_rfl) (by simp) ?_
            refine AllReadyH.cons rfl (fun K hK => ?_) (AllReadyH.nil)
            refine step_append_gain (W := X) (w := X.ext dB) (base := X.heap.size) (v := vB) (m := l.drop k) (u := .slice none (l.length - k) (c - k)) rfl (.tmp 35) (.tmp 38) rfl Try.underlying25 info_Runner (by rfl) (by omega) Runner.cells_length Runner.cells_one (by omega) (by repeat (first | with_reducible (first | exact World.gained_refl _ | exact ⟨_, rfl⟩ | apply gain_ext | apply gain_alloc | apply gain_drewN | apply gain_drew) | (refine gain_setCell ?_ (by first | exact Nat.le_refl _ | exact World.size_ext _ _ | (simp; done) | (simp; omega)) _))) (Nat.le_refl _) (gain_size (by repeat (first | with_reducible (first | exact World.gained_refl _ | exact ⟨_, rfl⟩ | apply gain_ext | apply gain_alloc | apply gain_drewN | apply gain_drew) | (refine gain_setCell ?_ (by first | exact Nat.le_refl _ | exact World.size_ext _ _ | (simp; done) | (simp; omega)) _)))) (by first | rfl | (simp; done) | (simp [World.size_alloc]; done)) (by first | rfl | (simp; done) | (simp [World.size_alloc]; done) | (rw [show l.length - k = 0 by omega]; rfl)) (HA2.out) (sl_tailR _ _ _ _ _ _ hk9) (by simp; omega) ?_
            intro vC dC hoC hgC
            (try dsimp only)
            refine hK.out _ _ ?_ (fun hHeld => ?_)
            · (try dsimp only); (refine ⟨?_, ?_, ?_, ?_, ?_, ?_⟩ <;> (with_reducible (repeat (first | assumption | refine cell_ext ?_ _ | refine cell_drew ?_ | refine cell_alloc ?_ _))))
            clear hK K
            try simp only [Act.put, List.setIfInBounds_toArray]
            refine wpAnyH_take (i := 12) (oi := ⟨_, _, _, _, _, _⟩) (v := ?_) rfl (by kernel_rfl) (by kernel_rfl) (by kernel_rfl) (fun _ _ _ h => h) (Or.inl ⟨by rfl, ?_⟩) (by assumption) ?_
            rotate_left
            · intro w hSw; (try dsimp only at hSw); go_simp; (try with_reducible rfl)
            try simp only [Act.put, List.setIfInBounds_toArray, List.set_cons_zero, List.set_cons_succ]
            refine wpAnyH_done (by kernel_rfl) ?_ _
            have hLn : (l.take k ++ [e] ++ l.drop k).length = l.length + 1 := by simp; omega
            have HSM : Hid (∀ x ∈ l.take k ++ [e] ++ l.drop k, Runner.small x) := Lib.hid (fun x hx => by
              rcases List.mem_append.1 hx with hx | hx
              · rcases List.mem_append.1 hx with hx | hx
                · exact HQ.out x (List.mem_of_mem_take hx)
                · simp only [List.mem_singleton] at hx
                  subst hx
                  exact HR.out
              · exact HQ.out x (List.mem_of_mem_drop hx))
            have HO := Lib.hid hoC
            clear hoC hgC HA2
            generalize l.take k ++ [e] ++ l.drop k = M at HO HSM hLn
            go_wp2_with fail
            refine (l5Good_any _ M _ (by with_reducible (repeat (first | exact sl_of_own Runner.cells_length HO.out | refine World.sl_ext Runner.cells_length ?_ _ | refine sl_alloc Runner.cells_length ?_ _ | refine sl_drew ?_))) (by omega) HSM.out).mono ?_
            cases hC : runsB M with
            | true =>
              rintro x w1 ⟨rfl, d8, rfl⟩
              go_wp2_with fail
              go_ret2
              exact ⟨_, M, _, rfl, gain_trans HGW.out (gain_trans HGX.out (by repeat (first | with_reducible (first | exact World.gained_refl _ | exact ⟨_, rfl⟩ | apply gain_ext | apply gain_alloc | apply gain_drewN | apply gain_drew) | (refine gain_setCell ?_ (by first | exact Nat.le_refl _ | exact World.size_ext _ _ | (simp; done) | (simp; omega)) _)))), own_base (own_up HO.out (by repeat (first | with_reducible (first | exact World.gained_refl _ | exact ⟨_, rfl⟩ | apply gain_ext | apply gain_alloc | apply gain_drewN | apply gain_drew) | (refine gain_setCell ?_ (by first | exact Nat.le_refl _ | exact World.size_ext _ _ | (simp; done) | (simp; omega)) _)))) (by omega), by omega, HSM.out⟩
            | false =>
              rintro x w1 ⟨rfl, d8, rfl⟩
              go_wp2_with fail
              go_ret2
              exact ⟨_, [], _, rfl, gain_trans HGW.out (gain_trans HGX.out (by repeat (first | with_reducible (first | exact World.gained_refl _ | exact ⟨_, rfl⟩ | apply gain_ext | apply gain_alloc | apply gain_drewN | apply gain_drew) | (refine gain_setCell ?_ (by first | exact Nat.le_refl _ | exact World.size_ext _ _ | (simp; done) | (simp; omega)) _)))), own_lit' (l := ([] : List Runner)) Runner.cells_length rfl rfl (by have := World.size_ext X dC; have := World.size_ext (X.ext dC) d8; omega), by simp, by simp⟩
        · skip
          go_simp
          have HU := Lib.hid (own_lit' (w := X.drew) (e := 37) (base := X.heap.size) (C := #[.int .i64 e.id, .string e.name, .string e.club, .int .i64 e.born, .bool e.woman, .int .i64 e.card]) (l := [e]) (g := X.heap.size) Runner.cells_length rfl (by first | rfl | (simp; done) | (simp [World.size_alloc]; done)) (by first | exact Nat.le_refl _ | exact World.size_ext _ _ | (simp; done) | (simp; omega) | (simp [World.size_alloc]; done) | (simp [World.size_alloc]; omega)))
          (try dsimp only)
          refine hK.out _ _ ?_ (fun hHeld => ?_)
          · (try dsimp only); (refine ⟨?_, ?_, ?_, ?_, ?_, ?_⟩ <;> (with_reducible (repeat (first | assumption | refine cell_ext ?_ _ | refine cell_drew ?_ | refine cell_alloc ?_ _))))
          clear hK K
          try simp only [Act.put, List.setIfInBounds_toArray]
          refine wpAnyH_ready (rs := [0]) (by kernel_rfl) (by simp) ?_
          refine AllReadyH.cons rfl (fun K hK => ?_) (AllReadyH.nil)
          go_simp
          have HA := Lib.hid (own_lit' (w := (X.drew.alloc (.cells #[.int .i64 e.id, .string e.name, .string e.club, .int .i64 e.born, .bool e.woman, .int .i64 e.card] 37))) (e := 37) (base := X.heap.size) (C := #[]) (l := ([] : List Runner)) (g := X.heap.size + 1) Runner.cells_length rfl (by first | rfl | (simp; done) | (simp [World.size_alloc]; done)) (by first | exact Nat.le_refl _ | exact World.size_ext _ _ | (simp; done) | (simp; omega) | (simp [World.size_alloc]; done) | (simp [World.size_alloc]; omega)))
          (try dsimp only)
          refine hK.out _ _ ?_ (fun hHeld => ?_)
          · (try dsimp only); (refine ⟨?_, ?_, ?_, ?_, ?_, ?_⟩ <;> (with_reducible (repeat (first | assumption | refine cell_ext ?_ _ | refine cell_drew ?_ | refine cell_alloc ?_ _))))
          clear hK K
          try simp only [Act.put, List.setIfInBounds_toArray]
          refine wpAnyH_ready (rs := [4]) (by kernel_rfl) (by simp) ?_
          refine AllReadyH.cons rfl (fun K hK => ?_) (AllReadyH.nil)
          refine step_append_gain (W := X) (w := (X.drew.alloc (.cells #[.int .i64 e.id, .string e.name, .string e.club, .int .i64 e.born, .bool e.woman, .int .i64 e.card] 37)).alloc (.cells #[] 37)) (base := X.heap.size) (v := .slice (some ⟨X.heap.size + 1, 0, none⟩) 0 0) (m := l.take k) (u := .slice none k c) rfl (.tmp 28) (.tmp 31) rfl Try.underlying25 info_Runner (by rfl) (by omega) Runner.cells_length Runner.cells_one (by omega) (by repeat (first | with_reducible (first | exact World.gained_refl _ | exact ⟨_, rfl⟩ | apply gain_ext | apply gain_alloc | apply gain_drewN | apply gain_drew) | (refine gain_setCell ?_ (by first | exact Nat.le_refl _ | exact World.size_ext _ _ | (simp; done) | (simp; omega)) _))) (Nat.le_refl _) (gain_size (by repeat (first | with_reducible (first | exact World.gained_refl _ | exact ⟨_, rfl⟩ | apply gain_ext | apply gain_alloc | apply gain_drewN | apply gain_drew) | (refine gain_setCell ?_ (by first | exact Nat.le_refl _ | exact World.size_ext _ _ | (simp; done) | (simp; omega)) _)))) (by first | rfl | (simp; done) | (simp [World.size_alloc]; done)) (by first | rfl | (simp; done) | (simp [World.size_alloc]; done) | (rw [show l.length - k = 0 by omega]; rfl)) (HA.out) (sl_take (by with_reducible (repeat (first | exact HLX.out | refine World.sl_ext Runner.cells_length ?_ _ | refine sl_alloc Runner.cells_length ?_ _ | refine sl_drew ?_))) (by omega)) (by simp; omega) ?_
          intro vA dA hoA hgA
          rw [List.nil_append] at hoA
          replace HU := Lib.hid (own_mark (own_up HU.out (w' := _) (by repeat (first | with_reducible (first | exact World.gained_refl _ | exact ⟨_, rfl⟩ | apply gain_ext | apply gain_alloc | apply gain_drewN | apply gain_drew) | (refine gain_setCell ?_ (by first | exact Nat.le_refl _ | exact World.size_ext _ _ | (simp; done) | (simp; omega)) _)))) hgA (by first | (simp; done) | (simp [Value.ownBlock]; done) | (simp [Value.ownBlock, World.size_alloc]; done)))
          have HA1 := Lib.hid hoA
          clear hoA hgA HA
          (try dsimp only)
          refine hK.out _ _ ?_ (fun hHeld => ?_)
          · (try dsimp only); (refine ⟨?_, ?_, ?_, ?_, ?_, ?_⟩ <;> (with_reducible (repeat (first | assumption | refine cell_ext ?_ _ | refine cell_drew ?_ | refine cell_alloc ?_ _))))
          clear hK K
          try simp only [Act.put, List.setIfInBounds_toArray]
          refine wpAnyH_ready (rs := [7]) (by kernel_rfl) (by simp) ?_
          refine AllReadyH.cons rfl (fun K hK => ?_) (AllReadyH.nil)
          refine step_append_gain (W := X) (w := X.ext dA) (base := X.heap.size) (v := vA) (m := [e]) (u := .slice (some ⟨X.heap.size, 0, none⟩) 1 1) rfl (.tmp 32) (.tmp 34) rfl Try.underlying25 info_Runner (by rfl) (by omega) Runner.cells_length Runner.cells_one (by omega) (by repeat (first | with_reducible (first | exact World.gained_refl _ | exact ⟨_, rfl⟩ | apply gain_ext | apply gain_alloc | apply gain_drewN | apply gain_drew) | (refine gain_setCell ?_ (by first | exact Nat.le_refl _ | exact World.size_ext _ _ | (simp; done) | (simp; omega)) _))) (Nat.le_refl _) (gain_size (by repeat (first | with_reducible (first | exact World.gained_refl _ | exact ⟨_, rfl⟩ | apply gain_ext | apply gain_alloc | apply gain_drewN | apply gain_drew) | (refine gain_setCell ?_ (by first | exact Nat.le_refl _ | exact World.size_ext _ _ | (simp; done) | (simp; omega)) _)))) (by first | rfl | (simp; done) | (simp [World.size_alloc]; done)) (by first | rfl | (simp; done) | (simp [World.size_alloc]; done) | (rw [show l.length - k = 0 by omega]; rfl)) (own_up HA1.out (by repeat (first | with_reducible (first | exact World.gained_refl _ | exact ⟨_, rfl⟩ | apply gain_ext | apply gain_alloc | apply gain_drewN | apply gain_drew) | (refine gain_setCell ?_ (by first | exact Nat.le_refl _ | exact World.size_ext _ _ | (simp; done) | (simp; omega)) _)))) (sl_up Runner.cells_length (sl_of_own Runner.cells_length HU.out) (by repeat (first | with_reducible (first | exact World.gained_refl _ | exact ⟨_, rfl⟩ | apply gain_ext | apply gain_alloc | apply gain_drewN | apply gain_drew) | (refine gain_setCell ?_ (by first | exact Nat.le_refl _ | exact World.size_ext _ _ | (simp; done) | (simp; omega)) _)))) (by simp; omega) ?_
          intro vB dB hoB hgB
          have HA2 := Lib.hid hoB
          clear hoB hgB HA1 HU
          (try dsimp only)
          refine hK.out _ _ ?_ (fun hHeld => ?_)
          · (try dsimp only); (refine ⟨?_, ?_, ?_, ?_, ?_, ?_⟩ <;> (with_reducible (repeat (first | assumption | refine cell_ext ?_ _ | refine cell_drew ?_ | refine cell_alloc ?_ _))))
          clear hK K
          try simp only [Act.put, List.setIfInBounds_toArray]
          refine wpAnyH_ready (rs := [11]) (by kernel_rfl) (by simp) ?_
          refine AllReadyH.cons rfl (fun K hK => ?_) (AllReadyH.nil)
          refine step_append_gain (W := X) (w := X.ext dB) (base := X.heap.size) (v := vB) (m := l.drop k) (u := .slice none (l.length - k) (c - k)) rfl (.tmp 35) (.tmp 38) rfl Try.underlying25 info_Runner (by rfl) (by omega) Runner.cells_length Runner.cells_one (by omega) (by repeat (first | with_reducible (first | exact World.gained_refl _ | exact ⟨_, rfl⟩ | apply gain_ext | apply gain_alloc | apply gain_drewN | apply gain_drew) | (refine gain_setCell ?_ (by first | exact Nat.le_refl _ | exact World.size_ext _ _ | (simp; done) | (simp; omega)) _))) (Nat.le_refl _) (gain_size (by repeat (first | with_reducible (first | exact World.gained_refl _ | exact ⟨_, rfl⟩ | apply gain_ext | apply gain_alloc | apply gain_drewN | apply gain_drew) | (refine gain_setCell ?_ (by first | exact Nat.le_refl _ | exact World.size_ext _ _ | (simp; done) | (simp; omega)) _)))) (by first | rfl | (simp; done) | (simp [World.size_alloc]; done)) (by first | rfl | (simp; done) | (simp [World.size_alloc]; done) | (rw [show l.length - k = 0 by omega]; rfl)) (HA2.out) (sl_tailR _ _ _ _ _ _ hk9) (by simp; omega) ?_
          intro vC dC hoC hgC
          (try dsimp only)
          refine hK.out _ _ ?_ (fun hHeld => ?_)
          · (try dsimp only); (refine ⟨?_, ?_, ?_, ?_, ?_, ?_⟩ <;> (with_reducible (repeat (first | assumption | refine cell_ext ?_ _ | refine cell_drew ?_ | refine cell_alloc ?_ _))))
          clear hK K
          try simp only [Act.put, List.setIfInBounds_toArray]
          refine wpAnyH_take (i := 12) (oi := ⟨_, _, _, _, _, _⟩) (v := ?_) rfl (by kernel_rfl) (by kernel_rfl) (by kernel_rfl) (fun _ _ _ h => h) (Or.inl ⟨by rfl, ?_⟩) (by assumption) ?_
          rotate_left
          · intro w hSw; (try dsimp only at hSw); go_simp; (try with_reducible rfl)
          try simp only [Act.put, List.setIfInBounds_toArray, List.set_cons_zero, List.set_cons_succ]
          refine wpAnyH_done (by kernel_rfl) ?_ _
          have hLn : (l.take k ++ [e] ++ l.drop k).length = l.length + 1 := by simp; omega
          have HSM : Hid (∀ x ∈ l.take k ++ [e] ++ l.drop k, Runner.small x) := Lib.hid (fun x hx => by
            rcases List.mem_append.1 hx with hx | hx
            · rcases List.mem_append.1 hx with hx | hx
              · exact HQ.out x (List.mem_of_mem_take hx)
              · simp only [List.mem_singleton] at hx
                subst hx
                exact HR.out
            · exact HQ.out x (List.mem_of_mem_drop hx))
          have HO := Lib.hid hoC
          clear hoC hgC HA2
          generalize l.take k ++ [e] ++ l.drop k = M at HO HSM hLn
          go_wp2_with fail
          refine (l5Good_any _ M _ (by with_reducible (repeat (first | exact sl_of_own Runner.cells_length HO.out | refine World.sl_ext Runner.cells_length ?_ _ | refine sl_alloc Runner.cells_length ?_ _ | refine sl_drew ?_))) (by omega) HSM.out).mono ?_
          cases hC : runsB M with
          | true =>
            rintro x w1 ⟨rfl, d8, rfl⟩
            go_wp2_with fail
            go_ret2
            exact ⟨_, M, _, rfl, gain_trans HGW.out (gain_trans HGX.out (by repeat (first | with_reducible (first | exact World.gained_refl _ | exact ⟨_, rfl⟩ | apply gain_ext | apply gain_alloc | apply gain_drewN | apply gain_drew) | (refine gain_setCell ?_ (by first | exact Nat.le_refl _ | exact World.size_ext _ _ | (simp; done) | (simp; omega)) _)))), own_base (own_up HO.out (by repeat (first | with_reducible (first | exact World.gained_refl _ | exact ⟨_, rfl⟩ | apply gain_ext | apply gain_alloc | apply gain_drewN | apply gain_drew) | (refine gain_setCell ?_ (by first | exact Nat.le_refl _ | exact World.size_ext _ _ | (simp; done) | (simp; omega)) _)))) (by omega), by omega, HSM.out⟩
          | false =>
            rintro x w1 ⟨rfl, d8, rfl⟩
            go_wp2_with fail
            go_ret2
            exact ⟨_, [], _, rfl, gain_trans HGW.out (gain_trans HGX.out (by repeat (first | with_reducible (first | exact World.gained_refl _ | exact ⟨_, rfl⟩ | apply gain_ext | apply gain_alloc | apply gain_drewN | apply gain_drew) | (refine gain_setCell ?_ (by first | exact Nat.le_refl _ | exact World.size_ext _ _ | (simp; done) | (simp; omega)) _)))), own_lit' (l := ([] : List Runner)) Runner.cells_length rfl rfl (by have := World.size_ext X dC; have := World.size_ext (X.ext dC) d8; omega), by simp, by simp⟩
      | some a =>
        obtain ⟨b, o, sp⟩ := a
        go_wp2_with fail
        refine wp_region_gain (by kernel_rfl) (by kernel_rfl) ?_
        repeat (first | go_big_quiet_skip | (go_big_quiet_want; go_big_quiet_op; first | go_big_quiet_on))
        refine wpQuiet_nil ?_
        rintro _ ⟨d', rfl⟩
        go_upto_region 6 with fail
        have HGX : Hid (∃ dd, (W1.ext d).ext d' = W1.ext dd) := Lib.hid (by repeat (first | with_reducible (first | exact World.gained_refl _ | exact ⟨_, rfl⟩ | apply gain_ext | apply gain_alloc | apply gain_drewN | apply gain_drew) | (refine gain_setCell ?_ (by first | exact Nat.le_refl _ | exact World.size_ext _ _ | (simp; done) | (simp; omega)) _)))
        generalize (W1.ext d).ext d' = X at HGX ⊢
        have by0 := cell_upR bx0 HGX.out
        have by1 := cell_upR bx1 HGX.out
        have by2 := cell_upR bx2 HGX.out
        have by3 := cell_upR bx3 HGX.out
        have by4 := cell_upR bx4 HGX.out
        have by5 := cell_upR bx5 HGX.out
        have obX := World.oldB_of_cell by0
        have HLX := Lib.hid (sl_up Runner.cells_length HL1.out HGX.out)
        have hXs : W1.heap.size ≤ X.heap.size := gain_size HGX.out
        obtain ⟨A, hA⟩ : ∃ A : Addr, (if c = k then some (⟨b, o, sp⟩ : Addr) else some ((⟨b, o, sp⟩ : Addr).add (k * 6))) = some A := by split <;> exact ⟨_, rfl⟩
        refine wp_region_held_drew (S := (fun w' => w'.cell? ⟨w.heap.size, 0, none⟩ = some (.int .i64 e.id) ∧ w'.cell? ⟨w.heap.size, 1, none⟩ = some (.string e.name) ∧ w'.cell? ⟨w.heap.size, 2, none⟩ = some (.string e.club) ∧ w'.cell? ⟨w.heap.size, 3, none⟩ = some (.int .i64 e.born) ∧ w'.cell? ⟨w.heap.size, 4, none⟩ = some (.bool e.woman) ∧ w'.cell? ⟨w.heap.size, 5, none⟩ = some (.int .i64 e.card))) (by kernel_rfl) (by (try dsimp only); (refine ⟨?_, ?_, ?_, ?_, ?_, ?_⟩ <;> (with_reducible (repeat (first | assumption | refine cell_ext ?_ _ | refine cell_drew ?_ | refine cell_alloc ?_ _))))) (fun hHeld => ?_)
        refine wpAnyH_take (i := 1) (oi := ⟨_, _, _, _, _, _⟩) (v := ?_) rfl (by kernel_rfl) (by kernel_rfl) (by kernel_rfl) (fun _ _ _ h => h) (Or.inl ⟨by rfl, ?_⟩) (by assumption) ?_
        rotate_left
        · intro w hSw; (try dsimp only at hSw); go_simp; (try with_reducible rfl)
        try simp only [Act.put, List.setIfInBounds_toArray, List.set_cons_zero, List.set_cons_succ]
        refine wpAnyH_take (i := 2) (oi := ⟨_, _, _, _, _, _⟩) (v := ?_) rfl (by kernel_rfl) (by kernel_rfl) (by kernel_rfl) (fun _ _ _ h => h) (Or.inl ⟨by rfl, ?_⟩) (by assumption) ?_
        rotate_left
        · intro w hSw; (try dsimp only at hSw); go_simp; (try with_reducible rfl)
        try simp only [Act.put, List.setIfInBounds_toArray, List.set_cons_zero, List.set_cons_succ]
        refine wpAnyH_take (i := 3) (oi := ⟨_, _, _, _, _, _⟩) (v := ?_) rfl (by kernel_rfl) (by kernel_rfl) (by kernel_rfl) (fun _ _ _ h => h) (Or.inl ⟨by rfl, ?_⟩) (by assumption) ?_
        rotate_left
        · intro w hSw; (try dsimp only at hSw); go_simp; (try with_reducible rfl)
        try simp only [Act.put, List.setIfInBounds_toArray, List.set_cons_zero, List.set_cons_succ]
        refine wpAnyH_take (i := 5) (oi := ⟨_, _, _, _, _, _⟩) (v := ?_) rfl (by kernel_rfl) (by kernel_rfl) (by kernel_rfl) (fun _ _ _ h => h) (Or.inl ⟨by rfl, ?_⟩) (by assumption) ?_
        rotate_left
        · intro w hSw; (try dsimp only at hSw); go_simp; (try with_reducible rfl)
        try simp only [Act.put, List.setIfInBounds_toArray, List.set_cons_zero, List.set_cons_succ]
        refine wpAnyH_take (i := 8) (oi := ⟨_, _, _, _, _, _⟩) (v := ?_) rfl (by kernel_rfl) (by kernel_rfl) (by kernel_rfl) (fun _ _ _ h => h) (Or.inl ⟨by rfl, ?_⟩) (by assumption) ?_
        rotate_left
        · intro w hSw; (try dsimp only at hSw); go_simp; (try with_reducible rfl)
        try simp only [Act.put, List.setIfInBounds_toArray, List.set_cons_zero, List.set_cons_succ]
        refine wpAnyH_take (i := 9) (oi := ⟨_, _, _, _, _, _⟩) (v := ?_) rfl (by kernel_rfl) (by kernel_rfl) (by kernel_rfl) (fun _ _ _ h => h) (Or.inl ⟨by rfl, ?_⟩) (by assumption) ?_
        rotate_left
        · intro w hSw; (try dsimp only at hSw); go_simp; (try with_reducible rfl)
        try simp only [Act.put, List.setIfInBounds_toArray, List.set_cons_zero, List.set_cons_succ]
        refine wpAnyH_take (i := 10) (oi := ⟨_, _, _, _, _, _⟩) (v := ?_) rfl (by kernel_rfl) (by kernel_rfl) (by kernel_rfl) (fun _ _ _ h => h) (Or.inl ⟨by rfl, ?_⟩) (by assumption) ?_
        rotate_left
        · intro w hSw; (try dsimp only at hSw); go_simp; (try with_reducible rfl)
        try simp only [Act.put, List.setIfInBounds_toArray, List.set_cons_zero, List.set_cons_succ]
        refine wpAnyH_ready (rs := [0, 6]) (by kernel_rfl) (by simp) ?_
        refine AllReadyH.cons rfl (fun K hK => ?_) (AllReadyH.cons rfl (fun K hK => ?_) (AllReadyH.nil))
        · skip
          go_simp
          have HA := Lib.hid (own_lit' (w := X.drew) (e := 37) (base := X.heap.size) (C := #[]) (l := ([] : List Runner)) (g := X.heap.size) Runner.cells_length rfl (by first | rfl | (simp; done) | (simp [World.size_alloc]; done)) (by first | exact Nat.le_refl _ | exact World.size_ext _ _ | (simp; done) | (simp; omega) | (simp [World.size_alloc]; done) | (simp [World.size_alloc]; omega)))
          (try dsimp only)
          refine hK.out _ _ ?_ (fun hHeld => ?_)
          · (try dsimp only); (refine ⟨?_, ?_, ?_, ?_, ?_, ?_⟩ <;> (with_reducible (repeat (first | assumption | refine cell_ext ?_ _ | refine cell_drew ?_ | refine cell_alloc ?_ _))))
          clear hK K
          try simp only [Act.put, List.setIfInBounds_toArray]
          refine wpAnyH_ready (rs := [4, 6]) (by kernel_rfl) (by simp) ?_
          refine AllReadyH.cons rfl (fun K hK => ?_) (AllReadyH.cons rfl (fun K hK => ?_) (AllReadyH.nil))
          · skip
            refine step_append_gain (W := X) (w := X.drew.alloc (.cells #[] 37)) (base := X.heap.size) (v := .slice (some ⟨X.heap.size, 0, none⟩) 0 0) (m := l.take k) (u := .slice (some ⟨b, o, sp⟩) k c) rfl (.tmp 28) (.tmp 31) rfl Try.underlying25 info_Runner (by rfl) (by omega) Runner.cells_length Runner.cells_one (by omega) (by repeat (first | with_reducible (first | exact World.gained_refl _ | exact ⟨_, rfl⟩ | apply gain_ext | apply gain_alloc | apply gain_drewN | apply gain_drew) | (refine gain_setCell ?_ (by first | exact Nat.le_refl _ | exact World.size_ext _ _ | (simp; done) | (simp; omega)) _))) (Nat.le_refl _) (gain_size (by repeat (first | with_reducible (first | exact World.gained_refl _ | exact ⟨_, rfl⟩ | apply gain_ext | apply gain_alloc | apply gain_drewN | apply gain_drew) | (refine gain_setCell ?_ (by first | exact Nat.le_refl _ | exact World.size_ext _ _ | (simp; done) | (simp; omega)) _)))) (by first | rfl | (simp; done) | (simp [World.size_alloc]; done)) (by first | rfl | (simp; done) | (simp [World.size_alloc]; done) | (rw [show l.length - k = 0 by omega]; rfl)) (HA.out) (sl_take (by with_reducible (repeat (first | exact HLX.out | refine World.sl_ext Runner.cells_length ?_ _ | refine sl_alloc Runner.cells_length ?_ _ | refine sl_drew ?_))) (by omega)) (by simp; omega) ?_
            intro vA dA hoA hgA
            rw [List.nil_append] at hoA
            have HA1 := Lib.hid hoA
            clear hoA hgA HA
            (try dsimp only)
            refine hK.out _ _ ?_ (fun hHeld => ?_)
            · (try dsimp only); (refine ⟨?_, ?_, ?_, ?_, ?_, ?_⟩ <;> (with_reducible (repeat (first | assumption | refine cell_ext ?_ _ | refine cell_drew ?_ | refine cell_alloc ?_ _))))
            clear hK K
            try simp only [Act.put, List.setIfInBounds_toArray]
            refine wpAnyH_ready (rs := [6]) (by kernel_rfl) (by simp) ?_
            refine AllReadyH.cons rfl (fun K hK => ?_) (AllReadyH.nil)
            go_simp
            have HU := Lib.hid (own_lit' (w := (X.ext dA)) (e := 37) (base := X.heap.size) (C := #[.int .i64 e.id, .string e.name, .string e.club, .int .i64 e.born, .bool e.woman, .int .i64 e.card]) (l := [e]) (g := (X.ext dA).heap.size) Runner.cells_length rfl (by first | rfl | (simp; done) | (simp [World.size_alloc]; done)) (by first | exact Nat.le_refl _ | exact World.size_ext _ _ | (simp; done) | (simp; omega) | (simp [World.size_alloc]; done) | (simp [World.size_alloc]; omega)))
            (try dsimp only)
            refine hK.out _ _ ?_ (fun hHeld => ?_)
            · (try dsimp only); (refine ⟨?_, ?_, ?_, ?_, ?_, ?_⟩ <;> (with_reducible (repeat (first | assumption | refine cell_ext ?_ _ | refine cell_drew ?_ | refine cell_alloc ?_ _))))
            clear hK K
            try simp only [Act.put, List.setIfInBounds_toArray]
            refine wpAnyH_ready (rs := [7]) (by kernel_rfl) (by simp) ?_
            refine AllReadyH.cons rfl (fun K hK => ?_) (AllReadyH.nil)
            refine step_append_gain (W := X) (w := (X.ext dA).alloc (.cells #[.int .i64 e.id, .string e.name, .string e.club, .int .i64 e.born, .bool e.woman, .int .i64 e.card] 37)) (base := X.heap.size) (v := vA) (m := [e]) (u := .slice (some ⟨(X.ext dA).heap.size, 0, none⟩) 1 1) rfl (.tmp 32) (.tmp 34) rfl Try.underlying25 info_Runner (by rfl) (by omega) Runner.cells_length Runner.cells_one (by omega) (by repeat (first | with_reducible (first | exact World.gained_refl _ | exact ⟨_, rfl⟩ | apply gain_ext | apply gain_alloc | apply gain_drewN | apply gain_drew) | (refine gain_setCell ?_ (by first | exact Nat.le_refl _ | exact World.size_ext _ _ | (simp; done) | (simp; omega)) _))) (Nat.le_refl _) (gain_size (by repeat (first | with_reducible (first | exact World.gained_refl _ | exact ⟨_, rfl⟩ | apply gain_ext | apply gain_alloc | apply gain_drewN | apply gain_drew) | (refine gain_setCell ?_ (by first | exact Nat.le_refl _ | exact World.size_ext _ _ | (simp; done) | (simp; omega)) _)))) (by first | rfl | (simp; done) | (simp [World.size_alloc]; done)) (by first | rfl | (simp; done) | (simp [World.size_alloc]; done) | (rw [show l.length - k = 0 by omega]; rfl)) (own_up HA1.out (by repeat (first | with_reducible (first | exact World.gained_refl _ | exact ⟨_, rfl⟩ | apply gain_ext | apply gain_alloc | apply gain_drewN | apply gain_drew) | (refine gain_setCell ?_ (by first | exact Nat.le_refl _ | exact World.size_ext _ _ | (simp; done) | (simp; omega)) _)))) (sl_up Runner.cells_length (sl_of_own Runner.cells_length HU.out) (by repeat (first | with_reducible (first | exact World.gained_refl _ | exact ⟨_, rfl⟩ | apply gain_ext | apply gain_alloc | apply gain_drewN | apply gain_drew) | (refine gain_setCell ?_ (by first | exact Nat.le_refl _ | exact World.size_ext _ _ | (simp; done) | (simp; omega)) _)))) (by simp; omega) ?_
            intro vB dB hoB hgB
            have HA2 := Lib.hid hoB
            clear hoB hgB HA1 HU
            (try dsimp only)
            refine hK.out _ _ ?_ (fun hHeld => ?_)
            · (try dsimp only); (refine ⟨?_, ?_, ?_, ?_, ?_, ?_⟩ <;> (with_reducible (repeat (first | assumption | refine cell_ext ?_ _ | refine cell_drew ?_ | refine cell_alloc ?_ _))))
            clear hK K
            try simp only [Act.put, List.setIfInBounds_toArray]
            refine wpAnyH_ready (rs := [11]) (by kernel_rfl) (by simp) ?_
            refine AllReadyH.cons rfl (fun K hK => ?_) (AllReadyH.nil)
            refine step_append_gain (W := X) (w := X.ext dB) (base := X.heap.size) (v := vB) (m := l.drop k) (u := .slice (some A) (l.length - k) (c - k)) rfl (.tmp 35) (.tmp 38) rfl Try.underlying25 info_Runner (by rfl) (by omega) Runner.cells_length Runner.cells_one (by omega) (by repeat (first | with_reducible (first | exact World.gained_refl _ | exact ⟨_, rfl⟩ | apply gain_ext | apply gain_alloc | apply gain_drewN | apply gain_drew) | (refine gain_setCell ?_ (by first | exact Nat.le_refl _ | exact World.size_ext _ _ | (simp; done) | (simp; omega)) _))) (Nat.le_refl _) (gain_size (by repeat (first | with_reducible (first | exact World.gained_refl _ | exact ⟨_, rfl⟩ | apply gain_ext | apply gain_alloc | apply gain_drewN | apply gain_drew) | (refine gain_setCell ?_ (by first | exact Nat.le_refl _ | exact World.size_ext _ _ | (simp; done) | (simp; omega)) _)))) (by first | rfl | (simp; done) | (simp [World.size_alloc]; done)) (by first | rfl | (simp; done) | (simp [World.size_alloc]; done) | (rw [show l.length - k = 0 by omega]; rfl)) (HA2.out) (sl_tailR _ _ _ _ _ _ hk9) (by simp; omega) ?_
            intro vC dC hoC hgC
            (try dsimp only)
            refine hK.out _ _ ?_ (fun hHeld => ?_)
            · (try dsimp only); (refine ⟨?_, ?_, ?_, ?_, ?_, ?_⟩ <;> (with_reducible (repeat (first | assumption | refine cell_ext ?_ _ | refine cell_drew ?_ | refine cell_alloc ?_ _))))
            clear hK K
            try simp only [Act.put, List.setIfInBounds_toArray]
            refine wpAnyH_take (i := 12) (oi := ⟨_, _, _, _, _, _⟩) (v := ?_) rfl (by kernel_rfl) (by kernel_rfl) (by kernel_rfl) (fun _ _ _ h => h) (Or.inl ⟨by rfl, ?_⟩) (by assumption) ?_
            rotate_left
            · intro w hSw; (try dsimp only at hSw); go_simp; (try with_reducible rfl)
            try simp only [Act.put, List.setIfInBounds_toArray, List.set_cons_zero, List.set_cons_succ]
            refine wpAnyH_done (by kernel_rfl) ?_ _
            have hLn : (l.take k ++ [e] ++ l.drop k).length = l.length + 1 := by simp; omega
            have HSM : Hid (∀ x ∈ l.take k ++ [e] ++ l.drop k, Runner.small x) := Lib.hid (fun x hx => by
              rcases List.mem_append.1 hx with hx | hx
              · rcases List.mem_append.1 hx with hx | hx
                · exact HQ.out x (List.mem_of_mem_take hx)
                · simp only [List.mem_singleton] at hx
                  subst hx
                  exact HR.out
              · exact HQ.out x (List.mem_of_mem_drop hx))
            have HO := Lib.hid hoC
            clear hoC hgC HA2
            generalize l.take k ++ [e] ++ l.drop k = M at HO HSM hLn
            go_wp2_with fail
            refine (l5Good_any _ M _ (by with_reducible (repeat (first | exact sl_of_own Runner.cells_length HO.out | refine World.sl_ext Runner.cells_length ?_ _ | refine sl_alloc Runner.cells_length ?_ _ | refine sl_drew ?_))) (by omega) HSM.out).mono ?_
            cases hC : runsB M with
            | true =>
              rintro x w1 ⟨rfl, d8, rfl⟩
              go_wp2_with fail
              go_ret2
              exact ⟨_, M, _, rfl, gain_trans HGW.out (gain_trans HGX.out (by repeat (first | with_reducible (first | exact World.gained_refl _ | exact ⟨_, rfl⟩ | apply gain_ext | apply gain_alloc | apply gain_drewN | apply gain_drew) | (refine gain_setCell ?_ (by first | exact Nat.le_refl _ | exact World.size_ext _ _ | (simp; done) | (simp; omega)) _)))), own_base (own_up HO.out (by repeat (first | with_reducible (first | exact World.gained_refl _ | exact ⟨_, rfl⟩ | apply gain_ext | apply gain_alloc | apply gain_drewN | apply gain_drew) | (refine gain_setCell ?_ (by first | exact Nat.le_refl _ | exact World.size_ext _ _ | (simp; done) | (simp; omega)) _)))) (by omega), by omega, HSM.out⟩
            | false =>
              rintro x w1 ⟨rfl, d8, rfl⟩
              go_wp2_with fail
              go_ret2
              exact ⟨_, [], _, rfl, gain_trans HGW.out (gain_trans HGX.out (by repeat (first | with_reducible (first | exact World.gained_refl _ | exact ⟨_, rfl⟩ | apply gain_ext | apply gain_alloc | apply gain_drewN | apply gain_drew) | (refine gain_setCell ?_ (by first | exact Nat.le_refl _ | exact World.size_ext _ _ | (simp; done) | (simp; omega)) _)))), own_lit' (l := ([] : List Runner)) Runner.cells_length rfl rfl (by have := World.size_ext X dC; have := World.size_ext (X.ext dC) d8; omega), by simp, by simp⟩
          · skip
            go_simp
            have HU := Lib.hid (own_lit' (w := (X.drew.alloc (.cells #[] 37))) (e := 37) (base := X.heap.size) (C := #[.int .i64 e.id, .string e.name, .string e.club, .int .i64 e.born, .bool e.woman, .int .i64 e.card]) (l := [e]) (g := X.heap.size + 1) Runner.cells_length rfl (by first | rfl | (simp; done) | (simp [World.size_alloc]; done)) (by first | exact Nat.le_refl _ | exact World.size_ext _ _ | (simp; done) | (simp; omega) | (simp [World.size_alloc]; done) | (simp [World.size_alloc]; omega)))
            (try dsimp only)
            refine hK.out _ _ ?_ (fun hHeld => ?_)
            · (try dsimp only); (refine ⟨?_, ?_, ?_, ?_, ?_, ?_⟩ <;> (with_reducible (repeat (first | assumption | refine cell_ext ?_ _ | refine cell_drew ?_ | refine cell_alloc ?_ _))))
            clear hK K
            try simp only [Act.put, List.setIfInBounds_toArray]
            refine wpAnyH_ready (rs := [4]) (by kernel_rfl) (by simp) ?_
            refine AllReadyH.cons rfl (fun K hK => ?_) (AllReadyH.nil)
            refine step_append_gain (W := X) (w := (X.drew.alloc (.cells #[] 37)).alloc (.cells #[.int .i64 e.id, .string e.name, .string e.club, .int .i64 e.born, .bool e.woman, .int .i64 e.card] 37)) (base := X.heap.size) (v := .slice (some ⟨X.heap.size, 0, none⟩) 0 0) (m := l.take k) (u := .slice (some ⟨b, o, sp⟩) k c) rfl (.tmp 28) (.tmp 31) rfl Try.underlying25 info_Runner (by rfl) (by omega) Runner.cells_length Runner.cells_one (by omega) (by repeat (first | with_reducible (first | exact World.gained_refl _ | exact ⟨_, rfl⟩ | apply gain_ext | apply gain_alloc | apply gain_drewN | apply gain_drew) | (refine gain_setCell ?_ (by first | exact Nat.le_refl _ | exact World.size_ext _ _ | (simp; done) | (simp; omega)) _))) (Nat.le_refl _) (gain_size (by repeat (first | with_reducible (first | exact World.gained_refl _ | exact ⟨_, rfl⟩ | apply gain_ext | apply gain_alloc | apply gain_drewN | apply gain_drew) | (refine gain_setCell ?_ (by first | exact Nat.le_refl _ | exact World.size_ext _ _ | (simp; done) | (simp; omega)) _)))) (by first | rfl | (simp; done) | (simp [World.size_alloc]; done)) (by first | rfl | (simp; done) | (simp [World.size_alloc]; done) | (rw [show l.length - k = 0 by omega]; rfl)) (own_up HA.out (by repeat (first | with_reducible (first | exact World.gained_refl _ | exact ⟨_, rfl⟩ | apply gain_ext | apply gain_alloc | apply gain_drewN | apply gain_drew) | (refine gain_setCell ?_ (by first | exact Nat.le_refl _ | exact World.size_ext _ _ | (simp; done) | (simp; omega)) _)))) (sl_take (by with_reducible (repeat (first | exact HLX.out | refine World.sl_ext Runner.cells_length ?_ _ | refine sl_alloc Runner.cells_length ?_ _ | refine sl_drew ?_))) (by omega)) (by simp; omega) ?_
            intro vA dA hoA hgA
            rw [List.nil_append] at hoA
            replace HU := Lib.hid (own_mark (own_up HU.out (w' := _) (by repeat (first | with_reducible (first | exact World.gained_refl _ | exact ⟨_, rfl⟩ | apply gain_ext | apply gain_alloc | apply gain_drewN | apply gain_drew) | (refine gain_setCell ?_ (by first | exact Nat.le_refl _ | exact World.size_ext _ _ | (simp; done) | (simp; omega)) _)))) hgA (by first | (simp; done) | (simp [Value.ownBlock]; done) | (simp [Value.ownBlock, World.size_alloc]; done)))
            have HA1 := Lib.hid hoA
            clear hoA hgA HA
            (try dsimp only)
            refine hK.out _ _ ?_ (fun hHeld => ?_)
            · (try dsimp only); (refine ⟨?_, ?_, ?_, ?_, ?_, ?_⟩ <;> (with_reducible (repeat (first | assumption | refine cell_ext ?_ _ | refine cell_drew ?_ | refine cell_alloc ?_ _))))
            clear hK K
            try simp only [Act.put, List.setIfInBounds_toArray]
            refine wpAnyH_ready (rs := [7]) (by kernel_rfl) (by simp) ?_
            refine AllReadyH.cons rfl (fun K hK => ?_) (AllReadyH.nil)
            refine step_append_gain (W := X) (w := X.ext dA) (base := X.heap.size) (v := vA) (m := [e]) (u := .slice (some ⟨X.heap.size + 1, 0, none⟩) 1 1) rfl (.tmp 32) (.tmp 34) rfl Try.underlying25 info_Runner (by rfl) (by omega) Runner.cells_length Runner.cells_one (by omega) (by repeat (first | with_reducible (first | exact World.gained_refl _ | exact ⟨_, rfl⟩ | apply gain_ext | apply gain_alloc | apply gain_drewN | apply gain_drew) | (refine gain_setCell ?_ (by first | exact Nat.le_refl _ | exact World.size_ext _ _ | (simp; done) | (simp; omega)) _))) (Nat.le_refl _) (gain_size (by repeat (first | with_reducible (first | exact World.gained_refl _ | exact ⟨_, rfl⟩ | apply gain_ext | apply gain_alloc | apply gain_drewN | apply gain_drew) | (refine gain_setCell ?_ (by first | exact Nat.le_refl _ | exact World.size_ext _ _ | (simp; done) | (simp; omega)) _)))) (by first | rfl | (simp; done) | (simp [World.size_alloc]; done)) (by first | rfl | (simp; done) | (simp [World.size_alloc]; done) | (rw [show l.length - k = 0 by omega]; rfl)) (own_up HA1.out (by repeat (first | with_reducible (first | exact World.gained_refl _ | exact ⟨_, rfl⟩ | apply gain_ext | apply gain_alloc | apply gain_drewN | apply gain_drew) | (refine gain_setCell ?_ (by first | exact Nat.le_refl _ | exact World.size_ext _ _ | (simp; done) | (simp; omega)) _)))) (sl_up Runner.cells_length (sl_of_own Runner.cells_length HU.out) (by repeat (first | with_reducible (first | exact World.gained_refl _ | exact ⟨_, rfl⟩ | apply gain_ext | apply gain_alloc | apply gain_drewN | apply gain_drew) | (refine gain_setCell ?_ (by first | exact Nat.le_refl _ | exact World.size_ext _ _ | (simp; done) | (simp; omega)) _)))) (by simp; omega) ?_
            intro vB dB hoB hgB
            have HA2 := Lib.hid hoB
            clear hoB hgB HA1 HU
            (try dsimp only)
            refine hK.out _ _ ?_ (fun hHeld => ?_)
            · (try dsimp only); (refine ⟨?_, ?_, ?_, ?_, ?_, ?_⟩ <;> (with_reducible (repeat (first | assumption | refine cell_ext ?_ _ | refine cell_drew ?_ | refine cell_alloc ?_ _))))
            clear hK K
            try simp only [Act.put, List.setIfInBounds_toArray]
            refine wpAnyH_ready (rs := [11]) (by kernel_rfl) (by simp) ?_
            refine AllReadyH.cons rfl (fun K hK => ?_) (AllReadyH.nil)
            refine step_append_gain (W := X) (w := X.ext dB) (base := X.heap.size) (v := vB) (m := l.drop k) (u := .slice (some A) (l.length - k) (c - k)) rfl (.tmp 35) (.tmp 38) rfl Try.underlying25 info_Runner (by rfl) (by omega) Runner.cells_length Runner.cells_one (by omega) (by repeat (first | with_reducible (first | exact World.gained_refl _ | exact ⟨_, rfl⟩ | apply gain_ext | apply gain_alloc | apply gain_drewN | apply gain_drew) | (refine gain_setCell ?_ (by first | exact Nat.le_refl _ | exact World.size_ext _ _ | (simp; done) | (simp; omega)) _))) (Nat.le_refl _) (gain_size (by repeat (first | with_reducible (first | exact World.gained_refl _ | exact ⟨_, rfl⟩ | apply gain_ext | apply gain_alloc | apply gain_drewN | apply gain_drew) | (refine gain_setCell ?_ (by first | exact Nat.le_refl _ | exact World.size_ext _ _ | (simp; done) | (simp; omega)) _)))) (by first | rfl | (simp; done) | (simp [World.size_alloc]; done)) (by first | rfl | (simp; done) | (simp [World.size_alloc]; done) | (rw [show l.length - k = 0 by omega]; rfl)) (HA2.out) (sl_tailR _ _ _ _ _ _ hk9) (by simp; omega) ?_
            intro vC dC hoC hgC
            (try dsimp only)
            refine hK.out _ _ ?_ (fun hHeld => ?_)
            · (try dsimp only); (refine ⟨?_, ?_, ?_, ?_, ?_, ?_⟩ <;> (with_reducible (repeat (first | assumption | refine cell_ext ?_ _ | refine cell_drew ?_ | refine cell_alloc ?_ _))))
            clear hK K
            try simp only [Act.put, List.setIfInBounds_toArray]
            refine wpAnyH_take (i := 12) (oi := ⟨_, _, _, _, _, _⟩) (v := ?_) rfl (by kernel_rfl) (by kernel_rfl) (by kernel_rfl) (fun _ _ _ h => h) (Or.inl ⟨by rfl, ?_⟩) (by assumption) ?_
            rotate_left
            · intro w hSw; (try dsimp only at hSw); go_simp; (try with_reducible rfl)
            try simp only [Act.put, List.setIfInBounds_toArray, List.set_cons_zero, List.set_cons_succ]
            refine wpAnyH_done (by kernel_rfl) ?_ _
            have hLn : (l.take k ++ [e] ++ l.drop k).length = l.length + 1 := by simp; omega
            have HSM : Hid (∀ x ∈ l.take k ++ [e] ++ l.drop k, Runner.small x) := Lib.hid (fun x hx => by
              rcases List.mem_append.1 hx with hx | hx
              · rcases List.mem_append.1 hx with hx | hx
                · exact HQ.out x (List.mem_of_mem_take hx)
                · simp only [List.mem_singleton] at hx
                  subst hx
                  exact HR.out
              · exact HQ.out x (List.mem_of_mem_drop hx))
            have HO := Lib.hid hoC
            clear hoC hgC HA2
            generalize l.take k ++ [e] ++ l.drop k = M at HO HSM hLn
            go_wp2_with fail
            refine (l5Good_any _ M _ (by with_reducible (repeat (first | exact sl_of_own Runner.cells_length HO.out | refine World.sl_ext Runner.cells_length ?_ _ | refine sl_alloc Runner.cells_length ?_ _ | refine sl_drew ?_))) (by omega) HSM.out).mono ?_
            cases hC : runsB M with
            | true =>
              rintro x w1 ⟨rfl, d8, rfl⟩
              go_wp2_with fail
              go_ret2
              exact ⟨_, M, _, rfl, gain_trans HGW.out (gain_trans HGX.out (by repeat (first | with_reducible (first | exact World.gained_refl _ | exact ⟨_, rfl⟩ | apply gain_ext | apply gain_alloc | apply gain_drewN | apply gain_drew) | (refine gain_setCell ?_ (by first | exact Nat.le_refl _ | exact World.size_ext _ _ | (simp; done) | (simp; omega)) _)))), own_base (own_up HO.out (by repeat (first | with_reducible (first | exact World.gained_refl _ | exact ⟨_, rfl⟩ | apply gain_ext | apply gain_alloc | apply gain_drewN | apply gain_drew) | (refine gain_setCell ?_ (by first | exact Nat.le_refl _ | exact World.size_ext _ _ | (simp; done) | (simp; omega)) _)))) (by omega), by omega, HSM.out⟩
            | false =>
              rintro x w1 ⟨rfl, d8, rfl⟩
              go_wp2_with fail
              go_ret2
              exact ⟨_, [], _, rfl, gain_trans HGW.out (gain_trans HGX.out (by repeat (first | with_reducible (first | exact World.gained_refl _ | exact ⟨_, rfl⟩ | apply gain_ext | apply gain_alloc | apply gain_drewN | apply gain_drew) | (refine gain_setCell ?_ (by first | exact Nat.le_refl _ | exact World.size_ext _ _ | (simp; done) | (simp; omega)) _)))), own_lit' (l := ([] : List Runner)) Runner.cells_length rfl rfl (by have := World.size_ext X dC; have := World.size_ext (X.ext dC) d8; omega), by simp, by simp⟩
        · skip
          go_simp
          have HU := Lib.hid (own_lit' (w := X.drew) (e := 37) (base := X.heap.size) (C := #[.int .i64 e.id, .string e.name, .string e.club, .int .i64 e.born, .bool e.woman, .int .i64 e.card]) (l := [e]) (g := X.heap.size) Runner.cells_length rfl (by first | rfl | (simp; done) | (simp [World.size_alloc]; done)) (by first | exact Nat.le_refl _ | exact World.size_ext _ _ | (simp; done) | (simp; omega) | (simp [World.size_alloc]; done) | (simp [World.size_alloc]; omega)))
          (try dsimp only)
          refine hK.out _ _ ?_ (fun hHeld => ?_)
          · (try dsimp only); (refine ⟨?_, ?_, ?_, ?_, ?_, ?_⟩ <;> (with_reducible (repeat (first | assumption | refine cell_ext ?_ _ | refine cell_drew ?_ | refine cell_alloc ?_ _))))
          clear hK K
          try simp only [Act.put, List.setIfInBounds_toArray]
          refine wpAnyH_ready (rs := [0]) (by kernel_rfl) (by simp) ?_
          refine AllReadyH.cons rfl (fun K hK => ?_) (AllReadyH.nil)
          go_simp
          have HA := Lib.hid (own_lit' (w := (X.drew.alloc (.cells #[.int .i64 e.id, .string e.name, .string e.club, .int .i64 e.born, .bool e.woman, .int .i64 e.card] 37))) (e := 37) (base := X.heap.size) (C := #[]) (l := ([] : List Runner)) (g := X.heap.size + 1) Runner.cells_length rfl (by first | rfl | (simp; done) | (simp [World.size_alloc]; done)) (by first | exact Nat.le_refl _ | exact World.size_ext _ _ | (simp; done) | (simp; omega) | (simp [World.size_alloc]; done) | (simp [World.size_alloc]; omega)))
          (try dsimp only)
          refine hK.out _ _ ?_ (fun hHeld => ?_)
          · (try dsimp only); (refine ⟨?_, ?_, ?_, ?_, ?_, ?_⟩ <;> (with_reducible (repeat (first | assumption | refine cell_ext ?_ _ | refine cell_drew ?_ | refine cell_alloc ?_ _))))
          clear hK K
          try simp only [Act.put, List.setIfInBounds_toArray]
          refine wpAnyH_ready (rs := [4]) (by kernel_rfl) (by simp) ?_
          refine AllReadyH.cons rfl (fun K hK => ?_) (AllReadyH.nil)
          refine step_append_gain (W := X) (w := (X.drew.alloc (.cells #[.int .i64 e.id, .string e.name, .string e.club, .int .i64 e.born, .bool e.woman, .int .i64 e.card] 37)).alloc (.cells #[] 37)) (base := X.heap.size) (v := .slice (some ⟨X.heap.size + 1, 0, none⟩) 0 0) (m := l.take k) (u := .slice (some ⟨b, o, sp⟩) k c) rfl (.tmp 28) (.tmp 31) rfl Try.underlying25 info_Runner (by rfl) (by omega) Runner.cells_length Runner.cells_one (by omega) (by repeat (first | with_reducible (first | exact World.gained_refl _ | exact ⟨_, rfl⟩ | apply gain_ext | apply gain_alloc | apply gain_drewN | apply gain_drew) | (refine gain_setCell ?_ (by first | exact Nat.le_refl _ | exact World.size_ext _ _ | (simp; done) | (simp; omega)) _))) (Nat.le_refl _) (gain_size (by repeat (first | with_reducible (first | exact World.gained_refl _ | exact ⟨_, rfl⟩ | apply gain_ext | apply gain_alloc | apply gain_drewN | apply gain_drew) | (refine gain_setCell ?_ (by first | exact Nat.le_refl _ | exact World.size_ext _ _ | (simp; done) | (simp; omega)) _)))) (by first | rfl | (simp; done) | (simp [World.size_alloc]; done)) (by first | rfl | (simp; done) | (simp [World.size_alloc]; done) | (rw [show l.length - k = 0 by omega]; rfl)) (HA.out) (sl_take (by with_reducible (repeat (first | exact HLX.out | refine World.sl_ext Runner.cells_length ?_ _ | refine sl_alloc Runner.cells_length ?_ _ | refine sl_drew ?_))) (by omega)) (by simp; omega) ?_
          intro vA dA hoA hgA
          rw [List.nil_append] at hoA
          replace HU := Lib.hid (own_mark (own_up HU.out (w' := _) (by repeat (first | with_reducible (first | exact World.gained_refl _ | exact ⟨_, rfl⟩ | apply gain_ext | apply gain_alloc | apply gain_drewN | apply gain_drew) | (refine gain_setCell ?_ (by first | exact Nat.le_refl _ | exact World.size_ext _ _ | (simp; done) | (simp; omega)) _)))) hgA (by first | (simp; done) | (simp [Value.ownBlock]; done) | (simp [Value.ownBlock, World.size_alloc]; done)))
          have HA1 := Lib.hid hoA
          clear hoA hgA HA
          (try dsimp only)
          refine hK.out _ _ ?_ (fun hHeld => ?_)
          · (try dsimp only); (refine ⟨?_, ?_, ?_, ?_, ?_, ?_⟩ <;> (with_reducible (repeat (first | assumption | refine cell_ext ?_ _ | refine cell_drew ?_ | refine cell_alloc ?_ _))))
          clear hK K
          try simp only [Act.put, List.setIfInBounds_toArray]
          refine wpAnyH_ready (rs := [7]) (by kernel_rfl) (by simp) ?_
          refine AllReadyH.cons rfl (fun K hK => ?_) (AllReadyH.nil)
          refine step_append_gain (W := X) (w := X.ext dA) (base := X.heap.size) (v := vA) (m := [e]) (u := .slice (some ⟨X.heap.size, 0, none⟩) 1 1) rfl (.tmp 32) (.tmp 34) rfl Try.underlying25 info_Runner (by rfl) (by omega) Runner.cells_length Runner.cells_one (by omega) (by repeat (first | with_reducible (first | exact World.gained_refl _ | exact ⟨_, rfl⟩ | apply gain_ext | apply gain_alloc | apply gain_drewN | apply gain_drew) | (refine gain_setCell ?_ (by first | exact Nat.le_refl _ | exact World.size_ext _ _ | (simp; done) | (simp; omega)) _))) (Nat.le_refl _) (gain_size (by repeat (first | with_reducible (first | exact World.gained_refl _ | exact ⟨_, rfl⟩ | apply gain_ext | apply gain_alloc | apply gain_drewN | apply gain_drew) | (refine gain_setCell ?_ (by first | exact Nat.le_refl _ | exact World.size_ext _ _ | (simp; done) | (simp; omega)) _)))) (by first | rfl | (simp; done) | (simp [World.size_alloc]; done)) (by first | rfl | (simp; done) | (simp [World.size_alloc]; done) | (rw [show l.length - k = 0 by omega]; rfl)) (own_up HA1.out (by repeat (first | with_reducible (first | exact World.gained_refl _ | exact ⟨_, rfl⟩ | apply gain_ext | apply gain_alloc | apply gain_drewN | apply gain_drew) | (refine gain_setCell ?_ (by first | exact Nat.le_refl _ | exact World.size_ext _ _ | (simp; done) | (simp; omega)) _)))) (sl_up Runner.cells_length (sl_of_own Runner.cells_length HU.out) (by repeat (first | with_reducible (first | exact World.gained_refl _ | exact ⟨_, rfl⟩ | apply gain_ext | apply gain_alloc | apply gain_drewN | apply gain_drew) | (refine gain_setCell ?_ (by first | exact Nat.le_refl _ | exact World.size_ext _ _ | (simp; done) | (simp; omega)) _)))) (by simp; omega) ?_
          intro vB dB hoB hgB
          have HA2 := Lib.hid hoB
          clear hoB hgB HA1 HU
          (try dsimp only)
          refine hK.out _ _ ?_ (fun hHeld => ?_)
          · (try dsimp only); (refine ⟨?_, ?_, ?_, ?_, ?_, ?_⟩ <;> (with_reducible (repeat (first | assumption | refine cell_ext ?_ _ | refine cell_drew ?_ | refine cell_alloc ?_ _))))
          clear hK K
          try simp only [Act.put, List.setIfInBounds_toArray]
          refine wpAnyH_ready (rs := [11]) (by kernel_rfl) (by simp) ?_
          refine AllReadyH.cons rfl (fun K hK => ?_) (AllReadyH.nil)
          refine step_append_gain (W := X) (w := X.ext dB) (base := X.heap.size) (v := vB) (m := l.drop k) (u := .slice (some A) (l.length - k) (c - k)) rfl (.tmp 35) (.tmp 38) rfl Try.underlying25 info_Runner (by rfl) (by omega) Runner.cells_length Runner.cells_one (by omega) (by repeat (first | with_reducible (first | exact World.gained_refl _ | exact ⟨_, rfl⟩ | apply gain_ext | apply gain_alloc | apply gain_drewN | apply gain_drew) | (refine gain_setCell ?_ (by first | exact Nat.le_refl _ | exact World.size_ext _ _ | (simp; done) | (simp; omega)) _))) (Nat.le_refl _) (gain_size (by repeat (first | with_reducible (first | exact World.gained_refl _ | exact ⟨_, rfl⟩ | apply gain_ext | apply gain_alloc | apply gain_drewN | apply gain_drew) | (refine gain_setCell ?_ (by first | exact Nat.le_refl _ | exact World.size_ext _ _ | (simp; done) | (simp; omega)) _)))) (by first | rfl | (simp; done) | (simp [World.size_alloc]; done)) (by first | rfl | (simp; done) | (simp [World.size_alloc]; done) | (rw [show l.length - k = 0 by omega]; rfl)) (HA2.out) (sl_tailR _ _ _ _ _ _ hk9) (by simp; omega) ?_
          intro vC dC hoC hgC
          (try dsimp only)
          refine hK.out _ _ ?_ (fun hHeld => ?_)
          · (try dsimp only); (refine ⟨?_, ?_, ?_, ?_, ?_, ?_⟩ <;> (with_reducible (repeat (first | assumption | refine cell_ext ?_ _ | refine cell_drew ?_ | refine cell_alloc ?_ _))))
          clear hK K
          try simp only [Act.put, List.setIfInBounds_toArray]
          refine wpAnyH_take (i := 12) (oi := ⟨_, _, _, _, _, _⟩) (v := ?_) rfl (by kernel_rfl) (by kernel_rfl) (by kernel_rfl) (fun _ _ _ h => h) (Or.inl ⟨by rfl, ?_⟩) (by assumption) ?_
          rotate_left
          · intro w hSw; (try dsimp only at hSw); go_simp; (try with_reducible rfl)
          try simp only [Act.put, List.setIfInBounds_toArray, List.set_cons_zero, List.set_cons_succ]
          refine wpAnyH_done (by kernel_rfl) ?_ _
          have hLn : (l.take k ++ [e] ++ l.drop k).length = l.length + 1 := by simp; omega
          have HSM : Hid (∀ x ∈ l.take k ++ [e] ++ l.drop k, Runner.small x) := Lib.hid (fun x hx => by
            rcases List.mem_append.1 hx with hx | hx
            · rcases List.mem_append.1 hx with hx | hx
              · exact HQ.out x (List.mem_of_mem_take hx)
              · simp only [List.mem_singleton] at hx
                subst hx
                exact HR.out
            · exact HQ.out x (List.mem_of_mem_drop hx))
          have HO := Lib.hid hoC
          clear hoC hgC HA2
          generalize l.take k ++ [e] ++ l.drop k = M at HO HSM hLn
          go_wp2_with fail
          refine (l5Good_any _ M _ (by with_reducible (repeat (first | exact sl_of_own Runner.cells_length HO.out | refine World.sl_ext Runner.cells_length ?_ _ | refine sl_alloc Runner.cells_length ?_ _ | refine sl_drew ?_))) (by omega) HSM.out).mono ?_
          cases hC : runsB M with
          | true =>
            rintro x w1 ⟨rfl, d8, rfl⟩
            go_wp2_with fail
            go_ret2
            exact ⟨_, M, _, rfl, gain_trans HGW.out (gain_trans HGX.out (by repeat (first | with_reducible (first | exact World.gained_refl _ | exact ⟨_, rfl⟩ | apply gain_ext | apply gain_alloc | apply gain_drewN | apply gain_drew) | (refine gain_setCell ?_ (by first | exact Nat.le_refl _ | exact World.size_ext _ _ | (simp; done) | (simp; omega)) _)))), own_base (own_up HO.out (by repeat (first | with_reducible (first | exact World.gained_refl _ | exact ⟨_, rfl⟩ | apply gain_ext | apply gain_alloc | apply gain_drewN | apply gain_drew) | (refine gain_setCell ?_ (by first | exact Nat.le_refl _ | exact World.size_ext _ _ | (simp; done) | (simp; omega)) _)))) (by omega), by omega, HSM.out⟩
          | false =>
            rintro x w1 ⟨rfl, d8, rfl⟩
            go_wp2_with fail
            go_ret2
            exact ⟨_, [], _, rfl, gain_trans HGW.out (gain_trans HGX.out (by repeat (first | with_reducible (first | exact World.gained_refl _ | exact ⟨_, rfl⟩ | apply gain_ext | apply gain_alloc | apply gain_drewN | apply gain_drew) | (refine gain_setCell ?_ (by first | exact Nat.le_refl _ | exact World.size_ext _ _ | (simp; done) | (simp; omega)) _)))), own_lit' (l := ([] : List Runner)) Runner.cells_length rfl rfl (by have := World.size_ext X dC; have := World.size_ext (X.ext dC) d8; omega), by simp, by simp⟩
end Go.Proofs.Ytfenempljjenpaa
