/- spec.RecodeControl. Condition: at most 1048576 numbers, controls. -/
import Derived.Test.YtedpckkoaioooaaCtlMov
namespace Go.Ori
theorem sl_tail0 {α : Type} (w : World) (enc : α → List Value) (sz : Nat) (p : Option Addr) (c : Nat) (l : List α) {k : Nat} (hk : l.length ≤ k) : w.sl enc sz (.slice p (l.length - k) (c - k)) (l.drop k) :=
  ⟨p, c - k, by rw [List.length_drop], fun h0 => absurd h0 (by rw [List.length_drop]; omega), by rw [List.length_drop]; omega⟩
end Go.Ori
namespace Go.Proofs.Ytedpckkoaioooaa
open Go.RowKit Go.Ori
set_option maxHeartbeats 4000000 in
theorem specRecodeControl_any (m : Mp) (rv cv v : Value) (l : List Ctl) (r s : Int) (w : World) (hmp : w.mp rv cv m) (h : w.sl Ctl.cells 2 v l) (hl : l.length ≤ 1048576) :
    Calls Try.prog 19 #[.agg #[.int .i64 m.wd, .int .i64 m.ht, rv, cv], v, .int .i64 r, .int .i64 s] w fun x w' => ∃ R, x = .returned (.tuple #[R, .bool (recB m l r s)]) ∧ (∃ d, w' = w.ext d) ∧ w'.own w.heap.size 46 Ctl.cells 2 R (recL m l r s) := by
  have hm := Lib.hid hmp
  have hs := Lib.hid h
  obtain ⟨p1, c1, p2, c2, rfl, rfl⟩ := mp_form hmp
  obtain ⟨p, c, rfl, _⟩ := id h
  have HG := Lib.hid (fun W hM hL => l6Good_any m (.slice p1 m.rise.length c1) (.slice p2 m.cost.length c2) (.slice p l.length c) l W hM hL hl)
  have HX := Lib.hid (fun W hL => l6Find_any (.slice p l.length c) l r W hL hl)
  clear hmp h
  cases hB : ctlsB m l with
  | false =>
    have h0 : recB m l r s = false := by simp [recB, hB]
    rw [recL_no h0, h0]
    rw [hB] at HG
    clear h0 hB
    go_enter Try.func19, Try.ntmps19
    go_wp2_with (first | (go_at_call 74; refine (HG.out _ (mp_up (hm.out) (by repeat (first | with_reducible (first | exact World.gained_refl _ | exact ⟨_, rfl⟩ | apply gain_ext | apply gain_alloc | apply gain_drewN | apply gain_drew) | (refine gain_setCell ?_ (by first | exact Nat.le_refl _ | exact World.size_ext _ _ | (simp; done) | (simp; omega)) _)))) (by with_reducible (repeat (first | exact hs.out | refine World.sl_ext Ctl.cells_length ?_ _ | refine sl_alloc Ctl.cells_length ?_ _ | refine sl_drew ?_)))).mono ?_; rintro e w1 ⟨rfl, d1, rfl⟩) | (go_at_call 73; refine (HX.out _ (by with_reducible (repeat (first | exact hs.out | refine World.sl_ext Ctl.cells_length ?_ _ | refine sl_alloc Ctl.cells_length ?_ _ | refine sl_drew ?_)))).mono ?_; rintro e w1 ⟨rfl, d2, rfl⟩))
    go_ret2
    exact ⟨_, rfl, (by repeat (first | with_reducible (first | exact World.gained_refl _ | exact ⟨_, rfl⟩ | apply gain_ext | apply gain_alloc | apply gain_drewN | apply gain_drew) | (refine gain_setCell ?_ (by first | exact Nat.le_refl _ | exact World.size_ext _ _ | (simp; done) | (simp; omega)) _))), own_lit' (l := ([] : List Ctl)) Ctl.cells_length rfl rfl (gain_size (by repeat (first | with_reducible (first | exact World.gained_refl _ | exact ⟨_, rfl⟩ | apply gain_ext | apply gain_alloc | apply gain_drewN | apply gain_drew) | (refine gain_setCell ?_ (by first | exact Nat.le_refl _ | exact World.size_ext _ _ | (simp; done) | (simp; omega)) _))))⟩
  | true =>
  cases hK : hasK l r with
  | false =>
    have h0 : recB m l r s = false := by simp [recB, hK]
    rw [recL_no h0, h0]
    rw [hB] at HG
    rw [idxK_no hK] at HX
    clear h0 hB hK
    go_enter Try.func19, Try.ntmps19
    go_wp2_with (first | (go_at_call 74; refine (HG.out _ (mp_up (hm.out) (by repeat (first | with_reducible (first | exact World.gained_refl _ | exact ⟨_, rfl⟩ | apply gain_ext | apply gain_alloc | apply gain_drewN | apply gain_drew) | (refine gain_setCell ?_ (by first | exact Nat.le_refl _ | exact World.size_ext _ _ | (simp; done) | (simp; omega)) _)))) (by with_reducible (repeat (first | exact hs.out | refine World.sl_ext Ctl.cells_length ?_ _ | refine sl_alloc Ctl.cells_length ?_ _ | refine sl_drew ?_)))).mono ?_; rintro e w1 ⟨rfl, d1, rfl⟩) | (go_at_call 73; refine (HX.out _ (by with_reducible (repeat (first | exact hs.out | refine World.sl_ext Ctl.cells_length ?_ _ | refine sl_alloc Ctl.cells_length ?_ _ | refine sl_drew ?_)))).mono ?_; rintro e w1 ⟨rfl, d2, rfl⟩))
    go_ret2
    exact ⟨_, rfl, (by repeat (first | with_reducible (first | exact World.gained_refl _ | exact ⟨_, rfl⟩ | apply gain_ext | apply gain_alloc | apply gain_drewN | apply gain_drew) | (refine gain_setCell ?_ (by first | exact Nat.le_refl _ | exact World.size_ext _ _ | (simp; done) | (simp; omega)) _))), own_lit' (l := ([] : List Ctl)) Ctl.cells_length rfl rfl (gain_size (by repeat (first | with_reducible (first | exact World.gained_refl _ | exact ⟨_, rfl⟩ | apply gain_ext | apply gain_alloc | apply gain_drewN | apply gain_drew) | (refine gain_setCell ?_ (by first | exact Nat.le_refl _ | exact World.size_ext _ _ | (simp; done) | (simp; omega)) _))))⟩
  | true =>
    have hlt := atK_lt hK
    have hl10 := ctlsB_len hB
    have HF : Hid (recB m l r s = wCB m l (atK l r) ⟨s, cellK l r⟩) := Lib.hid (by simp [recB, hB, hK])
    have HL : Hid (recL m l r s = wCL m l (atK l r) ⟨s, cellK l r⟩) := Lib.hid (by
      unfold recL
      split
      · rfl
      · rename_i hn
        rw [HF.out] at hn
        simp [wCL, hn])
    rw [HF.out, HL.out]
    clear HF HL
    have HCK : Hid (cellK l r = (l[atK l r]'hlt).cell) := Lib.hid (cellK_eq hK)
    have HINS := Lib.hid (fun (rs : List Ctl) (he : rs = l.take (atK l r) ++ l.drop (atK l r + 1)) (k : Nat) (hk : k ≤ rs.length) (h1 : ∀ j (hj : j < rs.length), j < k → rs[j].code < s) (h2 : ∀ (hk : k < rs.length), ¬ rs[k].code < s) => (show ctlsB m (rs.take k ++ [⟨s, cellK l r⟩] ++ rs.drop k) = wCB m l (atK l r) ⟨s, cellK l r⟩ ∧ (wCB m l (atK l r) ⟨s, cellK l r⟩ = true → rs.take k ++ [⟨s, cellK l r⟩] ++ rs.drop k = wCL m l (atK l r) ⟨s, cellK l r⟩) from by subst he; exact rec_ins hB hlt hk h1 h2))
    rw [hB] at HG
    rw [idxK_yes hK] at HX
    obtain ⟨b, o, rfl⟩ := sl_some hs.out (by omega)
    generalize hz : cellK l r = z at *
    obtain ⟨n, hn⟩ : ∃ n, atK l r = n := ⟨_, rfl⟩
    simp only [hn] at hlt HX HCK HINS ⊢
    clear hB hK hz
    obtain ⟨A, hA⟩ : ∃ A : Addr, (if c = n + 1 then some (⟨b, o, none⟩ : Addr) else some ⟨b, o + (n + 1) * 2, none⟩) = some A := by split <;> exact ⟨_, rfl⟩
    have hwr : IntKind.i64.wrap ((n : Int) + 1) = (n : Int) + 1 := by rw [IntKind.wrap_i64]; omega
    have hp0 : (0 : Int) ≤ (n : Int) + 1 := by omega
    have hp1 : (n : Int) + 1 ≤ (l.length : Int) := by omega
    have hp2 : ((n : Int) + 1).toNat = n + 1 := by omega
    have hcp := (sl_cap hs.out)
    have hq0 : (0 : Int) ≤ (n : Int) := by omega
    have hq1 : (n : Int) ≤ (c : Int) := by omega
    have hq2 : n ≤ c := by omega
    go_enter Try.func19, Try.ntmps19
    go_upto_region 4 with (first | (go_at_call 74; refine (HG.out _ (mp_up (hm.out) (by repeat (first | with_reducible (first | exact World.gained_refl _ | exact ⟨_, rfl⟩ | apply gain_ext | apply gain_alloc | apply gain_drewN | apply gain_drew) | (refine gain_setCell ?_ (by first | exact Nat.le_refl _ | exact World.size_ext _ _ | (simp; done) | (simp; omega)) _)))) (by with_reducible (repeat (first | exact hs.out | refine World.sl_ext Ctl.cells_length ?_ _ | refine sl_alloc Ctl.cells_length ?_ _ | refine sl_drew ?_)))).mono ?_; rintro e w1 ⟨rfl, d1, rfl⟩) | (go_at_call 73; refine (HX.out _ (by with_reducible (repeat (first | exact hs.out | refine World.sl_ext Ctl.cells_length ?_ _ | refine sl_alloc Ctl.cells_length ?_ _ | refine sl_drew ?_)))).mono ?_; rintro e w1 ⟨rfl, d2, rfl⟩))
    obtain ⟨W1, hW1⟩ : ∃ W1, W1 = ((w.alloc (.cells #[.int .i64 m.wd, .int .i64 m.ht, .slice p1 m.rise.length c1, .slice p2 m.cost.length c2] 26)).ext d2).ext d1 := ⟨_, rfl⟩
    rw [← hW1]
    have bx0 : W1.cell? ⟨w.heap.size, 0, none⟩ = some (.int .i64 m.wd) := by rw [hW1]; simp [go_sem]
    have bx1 : W1.cell? ⟨w.heap.size, 1, none⟩ = some (.int .i64 m.ht) := by rw [hW1]; simp [go_sem]
    have bx2 : W1.cell? ⟨w.heap.size, 2, none⟩ = some (.slice p1 m.rise.length c1) := by rw [hW1]; simp [go_sem]
    have bx3 : W1.cell? ⟨w.heap.size, 3, none⟩ = some (.slice p2 m.cost.length c2) := by rw [hW1]; simp [go_sem]
    have HM1 : Hid (W1.mp (.slice p1 m.rise.length c1) (.slice p2 m.cost.length c2) m) := Lib.hid (by rw [hW1]; exact (mp_up (hm.out) (by repeat (first | with_reducible (first | exact World.gained_refl _ | exact ⟨_, rfl⟩ | apply gain_ext | apply gain_alloc | apply gain_drewN | apply gain_drew) | (refine gain_setCell ?_ (by first | exact Nat.le_refl _ | exact World.size_ext _ _ | (simp; done) | (simp; omega)) _)))))
    have HL1 : Hid (W1.sl Ctl.cells 2 (.slice (some ⟨b, o, none⟩) l.length c) l) := Lib.hid (by rw [hW1]; exact (by with_reducible (repeat (first | exact hs.out | refine World.sl_ext Ctl.cells_length ?_ _ | refine sl_alloc Ctl.cells_length ?_ _ | refine sl_drew ?_))))
    have HGW : Hid (∃ d, W1 = w.ext d) := Lib.hid (by rw [hW1]; exact (by repeat (first | with_reducible (first | exact World.gained_refl _ | exact ⟨_, rfl⟩ | apply gain_ext | apply gain_alloc | apply gain_drewN | apply gain_drew) | (refine gain_setCell ?_ (by first | exact Nat.le_refl _ | exact World.size_ext _ _ | (simp; done) | (simp; omega)) _))))
    have hgw := gain_size HGW.out
    have obx := World.oldB_of_cell bx0
    clear hW1
    generalize hgM : w.heap.size = gM at bx0 bx1 bx2 bx3 obx hgw ⊢
    have cx1 := sl_cells HL1.out hlt (j := 1) (by omega)
    simp only [Ctl.cells, List.getElem?_cons_zero, List.getElem?_cons_succ, Nat.add_zero] at cx1
    rw [← HCK.out] at cx1
    have obc := World.oldB_of_cell cx1
    go_region_law (first | (refine step_append_gain (W := W1) (base := W1.heap.size) (m := l.take n) (u := .slice (some ⟨b, o, none⟩) n c) rfl (.tmp 26) (.tmp 29) rfl Try.underlying27 info_Ctl (by rfl) (by omega) Ctl.cells_length Ctl.cells_one (by omega) (by repeat (first | with_reducible (first | exact World.gained_refl _ | exact ⟨_, rfl⟩ | apply gain_ext | apply gain_alloc | apply gain_drewN | apply gain_drew) | (refine gain_setCell ?_ (by first | exact Nat.le_refl _ | exact World.size_ext _ _ | (simp; done) | (simp; omega)) _))) (Nat.le_refl _) (gain_size (by repeat (first | with_reducible (first | exact World.gained_refl _ | exact ⟨_, rfl⟩ | apply gain_ext | apply gain_alloc | apply gain_drewN | apply gain_drew) | (refine gain_setCell ?_ (by first | exact Nat.le_refl _ | exact World.size_ext _ _ | (simp; done) | (simp; omega)) _)))) (by simp [Act.eval, Act.put]) (by simp [Act.eval, Act.put]) (own_lit' (l := ([] : List Ctl)) Ctl.cells_length rfl rfl (gain_size (by repeat (first | with_reducible (first | exact World.gained_refl _ | exact ⟨_, rfl⟩ | apply gain_ext | apply gain_alloc | apply gain_drewN | apply gain_drew) | (refine gain_setCell ?_ (by first | exact Nat.le_refl _ | exact World.size_ext _ _ | (simp; done) | (simp; omega)) _))))) (sl_take (by with_reducible (repeat (first | exact HL1.out | refine World.sl_ext Ctl.cells_length ?_ _ | refine sl_alloc Ctl.cells_length ?_ _ | refine sl_drew ?_))) (by omega)) (by simp; omega) ?_; intro vA dA hoA hgA) | (refine step_append_gain (W := W1) (base := W1.heap.size) (m := l.drop (n + 1)) (u := .slice (some A) (l.length - (n + 1)) (c - (n + 1))) rfl (.tmp 30) (.tmp 34) rfl Try.underlying27 info_Ctl (by rfl) (by omega) Ctl.cells_length Ctl.cells_one (by omega) (by repeat (first | with_reducible (first | exact World.gained_refl _ | exact ⟨_, rfl⟩ | apply gain_ext | apply gain_alloc | apply gain_drewN | apply gain_drew) | (refine gain_setCell ?_ (by first | exact Nat.le_refl _ | exact World.size_ext _ _ | (simp; done) | (simp; omega)) _))) (Nat.le_refl _) (gain_size (by repeat (first | with_reducible (first | exact World.gained_refl _ | exact ⟨_, rfl⟩ | apply gain_ext | apply gain_alloc | apply gain_drewN | apply gain_drew) | (refine gain_setCell ?_ (by first | exact Nat.le_refl _ | exact World.size_ext _ _ | (simp; done) | (simp; omega)) _)))) (by simp [Act.eval, Act.put]) (by simp [Act.eval, Act.put]) hoA (sl_drop_any (by with_reducible (repeat (first | exact HL1.out | refine World.sl_ext Ctl.cells_length ?_ _ | refine sl_alloc Ctl.cells_length ?_ _ | refine sl_drew ?_))) (by omega) hA) (by simp; omega) ?_; intro vB dB hoB hgB))
    all_goals (
      rw [List.nil_append] at hoB
      have HLR := Lib.hid (show (l.take n ++ l.drop (n + 1)).length + 1 = l.length by simp; omega)
      have HRS := Lib.hid hoB
      clear hoB hgB hoA hgA hA hp0 hp1 hp2 hq0 hq1 hq2 hwr
      obtain ⟨rs, hrs⟩ : ∃ rs, l.take n ++ l.drop (n + 1) = rs := ⟨_, rfl⟩
      rw [hrs] at HRS HLR
      replace HINS := Lib.hid (HINS.out rs hrs.symm)
      clear hrs
      go_wp2_with fail
      obtain ⟨pB, cB, rfl, _⟩ := sl_of_own Ctl.cells_length HRS.out
      have hrl10 : rs.length ≤ 10 := by have := HLR.out; omega
      go_loopw [12] (fun i_ wr => ∃ k : Nat, k ≤ rs.length ∧ i_ = .int .i64 k ∧ (∀ (j : Nat) (hj : j < rs.length), j < k → rs[j].code < s) ∧ ∃ d, wr = (W1.ext dB).ext d) (fun i_ _ => rs.length - (intOf i_).toNat)
      case atStart => exact ⟨0, by omega, by go_num, by simp, (by repeat (first | with_reducible (first | exact World.gained_refl _ | exact ⟨_, rfl⟩ | apply gain_ext | apply gain_alloc | apply gain_drewN | apply gain_drew) | (refine gain_setCell ?_ (by first | exact Nat.le_refl _ | exact World.size_ext _ _ | (simp; done) | (simp; omega)) _)))⟩
      case round =>
        obtain ⟨k, hk, rfl, hno, d, rfl⟩ := hrel
        have HN := Lib.hid hno
        clear hno
        have HR2 := Lib.hid (own_up HRS.out (w' := (W1.ext dB).ext d) ⟨_, rfl⟩)
        have hs2 := Lib.hid (sl_of_own Ctl.cells_length HR2.out)
        have hcB := sl_cap hs2.out
        by_cases hlt2 : k < rs.length
        · obtain ⟨gB, cB', hvB, hgB, -⟩ := own_addr HR2.out (by omega)
          injection hvB with ev1 ev2 ev3
          subst ev1
          clear ev2 ev3
          have r0 := sl_cells hs2.out hlt2 (j := 0) (by omega)
          have hlt2d : decide ((k : Int) < (rs.length : Int)) = true := decide_eq_true (by omega)
          have HNX := Lib.hid (fun (h : rs[k].code < s) => (show ∀ (j : Nat) (hj : j < rs.length), j < k + 1 → rs[j].code < s from fun j hj hjk => by
            by_cases e : j = k
            · subst e; exact h
            · exact HN.out j hj (by omega)))
          have HSTOP := Lib.hid (fun (h : ¬ rs[k].code < s) => HINS.out k hk HN.out (fun _ => by omega))
          generalize rs[k] = y at r0 HNX HSTOP
          simp only [Ctl.cells, List.getElem?_cons_zero, List.getElem?_cons_succ, Nat.add_zero, Nat.zero_add] at r0
          have obB := World.oldB_of_cell r0
          by_cases hy : y.code < s
          · have hyd : decide (y.code < s) = true := decide_eq_true hy
            have HNX2 := Lib.hid (HNX.out hy)
            go_wp2
            go_roundw
            case rel => exact ⟨k + 1, by omega, by go_num, HNX2.out, _, rfl⟩
            case measure => simp [intOf]; omega
          · have hyd : decide (y.code < s) = false := decide_eq_false hy
            have HIN := Lib.hid (HSTOP.out hy)
            have hkc : k ≤ cB := by omega
            have hk0 : (0 : Int) ≤ (k : Int) := by omega
            have hk1 : (k : Int) ≤ (cB : Int) := by omega
            have hk2 : (k : Int) ≤ (rs.length : Int) := by omega
            go_upto_region 8 with fail
            obtain ⟨qs, hqs⟩ : ∃ qs, rs.take k ++ [(⟨s, z⟩ : Ctl)] ++ rs.drop k = qs := ⟨_, rfl⟩
            have HQL : qs.length ≤ 11 := by have := HLR.out; rw [← hqs]; simp; omega
            rw [hqs] at HIN
            have HGX : Hid (∃ dd, (W1.ext dB).ext d = W1.ext dd) := Lib.hid (by repeat (first | with_reducible (first | exact World.gained_refl _ | exact ⟨_, rfl⟩ | apply gain_ext | apply gain_alloc | apply gain_drewN | apply gain_drew) | (refine gain_setCell ?_ (by first | exact Nat.le_refl _ | exact World.size_ext _ _ | (simp; done) | (simp; omega)) _)))
            generalize (W1.ext dB).ext d = X at HGX hs2 HR2 ⊢
            have by0 := cell_up bx0 HGX.out
            have by1 := cell_up bx1 HGX.out
            have by2 := cell_up bx2 HGX.out
            have by3 := cell_up bx3 HGX.out
            have cy1 := cell_up cx1 HGX.out
            have obX := World.oldB_of_cell by0
            have obC := World.oldB_of_cell cy1
            have hXs : W1.heap.size ≤ X.heap.size := gain_size HGX.out
            obtain ⟨A, hA⟩ : ∃ A : Addr, (if cB = k then some (⟨gB, 0, none⟩ : Addr) else some ⟨gB, k * 2, none⟩) = some A := by split <;> exact ⟨_, rfl⟩
            refine wp_region_held_drew (S := (fun w' => w'.cell? ⟨gM, 0, none⟩ = some (.int .i64 m.wd) ∧ w'.cell? ⟨gM, 1, none⟩ = some (.int .i64 m.ht) ∧ w'.cell? ⟨gM, 2, none⟩ = some (.slice p1 m.rise.length c1) ∧ w'.cell? ⟨gM, 3, none⟩ = some (.slice p2 m.cost.length c2) ∧ w'.cell? ⟨b, o + n * 2 + 1, none⟩ = some (.int .i64 z))) (by kernel_rfl) (by (try dsimp only); (refine ⟨?_, ?_, ?_, ?_, ?_⟩ <;> (with_reducible (repeat (first | assumption | refine cell_ext ?_ _ | refine cell_drew ?_ | refine cell_alloc ?_ _))))) (fun hHeld => ?_)
            refine wpAnyH_take (i := 1) (oi := ⟨_, _, _, _, _, _⟩) (v := ?_) rfl (by kernel_rfl) (by kernel_rfl) (by kernel_rfl) (fun _ _ _ h => h) (Or.inl ⟨by rfl, ?_⟩) (by assumption) ?_
            rotate_left
            · intro w hSw; (try dsimp only at hSw); go_simp; (try with_reducible rfl)
            try simp only [Act.put, List.setIfInBounds_toArray, List.set_cons_zero, List.set_cons_succ]
            refine wpAnyH_take (i := 2) (oi := ⟨_, _, _, _, _, _⟩) (v := ?_) rfl (by kernel_rfl) (by kernel_rfl) (by kernel_rfl) (fun _ _ _ h => h) (Or.inl ⟨by rfl, ?_⟩) (by assumption) ?_
            rotate_left
            · intro w hSw; (try dsimp only at hSw); go_simp; (try with_reducible rfl)
            try simp only [Act.put, List.setIfInBounds_toArray, List.set_cons_zero, List.set_cons_succ]
            refine wpAnyH_take (i := 3) (oi := ⟨_, _, _, _, _, _⟩) (v := ?_) rfl (by kernel_rfl) (by kernel_rfl) (by kernel_rfl) (fun _ _ _ h => h) (Or.inl ⟨by rfl, ?_⟩) (by assumption) ?_
            rotate_left
            · intro w hSw; (try dsimp only at hSw); go_simp; (try with_reducible rfl)
            try simp only [Act.put, List.setIfInBounds_toArray, List.set_cons_zero, List.set_cons_succ]
            refine wpAnyH_take (i := 5) (oi := ⟨_, _, _, _, _, _⟩) (v := ?_) rfl (by kernel_rfl) (by kernel_rfl) (by kernel_rfl) (fun _ _ _ h => h) (Or.inl ⟨by rfl, ?_⟩) (by assumption) ?_
            rotate_left
            · intro w hSw; (try dsimp only at hSw); go_simp; (try with_reducible rfl)
            try simp only [Act.put, List.setIfInBounds_toArray, List.set_cons_zero, List.set_cons_succ]
            refine wpAnyH_take (i := 6) (oi := ⟨_, _, _, _, _, _⟩) (v := ?_) rfl (by kernel_rfl) (by kernel_rfl) (by kernel_rfl) (fun _ _ _ h => h) (Or.inl ⟨by rfl, ?_⟩) (by assumption) ?_
            rotate_left
            · intro w hSw; (try dsimp only at hSw); go_simp; (try with_reducible rfl)
            try simp only [Act.put, List.setIfInBounds_toArray, List.set_cons_zero, List.set_cons_succ]
            refine wpAnyH_take (i := 7) (oi := ⟨_, _, _, _, _, _⟩) (v := ?_) rfl (by kernel_rfl) (by kernel_rfl) (by kernel_rfl) (fun _ _ _ h => h) (Or.inl ⟨by rfl, ?_⟩) (by assumption) ?_
            rotate_left
            · intro w hSw; (try dsimp only at hSw); go_simp; (try with_reducible rfl)
            try simp only [Act.put, List.setIfInBounds_toArray, List.set_cons_zero, List.set_cons_succ]
            refine wpAnyH_take (i := 8) (oi := ⟨_, _, _, _, _, _⟩) (v := ?_) rfl (by kernel_rfl) (by kernel_rfl) (by kernel_rfl) (fun _ _ _ h => h) (Or.inl ⟨by rfl, ?_⟩) (by assumption) ?_
            rotate_left
            · intro w hSw; (try dsimp only at hSw); go_simp; (try with_reducible rfl)
            try simp only [Act.put, List.setIfInBounds_toArray, List.set_cons_zero, List.set_cons_succ]
            refine wpAnyH_take (i := 9) (oi := ⟨_, _, _, _, _, _⟩) (v := ?_) rfl (by kernel_rfl) (by kernel_rfl) (by kernel_rfl) (fun _ _ _ h => h) (Or.inl ⟨by rfl, ?_⟩) (by assumption) ?_
            rotate_left
            · intro w hSw; (try dsimp only at hSw); go_simp; (try with_reducible rfl)
            try simp only [Act.put, List.setIfInBounds_toArray, List.set_cons_zero, List.set_cons_succ]
            refine wpAnyH_take (i := 10) (oi := ⟨_, _, _, _, _, _⟩) (v := ?_) rfl (by kernel_rfl) (by kernel_rfl) (by kernel_rfl) (fun _ _ _ h => h) (Or.inl ⟨by rfl, ?_⟩) (by assumption) ?_
            rotate_left
            · intro w hSw; (try dsimp only at hSw); go_simp; (try with_reducible rfl)
            try simp only [Act.put, List.setIfInBounds_toArray, List.set_cons_zero, List.set_cons_succ]
            refine wpAnyH_take (i := 11) (oi := ⟨_, _, _, _, _, _⟩) (v := ?_) rfl (by kernel_rfl) (by kernel_rfl) (by kernel_rfl) (fun _ _ _ h => h) (Or.inl ⟨by rfl, ?_⟩) (by assumption) ?_
            rotate_left
            · intro w hSw; (try dsimp only at hSw); go_simp; (try with_reducible rfl)
            try simp only [Act.put, List.setIfInBounds_toArray, List.set_cons_zero, List.set_cons_succ]
            refine wpAnyH_take (i := 14) (oi := ⟨_, _, _, _, _, _⟩) (v := ?_) rfl (by kernel_rfl) (by kernel_rfl) (by kernel_rfl) (fun _ _ _ h => h) (Or.inl ⟨by rfl, ?_⟩) (by assumption) ?_
            rotate_left
            · intro w hSw; (try dsimp only at hSw); go_simp; (try with_reducible rfl)
            try simp only [Act.put, List.setIfInBounds_toArray, List.set_cons_zero, List.set_cons_succ]
            refine wpAnyH_take (i := 15) (oi := ⟨_, _, _, _, _, _⟩) (v := ?_) rfl (by kernel_rfl) (by kernel_rfl) (by kernel_rfl) (fun _ _ _ h => h) (Or.inl ⟨by rfl, ?_⟩) (by assumption) ?_
            rotate_left
            · intro w hSw; (try dsimp only at hSw); go_simp; (try with_reducible rfl)
            try simp only [Act.put, List.setIfInBounds_toArray, List.set_cons_zero, List.set_cons_succ]
            refine wpAnyH_take (i := 16) (oi := ⟨_, _, _, _, _, _⟩) (v := ?_) rfl (by kernel_rfl) (by kernel_rfl) (by kernel_rfl) (fun _ _ _ h => h) (Or.inl ⟨by rfl, ?_⟩) (by assumption) ?_
            rotate_left
            · intro w hSw; (try dsimp only at hSw); go_simp; (try with_reducible rfl)
            try simp only [Act.put, List.setIfInBounds_toArray, List.set_cons_zero, List.set_cons_succ]
            refine wpAnyH_ready (rs := [0, 12]) (by kernel_rfl) (by simp) ?_
            refine AllReadyH.cons rfl (fun K hK => ?_) (AllReadyH.cons rfl (fun K hK => ?_) (AllReadyH.nil))
            · skip
              go_simp
              have HA := Lib.hid (own_lit' (w := X.drew) (e := 46) (base := X.heap.size) (C := #[]) (l := ([] : List Ctl)) (g := X.heap.size) Ctl.cells_length rfl (by first | rfl | (simp; done) | (simp [World.size_alloc]; done)) (by first | exact Nat.le_refl _ | exact World.size_ext _ _ | (simp; done) | (simp; omega) | (simp [World.size_alloc]; done) | (simp [World.size_alloc]; omega)))
              (try dsimp only)
              refine hK.out _ _ ?_ (fun hHeld => ?_)
              · (try dsimp only); (refine ⟨?_, ?_, ?_, ?_, ?_⟩ <;> (with_reducible (repeat (first | assumption | refine cell_ext ?_ _ | refine cell_drew ?_ | refine cell_alloc ?_ _))))
              clear hK K
              try simp only [Act.put, List.setIfInBounds_toArray]
              refine wpAnyH_ready (rs := [4, 12]) (by kernel_rfl) (by simp) ?_
              refine AllReadyH.cons rfl (fun K hK => ?_) (AllReadyH.cons rfl (fun K hK => ?_) (AllReadyH.nil))
              · skip
                refine step_append_gain (W := X) (w := X.drew.alloc (.cells #[] 46)) (base := X.heap.size) (v := .slice (some ⟨X.heap.size, 0, none⟩) 0 0) (m := rs.take k) (u := .slice (some ⟨gB, 0, none⟩) k cB) rfl (.tmp 51) (.tmp 54) rfl Try.underlying27 info_Ctl (by rfl) (by omega) Ctl.cells_length Ctl.cells_one (by omega) (by repeat (first | with_reducible (first | exact World.gained_refl _ | exact ⟨_, rfl⟩ | apply gain_ext | apply gain_alloc | apply gain_drewN | apply gain_drew) | (refine gain_setCell ?_ (by first | exact Nat.le_refl _ | exact World.size_ext _ _ | (simp; done) | (simp; omega)) _))) (Nat.le_refl _) (gain_size (by repeat (first | with_reducible (first | exact World.gained_refl _ | exact ⟨_, rfl⟩ | apply gain_ext | apply gain_alloc | apply gain_drewN | apply gain_drew) | (refine gain_setCell ?_ (by first | exact Nat.le_refl _ | exact World.size_ext _ _ | (simp; done) | (simp; omega)) _)))) (by first | rfl | (simp; done) | (simp [World.size_alloc]; done)) (by first | rfl | (simp; done) | (simp [World.size_alloc]; done) | (rw [show rs.length - k = 0 by omega]; rfl)) (HA.out) (sl_take (by with_reducible (repeat (first | exact hs2.out | refine World.sl_ext Ctl.cells_length ?_ _ | refine sl_alloc Ctl.cells_length ?_ _ | refine sl_drew ?_))) (by omega)) (by simp; omega) ?_
                intro vA dA hoA hgA
                rw [List.nil_append] at hoA
                have HA1 := Lib.hid hoA
                clear hoA hgA HA
                (try dsimp only)
                refine hK.out _ _ ?_ (fun hHeld => ?_)
                · (try dsimp only); (refine ⟨?_, ?_, ?_, ?_, ?_⟩ <;> (with_reducible (repeat (first | assumption | refine cell_ext ?_ _ | refine cell_drew ?_ | refine cell_alloc ?_ _))))
                clear hK K
                try simp only [Act.put, List.setIfInBounds_toArray]
                refine wpAnyH_ready (rs := [12]) (by kernel_rfl) (by simp) ?_
                refine AllReadyH.cons rfl (fun K hK => ?_) (AllReadyH.nil)
                go_simp
                have HU := Lib.hid (own_lit' (w := (X.ext dA)) (e := 46) (base := X.heap.size) (C := #[.int .i64 s, .int .i64 z]) (l := [(⟨s, z⟩ : Ctl)]) (g := (X.ext dA).heap.size) Ctl.cells_length rfl (by first | rfl | (simp; done) | (simp [World.size_alloc]; done)) (by first | exact Nat.le_refl _ | exact World.size_ext _ _ | (simp; done) | (simp; omega) | (simp [World.size_alloc]; done) | (simp [World.size_alloc]; omega)))
                (try dsimp only)
                refine hK.out _ _ ?_ (fun hHeld => ?_)
                · (try dsimp only); (refine ⟨?_, ?_, ?_, ?_, ?_⟩ <;> (with_reducible (repeat (first | assumption | refine cell_ext ?_ _ | refine cell_drew ?_ | refine cell_alloc ?_ _))))
                clear hK K
                try simp only [Act.put, List.setIfInBounds_toArray]
                refine wpAnyH_ready (rs := [13]) (by kernel_rfl) (by simp) ?_
                refine AllReadyH.cons rfl (fun K hK => ?_) (AllReadyH.nil)
                refine step_append_gain (W := X) (w := (X.ext dA).alloc (.cells #[.int .i64 s, .int .i64 z] 46)) (base := X.heap.size) (v := vA) (m := [(⟨s, z⟩ : Ctl)]) (u := .slice (some ⟨(X.ext dA).heap.size, 0, none⟩) 1 1) rfl (.tmp 55) (.tmp 63) rfl Try.underlying27 info_Ctl (by rfl) (by omega) Ctl.cells_length Ctl.cells_one (by omega) (by repeat (first | with_reducible (first | exact World.gained_refl _ | exact ⟨_, rfl⟩ | apply gain_ext | apply gain_alloc | apply gain_drewN | apply gain_drew) | (refine gain_setCell ?_ (by first | exact Nat.le_refl _ | exact World.size_ext _ _ | (simp; done) | (simp; omega)) _))) (Nat.le_refl _) (gain_size (by repeat (first | with_reducible (first | exact World.gained_refl _ | exact ⟨_, rfl⟩ | apply gain_ext | apply gain_alloc | apply gain_drewN | apply gain_drew) | (refine gain_setCell ?_ (by first | exact Nat.le_refl _ | exact World.size_ext _ _ | (simp; done) | (simp; omega)) _)))) (by first | rfl | (simp; done) | (simp [World.size_alloc]; done)) (by first | rfl | (simp; done) | (simp [World.size_alloc]; done) | (rw [show rs.length - k = 0 by omega]; rfl)) (own_up HA1.out (by repeat (first | with_reducible (first | exact World.gained_refl _ | exact ⟨_, rfl⟩ | apply gain_ext | apply gain_alloc | apply gain_drewN | apply gain_drew) | (refine gain_setCell ?_ (by first | exact Nat.le_refl _ | exact World.size_ext _ _ | (simp; done) | (simp; omega)) _)))) (sl_up Ctl.cells_length (sl_of_own Ctl.cells_length HU.out) (by repeat (first | with_reducible (first | exact World.gained_refl _ | exact ⟨_, rfl⟩ | apply gain_ext | apply gain_alloc | apply gain_drewN | apply gain_drew) | (refine gain_setCell ?_ (by first | exact Nat.le_refl _ | exact World.size_ext _ _ | (simp; done) | (simp; omega)) _)))) (by simp; omega) ?_
                intro vB dB hoB hgB
                have HA2 := Lib.hid hoB
                clear hoB hgB HA1 HU
                (try dsimp only)
                refine hK.out _ _ ?_ (fun hHeld => ?_)
                · (try dsimp only); (refine ⟨?_, ?_, ?_, ?_, ?_⟩ <;> (with_reducible (repeat (first | assumption | refine cell_ext ?_ _ | refine cell_drew ?_ | refine cell_alloc ?_ _))))
                clear hK K
                try simp only [Act.put, List.setIfInBounds_toArray]
                refine wpAnyH_ready (rs := [17]) (by kernel_rfl) (by simp) ?_
                refine AllReadyH.cons rfl (fun K hK => ?_) (AllReadyH.nil)
                refine step_append_gain (W := X) (w := X.ext dB) (base := X.heap.size) (v := vB) (m := rs.drop k) (u := .slice (some A) (rs.length - k) (cB - k)) rfl (.tmp 64) (.tmp 67) rfl Try.underlying27 info_Ctl (by rfl) (by omega) Ctl.cells_length Ctl.cells_one (by omega) (by repeat (first | with_reducible (first | exact World.gained_refl _ | exact ⟨_, rfl⟩ | apply gain_ext | apply gain_alloc | apply gain_drewN | apply gain_drew) | (refine gain_setCell ?_ (by first | exact Nat.le_refl _ | exact World.size_ext _ _ | (simp; done) | (simp; omega)) _))) (Nat.le_refl _) (gain_size (by repeat (first | with_reducible (first | exact World.gained_refl _ | exact ⟨_, rfl⟩ | apply gain_ext | apply gain_alloc | apply gain_drewN | apply gain_drew) | (refine gain_setCell ?_ (by first | exact Nat.le_refl _ | exact World.size_ext _ _ | (simp; done) | (simp; omega)) _)))) (by first | rfl | (simp; done) | (simp [World.size_alloc]; done)) (by first | rfl | (simp; done) | (simp [World.size_alloc]; done) | (rw [show rs.length - k = 0 by omega]; rfl)) (HA2.out) (sl_drop_any (by with_reducible (repeat (first | exact hs2.out | refine World.sl_ext Ctl.cells_length ?_ _ | refine sl_alloc Ctl.cells_length ?_ _ | refine sl_drew ?_))) (by omega) (by rw [Nat.zero_add]; exact hA)) (by simp; omega) ?_
                intro vC dC hoC hgC
                (try dsimp only)
                refine hK.out _ _ ?_ (fun hHeld => ?_)
                · (try dsimp only); (refine ⟨?_, ?_, ?_, ?_, ?_⟩ <;> (with_reducible (repeat (first | assumption | refine cell_ext ?_ _ | refine cell_drew ?_ | refine cell_alloc ?_ _))))
                clear hK K
                try simp only [Act.put, List.setIfInBounds_toArray]
                refine wpAnyH_take (i := 18) (oi := ⟨_, _, _, _, _, _⟩) (v := ?_) rfl (by kernel_rfl) (by kernel_rfl) (by kernel_rfl) (fun _ _ _ h => h) (Or.inl ⟨by rfl, ?_⟩) (by assumption) ?_
                rotate_left
                · intro w hSw; (try dsimp only at hSw); go_simp; (try with_reducible rfl)
                try simp only [Act.put, List.setIfInBounds_toArray, List.set_cons_zero, List.set_cons_succ]
                refine wpAnyH_done (by kernel_rfl) ?_ _
                rw [hqs] at hoC
                have HQ := Lib.hid hoC
                clear hoC hgC HA2
                obtain ⟨pQ, cQ, rfl, _⟩ := sl_of_own Ctl.cells_length HQ.out
                go_wp2_with fail
                refine (l6Good_any m _ _ _ qs _ (mp_up (mp_up HM1.out HGX.out) (by repeat (first | with_reducible (first | exact World.gained_refl _ | exact ⟨_, rfl⟩ | apply gain_ext | apply gain_alloc | apply gain_drewN | apply gain_drew) | (refine gain_setCell ?_ (by first | exact Nat.le_refl _ | exact World.size_ext _ _ | (simp; done) | (simp; omega)) _)))) (sl_of_own Ctl.cells_length (own_up HQ.out (by repeat (first | with_reducible (first | exact World.gained_refl _ | exact ⟨_, rfl⟩ | apply gain_ext | apply gain_alloc | apply gain_drewN | apply gain_drew) | (refine gain_setCell ?_ (by first | exact Nat.le_refl _ | exact World.size_ext _ _ | (simp; done) | (simp; omega)) _))))) (by omega)).mono ?_
                rw [HIN.out.1]
                cases hB : wCB m l n ⟨s, z⟩ with
                | true =>
                  have HE := Lib.hid (HIN.out.2 hB)
                  rintro e w1 ⟨rfl, d4, rfl⟩
                  go_wp2_with fail
                  go_ret2
                  rw [hB, ← HE.out]
                  exact ⟨_, rfl, gain_trans HGW.out (gain_trans HGX.out (by repeat (first | with_reducible (first | exact World.gained_refl _ | exact ⟨_, rfl⟩ | apply gain_ext | apply gain_alloc | apply gain_drewN | apply gain_drew) | (refine gain_setCell ?_ (by first | exact Nat.le_refl _ | exact World.size_ext _ _ | (simp; done) | (simp; omega)) _)))), own_base (own_up HQ.out (by repeat (first | with_reducible (first | exact World.gained_refl _ | exact ⟨_, rfl⟩ | apply gain_ext | apply gain_alloc | apply gain_drewN | apply gain_drew) | (refine gain_setCell ?_ (by first | exact Nat.le_refl _ | exact World.size_ext _ _ | (simp; done) | (simp; omega)) _)))) (by omega)⟩
                | false =>
                  have HE := Lib.hid (wCL_no hB)
                  rintro e w1 ⟨rfl, d4, rfl⟩
                  go_wp2_with fail
                  go_ret2
                  rw [hB, HE.out]
                  exact ⟨_, rfl, gain_trans HGW.out (gain_trans HGX.out (by repeat (first | with_reducible (first | exact World.gained_refl _ | exact ⟨_, rfl⟩ | apply gain_ext | apply gain_alloc | apply gain_drewN | apply gain_drew) | (refine gain_setCell ?_ (by first | exact Nat.le_refl _ | exact World.size_ext _ _ | (simp; done) | (simp; omega)) _)))), own_lit' (l := ([] : List Ctl)) Ctl.cells_length rfl rfl (by have := World.size_ext X dC; have := World.size_ext (X.ext dC) d4; omega)⟩
              · skip
                go_simp
                have HU := Lib.hid (own_lit' (w := (X.drew.alloc (.cells #[] 46))) (e := 46) (base := X.heap.size) (C := #[.int .i64 s, .int .i64 z]) (l := [(⟨s, z⟩ : Ctl)]) (g := X.heap.size + 1) Ctl.cells_length rfl (by first | rfl | (simp; done) | (simp [World.size_alloc]; done)) (by first | exact Nat.le_refl _ | exact World.size_ext _ _ | (simp; done) | (simp; omega) | (simp [World.size_alloc]; done) | (simp [World.size_alloc]; omega)))
                (try dsimp only)
                refine hK.out _ _ ?_ (fun hHeld => ?_)
                · (try dsimp only); (refine ⟨?_, ?_, ?_, ?_, ?_⟩ <;> (with_reducible (repeat (first | assumption | refine cell_ext ?_ _ | refine cell_drew ?_ | refine cell_alloc ?_ _))))
                clear hK K
                try simp only [Act.put, List.setIfInBounds_toArray]
                refine wpAnyH_ready (rs := [4]) (by kernel_rfl) (by simp) ?_
                refine AllReadyH.cons rfl (fun K hK => ?_) (AllReadyH.nil)
                refine step_append_gain (W := X) (w := (X.drew.alloc (.cells #[] 46)).alloc (.cells #[.int .i64 s, .int .i64 z] 46)) (base := X.heap.size) (v := .slice (some ⟨X.heap.size, 0, none⟩) 0 0) (m := rs.take k) (u := .slice (some ⟨gB, 0, none⟩) k cB) rfl (.tmp 51) (.tmp 54) rfl Try.underlying27 info_Ctl (by rfl) (by omega) Ctl.cells_length Ctl.cells_one (by omega) (by repeat (first | with_reducible (first | exact World.gained_refl _ | exact ⟨_, rfl⟩ | apply gain_ext | apply gain_alloc | apply gain_drewN | apply gain_drew) | (refine gain_setCell ?_ (by first | exact Nat.le_refl _ | exact World.size_ext _ _ | (simp; done) | (simp; omega)) _))) (Nat.le_refl _) (gain_size (by repeat (first | with_reducible (first | exact World.gained_refl _ | exact ⟨_, rfl⟩ | apply gain_ext | apply gain_alloc | apply gain_drewN | apply gain_drew) | (refine gain_setCell ?_ (by first | exact Nat.le_refl _ | exact World.size_ext _ _ | (simp; done) | (simp; omega)) _)))) (by first | rfl | (simp; done) | (simp [World.size_alloc]; done)) (by first | rfl | (simp; done) | (simp [World.size_alloc]; done) | (rw [show rs.length - k = 0 by omega]; rfl)) (own_up HA.out (by repeat (first | with_reducible (first | exact World.gained_refl _ | exact ⟨_, rfl⟩ | apply gain_ext | apply gain_alloc | apply gain_drewN | apply gain_drew) | (refine gain_setCell ?_ (by first | exact Nat.le_refl _ | exact World.size_ext _ _ | (simp; done) | (simp; omega)) _)))) (sl_take (by with_reducible (repeat (first | exact hs2.out | refine World.sl_ext Ctl.cells_length ?_ _ | refine sl_alloc Ctl.cells_length ?_ _ | refine sl_drew ?_))) (by omega)) (by simp; omega) ?_
                intro vA dA hoA hgA
                rw [List.nil_append] at hoA
                replace HU := Lib.hid (own_mark (own_up HU.out (w' := _) (by repeat (first | with_reducible (first | exact World.gained_refl _ | exact ⟨_, rfl⟩ | apply gain_ext | apply gain_alloc | apply gain_drewN | apply gain_drew) | (refine gain_setCell ?_ (by first | exact Nat.le_refl _ | exact World.size_ext _ _ | (simp; done) | (simp; omega)) _)))) hgA (by first | (simp; done) | (simp [Value.ownBlock]; done) | (simp [Value.ownBlock, World.size_alloc]; done)))
                have HA1 := Lib.hid hoA
                clear hoA hgA HA
                (try dsimp only)
                refine hK.out _ _ ?_ (fun hHeld => ?_)
                · (try dsimp only); (refine ⟨?_, ?_, ?_, ?_, ?_⟩ <;> (with_reducible (repeat (first | assumption | refine cell_ext ?_ _ | refine cell_drew ?_ | refine cell_alloc ?_ _))))
                clear hK K
                try simp only [Act.put, List.setIfInBounds_toArray]
                refine wpAnyH_ready (rs := [13]) (by kernel_rfl) (by simp) ?_
                refine AllReadyH.cons rfl (fun K hK => ?_) (AllReadyH.nil)
                refine step_append_gain (W := X) (w := X.ext dA) (base := X.heap.size) (v := vA) (m := [(⟨s, z⟩ : Ctl)]) (u := .slice (some ⟨X.heap.size + 1, 0, none⟩) 1 1) rfl (.tmp 55) (.tmp 63) rfl Try.underlying27 info_Ctl (by rfl) (by omega) Ctl.cells_length Ctl.cells_one (by omega) (by repeat (first | with_reducible (first | exact World.gained_refl _ | exact ⟨_, rfl⟩ | apply gain_ext | apply gain_alloc | apply gain_drewN | apply gain_drew) | (refine gain_setCell ?_ (by first | exact Nat.le_refl _ | exact World.size_ext _ _ | (simp; done) | (simp; omega)) _))) (Nat.le_refl _) (gain_size (by repeat (first | with_reducible (first | exact World.gained_refl _ | exact ⟨_, rfl⟩ | apply gain_ext | apply gain_alloc | apply gain_drewN | apply gain_drew) | (refine gain_setCell ?_ (by first | exact Nat.le_refl _ | exact World.size_ext _ _ | (simp; done) | (simp; omega)) _)))) (by first | rfl | (simp; done) | (simp [World.size_alloc]; done)) (by first | rfl | (simp; done) | (simp [World.size_alloc]; done) | (rw [show rs.length - k = 0 by omega]; rfl)) (own_up HA1.out (by repeat (first | with_reducible (first | exact World.gained_refl _ | exact ⟨_, rfl⟩ | apply gain_ext | apply gain_alloc | apply gain_drewN | apply gain_drew) | (refine gain_setCell ?_ (by first | exact Nat.le_refl _ | exact World.size_ext _ _ | (simp; done) | (simp; omega)) _)))) (sl_up Ctl.cells_length (sl_of_own Ctl.cells_length HU.out) (by repeat (first | with_reducible (first | exact World.gained_refl _ | exact ⟨_, rfl⟩ | apply gain_ext | apply gain_alloc | apply gain_drewN | apply gain_drew) | (refine gain_setCell ?_ (by first | exact Nat.le_refl _ | exact World.size_ext _ _ | (simp; done) | (simp; omega)) _)))) (by simp; omega) ?_
                intro vB dB hoB hgB
                have HA2 := Lib.hid hoB
                clear hoB hgB HA1 HU
                (try dsimp only)
                refine hK.out _ _ ?_ (fun hHeld => ?_)
                · (try dsimp only); (refine ⟨?_, ?_, ?_, ?_, ?_⟩ <;> (with_reducible (repeat (first | assumption | refine cell_ext ?_ _ | refine cell_drew ?_ | refine cell_alloc ?_ _))))
                clear hK K
                try simp only [Act.put, List.setIfInBounds_toArray]
                refine wpAnyH_ready (rs := [17]) (by kernel_rfl) (by simp) ?_
                refine AllReadyH.cons rfl (fun K hK => ?_) (AllReadyH.nil)
                refine step_append_gain (W := X) (w := X.ext dB) (base := X.heap.size) (v := vB) (m := rs.drop k) (u := .slice (some A) (rs.length - k) (cB - k)) rfl (.tmp 64) (.tmp 67) rfl Try.underlying27 info_Ctl (by rfl) (by omega) Ctl.cells_length Ctl.cells_one (by omega) (by repeat (first | with_reducible (first | exact World.gained_refl _ | exact ⟨_, rfl⟩ | apply gain_ext | apply gain_alloc | apply gain_drewN | apply gain_drew) | (refine gain_setCell ?_ (by first | exact Nat.le_refl _ | exact World.size_ext _ _ | (simp; done) | (simp; omega)) _))) (Nat.le_refl _) (gain_size (by repeat (first | with_reducible (first | exact World.gained_refl _ | exact ⟨_, rfl⟩ | apply gain_ext | apply gain_alloc | apply gain_drewN | apply gain_drew) | (refine gain_setCell ?_ (by first | exact Nat.le_refl _ | exact World.size_ext _ _ | (simp; done) | (simp; omega)) _)))) (by first | rfl | (simp; done) | (simp [World.size_alloc]; done)) (by first | rfl | (simp; done) | (simp [World.size_alloc]; done) | (rw [show rs.length - k = 0 by omega]; rfl)) (HA2.out) (sl_drop_any (by with_reducible (repeat (first | exact hs2.out | refine World.sl_ext Ctl.cells_length ?_ _ | refine sl_alloc Ctl.cells_length ?_ _ | refine sl_drew ?_))) (by omega) (by rw [Nat.zero_add]; exact hA)) (by simp; omega) ?_
                intro vC dC hoC hgC
                (try dsimp only)
                refine hK.out _ _ ?_ (fun hHeld => ?_)
                · (try dsimp only); (refine ⟨?_, ?_, ?_, ?_, ?_⟩ <;> (with_reducible (repeat (first | assumption | refine cell_ext ?_ _ | refine cell_drew ?_ | refine cell_alloc ?_ _))))
                clear hK K
                try simp only [Act.put, List.setIfInBounds_toArray]
                refine wpAnyH_take (i := 18) (oi := ⟨_, _, _, _, _, _⟩) (v := ?_) rfl (by kernel_rfl) (by kernel_rfl) (by kernel_rfl) (fun _ _ _ h => h) (Or.inl ⟨by rfl, ?_⟩) (by assumption) ?_
                rotate_left
                · intro w hSw; (try dsimp only at hSw); go_simp; (try with_reducible rfl)
                try simp only [Act.put, List.setIfInBounds_toArray, List.set_cons_zero, List.set_cons_succ]
                refine wpAnyH_done (by kernel_rfl) ?_ _
                rw [hqs] at hoC
                have HQ := Lib.hid hoC
                clear hoC hgC HA2
                obtain ⟨pQ, cQ, rfl, _⟩ := sl_of_own Ctl.cells_length HQ.out
                go_wp2_with fail
                refine (l6Good_any m _ _ _ qs _ (mp_up (mp_up HM1.out HGX.out) (by repeat (first | with_reducible (first | exact World.gained_refl _ | exact ⟨_, rfl⟩ | apply gain_ext | apply gain_alloc | apply gain_drewN | apply gain_drew) | (refine gain_setCell ?_ (by first | exact Nat.le_refl _ | exact World.size_ext _ _ | (simp; done) | (simp; omega)) _)))) (sl_of_own Ctl.cells_length (own_up HQ.out (by repeat (first | with_reducible (first | exact World.gained_refl _ | exact ⟨_, rfl⟩ | apply gain_ext | apply gain_alloc | apply gain_drewN | apply gain_drew) | (refine gain_setCell ?_ (by first | exact Nat.le_refl _ | exact World.size_ext _ _ | (simp; done) | (simp; omega)) _))))) (by omega)).mono ?_
                rw [HIN.out.1]
                cases hB : wCB m l n ⟨s, z⟩ with
                | true =>
                  have HE := Lib.hid (HIN.out.2 hB)
                  rintro e w1 ⟨rfl, d4, rfl⟩
                  go_wp2_with fail
                  go_ret2
                  rw [hB, ← HE.out]
                  exact ⟨_, rfl, gain_trans HGW.out (gain_trans HGX.out (by repeat (first | with_reducible (first | exact World.gained_refl _ | exact ⟨_, rfl⟩ | apply gain_ext | apply gain_alloc | apply gain_drewN | apply gain_drew) | (refine gain_setCell ?_ (by first | exact Nat.le_refl _ | exact World.size_ext _ _ | (simp; done) | (simp; omega)) _)))), own_base (own_up HQ.out (by repeat (first | with_reducible (first | exact World.gained_refl _ | exact ⟨_, rfl⟩ | apply gain_ext | apply gain_alloc | apply gain_drewN | apply gain_drew) | (refine gain_setCell ?_ (by first | exact Nat.le_refl _ | exact World.size_ext _ _ | (simp; done) | (simp; omega)) _)))) (by omega)⟩
                | false =>
                  have HE := Lib.hid (wCL_no hB)
                  rintro e w1 ⟨rfl, d4, rfl⟩
                  go_wp2_with fail
                  go_ret2
                  rw [hB, HE.out]
                  exact ⟨_, rfl, gain_trans HGW.out (gain_trans HGX.out (by repeat (first | with_reducible (first | exact World.gained_refl _ | exact ⟨_, rfl⟩ | apply gain_ext | apply gain_alloc | apply gain_drewN | apply gain_drew) | (refine gain_setCell ?_ (by first | exact Nat.le_refl _ | exact World.size_ext _ _ | (simp; done) | (simp; omega)) _)))), own_lit' (l := ([] : List Ctl)) Ctl.cells_length rfl rfl (by have := World.size_ext X dC; have := World.size_ext (X.ext dC) d4; omega)⟩
            · skip
              go_simp
              have HU := Lib.hid (own_lit' (w := X.drew) (e := 46) (base := X.heap.size) (C := #[.int .i64 s, .int .i64 z]) (l := [(⟨s, z⟩ : Ctl)]) (g := X.heap.size) Ctl.cells_length rfl (by first | rfl | (simp; done) | (simp [World.size_alloc]; done)) (by first | exact Nat.le_refl _ | exact World.size_ext _ _ | (simp; done) | (simp; omega) | (simp [World.size_alloc]; done) | (simp [World.size_alloc]; omega)))
              (try dsimp only)
              refine hK.out _ _ ?_ (fun hHeld => ?_)
              · (try dsimp only); (refine ⟨?_, ?_, ?_, ?_, ?_⟩ <;> (with_reducible (repeat (first | assumption | refine cell_ext ?_ _ | refine cell_drew ?_ | refine cell_alloc ?_ _))))
              clear hK K
              try simp only [Act.put, List.setIfInBounds_toArray]
              refine wpAnyH_ready (rs := [0]) (by kernel_rfl) (by simp) ?_
              refine AllReadyH.cons rfl (fun K hK => ?_) (AllReadyH.nil)
              go_simp
              have HA := Lib.hid (own_lit' (w := (X.drew.alloc (.cells #[.int .i64 s, .int .i64 z] 46))) (e := 46) (base := X.heap.size) (C := #[]) (l := ([] : List Ctl)) (g := X.heap.size + 1) Ctl.cells_length rfl (by first | rfl | (simp; done) | (simp [World.size_alloc]; done)) (by first | exact Nat.le_refl _ | exact World.size_ext _ _ | (simp; done) | (simp; omega) | (simp [World.size_alloc]; done) | (simp [World.size_alloc]; omega)))
              (try dsimp only)
              refine hK.out _ _ ?_ (fun hHeld => ?_)
              · (try dsimp only); (refine ⟨?_, ?_, ?_, ?_, ?_⟩ <;> (with_reducible (repeat (first | assumption | refine cell_ext ?_ _ | refine cell_drew ?_ | refine cell_alloc ?_ _))))
              clear hK K
              try simp only [Act.put, List.setIfInBounds_toArray]
              refine wpAnyH_ready (rs := [4]) (by kernel_rfl) (by simp) ?_
              refine AllReadyH.cons rfl (fun K hK => ?_) (AllReadyH.nil)
              refine step_append_gain (W := X) (w := (X.drew.alloc (.cells #[.int .i64 s, .int .i64 z] 46)).alloc (.cells #[] 46)) (base := X.heap.size) (v := .slice (some ⟨X.heap.size + 1, 0, none⟩) 0 0) (m := rs.take k) (u := .slice (some ⟨gB, 0, none⟩) k cB) rfl (.tmp 51) (.tmp 54) rfl Try.underlying27 info_Ctl (by rfl) (by omega) Ctl.cells_length Ctl.cells_one (by omega) (by repeat (first | with_reducible (first | exact World.gained_refl _ | exact ⟨_, rfl⟩ | apply gain_ext | apply gain_alloc | apply gain_drewN | apply gain_drew) | (refine gain_setCell ?_ (by first | exact Nat.le_refl _ | exact World.size_ext _ _ | (simp; done) | (simp; omega)) _))) (Nat.le_refl _) (gain_size (by repeat (first | with_reducible (first | exact World.gained_refl _ | exact ⟨_, rfl⟩ | apply gain_ext | apply gain_alloc | apply gain_drewN | apply gain_drew) | (refine gain_setCell ?_ (by first | exact Nat.le_refl _ | exact World.size_ext _ _ | (simp; done) | (simp; omega)) _)))) (by first | rfl | (simp; done) | (simp [World.size_alloc]; done)) (by first | rfl | (simp; done) | (simp [World.size_alloc]; done) | (rw [show rs.length - k = 0 by omega]; rfl)) (HA.out) (sl_take (by with_reducible (repeat (first | exact hs2.out | refine World.sl_ext Ctl.cells_length ?_ _ | refine sl_alloc Ctl.cells_length ?_ _ | refine sl_drew ?_))) (by omega)) (by simp; omega) ?_
              intro vA dA hoA hgA
              rw [List.nil_append] at hoA
              replace HU := Lib.hid (own_mark (own_up HU.out (w' := _) (by repeat (first | with_reducible (first | exact World.gained_refl _ | exact ⟨_, rfl⟩ | apply gain_ext | apply gain_alloc | apply gain_drewN | apply gain_drew) | (refine gain_setCell ?_ (by first | exact Nat.le_refl _ | exact World.size_ext _ _ | (simp; done) | (simp; omega)) _)))) hgA (by first | (simp; done) | (simp [Value.ownBlock]; done) | (simp [Value.ownBlock, World.size_alloc]; done)))
              have HA1 := Lib.hid hoA
              clear hoA hgA HA
              (try dsimp only)
              refine hK.out _ _ ?_ (fun hHeld => ?_)
              · (try dsimp only); (refine ⟨?_, ?_, ?_, ?_, ?_⟩ <;> (with_reducible (repeat (first | assumption | refine cell_ext ?_ _ | refine cell_drew ?_ | refine cell_alloc ?_ _))))
              clear hK K
              try simp only [Act.put, List.setIfInBounds_toArray]
              refine wpAnyH_ready (rs := [13]) (by kernel_rfl) (by simp) ?_
              refine AllReadyH.cons rfl (fun K hK => ?_) (AllReadyH.nil)
              refine step_append_gain (W := X) (w := X.ext dA) (base := X.heap.size) (v := vA) (m := [(⟨s, z⟩ : Ctl)]) (u := .slice (some ⟨X.heap.size, 0, none⟩) 1 1) rfl (.tmp 55) (.tmp 63) rfl Try.underlying27 info_Ctl (by rfl) (by omega) Ctl.cells_length Ctl.cells_one (by omega) (by repeat (first | with_reducible (first | exact World.gained_refl _ | exact ⟨_, rfl⟩ | apply gain_ext | apply gain_alloc | apply gain_drewN | apply gain_drew) | (refine gain_setCell ?_ (by first | exact Nat.le_refl _ | exact World.size_ext _ _ | (simp; done) | (simp; omega)) _))) (Nat.le_refl _) (gain_size (by repeat (first | with_reducible (first | exact World.gained_refl _ | exact ⟨_, rfl⟩ | apply gain_ext | apply gain_alloc | apply gain_drewN | apply gain_drew) | (refine gain_setCell ?_ (by first | exact Nat.le_refl _ | exact World.size_ext _ _ | (simp; done) | (simp; omega)) _)))) (by first | rfl | (simp; done) | (simp [World.size_alloc]; done)) (by first | rfl | (simp; done) | (simp [World.size_alloc]; done) | (rw [show rs.length - k = 0 by omega]; rfl)) (own_up HA1.out (by repeat (first | with_reducible (first | exact World.gained_refl _ | exact ⟨_, rfl⟩ | apply gain_ext | apply gain_alloc | apply gain_drewN | apply gain_drew) | (refine gain_setCell ?_ (by first | exact Nat.le_refl _ | exact World.size_ext _ _ | (simp; done) | (simp; omega)) _)))) (sl_up Ctl.cells_length (sl_of_own Ctl.cells_length HU.out) (by repeat (first | with_reducible (first | exact World.gained_refl _ | exact ⟨_, rfl⟩ | apply gain_ext | apply gain_alloc | apply gain_drewN | apply gain_drew) | (refine gain_setCell ?_ (by first | exact Nat.le_refl _ | exact World.size_ext _ _ | (simp; done) | (simp; omega)) _)))) (by simp; omega) ?_
              intro vB dB hoB hgB
              have HA2 := Lib.hid hoB
              clear hoB hgB HA1 HU
              (try dsimp only)
              refine hK.out _ _ ?_ (fun hHeld => ?_)
              · (try dsimp only); (refine ⟨?_, ?_, ?_, ?_, ?_⟩ <;> (with_reducible (repeat (first | assumption | refine cell_ext ?_ _ | refine cell_drew ?_ | refine cell_alloc ?_ _))))
              clear hK K
              try simp only [Act.put, List.setIfInBounds_toArray]
              refine wpAnyH_ready (rs := [17]) (by kernel_rfl) (by simp) ?_
              refine AllReadyH.cons rfl (fun K hK => ?_) (AllReadyH.nil)
              refine step_append_gain (W := X) (w := X.ext dB) (base := X.heap.size) (v := vB) (m := rs.drop k) (u := .slice (some A) (rs.length - k) (cB - k)) rfl (.tmp 64) (.tmp 67) rfl Try.underlying27 info_Ctl (by rfl) (by omega) Ctl.cells_length Ctl.cells_one (by omega) (by repeat (first | with_reducible (first | exact World.gained_refl _ | exact ⟨_, rfl⟩ | apply gain_ext | apply gain_alloc | apply gain_drewN | apply gain_drew) | (refine gain_setCell ?_ (by first | exact Nat.le_refl _ | exact World.size_ext _ _ | (simp; done) | (simp; omega)) _))) (Nat.le_refl _) (gain_size (by repeat (first | with_reducible (first | exact World.gained_refl _ | exact ⟨_, rfl⟩ | apply gain_ext | apply gain_alloc | apply gain_drewN | apply gain_drew) | (refine gain_setCell ?_ (by first | exact Nat.le_refl _ | exact World.size_ext _ _ | (simp; done) | (simp; omega)) _)))) (by first | rfl | (simp; done) | (simp [World.size_alloc]; done)) (by first | rfl | (simp; done) | (simp [World.size_alloc]; done) | (rw [show rs.length - k = 0 by omega]; rfl)) (HA2.out) (sl_drop_any (by with_reducible (repeat (first | exact hs2.out | refine World.sl_ext Ctl.cells_length ?_ _ | refine sl_alloc Ctl.cells_length ?_ _ | refine sl_drew ?_))) (by omega) (by rw [Nat.zero_add]; exact hA)) (by simp; omega) ?_
              intro vC dC hoC hgC
              (try dsimp only)
              refine hK.out _ _ ?_ (fun hHeld => ?_)
              · (try dsimp only); (refine ⟨?_, ?_, ?_, ?_, ?_⟩ <;> (with_reducible (repeat (first | assumption | refine cell_ext ?_ _ | refine cell_drew ?_ | refine cell_alloc ?_ _))))
              clear hK K
              try simp only [Act.put, List.setIfInBounds_toArray]
              refine wpAnyH_take (i := 18) (oi := ⟨_, _, _, _, _, _⟩) (v := ?_) rfl (by kernel_rfl) (by kernel_rfl) (by kernel_rfl) (fun _ _ _ h => h) (Or.inl ⟨by rfl, ?_⟩) (by assumption) ?_
              rotate_left
              · intro w hSw; (try dsimp only at hSw); go_simp; (try with_reducible rfl)
              try simp only [Act.put, List.setIfInBounds_toArray, List.set_cons_zero, List.set_cons_succ]
              refine wpAnyH_done (by kernel_rfl) ?_ _
              rw [hqs] at hoC
              have HQ := Lib.hid hoC
              clear hoC hgC HA2
              obtain ⟨pQ, cQ, rfl, _⟩ := sl_of_own Ctl.cells_length HQ.out
              go_wp2_with fail
              refine (l6Good_any m _ _ _ qs _ (mp_up (mp_up HM1.out HGX.out) (by repeat (first | with_reducible (first | exact World.gained_refl _ | exact ⟨_, rfl⟩ | apply gain_ext | apply gain_alloc | apply gain_drewN | apply gain_drew) | (refine gain_setCell ?_ (by first | exact Nat.le_refl _ | exact World.size_ext _ _ | (simp; done) | (simp; omega)) _)))) (sl_of_own Ctl.cells_length (own_up HQ.out (by repeat (first | with_reducible (first | exact World.gained_refl _ | exact ⟨_, rfl⟩ | apply gain_ext | apply gain_alloc | apply gain_drewN | apply gain_drew) | (refine gain_setCell ?_ (by first | exact Nat.le_refl _ | exact World.size_ext _ _ | (simp; done) | (simp; omega)) _))))) (by omega)).mono ?_
              rw [HIN.out.1]
              cases hB : wCB m l n ⟨s, z⟩ with
              | true =>
                have HE := Lib.hid (HIN.out.2 hB)
                rintro e w1 ⟨rfl, d4, rfl⟩
                go_wp2_with fail
                go_ret2
                rw [hB, ← HE.out]
                exact ⟨_, rfl, gain_trans HGW.out (gain_trans HGX.out (by repeat (first | with_reducible (first | exact World.gained_refl _ | exact ⟨_, rfl⟩ | apply gain_ext | apply gain_alloc | apply gain_drewN | apply gain_drew) | (refine gain_setCell ?_ (by first | exact Nat.le_refl _ | exact World.size_ext _ _ | (simp; done) | (simp; omega)) _)))), own_base (own_up HQ.out (by repeat (first | with_reducible (first | exact World.gained_refl _ | exact ⟨_, rfl⟩ | apply gain_ext | apply gain_alloc | apply gain_drewN | apply gain_drew) | (refine gain_setCell ?_ (by first | exact Nat.le_refl _ | exact World.size_ext _ _ | (simp; done) | (simp; omega)) _)))) (by omega)⟩
              | false =>
                have HE := Lib.hid (wCL_no hB)
                rintro e w1 ⟨rfl, d4, rfl⟩
                go_wp2_with fail
                go_ret2
                rw [hB, HE.out]
                exact ⟨_, rfl, gain_trans HGW.out (gain_trans HGX.out (by repeat (first | with_reducible (first | exact World.gained_refl _ | exact ⟨_, rfl⟩ | apply gain_ext | apply gain_alloc | apply gain_drewN | apply gain_drew) | (refine gain_setCell ?_ (by first | exact Nat.le_refl _ | exact World.size_ext _ _ | (simp; done) | (simp; omega)) _)))), own_lit' (l := ([] : List Ctl)) Ctl.cells_length rfl rfl (by have := World.size_ext X dC; have := World.size_ext (X.ext dC) d4; omega)⟩
        · have HIN := Lib.hid (HINS.out k hk HN.out (fun h => absurd h hlt2))
          have hlt2d : decide ((k : Int) < (rs.length : Int)) = false := decide_eq_false (by omega)
          have hk9 : rs.length ≤ k := by omega
          have hkc : k ≤ cB := by omega
          have hk0 : (0 : Int) ≤ (k : Int) := by omega
          have hk1 : (k : Int) ≤ (cB : Int) := by omega
          have hk2 : (k : Int) ≤ (rs.length : Int) := by omega
          cases pB with
          | none =>
            go_upto_region 8 with fail
            obtain ⟨qs, hqs⟩ : ∃ qs, rs.take k ++ [(⟨s, z⟩ : Ctl)] ++ rs.drop k = qs := ⟨_, rfl⟩
            have HQL : qs.length ≤ 11 := by have := HLR.out; rw [← hqs]; simp; omega
            rw [hqs] at HIN
            have HGX : Hid (∃ dd, (W1.ext dB).ext d = W1.ext dd) := Lib.hid (by repeat (first | with_reducible (first | exact World.gained_refl _ | exact ⟨_, rfl⟩ | apply gain_ext | apply gain_alloc | apply gain_drewN | apply gain_drew) | (refine gain_setCell ?_ (by first | exact Nat.le_refl _ | exact World.size_ext _ _ | (simp; done) | (simp; omega)) _)))
            generalize (W1.ext dB).ext d = X at HGX hs2 HR2 ⊢
            have by0 := cell_up bx0 HGX.out
            have by1 := cell_up bx1 HGX.out
            have by2 := cell_up bx2 HGX.out
            have by3 := cell_up bx3 HGX.out
            have cy1 := cell_up cx1 HGX.out
            have obX := World.oldB_of_cell by0
            have obC := World.oldB_of_cell cy1
            have hXs : W1.heap.size ≤ X.heap.size := gain_size HGX.out
            skip
            refine wp_region_held_drew (S := (fun w' => w'.cell? ⟨gM, 0, none⟩ = some (.int .i64 m.wd) ∧ w'.cell? ⟨gM, 1, none⟩ = some (.int .i64 m.ht) ∧ w'.cell? ⟨gM, 2, none⟩ = some (.slice p1 m.rise.length c1) ∧ w'.cell? ⟨gM, 3, none⟩ = some (.slice p2 m.cost.length c2) ∧ w'.cell? ⟨b, o + n * 2 + 1, none⟩ = some (.int .i64 z))) (by kernel_rfl) (by (try dsimp only); (refine ⟨?_, ?_, ?_, ?_, ?_⟩ <;> (with_reducible (repeat (first | assumption | refine cell_ext ?_ _ | refine cell_drew ?_ | refine cell_alloc ?_ _))))) (fun hHeld => ?_)
            refine wpAnyH_take (i := 1) (oi := ⟨_, _, _, _, _, _⟩) (v := ?_) rfl (by kernel_rfl) (by kernel_rfl) (by kernel_rfl) (fun _ _ _ h => h) (Or.inl ⟨by rfl, ?_⟩) (by assumption) ?_
            rotate_left
            · intro w hSw; (try dsimp only at hSw); go_simp; (try with_reducible rfl)
            try simp only [Act.put, List.setIfInBounds_toArray, List.set_cons_zero, List.set_cons_succ]
            refine wpAnyH_take (i := 2) (oi := ⟨_, _, _, _, _, _⟩) (v := ?_) rfl (by kernel_rfl) (by kernel_rfl) (by kernel_rfl) (fun _ _ _ h => h) (Or.inl ⟨by rfl, ?_⟩) (by assumption) ?_
            rotate_left
            · intro w hSw; (try dsimp only at hSw); go_simp; (try with_reducible rfl)
            try simp only [Act.put, List.setIfInBounds_toArray, List.set_cons_zero, List.set_cons_succ]
            refine wpAnyH_take (i := 3) (oi := ⟨_, _, _, _, _, _⟩) (v := ?_) rfl (by kernel_rfl) (by kernel_rfl) (by kernel_rfl) (fun _ _ _ h => h) (Or.inl ⟨by rfl, ?_⟩) (by assumption) ?_
            rotate_left
            · intro w hSw; (try dsimp only at hSw); go_simp; (try with_reducible rfl)
            try simp only [Act.put, List.setIfInBounds_toArray, List.set_cons_zero, List.set_cons_succ]
            refine wpAnyH_take (i := 5) (oi := ⟨_, _, _, _, _, _⟩) (v := ?_) rfl (by kernel_rfl) (by kernel_rfl) (by kernel_rfl) (fun _ _ _ h => h) (Or.inl ⟨by rfl, ?_⟩) (by assumption) ?_
            rotate_left
            · intro w hSw; (try dsimp only at hSw); go_simp; (try with_reducible rfl)
            try simp only [Act.put, List.setIfInBounds_toArray, List.set_cons_zero, List.set_cons_succ]
            refine wpAnyH_take (i := 6) (oi := ⟨_, _, _, _, _, _⟩) (v := ?_) rfl (by kernel_rfl) (by kernel_rfl) (by kernel_rfl) (fun _ _ _ h => h) (Or.inl ⟨by rfl, ?_⟩) (by assumption) ?_
            rotate_left
            · intro w hSw; (try dsimp only at hSw); go_simp; (try with_reducible rfl)
            try simp only [Act.put, List.setIfInBounds_toArray, List.set_cons_zero, List.set_cons_succ]
            refine wpAnyH_take (i := 7) (oi := ⟨_, _, _, _, _, _⟩) (v := ?_) rfl (by kernel_rfl) (by kernel_rfl) (by kernel_rfl) (fun _ _ _ h => h) (Or.inl ⟨by rfl, ?_⟩) (by assumption) ?_
            rotate_left
            · intro w hSw; (try dsimp only at hSw); go_simp; (try with_reducible rfl)
            try simp only [Act.put, List.setIfInBounds_toArray, List.set_cons_zero, List.set_cons_succ]
            refine wpAnyH_take (i := 8) (oi := ⟨_, _, _, _, _, _⟩) (v := ?_) rfl (by kernel_rfl) (by kernel_rfl) (by kernel_rfl) (fun _ _ _ h => h) (Or.inl ⟨by rfl, ?_⟩) (by assumption) ?_
            rotate_left
            · intro w hSw; (try dsimp only at hSw); go_simp; (try with_reducible rfl)
            try simp only [Act.put, List.setIfInBounds_toArray, List.set_cons_zero, List.set_cons_succ]
            refine wpAnyH_take (i := 9) (oi := ⟨_, _, _, _, _, _⟩) (v := ?_) rfl (by kernel_rfl) (by kernel_rfl) (by kernel_rfl) (fun _ _ _ h => h) (Or.inl ⟨by rfl, ?_⟩) (by assumption) ?_
            rotate_left
            · intro w hSw; (try dsimp only at hSw); go_simp; (try with_reducible rfl)
            try simp only [Act.put, List.setIfInBounds_toArray, List.set_cons_zero, List.set_cons_succ]
            refine wpAnyH_take (i := 10) (oi := ⟨_, _, _, _, _, _⟩) (v := ?_) rfl (by kernel_rfl) (by kernel_rfl) (by kernel_rfl) (fun _ _ _ h => h) (Or.inl ⟨by rfl, ?_⟩) (by assumption) ?_
            rotate_left
            · intro w hSw; (try dsimp only at hSw); go_simp; (try with_reducible rfl)
            try simp only [Act.put, List.setIfInBounds_toArray, List.set_cons_zero, List.set_cons_succ]
            refine wpAnyH_take (i := 11) (oi := ⟨_, _, _, _, _, _⟩) (v := ?_) rfl (by kernel_rfl) (by kernel_rfl) (by kernel_rfl) (fun _ _ _ h => h) (Or.inl ⟨by rfl, ?_⟩) (by assumption) ?_
            rotate_left
            · intro w hSw; (try dsimp only at hSw); go_simp; (try with_reducible rfl)
            try simp only [Act.put, List.setIfInBounds_toArray, List.set_cons_zero, List.set_cons_succ]
            refine wpAnyH_take (i := 14) (oi := ⟨_, _, _, _, _, _⟩) (v := ?_) rfl (by kernel_rfl) (by kernel_rfl) (by kernel_rfl) (fun _ _ _ h => h) (Or.inl ⟨by rfl, ?_⟩) (by assumption) ?_
            rotate_left
            · intro w hSw; (try dsimp only at hSw); go_simp; (try with_reducible rfl)
            try simp only [Act.put, List.setIfInBounds_toArray, List.set_cons_zero, List.set_cons_succ]
            refine wpAnyH_take (i := 15) (oi := ⟨_, _, _, _, _, _⟩) (v := ?_) rfl (by kernel_rfl) (by kernel_rfl) (by kernel_rfl) (fun _ _ _ h => h) (Or.inl ⟨by rfl, ?_⟩) (by assumption) ?_
            rotate_left
            · intro w hSw; (try dsimp only at hSw); go_simp; (try with_reducible rfl)
            try simp only [Act.put, List.setIfInBounds_toArray, List.set_cons_zero, List.set_cons_succ]
            refine wpAnyH_take (i := 16) (oi := ⟨_, _, _, _, _, _⟩) (v := ?_) rfl (by kernel_rfl) (by kernel_rfl) (by kernel_rfl) (fun _ _ _ h => h) (Or.inl ⟨by rfl, ?_⟩) (by assumption) ?_
            rotate_left
            · intro w hSw; (try dsimp only at hSw); go_simp; (try with_reducible rfl)
            try simp only [Act.put, List.setIfInBounds_toArray, List.set_cons_zero, List.set_cons_succ]
            refine wpAnyH_ready (rs := [0, 12]) (by kernel_rfl) (by simp) ?_
            refine AllReadyH.cons rfl (fun K hK => ?_) (AllReadyH.cons rfl (fun K hK => ?_) (AllReadyH.nil))
            · skip
              go_simp
              have HA := Lib.hid (own_lit' (w := X.drew) (e := 46) (base := X.heap.size) (C := #[]) (l := ([] : List Ctl)) (g := X.heap.size) Ctl.cells_length rfl (by first | rfl | (simp; done) | (simp [World.size_alloc]; done)) (by first | exact Nat.le_refl _ | exact World.size_ext _ _ | (simp; done) | (simp; omega) | (simp [World.size_alloc]; done) | (simp [World.size_alloc]; omega)))
              (try dsimp only)
              refine hK.out _ _ ?_ (fun hHeld => ?_)
              · (try dsimp only); (refine ⟨?_, ?_, ?_, ?_, ?_⟩ <;> (with_reducible (repeat (first | assumption | refine cell_ext ?_ _ | refine cell_drew ?_ | refine cell_alloc ?_ _))))
              clear hK K
              try simp only [Act.put, List.setIfInBounds_toArray]
              refine wpAnyH_ready (rs := [4, 12]) (by kernel_rfl) (by simp) ?_
              refine AllReadyH.cons rfl (fun K hK => ?_) (AllReadyH.cons rfl (fun K hK => ?_) (AllReadyH.nil))
              · skip
                refine step_append_gain (W := X) (w := X.drew.alloc (.cells #[] 46)) (base := X.heap.size) (v := .slice (some ⟨X.heap.size, 0, none⟩) 0 0) (m := rs.take k) (u := .slice none k cB) rfl (.tmp 51) (.tmp 54) rfl Try.underlying27 info_Ctl (by rfl) (by omega) Ctl.cells_length Ctl.cells_one (by omega) (by repeat (first | with_reducible (first | exact World.gained_refl _ | exact ⟨_, rfl⟩ | apply gain_ext | apply gain_alloc | apply gain_drewN | apply gain_drew) | (refine gain_setCell ?_ (by first | exact Nat.le_refl _ | exact World.size_ext _ _ | (simp; done) | (simp; omega)) _))) (Nat.le_refl _) (gain_size (by repeat (first | with_reducible (first | exact World.gained_refl _ | exact ⟨_, rfl⟩ | apply gain_ext | apply gain_alloc | apply gain_drewN | apply gain_drew) | (refine gain_setCell ?_ (by first | exact Nat.le_refl _ | exact World.size_ext _ _ | (simp; done) | (simp; omega)) _)))) (by first | rfl | (simp; done) | (simp [World.size_alloc]; done)) (by first | rfl | (simp; done) | (simp [World.size_alloc]; done) | (rw [show rs.length - k = 0 by omega]; rfl)) (HA.out) (sl_take (by with_reducible (repeat (first | exact hs2.out | refine World.sl_ext Ctl.cells_length ?_ _ | refine sl_alloc Ctl.cells_length ?_ _ | refine sl_drew ?_))) (by omega)) (by simp; omega) ?_
                intro vA dA hoA hgA
                rw [List.nil_append] at hoA
                have HA1 := Lib.hid hoA
                clear hoA hgA HA
                (try dsimp only)
                refine hK.out _ _ ?_ (fun hHeld => ?_)
                · (try dsimp only); (refine ⟨?_, ?_, ?_, ?_, ?_⟩ <;> (with_reducible (repeat (first | assumption | refine cell_ext ?_ _ | refine cell_drew ?_ | refine cell_alloc ?_ _))))
                clear hK K
                try simp only [Act.put, List.setIfInBounds_toArray]
                refine wpAnyH_ready (rs := [12]) (by kernel_rfl) (by simp) ?_
                refine AllReadyH.cons rfl (fun K hK => ?_) (AllReadyH.nil)
                go_simp
                have HU := Lib.hid (own_lit' (w := (X.ext dA)) (e := 46) (base := X.heap.size) (C := #[.int .i64 s, .int .i64 z]) (l := [(⟨s, z⟩ : Ctl)]) (g := (X.ext dA).heap.size) Ctl.cells_length rfl (by first | rfl | (simp; done) | (simp [World.size_alloc]; done)) (by first | exact Nat.le_refl _ | exact World.size_ext _ _ | (simp; done) | (simp; omega) | (simp [World.size_alloc]; done) | (simp [World.size_alloc]; omega)))
                (try dsimp only)
                refine hK.out _ _ ?_ (fun hHeld => ?_)
                · (try dsimp only); (refine ⟨?_, ?_, ?_, ?_, ?_⟩ <;> (with_reducible (repeat (first | assumption | refine cell_ext ?_ _ | refine cell_drew ?_ | refine cell_alloc ?_ _))))
                clear hK K
                try simp only [Act.put, List.setIfInBounds_toArray]
                refine wpAnyH_ready (rs := [13]) (by kernel_rfl) (by simp) ?_
                refine AllReadyH.cons rfl (fun K hK => ?_) (AllReadyH.nil)
                refine step_append_gain (W := X) (w := (X.ext dA).alloc (.cells #[.int .i64 s, .int .i64 z] 46)) (base := X.heap.size) (v := vA) (m := [(⟨s, z⟩ : Ctl)]) (u := .slice (some ⟨(X.ext dA).heap.size, 0, none⟩) 1 1) rfl (.tmp 55) (.tmp 63) rfl Try.underlying27 info_Ctl (by rfl) (by omega) Ctl.cells_length Ctl.cells_one (by omega) (by repeat (first | with_reducible (first | exact World.gained_refl _ | exact ⟨_, rfl⟩ | apply gain_ext | apply gain_alloc | apply gain_drewN | apply gain_drew) | (refine gain_setCell ?_ (by first | exact Nat.le_refl _ | exact World.size_ext _ _ | (simp; done) | (simp; omega)) _))) (Nat.le_refl _) (gain_size (by repeat (first | with_reducible (first | exact World.gained_refl _ | exact ⟨_, rfl⟩ | apply gain_ext | apply gain_alloc | apply gain_drewN | apply gain_drew) | (refine gain_setCell ?_ (by first | exact Nat.le_refl _ | exact World.size_ext _ _ | (simp; done) | (simp; omega)) _)))) (by first | rfl | (simp; done) | (simp [World.size_alloc]; done)) (by first | rfl | (simp; done) | (simp [World.size_alloc]; done) | (rw [show rs.length - k = 0 by omega]; rfl)) (own_up HA1.out (by repeat (first | with_reducible (first | exact World.gained_refl _ | exact ⟨_, rfl⟩ | apply gain_ext | apply gain_alloc | apply gain_drewN | apply gain_drew) | (refine gain_setCell ?_ (by first | exact Nat.le_refl _ | exact World.size_ext _ _ | (simp; done) | (simp; omega)) _)))) (sl_up Ctl.cells_length (sl_of_own Ctl.cells_length HU.out) (by repeat (first | with_reducible (first | exact World.gained_refl _ | exact ⟨_, rfl⟩ | apply gain_ext | apply gain_alloc | apply gain_drewN | apply gain_drew) | (refine gain_setCell ?_ (by first | exact Nat.le_refl _ | exact World.size_ext _ _ | (simp; done) | (simp; omega)) _)))) (by simp; omega) ?_
                intro vB dB hoB hgB
                have HA2 := Lib.hid hoB
                clear hoB hgB HA1 HU
                (try dsimp only)
                refine hK.out _ _ ?_ (fun hHeld => ?_)
                · (try dsimp only); (refine ⟨?_, ?_, ?_, ?_, ?_⟩ <;> (with_reducible (repeat (first | assumption | refine cell_ext ?_ _ | refine cell_drew ?_ | refine cell_alloc ?_ _))))
                clear hK K
                try simp only [Act.put, List.setIfInBounds_toArray]
                refine wpAnyH_ready (rs := [17]) (by kernel_rfl) (by simp) ?_
                refine AllReadyH.cons rfl (fun K hK => ?_) (AllReadyH.nil)
                refine step_append_gain (W := X) (w := X.ext dB) (base := X.heap.size) (v := vB) (m := rs.drop k) (u := .slice none (rs.length - k) (cB - k)) rfl (.tmp 64) (.tmp 67) rfl Try.underlying27 info_Ctl (by rfl) (by omega) Ctl.cells_length Ctl.cells_one (by omega) (by repeat (first | with_reducible (first | exact World.gained_refl _ | exact ⟨_, rfl⟩ | apply gain_ext | apply gain_alloc | apply gain_drewN | apply gain_drew) | (refine gain_setCell ?_ (by first | exact Nat.le_refl _ | exact World.size_ext _ _ | (simp; done) | (simp; omega)) _))) (Nat.le_refl _) (gain_size (by repeat (first | with_reducible (first | exact World.gained_refl _ | exact ⟨_, rfl⟩ | apply gain_ext | apply gain_alloc | apply gain_drewN | apply gain_drew) | (refine gain_setCell ?_ (by first | exact Nat.le_refl _ | exact World.size_ext _ _ | (simp; done) | (simp; omega)) _)))) (by first | rfl | (simp; done) | (simp [World.size_alloc]; done)) (by first | rfl | (simp; done) | (simp [World.size_alloc]; done) | (rw [show rs.length - k = 0 by omega]; rfl)) (HA2.out) (sl_tail0 _ _ _ _ _ _ hk9) (by simp; omega) ?_
                intro vC dC hoC hgC
                (try dsimp only)
                refine hK.out _ _ ?_ (fun hHeld => ?_)
                · (try dsimp only); (refine ⟨?_, ?_, ?_, ?_, ?_⟩ <;> (with_reducible (repeat (first | assumption | refine cell_ext ?_ _ | refine cell_drew ?_ | refine cell_alloc ?_ _))))
                clear hK K
                try simp only [Act.put, List.setIfInBounds_toArray]
                refine wpAnyH_take (i := 18) (oi := ⟨_, _, _, _, _, _⟩) (v := ?_) rfl (by kernel_rfl) (by kernel_rfl) (by kernel_rfl) (fun _ _ _ h => h) (Or.inl ⟨by rfl, ?_⟩) (by assumption) ?_
                rotate_left
                · intro w hSw; (try dsimp only at hSw); go_simp; (try with_reducible rfl)
                try simp only [Act.put, List.setIfInBounds_toArray, List.set_cons_zero, List.set_cons_succ]
                refine wpAnyH_done (by kernel_rfl) ?_ _
                rw [hqs] at hoC
                have HQ := Lib.hid hoC
                clear hoC hgC HA2
                obtain ⟨pQ, cQ, rfl, _⟩ := sl_of_own Ctl.cells_length HQ.out
                go_wp2_with fail
                refine (l6Good_any m _ _ _ qs _ (mp_up (mp_up HM1.out HGX.out) (by repeat (first | with_reducible (first | exact World.gained_refl _ | exact ⟨_, rfl⟩ | apply gain_ext | apply gain_alloc | apply gain_drewN | apply gain_drew) | (refine gain_setCell ?_ (by first | exact Nat.le_refl _ | exact World.size_ext _ _ | (simp; done) | (simp; omega)) _)))) (sl_of_own Ctl.cells_length (own_up HQ.out (by repeat (first | with_reducible (first | exact World.gained_refl _ | exact ⟨_, rfl⟩ | apply gain_ext | apply gain_alloc | apply gain_drewN | apply gain_drew) | (refine gain_setCell ?_ (by first | exact Nat.le_refl _ | exact World.size_ext _ _ | (simp; done) | (simp; omega)) _))))) (by omega)).mono ?_
                rw [HIN.out.1]
                cases hB : wCB m l n ⟨s, z⟩ with
                | true =>
                  have HE := Lib.hid (HIN.out.2 hB)
                  rintro e w1 ⟨rfl, d4, rfl⟩
                  go_wp2_with fail
                  go_ret2
                  rw [hB, ← HE.out]
                  exact ⟨_, rfl, gain_trans HGW.out (gain_trans HGX.out (by repeat (first | with_reducible (first | exact World.gained_refl _ | exact ⟨_, rfl⟩ | apply gain_ext | apply gain_alloc | apply gain_drewN | apply gain_drew) | (refine gain_setCell ?_ (by first | exact Nat.le_refl _ | exact World.size_ext _ _ | (simp; done) | (simp; omega)) _)))), own_base (own_up HQ.out (by repeat (first | with_reducible (first | exact World.gained_refl _ | exact ⟨_, rfl⟩ | apply gain_ext | apply gain_alloc | apply gain_drewN | apply gain_drew) | (refine gain_setCell ?_ (by first | exact Nat.le_refl _ | exact World.size_ext _ _ | (simp; done) | (simp; omega)) _)))) (by omega)⟩
                | false =>
                  have HE := Lib.hid (wCL_no hB)
                  rintro e w1 ⟨rfl, d4, rfl⟩
                  go_wp2_with fail
                  go_ret2
                  rw [hB, HE.out]
                  exact ⟨_, rfl, gain_trans HGW.out (gain_trans HGX.out (by repeat (first | with_reducible (first | exact World.gained_refl _ | exact ⟨_, rfl⟩ | apply gain_ext | apply gain_alloc | apply gain_drewN | apply gain_drew) | (refine gain_setCell ?_ (by first | exact Nat.le_refl _ | exact World.size_ext _ _ | (simp; done) | (simp; omega)) _)))), own_lit' (l := ([] : List Ctl)) Ctl.cells_length rfl rfl (by have := World.size_ext X dC; have := World.size_ext (X.ext dC) d4; omega)⟩
              · skip
                go_simp
                have HU := Lib.hid (own_lit' (w := (X.drew.alloc (.cells #[] 46))) (e := 46) (base := X.heap.size) (C := #[.int .i64 s, .int .i64 z]) (l := [(⟨s, z⟩ : Ctl)]) (g := X.heap.size + 1) Ctl.cells_length rfl (by first | rfl | (simp; done) | (simp [World.size_alloc]; done)) (by first | exact Nat.le_refl _ | exact World.size_ext _ _ | (simp; done) | (simp; omega) | (simp [World.size_alloc]; done) | (simp [World.size_alloc]; omega)))
                (try dsimp only)
                refine hK.out _ _ ?_ (fun hHeld => ?_)
                · (try dsimp only); (refine ⟨?_, ?_, ?_, ?_, ?_⟩ <;> (with_reducible (repeat (first | assumption | refine cell_ext ?_ _ | refine cell_drew ?_ | refine cell_alloc ?_ _))))
                clear hK K
                try simp only [Act.put, List.setIfInBounds_toArray]
                refine wpAnyH_ready (rs := [4]) (by kernel_rfl) (by simp) ?_
                refine AllReadyH.cons rfl (fun K hK => ?_) (AllReadyH.nil)
                refine step_append_gain (W := X) (w := (X.drew.alloc (.cells #[] 46)).alloc (.cells #[.int .i64 s, .int .i64 z] 46)) (base := X.heap.size) (v := .slice (some ⟨X.heap.size, 0, none⟩) 0 0) (m := rs.take k) (u := .slice none k cB) rfl (.tmp 51) (.tmp 54) rfl Try.underlying27 info_Ctl (by rfl) (by omega) Ctl.cells_length Ctl.cells_one (by omega) (by repeat (first | with_reducible (first | exact World.gained_refl _ | exact ⟨_, rfl⟩ | apply gain_ext | apply gain_alloc | apply gain_drewN | apply gain_drew) | (refine gain_setCell ?_ (by first | exact Nat.le_refl _ | exact World.size_ext _ _ | (simp; done) | (simp; omega)) _))) (Nat.le_refl _) (gain_size (by repeat (first | with_reducible (first | exact World.gained_refl _ | exact ⟨_, rfl⟩ | apply gain_ext | apply gain_alloc | apply gain_drewN | apply gain_drew) | (refine gain_setCell ?_ (by first | exact Nat.le_refl _ | exact World.size_ext _ _ | (simp; done) | (simp; omega)) _)))) (by first | rfl | (simp; done) | (simp [World.size_alloc]; done)) (by first | rfl | (simp; done) | (simp [World.size_alloc]; done) | (rw [show rs.length - k = 0 by omega]; rfl)) (own_up HA.out (by repeat (first | with_reducible (first | exact World.gained_refl _ | exact ⟨_, rfl⟩ | apply gain_ext | apply gain_alloc | apply gain_drewN | apply gain_drew) | (refine gain_setCell ?_ (by first | exact Nat.le_refl _ | exact World.size_ext _ _ | (simp; done) | (simp; omega)) _)))) (sl_take (by with_reducible (repeat (first | exact hs2.out | refine World.sl_ext Ctl.cells_length ?_ _ | refine sl_alloc Ctl.cells_length ?_ _ | refine sl_drew ?_))) (by omega)) (by simp; omega) ?_
                intro vA dA hoA hgA
                rw [List.nil_append] at hoA
                replace HU := Lib.hid (own_mark (own_up HU.out (w' := _) (by repeat (first | with_reducible (first | exact World.gained_refl _ | exact ⟨_, rfl⟩ | apply gain_ext | apply gain_alloc | apply gain_drewN | apply gain_drew) | (refine gain_setCell ?_ (by first | exact Nat.le_refl _ | exact World.size_ext _ _ | (simp; done) | (simp; omega)) _)))) hgA (by first | (simp; done) | (simp [Value.ownBlock]; done) | (simp [Value.ownBlock, World.size_alloc]; done)))
                have HA1 := Lib.hid hoA
                clear hoA hgA HA
                (try dsimp only)
                refine hK.out _ _ ?_ (fun hHeld => ?_)
                · (try dsimp only); (refine ⟨?_, ?_, ?_, ?_, ?_⟩ <;> (with_reducible (repeat (first | assumption | refine cell_ext ?_ _ | refine cell_drew ?_ | refine cell_alloc ?_ _))))
                clear hK K
                try simp only [Act.put, List.setIfInBounds_toArray]
                refine wpAnyH_ready (rs := [13]) (by kernel_rfl) (by simp) ?_
                refine AllReadyH.cons rfl (fun K hK => ?_) (AllReadyH.nil)
                refine step_append_gain (W := X) (w := X.ext dA) (base := X.heap.size) (v := vA) (m := [(⟨s, z⟩ : Ctl)]) (u := .slice (some ⟨X.heap.size + 1, 0, none⟩) 1 1) rfl (.tmp 55) (.tmp 63) rfl Try.underlying27 info_Ctl (by rfl) (by omega) Ctl.cells_length Ctl.cells_one (by omega) (by repeat (first | with_reducible (first | exact World.gained_refl _ | exact ⟨_, rfl⟩ | apply gain_ext | apply gain_alloc | apply gain_drewN | apply gain_drew) | (refine gain_setCell ?_ (by first | exact Nat.le_refl _ | exact World.size_ext _ _ | (simp; done) | (simp; omega)) _))) (Nat.le_refl _) (gain_size (by repeat (first | with_reducible (first | exact World.gained_refl _ | exact ⟨_, rfl⟩ | apply gain_ext | apply gain_alloc | apply gain_drewN | apply gain_drew) | (refine gain_setCell ?_ (by first | exact Nat.le_refl _ | exact World.size_ext _ _ | (simp; done) | (simp; omega)) _)))) (by first | rfl | (simp; done) | (simp [World.size_alloc]; done)) (by first | rfl | (simp; done) | (simp [World.size_alloc]; done) | (rw [show rs.length - k = 0 by omega]; rfl)) (own_up HA1.out (by repeat (first | with_reducible (first | exact World.gained_refl _ | exact ⟨_, rfl⟩ | apply gain_ext | apply gain_alloc | apply gain_drewN | apply gain_drew) | (refine gain_setCell ?_ (by first | exact Nat.le_refl _ | exact World.size_ext _ _ | (simp; done) | (simp; omega)) _)))) (sl_up Ctl.cells_length (sl_of_own Ctl.cells_length HU.out) (by repeat (first | with_reducible (first | exact World.gained_refl _ | exact ⟨_, rfl⟩ | apply gain_ext | apply gain_alloc | apply gain_drewN | apply gain_drew) | (refine gain_setCell ?_ (by first | exact Nat.le_refl _ | exact World.size_ext _ _ | (simp; done) | (simp; omega)) _)))) (by simp; omega) ?_
                intro vB dB hoB hgB
                have HA2 := Lib.hid hoB
                clear hoB hgB HA1 HU
                (try dsimp only)
                refine hK.out _ _ ?_ (fun hHeld => ?_)
                · (try dsimp only); (refine ⟨?_, ?_, ?_, ?_, ?_⟩ <;> (with_reducible (repeat (first | assumption | refine cell_ext ?_ _ | refine cell_drew ?_ | refine cell_alloc ?_ _))))
                clear hK K
                try simp only [Act.put, List.setIfInBounds_toArray]
                refine wpAnyH_ready (rs := [17]) (by kernel_rfl) (by simp) ?_
                refine AllReadyH.cons rfl (fun K hK => ?_) (AllReadyH.nil)
                refine step_append_gain (W := X) (w := X.ext dB) (base := X.heap.size) (v := vB) (m := rs.drop k) (u := .slice none (rs.length - k) (cB - k)) rfl (.tmp 64) (.tmp 67) rfl Try.underlying27 info_Ctl (by rfl) (by omega) Ctl.cells_length Ctl.cells_one (by omega) (by repeat (first | with_reducible (first | exact World.gained_refl _ | exact ⟨_, rfl⟩ | apply gain_ext | apply gain_alloc | apply gain_drewN | apply gain_drew) | (refine gain_setCell ?_ (by first | exact Nat.le_refl _ | exact World.size_ext _ _ | (simp; done) | (simp; omega)) _))) (Nat.le_refl _) (gain_size (by repeat (first | with_reducible (first | exact World.gained_refl _ | exact ⟨_, rfl⟩ | apply gain_ext | apply gain_alloc | apply gain_drewN | apply gain_drew) | (refine gain_setCell ?_ (by first | exact Nat.le_refl _ | exact World.size_ext _ _ | (simp; done) | (simp; omega)) _)))) (by first | rfl | (simp; done) | (simp [World.size_alloc]; done)) (by first | rfl | (simp; done) | (simp [World.size_alloc]; done) | (rw [show rs.length - k = 0 by omega]; rfl)) (HA2.out) (sl_tail0 _ _ _ _ _ _ hk9) (by simp; omega) ?_
                intro vC dC hoC hgC
                (try dsimp only)
                refine hK.out _ _ ?_ (fun hHeld => ?_)
                · (try dsimp only); (refine ⟨?_, ?_, ?_, ?_, ?_⟩ <;> (with_reducible (repeat (first | assumption | refine cell_ext ?_ _ | refine cell_drew ?_ | refine cell_alloc ?_ _))))
                clear hK K
                try simp only [Act.put, List.setIfInBounds_toArray]
                refine wpAnyH_take (i := 18) (oi := ⟨_, _, _, _, _, _⟩) (v := ?_) rfl (by kernel_rfl) (by kernel_rfl) (by kernel_rfl) (fun _ _ _ h => h) (Or.inl ⟨by rfl, ?_⟩) (by assumption) ?_
                rotate_left
                · intro w hSw; (try dsimp only at hSw); go_simp; (try with_reducible rfl)
                try simp only [Act.put, List.setIfInBounds_toArray, List.set_cons_zero, List.set_cons_succ]
                refine wpAnyH_done (by kernel_rfl) ?_ _
                rw [hqs] at hoC
                have HQ := Lib.hid hoC
                clear hoC hgC HA2
                obtain ⟨pQ, cQ, rfl, _⟩ := sl_of_own Ctl.cells_length HQ.out
                go_wp2_with fail
                refine (l6Good_any m _ _ _ qs _ (mp_up (mp_up HM1.out HGX.out) (by repeat (first | with_reducible (first | exact World.gained_refl _ | exact ⟨_, rfl⟩ | apply gain_ext | apply gain_alloc | apply gain_drewN | apply gain_drew) | (refine gain_setCell ?_ (by first | exact Nat.le_refl _ | exact World.size_ext _ _ | (simp; done) | (simp; omega)) _)))) (sl_of_own Ctl.cells_length (own_up HQ.out (by repeat (first | with_reducible (first | exact World.gained_refl _ | exact ⟨_, rfl⟩ | apply gain_ext | apply gain_alloc | apply gain_drewN | apply gain_drew) | (refine gain_setCell ?_ (by first | exact Nat.le_refl _ | exact World.size_ext _ _ | (simp; done) | (simp; omega)) _))))) (by omega)).mono ?_
                rw [HIN.out.1]
                cases hB : wCB m l n ⟨s, z⟩ with
                | true =>
                  have HE := Lib.hid (HIN.out.2 hB)
                  rintro e w1 ⟨rfl, d4, rfl⟩
                  go_wp2_with fail
                  go_ret2
                  rw [hB, ← HE.out]
                  exact ⟨_, rfl, gain_trans HGW.out (gain_trans HGX.out (by repeat (first | with_reducible (first | exact World.gained_refl _ | exact ⟨_, rfl⟩ | apply gain_ext | apply gain_alloc | apply gain_drewN | apply gain_drew) | (refine gain_setCell ?_ (by first | exact Nat.le_refl _ | exact World.size_ext _ _ | (simp; done) | (simp; omega)) _)))), own_base (own_up HQ.out (by repeat (first | with_reducible (first | exact World.gained_refl _ | exact ⟨_, rfl⟩ | apply gain_ext | apply gain_alloc | apply gain_drewN | apply gain_drew) | (refine gain_setCell ?_ (by first | exact Nat.le_refl _ | exact World.size_ext _ _ | (simp; done) | (simp; omega)) _)))) (by omega)⟩
                | false =>
                  have HE := Lib.hid (wCL_no hB)
                  rintro e w1 ⟨rfl, d4, rfl⟩
                  go_wp2_with fail
                  go_ret2
                  rw [hB, HE.out]
                  exact ⟨_, rfl, gain_trans HGW.out (gain_trans HGX.out (by repeat (first | with_reducible (first | exact World.gained_refl _ | exact ⟨_, rfl⟩ | apply gain_ext | apply gain_alloc | apply gain_drewN | apply gain_drew) | (refine gain_setCell ?_ (by first | exact Nat.le_refl _ | exact World.size_ext _ _ | (simp; done) | (simp; omega)) _)))), own_lit' (l := ([] : List Ctl)) Ctl.cells_length rfl rfl (by have := World.size_ext X dC; have := World.size_ext (X.ext dC) d4; omega)⟩
            · skip
              go_simp
              have HU := Lib.hid (own_lit' (w := X.drew) (e := 46) (base := X.heap.size) (C := #[.int .i64 s, .int .i64 z]) (l := [(⟨s, z⟩ : Ctl)]) (g := X.heap.size) Ctl.cells_length rfl (by first | rfl | (simp; done) | (simp [World.size_alloc]; done)) (by first | exact Nat.le_refl _ | exact World.size_ext _ _ | (simp; done) | (simp; omega) | (simp [World.size_alloc]; done) | (simp [World.size_alloc]; omega)))
              (try dsimp only)
              refine hK.out _ _ ?_ (fun hHeld => ?_)
              · (try dsimp only); (refine ⟨?_, ?_, ?_, ?_, ?_⟩ <;> (with_reducible (repeat (first | assumption | refine cell_ext ?_ _ | refine cell_drew ?_ | refine cell_alloc ?_ _))))
              clear hK K
              try simp only [Act.put, List.setIfInBounds_toArray]
              refine wpAnyH_ready (rs := [0]) (by kernel_rfl) (by simp) ?_
              refine AllReadyH.cons rfl (fun K hK => ?_) (AllReadyH.nil)
              go_simp
              have HA := Lib.hid (own_lit' (w := (X.drew.alloc (.cells #[.int .i64 s, .int .i64 z] 46))) (e := 46) (base := X.heap.size) (C := #[]) (l := ([] : List Ctl)) (g := X.heap.size + 1) Ctl.cells_length rfl (by first | rfl | (simp; done) | (simp [World.size_alloc]; done)) (by first | exact Nat.le_refl _ | exact World.size_ext _ _ | (simp; done) | (simp; omega) | (simp [World.size_alloc]; done) | (simp [World.size_alloc]; omega)))
              (try dsimp only)
              refine hK.out _ _ ?_ (fun hHeld => ?_)
              · (try dsimp only); (refine ⟨?_, ?_, ?_, ?_, ?_⟩ <;> (with_reducible (repeat (first | assumption | refine cell_ext ?_ _ | refine cell_drew ?_ | refine cell_alloc ?_ _))))
              clear hK K
              try simp only [Act.put, List.setIfInBounds_toArray]
              refine wpAnyH_ready (rs := [4]) (by kernel_rfl) (by simp) ?_
              refine AllReadyH.cons rfl (fun K hK => ?_) (AllReadyH.nil)
              refine step_append_gain (W := X) (w := (X.drew.alloc (.cells #[.int .i64 s, .int .i64 z] 46)).alloc (.cells #[] 46)) (base := X.heap.size) (v := .slice (some ⟨X.heap.size + 1, 0, none⟩) 0 0) (m := rs.take k) (u := .slice none k cB) rfl (.tmp 51) (.tmp 54) rfl Try.underlying27 info_Ctl (by rfl) (by omega) Ctl.cells_length Ctl.cells_one (by omega) (by repeat (first | with_reducible (first | exact World.gained_refl _ | exact ⟨_, rfl⟩ | apply gain_ext | apply gain_alloc | apply gain_drewN | apply gain_drew) | (refine gain_setCell ?_ (by first | exact Nat.le_refl _ | exact World.size_ext _ _ | (simp; done) | (simp; omega)) _))) (Nat.le_refl _) (gain_size (by repeat (first | with_reducible (first | exact World.gained_refl _ | exact ⟨_, rfl⟩ | apply gain_ext | apply gain_alloc | apply gain_drewN | apply gain_drew) | (refine gain_setCell ?_ (by first | exact Nat.le_refl _ | exact World.size_ext _ _ | (simp; done) | (simp; omega)) _)))) (by first | rfl | (simp; done) | (simp [World.size_alloc]; done)) (by first | rfl | (simp; done) | (simp [World.size_alloc]; done) | (rw [show rs.length - k = 0 by omega]; rfl)) (HA.out) (sl_take (by with_reducible (repeat (first | exact hs2.out | refine World.sl_ext Ctl.cells_length ?_ _ | refine sl_alloc Ctl.cells_length ?_ _ | refine sl_drew ?_))) (by omega)) (by simp; omega) ?_
              intro vA dA hoA hgA
              rw [List.nil_append] at hoA
              replace HU := Lib.hid (own_mark (own_up HU.out (w' := _) (by repeat (first | with_reducible (first | exact World.gained_refl _ | exact ⟨_, rfl⟩ | apply gain_ext | apply gain_alloc | apply gain_drewN | apply gain_drew) | (refine gain_setCell ?_ (by first | exact Nat.le_refl _ | exact World.size_ext _ _ | (simp; done) | (simp; omega)) _)))) hgA (by first | (simp; done) | (simp [Value.ownBlock]; done) | (simp [Value.ownBlock, World.size_alloc]; done)))
              have HA1 := Lib.hid hoA
              clear hoA hgA HA
              (try dsimp only)
              refine hK.out _ _ ?_ (fun hHeld => ?_)
              · (try dsimp only); (refine ⟨?_, ?_, ?_, ?_, ?_⟩ <;> (with_reducible (repeat (first | assumption | refine cell_ext ?_ _ | refine cell_drew ?_ | refine cell_alloc ?_ _))))
              clear hK K
              try simp only [Act.put, List.setIfInBounds_toArray]
              refine wpAnyH_ready (rs := [13]) (by kernel_rfl) (by simp) ?_
              refine AllReadyH.cons rfl (fun K hK => ?_) (AllReadyH.nil)
              refine step_append_gain (W := X) (w := X.ext dA) (base := X.heap.size) (v := vA) (m := [(⟨s, z⟩ : Ctl)]) (u := .slice (some ⟨X.heap.size, 0, none⟩) 1 1) rfl (.tmp 55) (.tmp 63) rfl Try.underlying27 info_Ctl (by rfl) (by omega) Ctl.cells_length Ctl.cells_one (by omega) (by repeat (first | with_reducible (first | exact World.gained_refl _ | exact ⟨_, rfl⟩ | apply gain_ext | apply gain_alloc | apply gain_drewN | apply gain_drew) | (refine gain_setCell ?_ (by first | exact Nat.le_refl _ | exact World.size_ext _ _ | (simp; done) | (simp; omega)) _))) (Nat.le_refl _) (gain_size (by repeat (first | with_reducible (first | exact World.gained_refl _ | exact ⟨_, rfl⟩ | apply gain_ext | apply gain_alloc | apply gain_drewN | apply gain_drew) | (refine gain_setCell ?_ (by first | exact Nat.le_refl _ | exact World.size_ext _ _ | (simp; done) | (simp; omega)) _)))) (by first | rfl | (simp; done) | (simp [World.size_alloc]; done)) (by first | rfl | (simp; done) | (simp [World.size_alloc]; done) | (rw [show rs.length - k = 0 by omega]; rfl)) (own_up HA1.out (by repeat (first | with_reducible (first | exact World.gained_refl _ | exact ⟨_, rfl⟩ | apply gain_ext | apply gain_alloc | apply gain_drewN | apply gain_drew) | (refine gain_setCell ?_ (by first | exact Nat.le_refl _ | exact World.size_ext _ _ | (simp; done) | (simp; omega)) _)))) (sl_up Ctl.cells_length (sl_of_own Ctl.cells_length HU.out) (by repeat (first | with_reducible (first | exact World.gained_refl _ | exact ⟨_, rfl⟩ | apply gain_ext | apply gain_alloc | apply gain_drewN | apply gain_drew) | (refine gain_setCell ?_ (by first | exact Nat.le_refl _ | exact World.size_ext _ _ | (simp; done) | (simp; omega)) _)))) (by simp; omega) ?_
              intro vB dB hoB hgB
              have HA2 := Lib.hid hoB
              clear hoB hgB HA1 HU
              (try dsimp only)
              refine hK.out _ _ ?_ (fun hHeld => ?_)
              · (try dsimp only); (refine ⟨?_, ?_, ?_, ?_, ?_⟩ <;> (with_reducible (repeat (first | assumption | refine cell_ext ?_ _ | refine cell_drew ?_ | refine cell_alloc ?_ _))))
              clear hK K
              try simp only [Act.put, List.setIfInBounds_toArray]
              refine wpAnyH_ready (rs := [17]) (by kernel_rfl) (by simp) ?_
              refine AllReadyH.cons rfl (fun K hK => ?_) (AllReadyH.nil)
              refine step_append_gain (W := X) (w := X.ext dB) (base := X.heap.size) (v := vB) (m := rs.drop k) (u := .slice none (rs.length - k) (cB - k)) rfl (.tmp 64) (.tmp 67) rfl Try.underlying27 info_Ctl (by rfl) (by omega) Ctl.cells_length Ctl.cells_one (by omega) (by repeat (first | with_reducible (first | exact World.gained_refl _ | exact ⟨_, rfl⟩ | apply gain_ext | apply gain_alloc | apply gain_drewN | apply gain_drew) | (refine gain_setCell ?_ (by first | exact Nat.le_refl _ | exact World.size_ext _ _ | (simp; done) | (simp; omega)) _))) (Nat.le_refl _) (gain_size (by repeat (first | with_reducible (first | exact World.gained_refl _ | exact ⟨_, rfl⟩ | apply gain_ext | apply gain_alloc | apply gain_drewN | apply gain_drew) | (refine gain_setCell ?_ (by first | exact Nat.le_refl _ | exact World.size_ext _ _ | (simp; done) | (simp; omega)) _)))) (by first | rfl | (simp; done) | (simp [World.size_alloc]; done)) (by first | rfl | (simp; done) | (simp [World.size_alloc]; done) | (rw [show rs.length - k = 0 by omega]; rfl)) (HA2.out) (sl_tail0 _ _ _ _ _ _ hk9) (by simp; omega) ?_
              intro vC dC hoC hgC
              (try dsimp only)
              refine hK.out _ _ ?_ (fun hHeld => ?_)
              · (try dsimp only); (refine ⟨?_, ?_, ?_, ?_, ?_⟩ <;> (with_reducible (repeat (first | assumption | refine cell_ext ?_ _ | refine cell_drew ?_ | refine cell_alloc ?_ _))))
              clear hK K
              try simp only [Act.put, List.setIfInBounds_toArray]
              refine wpAnyH_take (i := 18) (oi := ⟨_, _, _, _, _, _⟩) (v := ?_) rfl (by kernel_rfl) (by kernel_rfl) (by kernel_rfl) (fun _ _ _ h => h) (Or.inl ⟨by rfl, ?_⟩) (by assumption) ?_
              rotate_left
              · intro w hSw; (try dsimp only at hSw); go_simp; (try with_reducible rfl)
              try simp only [Act.put, List.setIfInBounds_toArray, List.set_cons_zero, List.set_cons_succ]
              refine wpAnyH_done (by kernel_rfl) ?_ _
              rw [hqs] at hoC
              have HQ := Lib.hid hoC
              clear hoC hgC HA2
              obtain ⟨pQ, cQ, rfl, _⟩ := sl_of_own Ctl.cells_length HQ.out
              go_wp2_with fail
              refine (l6Good_any m _ _ _ qs _ (mp_up (mp_up HM1.out HGX.out) (by repeat (first | with_reducible (first | exact World.gained_refl _ | exact ⟨_, rfl⟩ | apply gain_ext | apply gain_alloc | apply gain_drewN | apply gain_drew) | (refine gain_setCell ?_ (by first | exact Nat.le_refl _ | exact World.size_ext _ _ | (simp; done) | (simp; omega)) _)))) (sl_of_own Ctl.cells_length (own_up HQ.out (by repeat (first | with_reducible (first | exact World.gained_refl _ | exact ⟨_, rfl⟩ | apply gain_ext | apply gain_alloc | apply gain_drewN | apply gain_drew) | (refine gain_setCell ?_ (by first | exact Nat.le_refl _ | exact World.size_ext _ _ | (simp; done) | (simp; omega)) _))))) (by omega)).mono ?_
              rw [HIN.out.1]
              cases hB : wCB m l n ⟨s, z⟩ with
              | true =>
                have HE := Lib.hid (HIN.out.2 hB)
                rintro e w1 ⟨rfl, d4, rfl⟩
                go_wp2_with fail
                go_ret2
                rw [hB, ← HE.out]
                exact ⟨_, rfl, gain_trans HGW.out (gain_trans HGX.out (by repeat (first | with_reducible (first | exact World.gained_refl _ | exact ⟨_, rfl⟩ | apply gain_ext | apply gain_alloc | apply gain_drewN | apply gain_drew) | (refine gain_setCell ?_ (by first | exact Nat.le_refl _ | exact World.size_ext _ _ | (simp; done) | (simp; omega)) _)))), own_base (own_up HQ.out (by repeat (first | with_reducible (first | exact World.gained_refl _ | exact ⟨_, rfl⟩ | apply gain_ext | apply gain_alloc | apply gain_drewN | apply gain_drew) | (refine gain_setCell ?_ (by first | exact Nat.le_refl _ | exact World.size_ext _ _ | (simp; done) | (simp; omega)) _)))) (by omega)⟩
              | false =>
                have HE := Lib.hid (wCL_no hB)
                rintro e w1 ⟨rfl, d4, rfl⟩
                go_wp2_with fail
                go_ret2
                rw [hB, HE.out]
                exact ⟨_, rfl, gain_trans HGW.out (gain_trans HGX.out (by repeat (first | with_reducible (first | exact World.gained_refl _ | exact ⟨_, rfl⟩ | apply gain_ext | apply gain_alloc | apply gain_drewN | apply gain_drew) | (refine gain_setCell ?_ (by first | exact Nat.le_refl _ | exact World.size_ext _ _ | (simp; done) | (simp; omega)) _)))), own_lit' (l := ([] : List Ctl)) Ctl.cells_length rfl rfl (by have := World.size_ext X dC; have := World.size_ext (X.ext dC) d4; omega)⟩
          | some a =>
            obtain ⟨hvn, _⟩ | ⟨gB, _, _, hvn, _⟩ := HR2.out.2
            · cases hvn
            · injection hvn with ev1 ev2 ev3
              injection ev1 with ev1
              subst ev1
              clear ev2 ev3
              go_upto_region 8 with fail
              obtain ⟨qs, hqs⟩ : ∃ qs, rs.take k ++ [(⟨s, z⟩ : Ctl)] ++ rs.drop k = qs := ⟨_, rfl⟩
              have HQL : qs.length ≤ 11 := by have := HLR.out; rw [← hqs]; simp; omega
              rw [hqs] at HIN
              have HGX : Hid (∃ dd, (W1.ext dB).ext d = W1.ext dd) := Lib.hid (by repeat (first | with_reducible (first | exact World.gained_refl _ | exact ⟨_, rfl⟩ | apply gain_ext | apply gain_alloc | apply gain_drewN | apply gain_drew) | (refine gain_setCell ?_ (by first | exact Nat.le_refl _ | exact World.size_ext _ _ | (simp; done) | (simp; omega)) _)))
              generalize (W1.ext dB).ext d = X at HGX hs2 HR2 ⊢
              have by0 := cell_up bx0 HGX.out
              have by1 := cell_up bx1 HGX.out
              have by2 := cell_up bx2 HGX.out
              have by3 := cell_up bx3 HGX.out
              have cy1 := cell_up cx1 HGX.out
              have obX := World.oldB_of_cell by0
              have obC := World.oldB_of_cell cy1
              have hXs : W1.heap.size ≤ X.heap.size := gain_size HGX.out
              obtain ⟨A, hA⟩ : ∃ A : Addr, (if cB = k then some (⟨gB, 0, none⟩ : Addr) else some ⟨gB, k * 2, none⟩) = some A := by split <;> exact ⟨_, rfl⟩
              refine wp_region_held_drew (S := (fun w' => w'.cell? ⟨gM, 0, none⟩ = some (.int .i64 m.wd) ∧ w'.cell? ⟨gM, 1, none⟩ = some (.int .i64 m.ht) ∧ w'.cell? ⟨gM, 2, none⟩ = some (.slice p1 m.rise.length c1) ∧ w'.cell? ⟨gM, 3, none⟩ = some (.slice p2 m.cost.length c2) ∧ w'.cell? ⟨b, o + n * 2 + 1, none⟩ = some (.int .i64 z))) (by kernel_rfl) (by (try dsimp only); (refine ⟨?_, ?_, ?_, ?_, ?_⟩ <;> (with_reducible (repeat (first | assumption | refine cell_ext ?_ _ | refine cell_drew ?_ | refine cell_alloc ?_ _))))) (fun hHeld => ?_)
              refine wpAnyH_take (i := 1) (oi := ⟨_, _, _, _, _, _⟩) (v := ?_) rfl (by kernel_rfl) (by kernel_rfl) (by kernel_rfl) (fun _ _ _ h => h) (Or.inl ⟨by rfl, ?_⟩) (by assumption) ?_
              rotate_left
              · intro w hSw; (try dsimp only at hSw); go_simp; (try with_reducible rfl)
              try simp only [Act.put, List.setIfInBounds_toArray, List.set_cons_zero, List.set_cons_succ]
              refine wpAnyH_take (i := 2) (oi := ⟨_, _, _, _, _, _⟩) (v := ?_) rfl (by kernel_rfl) (by kernel_rfl) (by kernel_rfl) (fun _ _ _ h => h) (Or.inl ⟨by rfl, ?_⟩) (by assumption) ?_
              rotate_left
              · intro w hSw; (try dsimp only at hSw); go_simp; (try with_reducible rfl)
              try simp only [Act.put, List.setIfInBounds_toArray, List.set_cons_zero, List.set_cons_succ]
              refine wpAnyH_take (i := 3) (oi := ⟨_, _, _, _, _, _⟩) (v := ?_) rfl (by kernel_rfl) (by kernel_rfl) (by kernel_rfl) (fun _ _ _ h => h) (Or.inl ⟨by rfl, ?_⟩) (by assumption) ?_
              rotate_left
              · intro w hSw; (try dsimp only at hSw); go_simp; (try with_reducible rfl)
              try simp only [Act.put, List.setIfInBounds_toArray, List.set_cons_zero, List.set_cons_succ]
              refine wpAnyH_take (i := 5) (oi := ⟨_, _, _, _, _, _⟩) (v := ?_) rfl (by kernel_rfl) (by kernel_rfl) (by kernel_rfl) (fun _ _ _ h => h) (Or.inl ⟨by rfl, ?_⟩) (by assumption) ?_
              rotate_left
              · intro w hSw; (try dsimp only at hSw); go_simp; (try with_reducible rfl)
              try simp only [Act.put, List.setIfInBounds_toArray, List.set_cons_zero, List.set_cons_succ]
              refine wpAnyH_take (i := 6) (oi := ⟨_, _, _, _, _, _⟩) (v := ?_) rfl (by kernel_rfl) (by kernel_rfl) (by kernel_rfl) (fun _ _ _ h => h) (Or.inl ⟨by rfl, ?_⟩) (by assumption) ?_
              rotate_left
              · intro w hSw; (try dsimp only at hSw); go_simp; (try with_reducible rfl)
              try simp only [Act.put, List.setIfInBounds_toArray, List.set_cons_zero, List.set_cons_succ]
              refine wpAnyH_take (i := 7) (oi := ⟨_, _, _, _, _, _⟩) (v := ?_) rfl (by kernel_rfl) (by kernel_rfl) (by kernel_rfl) (fun _ _ _ h => h) (Or.inl ⟨by rfl, ?_⟩) (by assumption) ?_
              rotate_left
              · intro w hSw; (try dsimp only at hSw); go_simp; (try with_reducible rfl)
              try simp only [Act.put, List.setIfInBounds_toArray, List.set_cons_zero, List.set_cons_succ]
              refine wpAnyH_take (i := 8) (oi := ⟨_, _, _, _, _, _⟩) (v := ?_) rfl (by kernel_rfl) (by kernel_rfl) (by kernel_rfl) (fun _ _ _ h => h) (Or.inl ⟨by rfl, ?_⟩) (by assumption) ?_
              rotate_left
              · intro w hSw; (try dsimp only at hSw); go_simp; (try with_reducible rfl)
              try simp only [Act.put, List.setIfInBounds_toArray, List.set_cons_zero, List.set_cons_succ]
              refine wpAnyH_take (i := 9) (oi := ⟨_, _, _, _, _, _⟩) (v := ?_) rfl (by kernel_rfl) (by kernel_rfl) (by kernel_rfl) (fun _ _ _ h => h) (Or.inl ⟨by rfl, ?_⟩) (by assumption) ?_
              rotate_left
              · intro w hSw; (try dsimp only at hSw); go_simp; (try with_reducible rfl)
              try simp only [Act.put, List.setIfInBounds_toArray, List.set_cons_zero, List.set_cons_succ]
              refine wpAnyH_take (i := 10) (oi := ⟨_, _, _, _, _, _⟩) (v := ?_) rfl (by kernel_rfl) (by kernel_rfl) (by kernel_rfl) (fun _ _ _ h => h) (Or.inl ⟨by rfl, ?_⟩) (by assumption) ?_
              rotate_left
              · intro w hSw; (try dsimp only at hSw); go_simp; (try with_reducible rfl)
              try simp only [Act.put, List.setIfInBounds_toArray, List.set_cons_zero, List.set_cons_succ]
              refine wpAnyH_take (i := 11) (oi := ⟨_, _, _, _, _, _⟩) (v := ?_) rfl (by kernel_rfl) (by kernel_rfl) (by kernel_rfl) (fun _ _ _ h => h) (Or.inl ⟨by rfl, ?_⟩) (by assumption) ?_
              rotate_left
              · intro w hSw; (try dsimp only at hSw); go_simp; (try with_reducible rfl)
              try simp only [Act.put, List.setIfInBounds_toArray, List.set_cons_zero, List.set_cons_succ]
              refine wpAnyH_take (i := 14) (oi := ⟨_, _, _, _, _, _⟩) (v := ?_) rfl (by kernel_rfl) (by kernel_rfl) (by kernel_rfl) (fun _ _ _ h => h) (Or.inl ⟨by rfl, ?_⟩) (by assumption) ?_
              rotate_left
              · intro w hSw; (try dsimp only at hSw); go_simp; (try with_reducible rfl)
              try simp only [Act.put, List.setIfInBounds_toArray, List.set_cons_zero, List.set_cons_succ]
              refine wpAnyH_take (i := 15) (oi := ⟨_, _, _, _, _, _⟩) (v := ?_) rfl (by kernel_rfl) (by kernel_rfl) (by kernel_rfl) (fun _ _ _ h => h) (Or.inl ⟨by rfl, ?_⟩) (by assumption) ?_
              rotate_left
              · intro w hSw; (try dsimp only at hSw); go_simp; (try with_reducible rfl)
              try simp only [Act.put, List.setIfInBounds_toArray, List.set_cons_zero, List.set_cons_succ]
              refine wpAnyH_take (i := 16) (oi := ⟨_, _, _, _, _, _⟩) (v := ?_) rfl (by kernel_rfl) (by kernel_rfl) (by kernel_rfl) (fun _ _ _ h => h) (Or.inl ⟨by rfl, ?_⟩) (by assumption) ?_
              rotate_left
              · intro w hSw; (try dsimp only at hSw); go_simp; (try with_reducible rfl)
              try simp only [Act.put, List.setIfInBounds_toArray, List.set_cons_zero, List.set_cons_succ]
              refine wpAnyH_ready (rs := [0, 12]) (by kernel_rfl) (by simp) ?_
              refine AllReadyH.cons rfl (fun K hK => ?_) (AllReadyH.cons rfl (fun K hK => ?_) (AllReadyH.nil))
              · skip
                go_simp
                have HA := Lib.hid (own_lit' (w := X.drew) (e := 46) (base := X.heap.size) (C := #[]) (l := ([] : List Ctl)) (g := X.heap.size) Ctl.cells_length rfl (by first | rfl | (simp; done) | (simp [World.size_alloc]; done)) (by first | exact Nat.le_refl _ | exact World.size_ext _ _ | (simp; done) | (simp; omega) | (simp [World.size_alloc]; done) | (simp [World.size_alloc]; omega)))
                (try dsimp only)
                refine hK.out _ _ ?_ (fun hHeld => ?_)
                · (try dsimp only); (refine ⟨?_, ?_, ?_, ?_, ?_⟩ <;> (with_reducible (repeat (first | assumption | refine cell_ext ?_ _ | refine cell_drew ?_ | refine cell_alloc ?_ _))))
                clear hK K
                try simp only [Act.put, List.setIfInBounds_toArray]
                refine wpAnyH_ready (rs := [4, 12]) (by kernel_rfl) (by simp) ?_
                refine AllReadyH.cons rfl (fun K hK => ?_) (AllReadyH.cons rfl (fun K hK => ?_) (AllReadyH.nil))
                · skip
                  refine step_append_gain (W := X) (w := X.drew.alloc (.cells #[] 46)) (base := X.heap.size) (v := .slice (some ⟨X.heap.size, 0, none⟩) 0 0) (m := rs.take k) (u := .slice (some ⟨gB, 0, none⟩) k cB) rfl (.tmp 51) (.tmp 54) rfl Try.underlying27 info_Ctl (by rfl) (by omega) Ctl.cells_length Ctl.cells_one (by omega) (by repeat (first | with_reducible (first | exact World.gained_refl _ | exact ⟨_, rfl⟩ | apply gain_ext | apply gain_alloc | apply gain_drewN | apply gain_drew) | (refine gain_setCell ?_ (by first | exact Nat.le_refl _ | exact World.size_ext _ _ | (simp; done) | (simp; omega)) _))) (Nat.le_refl _) (gain_size (by repeat (first | with_reducible (first | exact World.gained_refl _ | exact ⟨_, rfl⟩ | apply gain_ext | apply gain_alloc | apply gain_drewN | apply gain_drew) | (refine gain_setCell ?_ (by first | exact Nat.le_refl _ | exact World.size_ext _ _ | (simp; done) | (simp; omega)) _)))) (by first | rfl | (simp; done) | (simp [World.size_alloc]; done)) (by first | rfl | (simp; done) | (simp [World.size_alloc]; done) | (rw [show rs.length - k = 0 by omega]; rfl)) (HA.out) (sl_take (by with_reducible (repeat (first | exact hs2.out | refine World.sl_ext Ctl.cells_length ?_ _ | refine sl_alloc Ctl.cells_length ?_ _ | refine sl_drew ?_))) (by omega)) (by simp; omega) ?_
                  intro vA dA hoA hgA
                  rw [List.nil_append] at hoA
                  have HA1 := Lib.hid hoA
                  clear hoA hgA HA
                  (try dsimp only)
                  refine hK.out _ _ ?_ (fun hHeld => ?_)
                  · (try dsimp only); (refine ⟨?_, ?_, ?_, ?_, ?_⟩ <;> (with_reducible (repeat (first | assumption | refine cell_ext ?_ _ | refine cell_drew ?_ | refine cell_alloc ?_ _))))
                  clear hK K
                  try simp only [Act.put, List.setIfInBounds_toArray]
                  refine wpAnyH_ready (rs := [12]) (by kernel_rfl) (by simp) ?_
                  refine AllReadyH.cons rfl (fun K hK => ?_) (AllReadyH.nil)
                  go_simp
                  have HU := Lib.hid (own_lit' (w := (X.ext dA)) (e := 46) (base := X.heap.size) (C := #[.int .i64 s, .int .i64 z]) (l := [(⟨s, z⟩ : Ctl)]) (g := (X.ext dA).heap.size) Ctl.cells_length rfl (by first | rfl | (simp; done) | (simp [World.size_alloc]; done)) (by first | exact Nat.le_refl _ | exact World.size_ext _ _ | (simp; done) | (simp; omega) | (simp [World.size_alloc]; done) | (simp [World.size_alloc]; omega)))
                  (try dsimp only)
                  refine hK.out _ _ ?_ (fun hHeld => ?_)
                  · (try dsimp only); (refine ⟨?_, ?_, ?_, ?_, ?_⟩ <;> (with_reducible (repeat (first | assumption | refine cell_ext ?_ _ | refine cell_drew ?_ | refine cell_alloc ?_ _))))
                  clear hK K
                  try simp only [Act.put, List.setIfInBounds_toArray]
                  refine wpAnyH_ready (rs := [13]) (by kernel_rfl) (by simp) ?_
                  refine AllReadyH.cons rfl (fun K hK => ?_) (AllReadyH.nil)
                  refine step_append_gain (W := X) (w := (X.ext dA).alloc (.cells #[.int .i64 s, .int .i64 z] 46)) (base := X.heap.size) (v := vA) (m := [(⟨s, z⟩ : Ctl)]) (u := .slice (some ⟨(X.ext dA).heap.size, 0, none⟩) 1 1) rfl (.tmp 55) (.tmp 63) rfl Try.underlying27 info_Ctl (by rfl) (by omega) Ctl.cells_length Ctl.cells_one (by omega) (by repeat (first | with_reducible (first | exact World.gained_refl _ | exact ⟨_, rfl⟩ | apply gain_ext | apply gain_alloc | apply gain_drewN | apply gain_drew) | (refine gain_setCell ?_ (by first | exact Nat.le_refl _ | exact World.size_ext _ _ | (simp; done) | (simp; omega)) _))) (Nat.le_refl _) (gain_size (by repeat (first | with_reducible (first | exact World.gained_refl _ | exact ⟨_, rfl⟩ | apply gain_ext | apply gain_alloc | apply gain_drewN | apply gain_drew) | (refine gain_setCell ?_ (by first | exact Nat.le_refl _ | exact World.size_ext _ _ | (simp; done) | (simp; omega)) _)))) (by first | rfl | (simp; done) | (simp [World.size_alloc]; done)) (by first | rfl | (simp; done) | (simp [World.size_alloc]; done) | (rw [show rs.length - k = 0 by omega]; rfl)) (own_up HA1.out (by repeat (first | with_reducible (first | exact World.gained_refl _ | exact ⟨_, rfl⟩ | apply gain_ext | apply gain_alloc | apply gain_drewN | apply gain_drew) | (refine gain_setCell ?_ (by first | exact Nat.le_refl _ | exact World.size_ext _ _ | (simp; done) | (simp; omega)) _)))) (sl_up Ctl.cells_length (sl_of_own Ctl.cells_length HU.out) (by repeat (first | with_reducible (first | exact World.gained_refl _ | exact ⟨_, rfl⟩ | apply gain_ext | apply gain_alloc | apply gain_drewN | apply gain_drew) | (refine gain_setCell ?_ (by first | exact Nat.le_refl _ | exact World.size_ext _ _ | (simp; done) | (simp; omega)) _)))) (by simp; omega) ?_
                  intro vB dB hoB hgB
                  have HA2 := Lib.hid hoB
                  clear hoB hgB HA1 HU
                  (try dsimp only)
                  refine hK.out _ _ ?_ (fun hHeld => ?_)
                  · (try dsimp only); (refine ⟨?_, ?_, ?_, ?_, ?_⟩ <;> (with_reducible (repeat (first | assumption | refine cell_ext ?_ _ | refine cell_drew ?_ | refine cell_alloc ?_ _))))
                  clear hK K
                  try simp only [Act.put, List.setIfInBounds_toArray]
                  refine wpAnyH_ready (rs := [17]) (by kernel_rfl) (by simp) ?_
                  refine AllReadyH.cons rfl (fun K hK => ?_) (AllReadyH.nil)
                  refine step_append_gain (W := X) (w := X.ext dB) (base := X.heap.size) (v := vB) (m := rs.drop k) (u := .slice (some A) (rs.length - k) (cB - k)) rfl (.tmp 64) (.tmp 67) rfl Try.underlying27 info_Ctl (by rfl) (by omega) Ctl.cells_length Ctl.cells_one (by omega) (by repeat (first | with_reducible (first | exact World.gained_refl _ | exact ⟨_, rfl⟩ | apply gain_ext | apply gain_alloc | apply gain_drewN | apply gain_drew) | (refine gain_setCell ?_ (by first | exact Nat.le_refl _ | exact World.size_ext _ _ | (simp; done) | (simp; omega)) _))) (Nat.le_refl _) (gain_size (by repeat (first | with_reducible (first | exact World.gained_refl _ | exact ⟨_, rfl⟩ | apply gain_ext | apply gain_alloc | apply gain_drewN | apply gain_drew) | (refine gain_setCell ?_ (by first | exact Nat.le_refl _ | exact World.size_ext _ _ | (simp; done) | (simp; omega)) _)))) (by first | rfl | (simp; done) | (simp [World.size_alloc]; done)) (by first | rfl | (simp; done) | (simp [World.size_alloc]; done) | (rw [show rs.length - k = 0 by omega]; rfl)) (HA2.out) (sl_drop_any (by with_reducible (repeat (first | exact hs2.out | refine World.sl_ext Ctl.cells_length ?_ _ | refine sl_alloc Ctl.cells_length ?_ _ | refine sl_drew ?_))) (by omega) (by rw [Nat.zero_add]; exact hA)) (by simp; omega) ?_
                  intro vC dC hoC hgC
                  (try dsimp only)
                  refine hK.out _ _ ?_ (fun hHeld => ?_)
                  · (try dsimp only); (refine ⟨?_, ?_, ?_, ?_, ?_⟩ <;> (with_reducible (repeat (first | assumption | refine cell_ext ?_ _ | refine cell_drew ?_ | refine cell_alloc ?_ _))))
                  clear hK K
                  try simp only [Act.put, List.setIfInBounds_toArray]
                  refine wpAnyH_take (i := 18) (oi := ⟨_, _, _, _, _, _⟩) (v := ?_) rfl (by kernel_rfl) (by kernel_rfl) (by kernel_rfl) (fun _ _ _ h => h) (Or.inl ⟨by rfl, ?_⟩) (by assumption) ?_
                  rotate_left
                  · intro w hSw; (try dsimp only at hSw); go_simp; (try with_reducible rfl)
                  try simp only [Act.put, List.setIfInBounds_toArray, List.set_cons_zero, List.set_cons_succ]
                  refine wpAnyH_done (by kernel_rfl) ?_ _
                  rw [hqs] at hoC
                  have HQ := Lib.hid hoC
                  clear hoC hgC HA2
                  obtain ⟨pQ, cQ, rfl, _⟩ := sl_of_own Ctl.cells_length HQ.out
                  go_wp2_with fail
                  refine (l6Good_any m _ _ _ qs _ (mp_up (mp_up HM1.out HGX.out) (by repeat (first | with_reducible (first | exact World.gained_refl _ | exact ⟨_, rfl⟩ | apply gain_ext | apply gain_alloc | apply gain_drewN | apply gain_drew) | (refine gain_setCell ?_ (by first | exact Nat.le_refl _ | exact World.size_ext _ _ | (simp; done) | (simp; omega)) _)))) (sl_of_own Ctl.cells_length (own_up HQ.out (by repeat (first | with_reducible (first | exact World.gained_refl _ | exact ⟨_, rfl⟩ | apply gain_ext | apply gain_alloc | apply gain_drewN | apply gain_drew) | (refine gain_setCell ?_ (by first | exact Nat.le_refl _ | exact World.size_ext _ _ | (simp; done) | (simp; omega)) _))))) (by omega)).mono ?_
                  rw [HIN.out.1]
                  cases hB : wCB m l n ⟨s, z⟩ with
                  | true =>
                    have HE := Lib.hid (HIN.out.2 hB)
                    rintro e w1 ⟨rfl, d4, rfl⟩
                    go_wp2_with fail
                    go_ret2
                    rw [hB, ← HE.out]
                    exact ⟨_, rfl, gain_trans HGW.out (gain_trans HGX.out (by repeat (first | with_reducible (first | exact World.gained_refl _ | exact ⟨_, rfl⟩ | apply gain_ext | apply gain_alloc | apply gain_drewN | apply gain_drew) | (refine gain_setCell ?_ (by first | exact Nat.le_refl _ | exact World.size_ext _ _ | (simp; done) | (simp; omega)) _)))), own_base (own_up HQ.out (by repeat (first | with_reducible (first | exact World.gained_refl _ | exact ⟨_, rfl⟩ | apply gain_ext | apply gain_alloc | apply gain_drewN | apply gain_drew) | (refine gain_setCell ?_ (by first | exact Nat.le_refl _ | exact World.size_ext _ _ | (simp; done) | (simp; omega)) _)))) (by omega)⟩
                  | false =>
                    have HE := Lib.hid (wCL_no hB)
                    rintro e w1 ⟨rfl, d4, rfl⟩
                    go_wp2_with fail
                    go_ret2
                    rw [hB, HE.out]
                    exact ⟨_, rfl, gain_trans HGW.out (gain_trans HGX.out (by repeat (first | with_reducible (first | exact World.gained_refl _ | exact ⟨_, rfl⟩ | apply gain_ext | apply gain_alloc | apply gain_drewN | apply gain_drew) | (refine gain_setCell ?_ (by first | exact Nat.le_refl _ | exact World.size_ext _ _ | (simp; done) | (simp; omega)) _)))), own_lit' (l := ([] : List Ctl)) Ctl.cells_length rfl rfl (by have := World.size_ext X dC; have := World.size_ext (X.ext dC) d4; omega)⟩
                · skip
                  go_simp
                  have HU := Lib.hid (own_lit' (w := (X.drew.alloc (.cells #[] 46))) (e := 46) (base := X.heap.size) (C := #[.int .i64 s, .int .i64 z]) (l := [(⟨s, z⟩ : Ctl)]) (g := X.heap.size + 1) Ctl.cells_length rfl (by first | rfl | (simp; done) | (simp [World.size_alloc]; done)) (by first | exact Nat.le_refl _ | exact World.size_ext _ _ | (simp; done) | (simp; omega) | (simp [World.size_alloc]; done) | (simp [World.size_alloc]; omega)))
                  (try dsimp only)
                  refine hK.out _ _ ?_ (fun hHeld => ?_)
                  · (try dsimp only); (refine ⟨?_, ?_, ?_, ?_, ?_⟩ <;> (with_reducible (repeat (first | assumption | refine cell_ext ?_ _ | refine cell_drew ?_ | refine cell_alloc ?_ _))))
                  clear hK K
                  try simp only [Act.put, List.setIfInBounds_toArray]
                  refine wpAnyH_ready (rs := [4]) (by kernel_rfl) (by simp) ?_
                  refine AllReadyH.cons rfl (fun K hK => ?_) (AllReadyH.nil)
                  refine step_append_gain (W := X) (w := (X.drew.alloc (.cells #[] 46)).alloc (.cells #[.int .i64 s, .int .i64 z] 46)) (base := X.heap.size) (v := .slice (some ⟨X.heap.size, 0, none⟩) 0 0) (m := rs.take k) (u := .slice (some ⟨gB, 0, none⟩) k cB) rfl (.tmp 51) (.tmp 54) rfl Try.underlying27 info_Ctl (by rfl) (by omega) Ctl.cells_length Ctl.cells_one (by omega) (by repeat (first | with_reducible (first | exact World.gained_refl _ | exact ⟨_, rfl⟩ | apply gain_ext | apply gain_alloc | apply gain_drewN | apply gain_drew) | (refine gain_setCell ?_ (by first | exact Nat.le_refl _ | exact World.size_ext _ _ | (simp; done) | (simp; omega)) _))) (Nat.le_refl _) (gain_size (by repeat (first | with_reducible (first | exact World.gained_refl _ | exact ⟨_, rfl⟩ | apply gain_ext | apply gain_alloc | apply gain_drewN | apply gain_drew) | (refine gain_setCell ?_ (by first | exact Nat.le_refl _ | exact World.size_ext _ _ | (simp; done) | (simp; omega)) _)))) (by first | rfl | (simp; done) | (simp [World.size_alloc]; done)) (by first | rfl | (simp; done) | (simp [World.size_alloc]; done) | (rw [show rs.length - k = 0 by omega]; rfl)) (own_up HA.out (by repeat (first | with_reducible (first | exact World.gained_refl _ | exact ⟨_, rfl⟩ | apply gain_ext | apply gain_alloc | apply gain_drewN | apply gain_drew) | (refine gain_setCell ?_ (by first | exact Nat.le_refl _ | exact World.size_ext _ _ | (simp; done) | (simp; omega)) _)))) (sl_take (by with_reducible (repeat (first | exact hs2.out | refine World.sl_ext Ctl.cells_length ?_ _ | refine sl_alloc Ctl.cells_length ?_ _ | refine sl_drew ?_))) (by omega)) (by simp; omega) ?_
                  intro vA dA hoA hgA
                  rw [List.nil_append] at hoA
                  replace HU := Lib.hid (own_mark (own_up HU.out (w' := _) (by repeat (first | with_reducible (first | exact World.gained_refl _ | exact ⟨_, rfl⟩ | apply gain_ext | apply gain_alloc | apply gain_drewN | apply gain_drew) | (refine gain_setCell ?_ (by first | exact Nat.le_refl _ | exact World.size_ext _ _ | (simp; done) | (simp; omega)) _)))) hgA (by first | (simp; done) | (simp [Value.ownBlock]; done) | (simp [Value.ownBlock, World.size_alloc]; done)))
                  have HA1 := Lib.hid hoA
                  clear hoA hgA HA
                  (try dsimp only)
                  refine hK.out _ _ ?_ (fun hHeld => ?_)
                  · (try dsimp only); (refine ⟨?_, ?_, ?_, ?_, ?_⟩ <;> (with_reducible (repeat (first | assumption | refine cell_ext ?_ _ | refine cell_drew ?_ | refine cell_alloc ?_ _))))
                  clear hK K
                  try simp only [Act.put, List.setIfInBounds_toArray]
                  refine wpAnyH_ready (rs := [13]) (by kernel_rfl) (by simp) ?_
                  refine AllReadyH.cons rfl (fun K hK => ?_) (AllReadyH.nil)
                  refine step_append_gain (W := X) (w := X.ext dA) (base := X.heap.size) (v := vA) (m := [(⟨s, z⟩ : Ctl)]) (u := .slice (some ⟨X.heap.size + 1, 0, none⟩) 1 1) rfl (.tmp 55) (.tmp 63) rfl Try.underlying27 info_Ctl (by rfl) (by omega) Ctl.cells_length Ctl.cells_one (by omega) (by repeat (first | with_reducible (first | exact World.gained_refl _ | exact ⟨_, rfl⟩ | apply gain_ext | apply gain_alloc | apply gain_drewN | apply gain_drew) | (refine gain_setCell ?_ (by first | exact Nat.le_refl _ | exact World.size_ext _ _ | (simp; done) | (simp; omega)) _))) (Nat.le_refl _) (gain_size (by repeat (first | with_reducible (first | exact World.gained_refl _ | exact ⟨_, rfl⟩ | apply gain_ext | apply gain_alloc | apply gain_drewN | apply gain_drew) | (refine gain_setCell ?_ (by first | exact Nat.le_refl _ | exact World.size_ext _ _ | (simp; done) | (simp; omega)) _)))) (by first | rfl | (simp; done) | (simp [World.size_alloc]; done)) (by first | rfl | (simp; done) | (simp [World.size_alloc]; done) | (rw [show rs.length - k = 0 by omega]; rfl)) (own_up HA1.out (by repeat (first | with_reducible (first | exact World.gained_refl _ | exact ⟨_, rfl⟩ | apply gain_ext | apply gain_alloc | apply gain_drewN | apply gain_drew) | (refine gain_setCell ?_ (by first | exact Nat.le_refl _ | exact World.size_ext _ _ | (simp; done) | (simp; omega)) _)))) (sl_up Ctl.cells_length (sl_of_own Ctl.cells_length HU.out) (by repeat (first | with_reducible (first | exact World.gained_refl _ | exact ⟨_, rfl⟩ | apply gain_ext | apply gain_alloc | apply gain_drewN | apply gain_drew) | (refine gain_setCell ?_ (by first | exact Nat.le_refl _ | exact World.size_ext _ _ | (simp; done) | (simp; omega)) _)))) (by simp; omega) ?_
                  intro vB dB hoB hgB
                  have HA2 := Lib.hid hoB
                  clear hoB hgB HA1 HU
                  (try dsimp only)
                  refine hK.out _ _ ?_ (fun hHeld => ?_)
                  · (try dsimp only); (refine ⟨?_, ?_, ?_, ?_, ?_⟩ <;> (with_reducible (repeat (first | assumption | refine cell_ext ?_ _ | refine cell_drew ?_ | refine cell_alloc ?_ _))))
                  clear hK K
                  try simp only [Act.put, List.setIfInBounds_toArray]
                  refine wpAnyH_ready (rs := [17]) (by kernel_rfl) (by simp) ?_
                  refine AllReadyH.cons rfl (fun K hK => ?_) (AllReadyH.nil)
                  refine step_append_gain (W := X) (w := X.ext dB) (base := X.heap.size) (v := vB) (m := rs.drop k) (u := .slice (some A) (rs.length - k) (cB - k)) rfl (.tmp 64) (.tmp 67) rfl Try.underlying27 info_Ctl (by rfl) (by omega) Ctl.cells_length Ctl.cells_one (by omega) (by repeat (first | with_reducible (first | exact World.gained_refl _ | exact ⟨_, rfl⟩ | apply gain_ext | apply gain_alloc | apply gain_drewN | apply gain_drew) | (refine gain_setCell ?_ (by first | exact Nat.le_refl _ | exact World.size_ext _ _ | (simp; done) | (simp; omega)) _))) (Nat.le_refl _) (gain_size (by repeat (first | with_reducible (first | exact World.gained_refl _ | exact ⟨_, rfl⟩ | apply gain_ext | apply gain_alloc | apply gain_drewN | apply gain_drew) | (refine gain_setCell ?_ (by first | exact Nat.le_refl _ | exact World.size_ext _ _ | (simp; done) | (simp; omega)) _)))) (by first | rfl | (simp; done) | (simp [World.size_alloc]; done)) (by first | rfl | (simp; done) | (simp [World.size_alloc]; done) | (rw [show rs.length - k = 0 by omega]; rfl)) (HA2.out) (sl_drop_any (by with_reducible (repeat (first | exact hs2.out | refine World.sl_ext Ctl.cells_length ?_ _ | refine sl_alloc Ctl.cells_length ?_ _ | refine sl_drew ?_))) (by omega) (by rw [Nat.zero_add]; exact hA)) (by simp; omega) ?_
                  intro vC dC hoC hgC
                  (try dsimp only)
                  refine hK.out _ _ ?_ (fun hHeld => ?_)
                  · (try dsimp only); (refine ⟨?_, ?_, ?_, ?_, ?_⟩ <;> (with_reducible (repeat (first | assumption | refine cell_ext ?_ _ | refine cell_drew ?_ | refine cell_alloc ?_ _))))
                  clear hK K
                  try simp only [Act.put, List.setIfInBounds_toArray]
                  refine wpAnyH_take (i := 18) (oi := ⟨_, _, _, _, _, _⟩) (v := ?_) rfl (by kernel_rfl) (by kernel_rfl) (by kernel_rfl) (fun _ _ _ h => h) (Or.inl ⟨by rfl, ?_⟩) (by assumption) ?_
                  rotate_left
                  · intro w hSw; (try dsimp only at hSw); go_simp; (try with_reducible rfl)
                  try simp only [Act.put, List.setIfInBounds_toArray, List.set_cons_zero, List.set_cons_succ]
                  refine wpAnyH_done (by kernel_rfl) ?_ _
                  rw [hqs] at hoC
                  have HQ := Lib.hid hoC
                  clear hoC hgC HA2
                  obtain ⟨pQ, cQ, rfl, _⟩ := sl_of_own Ctl.cells_length HQ.out
                  go_wp2_with fail
                  refine (l6Good_any m _ _ _ qs _ (mp_up (mp_up HM1.out HGX.out) (by repeat (first | with_reducible (first | exact World.gained_refl _ | exact ⟨_, rfl⟩ | apply gain_ext | apply gain_alloc | apply gain_drewN | apply gain_drew) | (refine gain_setCell ?_ (by first | exact Nat.le_refl _ | exact World.size_ext _ _ | (simp; done) | (simp; omega)) _)))) (sl_of_own Ctl.cells_length (own_up HQ.out (by repeat (first | with_reducible (first | exact World.gained_refl _ | exact ⟨_, rfl⟩ | apply gain_ext | apply gain_alloc | apply gain_drewN | apply gain_drew) | (refine gain_setCell ?_ (by first | exact Nat.le_refl _ | exact World.size_ext _ _ | (simp; done) | (simp; omega)) _))))) (by omega)).mono ?_
                  rw [HIN.out.1]
                  cases hB : wCB m l n ⟨s, z⟩ with
                  | true =>
                    have HE := Lib.hid (HIN.out.2 hB)
                    rintro e w1 ⟨rfl, d4, rfl⟩
                    go_wp2_with fail
                    go_ret2
                    rw [hB, ← HE.out]
                    exact ⟨_, rfl, gain_trans HGW.out (gain_trans HGX.out (by repeat (first | with_reducible (first | exact World.gained_refl _ | exact ⟨_, rfl⟩ | apply gain_ext | apply gain_alloc | apply gain_drewN | apply gain_drew) | (refine gain_setCell ?_ (by first | exact Nat.le_refl _ | exact World.size_ext _ _ | (simp; done) | (simp; omega)) _)))), own_base (own_up HQ.out (by repeat (first | with_reducible (first | exact World.gained_refl _ | exact ⟨_, rfl⟩ | apply gain_ext | apply gain_alloc | apply gain_drewN | apply gain_drew) | (refine gain_setCell ?_ (by first | exact Nat.le_refl _ | exact World.size_ext _ _ | (simp; done) | (simp; omega)) _)))) (by omega)⟩
                  | false =>
                    have HE := Lib.hid (wCL_no hB)
                    rintro e w1 ⟨rfl, d4, rfl⟩
                    go_wp2_with fail
                    go_ret2
                    rw [hB, HE.out]
                    exact ⟨_, rfl, gain_trans HGW.out (gain_trans HGX.out (by repeat (first | with_reducible (first | exact World.gained_refl _ | exact ⟨_, rfl⟩ | apply gain_ext | apply gain_alloc | apply gain_drewN | apply gain_drew) | (refine gain_setCell ?_ (by first | exact Nat.le_refl _ | exact World.size_ext _ _ | (simp; done) | (simp; omega)) _)))), own_lit' (l := ([] : List Ctl)) Ctl.cells_length rfl rfl (by have := World.size_ext X dC; have := World.size_ext (X.ext dC) d4; omega)⟩
              · skip
                go_simp
                have HU := Lib.hid (own_lit' (w := X.drew) (e := 46) (base := X.heap.size) (C := #[.int .i64 s, .int .i64 z]) (l := [(⟨s, z⟩ : Ctl)]) (g := X.heap.size) Ctl.cells_length rfl (by first | rfl | (simp; done) | (simp [World.size_alloc]; done)) (by first | exact Nat.le_refl _ | exact World.size_ext _ _ | (simp; done) | (simp; omega) | (simp [World.size_alloc]; done) | (simp [World.size_alloc]; omega)))
                (try dsimp only)
                refine hK.out _ _ ?_ (fun hHeld => ?_)
                · (try dsimp only); (refine ⟨?_, ?_, ?_, ?_, ?_⟩ <;> (with_reducible (repeat (first | assumption | refine cell_ext ?_ _ | refine cell_drew ?_ | refine cell_alloc ?_ _))))
                clear hK K
                try simp only [Act.put, List.setIfInBounds_toArray]
                refine wpAnyH_ready (rs := [0]) (by kernel_rfl) (by simp) ?_
                refine AllReadyH.cons rfl (fun K hK => ?_) (AllReadyH.nil)
                go_simp
                have HA := Lib.hid (own_lit' (w := (X.drew.alloc (.cells #[.int .i64 s, .int .i64 z] 46))) (e := 46) (base := X.heap.size) (C := #[]) (l := ([] : List Ctl)) (g := X.heap.size + 1) Ctl.cells_length rfl (by first | rfl | (simp; done) | (simp [World.size_alloc]; done)) (by first | exact Nat.le_refl _ | exact World.size_ext _ _ | (simp; done) | (simp; omega) | (simp [World.size_alloc]; done) | (simp [World.size_alloc]; omega)))
                (try dsimp only)
                refine hK.out _ _ ?_ (fun hHeld => ?_)
                · (try dsimp only); (refine ⟨?_, ?_, ?_, ?_, ?_⟩ <;> (with_reducible (repeat (first | assumption | refine cell_ext ?_ _ | refine cell_drew ?_ | refine cell_alloc ?_ _))))
                clear hK K
                try simp only [Act.put, List.setIfInBounds_toArray]
                refine wpAnyH_ready (rs := [4]) (by kernel_rfl) (by simp) ?_
                refine AllReadyH.cons rfl (fun K hK => ?_) (AllReadyH.nil)
                refine step_append_gain (W := X) (w := (X.drew.alloc (.cells #[.int .i64 s, .int .i64 z] 46)).alloc (.cells #[] 46)) (base := X.heap.size) (v := .slice (some ⟨X.heap.size + 1, 0, none⟩) 0 0) (m := rs.take k) (u := .slice (some ⟨gB, 0, none⟩) k cB) rfl (.tmp 51) (.tmp 54) rfl Try.underlying27 info_Ctl (by rfl) (by omega) Ctl.cells_length Ctl.cells_one (by omega) (by repeat (first | with_reducible (first | exact World.gained_refl _ | exact ⟨_, rfl⟩ | apply gain_ext | apply gain_alloc | apply gain_drewN | apply gain_drew) | (refine gain_setCell ?_ (by first | exact Nat.le_refl _ | exact World.size_ext _ _ | (simp; done) | (simp; omega)) _))) (Nat.le_refl _) (gain_size (by repeat (first | with_reducible (first | exact World.gained_refl _ | exact ⟨_, rfl⟩ | apply gain_ext | apply gain_alloc | apply gain_drewN | apply gain_drew) | (refine gain_setCell ?_ (by first | exact Nat.le_refl _ | exact World.size_ext _ _ | (simp; done) | (simp; omega)) _)))) (by first | rfl | (simp; done) | (simp [World.size_alloc]; done)) (by first | rfl | (simp; done) | (simp [World.size_alloc]; done) | (rw [show rs.length - k = 0 by omega]; rfl)) (HA.out) (sl_take (by with_reducible (repeat (first | exact hs2.out | refine World.sl_ext Ctl.cells_length ?_ _ | refine sl_alloc Ctl.cells_length ?_ _ | refine sl_drew ?_))) (by omega)) (by simp; omega) ?_
                intro vA dA hoA hgA
                rw [List.nil_append] at hoA
                replace HU := Lib.hid (own_mark (own_up HU.out (w' := _) (by repeat (first | with_reducible (first | exact World.gained_refl _ | exact ⟨_, rfl⟩ | apply gain_ext | apply gain_alloc | apply gain_drewN | apply gain_drew) | (refine gain_setCell ?_ (by first | exact Nat.le_refl _ | exact World.size_ext _ _ | (simp; done) | (simp; omega)) _)))) hgA (by first | (simp; done) | (simp [Value.ownBlock]; done) | (simp [Value.ownBlock, World.size_alloc]; done)))
                have HA1 := Lib.hid hoA
                clear hoA hgA HA
                (try dsimp only)
                refine hK.out _ _ ?_ (fun hHeld => ?_)
                · (try dsimp only); (refine ⟨?_, ?_, ?_, ?_, ?_⟩ <;> (with_reducible (repeat (first | assumption | refine cell_ext ?_ _ | refine cell_drew ?_ | refine cell_alloc ?_ _))))
                clear hK K
                try simp only [Act.put, List.setIfInBounds_toArray]
                refine wpAnyH_ready (rs := [13]) (by kernel_rfl) (by simp) ?_
                refine AllReadyH.cons rfl (fun K hK => ?_) (AllReadyH.nil)
                refine step_append_gain (W := X) (w := X.ext dA) (base := X.heap.size) (v := vA) (m := [(⟨s, z⟩ : Ctl)]) (u := .slice (some ⟨X.heap.size, 0, none⟩) 1 1) rfl (.tmp 55) (.tmp 63) rfl Try.underlying27 info_Ctl (by rfl) (by omega) Ctl.cells_length Ctl.cells_one (by omega) (by repeat (first | with_reducible (first | exact World.gained_refl _ | exact ⟨_, rfl⟩ | apply gain_ext | apply gain_alloc | apply gain_drewN | apply gain_drew) | (refine gain_setCell ?_ (by first | exact Nat.le_refl _ | exact World.size_ext _ _ | (simp; done) | (simp; omega)) _))) (Nat.le_refl _) (gain_size (by repeat (first | with_reducible (first | exact World.gained_refl _ | exact ⟨_, rfl⟩ | apply gain_ext | apply gain_alloc | apply gain_drewN | apply gain_drew) | (refine gain_setCell ?_ (by first | exact Nat.le_refl _ | exact World.size_ext _ _ | (simp; done) | (simp; omega)) _)))) (by first | rfl | (simp; done) | (simp [World.size_alloc]; done)) (by first | rfl | (simp; done) | (simp [World.size_alloc]; done) | (rw [show rs.length - k = 0 by omega]; rfl)) (own_up HA1.out (by repeat (first | with_reducible (first | exact World.gained_refl _ | exact ⟨_, rfl⟩ | apply gain_ext | apply gain_alloc | apply gain_drewN | apply gain_drew) | (refine gain_setCell ?_ (by first | exact Nat.le_refl _ | exact World.size_ext _ _ | (simp; done) | (simp; omega)) _)))) (sl_up Ctl.cells_length (sl_of_own Ctl.cells_length HU.out) (by repeat (first | with_reducible (first | exact World.gained_refl _ | exact ⟨_, rfl⟩ | apply gain_ext | apply gain_alloc | apply gain_drewN | apply gain_drew) | (refine gain_setCell ?_ (by first | exact Nat.le_refl _ | exact World.size_ext _ _ | (simp; done) | (simp; omega)) _)))) (by simp; omega) ?_
                intro vB dB hoB hgB
                have HA2 := Lib.hid hoB
                clear hoB hgB HA1 HU
                (try dsimp only)
                refine hK.out _ _ ?_ (fun hHeld => ?_)
                · (try dsimp only); (refine ⟨?_, ?_, ?_, ?_, ?_⟩ <;> (with_reducible (repeat (first | assumption | refine cell_ext ?_ _ | refine cell_drew ?_ | refine cell_alloc ?_ _))))
                clear hK K
                try simp only [Act.put, List.setIfInBounds_toArray]
                refine wpAnyH_ready (rs := [17]) (by kernel_rfl) (by simp) ?_
                refine AllReadyH.cons rfl (fun K hK => ?_) (AllReadyH.nil)
                refine step_append_gain (W := X) (w := X.ext dB) (base := X.heap.size) (v := vB) (m := rs.drop k) (u := .slice (some A) (rs.length - k) (cB - k)) rfl (.tmp 64) (.tmp 67) rfl Try.underlying27 info_Ctl (by rfl) (by omega) Ctl.cells_length Ctl.cells_one (by omega) (by repeat (first | with_reducible (first | exact World.gained_refl _ | exact ⟨_, rfl⟩ | apply gain_ext | apply gain_alloc | apply gain_drewN | apply gain_drew) | (refine gain_setCell ?_ (by first | exact Nat.le_refl _ | exact World.size_ext _ _ | (simp; done) | (simp; omega)) _))) (Nat.le_refl _) (gain_size (by repeat (first | with_reducible (first | exact World.gained_refl _ | exact ⟨_, rfl⟩ | apply gain_ext | apply gain_alloc | apply gain_drewN | apply gain_drew) | (refine gain_setCell ?_ (by first | exact Nat.le_refl _ | exact World.size_ext _ _ | (simp; done) | (simp; omega)) _)))) (by first | rfl | (simp; done) | (simp [World.size_alloc]; done)) (by first | rfl | (simp; done) | (simp [World.size_alloc]; done) | (rw [show rs.length - k = 0 by omega]; rfl)) (HA2.out) (sl_drop_any (by with_reducible (repeat (first | exact hs2.out | refine World.sl_ext Ctl.cells_length ?_ _ | refine sl_alloc Ctl.cells_length ?_ _ | refine sl_drew ?_))) (by omega) (by rw [Nat.zero_add]; exact hA)) (by simp; omega) ?_
                intro vC dC hoC hgC
                (try dsimp only)
                refine hK.out _ _ ?_ (fun hHeld => ?_)
                · (try dsimp only); (refine ⟨?_, ?_, ?_, ?_, ?_⟩ <;> (with_reducible (repeat (first | assumption | refine cell_ext ?_ _ | refine cell_drew ?_ | refine cell_alloc ?_ _))))
                clear hK K
                try simp only [Act.put, List.setIfInBounds_toArray]
                refine wpAnyH_take (i := 18) (oi := ⟨_, _, _, _, _, _⟩) (v := ?_) rfl (by kernel_rfl) (by kernel_rfl) (by kernel_rfl) (fun _ _ _ h => h) (Or.inl ⟨by rfl, ?_⟩) (by assumption) ?_
                rotate_left
                · intro w hSw; (try dsimp only at hSw); go_simp; (try with_reducible rfl)
                try simp only [Act.put, List.setIfInBounds_toArray, List.set_cons_zero, List.set_cons_succ]
                refine wpAnyH_done (by kernel_rfl) ?_ _
                rw [hqs] at hoC
                have HQ := Lib.hid hoC
                clear hoC hgC HA2
                obtain ⟨pQ, cQ, rfl, _⟩ := sl_of_own Ctl.cells_length HQ.out
                go_wp2_with fail
                refine (l6Good_any m _ _ _ qs _ (mp_up (mp_up HM1.out HGX.out) (by repeat (first | with_reducible (first | exact World.gained_refl _ | exact ⟨_, rfl⟩ | apply gain_ext | apply gain_alloc | apply gain_drewN | apply gain_drew) | (refine gain_setCell ?_ (by first | exact Nat.le_refl _ | exact World.size_ext _ _ | (simp; done) | (simp; omega)) _)))) (sl_of_own Ctl.cells_length (own_up HQ.out (by repeat (first | with_reducible (first | exact World.gained_refl _ | exact ⟨_, rfl⟩ | apply gain_ext | apply gain_alloc | apply gain_drewN | apply gain_drew) | (refine gain_setCell ?_ (by first | exact Nat.le_refl _ | exact World.size_ext _ _ | (simp; done) | (simp; omega)) _))))) (by omega)).mono ?_
                rw [HIN.out.1]
                cases hB : wCB m l n ⟨s, z⟩ with
                | true =>
                  have HE := Lib.hid (HIN.out.2 hB)
                  rintro e w1 ⟨rfl, d4, rfl⟩
                  go_wp2_with fail
                  go_ret2
                  rw [hB, ← HE.out]
                  exact ⟨_, rfl, gain_trans HGW.out (gain_trans HGX.out (by repeat (first | with_reducible (first | exact World.gained_refl _ | exact ⟨_, rfl⟩ | apply gain_ext | apply gain_alloc | apply gain_drewN | apply gain_drew) | (refine gain_setCell ?_ (by first | exact Nat.le_refl _ | exact World.size_ext _ _ | (simp; done) | (simp; omega)) _)))), own_base (own_up HQ.out (by repeat (first | with_reducible (first | exact World.gained_refl _ | exact ⟨_, rfl⟩ | apply gain_ext | apply gain_alloc | apply gain_drewN | apply gain_drew) | (refine gain_setCell ?_ (by first | exact Nat.le_refl _ | exact World.size_ext _ _ | (simp; done) | (simp; omega)) _)))) (by omega)⟩
                | false =>
                  have HE := Lib.hid (wCL_no hB)
                  rintro e w1 ⟨rfl, d4, rfl⟩
                  go_wp2_with fail
                  go_ret2
                  rw [hB, HE.out]
                  exact ⟨_, rfl, gain_trans HGW.out (gain_trans HGX.out (by repeat (first | with_reducible (first | exact World.gained_refl _ | exact ⟨_, rfl⟩ | apply gain_ext | apply gain_alloc | apply gain_drewN | apply gain_drew) | (refine gain_setCell ?_ (by first | exact Nat.le_refl _ | exact World.size_ext _ _ | (simp; done) | (simp; omega)) _)))), own_lit' (l := ([] : List Ctl)) Ctl.cells_length rfl rfl (by have := World.size_ext X dC; have := World.size_ext (X.ext dC) d4; omega)⟩
      )
end Go.Proofs.Ytedpckkoaioooaa
