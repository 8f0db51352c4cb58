/- spec.FillClasses. Condition: at most 1048576 classes and runners, their strings too. -/
import Derived.Test.YtfenempljjenpaaG21
namespace Go.Ori
theorem cntO_take {o : List Int} {c : Int} {j : Nat} (h : j < o.length) : cntO (o.take (j + 1)) c = cntO (o.take j) c + if o[j] = c then 1 else 0 := by
  rw [List.take_succ_eq_append_getElem h, cntO_snoc]
end Go.Ori
namespace Go.Proofs.Ytfenempljjenpaa
open Go.RowKit Go.Ori
set_option maxHeartbeats 4000000 in
theorem specFillClasses_any (v vr : Value) (l : List Cls) (rs : List Runner) (w : World) (h : w.sl Cls.cells 8 v l) (hl : l.length ≤ 1048576) (hq : ∀ x ∈ l, Cls.small x) (h2 : w.sl Runner.cells 6 vr rs) (hl2 : rs.length ≤ 1048576) (hq2 : ∀ x ∈ rs, Runner.small x) :
    Calls Try.prog 7 #[v, vr] w fun x w' => ∃ q, x = .returned (.tuple #[q, .bool (fillB l rs)]) ∧ (∃ d, w' = w.ext d) ∧ w'.own w.heap.size 3 intC 1 q (fillL l rs) := by
  have hs := Lib.hid h
  have hsr := Lib.hid h2
  obtain ⟨p, c, rfl, _⟩ := h
  obtain ⟨pr, cr, rfl, _⟩ := h2
  cases hC : clssB l with
  | false =>
    have HE := Lib.hid (fill_no (l := l) (rs := rs) (by simp [fillB, hC]))
    go_enter Try.func7, Try.ntmps7
    go_wp2_with (first | (go_at_call 25; refine (l7Good_any _ l _ (by with_reducible (repeat (first | exact hs.out | refine World.sl_ext Cls.cells_length ?_ _ | refine sl_alloc Cls.cells_length ?_ _ | refine sl_drew ?_))) hl hq).mono ?_; rintro e w1 ⟨rfl, d1, rfl⟩) | (go_at_call 26; refine (l5Good_any _ rs _ (by with_reducible (repeat (first | exact hsr.out | refine World.sl_ext Runner.cells_length ?_ _ | refine sl_alloc Runner.cells_length ?_ _ | refine sl_drew ?_))) hl2 hq2).mono ?_; rintro e w1 ⟨rfl, d1, rfl⟩))
    go_ret2
    rw [HE.out.1, HE.out.2]
    exact ⟨_, rfl, (by repeat (first | with_reducible (first | exact World.gained_refl _ | exact ⟨_, rfl⟩ | apply gain_ext | apply gain_alloc | apply gain_drewN | apply gain_drew) | (refine gain_setCell ?_ (by first | exact Nat.le_refl _ | exact World.size_ext _ _ | (simp; done) | (simp; omega)) _))), own_up (own_lit' (l := ([] : List Int)) (base := w.heap.size) intC_length rfl rfl (gain_size (by repeat (first | with_reducible (first | exact World.gained_refl _ | exact ⟨_, rfl⟩ | apply gain_ext | apply gain_alloc | apply gain_drewN | apply gain_drew) | (refine gain_setCell ?_ (by first | exact Nat.le_refl _ | exact World.size_ext _ _ | (simp; done) | (simp; omega)) _))))) (by repeat (first | with_reducible (first | exact World.gained_refl _ | exact ⟨_, rfl⟩ | apply gain_ext | apply gain_alloc | apply gain_drewN | apply gain_drew) | (refine gain_setCell ?_ (by first | exact Nat.le_refl _ | exact World.size_ext _ _ | (simp; done) | (simp; omega)) _)))⟩
  | true =>
  cases hR : runsB rs with
  | false =>
    have HE := Lib.hid (fill_no (l := l) (rs := rs) (by simp [fillB, hR]))
    go_enter Try.func7, Try.ntmps7
    go_wp2_with (first | (go_at_call 25; refine (l7Good_any _ l _ (by with_reducible (repeat (first | exact hs.out | refine World.sl_ext Cls.cells_length ?_ _ | refine sl_alloc Cls.cells_length ?_ _ | refine sl_drew ?_))) hl hq).mono ?_; rintro e w1 ⟨rfl, d1, rfl⟩) | (go_at_call 26; refine (l5Good_any _ rs _ (by with_reducible (repeat (first | exact hsr.out | refine World.sl_ext Runner.cells_length ?_ _ | refine sl_alloc Runner.cells_length ?_ _ | refine sl_drew ?_))) hl2 hq2).mono ?_; rintro e w1 ⟨rfl, d1, rfl⟩))
    go_ret2
    rw [HE.out.1, HE.out.2]
    exact ⟨_, rfl, (by repeat (first | with_reducible (first | exact World.gained_refl _ | exact ⟨_, rfl⟩ | apply gain_ext | apply gain_alloc | apply gain_drewN | apply gain_drew) | (refine gain_setCell ?_ (by first | exact Nat.le_refl _ | exact World.size_ext _ _ | (simp; done) | (simp; omega)) _))), own_up (own_lit' (l := ([] : List Int)) (base := w.heap.size) intC_length rfl rfl (gain_size (by repeat (first | with_reducible (first | exact World.gained_refl _ | exact ⟨_, rfl⟩ | apply gain_ext | apply gain_alloc | apply gain_drewN | apply gain_drew) | (refine gain_setCell ?_ (by first | exact Nat.le_refl _ | exact World.size_ext _ _ | (simp; done) | (simp; omega)) _))))) (by repeat (first | with_reducible (first | exact World.gained_refl _ | exact ⟨_, rfl⟩ | apply gain_ext | apply gain_alloc | apply gain_drewN | apply gain_drew) | (refine gain_setCell ?_ (by first | exact Nat.le_refl _ | exact World.size_ext _ _ | (simp; done) | (simp; omega)) _)))⟩
  | true =>
    have HE := Lib.hid (fill_yes (l := l) (rs := rs) (by simp [fillB, hC, hR]))
    have HCC := Lib.hid hC
    have HRR := Lib.hid hR
    have hrl := runsB_len hR
    have hll := clssB_len hC
    go_enter Try.func7, Try.ntmps7
    go_wp2_with (first | (go_at_call 25; refine (l7Good_any _ l _ (by with_reducible (repeat (first | exact hs.out | refine World.sl_ext Cls.cells_length ?_ _ | refine sl_alloc Cls.cells_length ?_ _ | refine sl_drew ?_))) hl hq).mono ?_; rintro e w1 ⟨rfl, d1, rfl⟩) | (go_at_call 26; refine (l5Good_any _ rs _ (by with_reducible (repeat (first | exact hsr.out | refine World.sl_ext Runner.cells_length ?_ _ | refine sl_alloc Runner.cells_length ?_ _ | refine sl_drew ?_))) hl2 hq2).mono ?_; rintro e w1 ⟨rfl, d1, rfl⟩))
    clear hC hR
    go_loopw [6, 7] (fun ov i wr => ∃ k : Nat, k ≤ rs.length ∧ i = .int .i64 k ∧ (∃ d, wr = w.ext d) ∧ wr.own w.heap.size 3 intC 1 ov (fillN l rs k)) (fun _ i _ => rs.length - (intOf i).toNat)
    case atStart => exact ⟨0, by omega, rfl, (by repeat (first | with_reducible (first | exact World.gained_refl _ | exact ⟨_, rfl⟩ | apply gain_ext | apply gain_alloc | apply gain_drewN | apply gain_drew) | (refine gain_setCell ?_ (by first | exact Nat.le_refl _ | exact World.size_ext _ _ | (simp; done) | (simp; omega)) _))), own_up (own_lit' (l := ([] : List Int)) (base := w.heap.size) (w := w) intC_length rfl rfl (Nat.le_refl _)) (by repeat (first | with_reducible (first | exact World.gained_refl _ | exact ⟨_, rfl⟩ | apply gain_ext | apply gain_alloc | apply gain_drewN | apply gain_drew) | (refine gain_setCell ?_ (by first | exact Nat.le_refl _ | exact World.size_ext _ _ | (simp; done) | (simp; omega)) _)))⟩
    case round =>
      obtain ⟨k, hk, rfl, ⟨d, rfl⟩, ho⟩ := hrel
      have HO := Lib.hid ho
      by_cases hlt : k < rs.length
      · obtain ⟨b, o, rfl⟩ := sl_some hsr.out (by omega)
        have hck := fun j (hj : j < 6) => sl_cells hsr.out hlt hj
        have HS : Hid (fillN l rs (k + 1) = fillN l rs k ++ [pickO (takeB (fillN l rs k) rs[k]) l]) := Lib.hid (fillN_succ hlt)
        have hbr := born_bd' HRR.out hlt
        have e0 := hck 0 (by omega)
        have e1 := hck 1 (by omega)
        have e2 := hck 2 (by omega)
        have e3 := hck 3 (by omega)
        have e4 := hck 4 (by omega)
        have e5 := hck 5 (by omega)
        generalize rs[k] = r at e0 e1 e2 e3 e4 e5 hck HS hbr
        clear hck
        simp only [Runner.cells, List.getElem?_cons_zero, List.getElem?_cons_succ, Nat.add_zero] at e0 e1 e2 e3 e4 e5
        have ob := World.oldB_of_cell e0
        have hol := fillN_length l rs k
        generalize fillN l rs k = O at HO HS hol ho
        obtain ⟨po, co, rfl, -⟩ := sl_of_own intC_length ho
        rw [hol]
        rw [hol] at HO ho
        have HOL := Lib.hid hol
        clear hol ho
        go_wp2
        go_loopw [8, 9] (fun g i wr => ∃ q : Nat, q ≤ l.length ∧ i = .int .i64 q ∧ g = .int .i64 (pickO (takeB O r) (l.take q)) ∧ ∃ d', wr = (w.ext d).ext d') (fun _ i _ => l.length - (intOf i).toNat)
        case atStart => exact ⟨0, by omega, rfl, rfl, World.gained_refl _⟩
        case round =>
          obtain ⟨q, hq', rfl, rfl, dq, rfl⟩ := hrel
          by_cases hql : q < l.length
          · obtain ⟨b3, o3, rfl⟩ := sl_some hs.out (by omega)
            have hck := fun j (hj : j < 8) => sl_cells hs.out hql hj
            have HP : Hid (pickO (takeB O r) (l.take (q + 1)) = if pickO (takeB O r) (l.take q) = 0 then (if takeB O r l[q] then l[q].id else 0) else pickO (takeB O r) (l.take q)) := Lib.hid (by
              rw [List.take_succ_eq_append_getElem hql]
              exact pickO_snoc (fun c hc => by
                obtain ⟨i, hi, rfl⟩ := List.getElem_of_mem (List.mem_of_mem_take hc)
                have := cls_id (clssB_at HCC.out hi)
                omega) _)
            have hid := cls_id (clssB_at HCC.out hql)
            have m0 := hck 0 (by omega)
            have m1 := hck 1 (by omega)
            have m2 := hck 2 (by omega)
            have m3 := hck 3 (by omega)
            have m4 := hck 4 (by omega)
            have m5 := hck 5 (by omega)
            have m6 := hck 6 (by omega)
            have m7 := hck 7 (by omega)
            generalize l[q] = y at m0 m1 m2 m3 m4 m5 m6 m7 hck hid HP
            simp only [Cls.cells, List.getElem?_cons_zero, List.getElem?_cons_succ, Nat.add_zero] at m0 m1 m2 m3 m4 m5 m6 m7
            have ob3 := World.oldB_of_cell m0
            obtain ⟨i1, i2, i3, i4⟩ := hid
            clear hck
            go_wp2
            go_loopw [10, 11] (fun n i wr => ∃ j : Nat, j ≤ k ∧ i = .int .i64 j ∧ n = .int .i64 (cntO (O.take j) y.id : Nat) ∧ ∃ d', wr = (w.ext d).ext d') (fun _ i _ => k - (intOf i).toNat)
            case atStart => exact ⟨0, by omega, rfl, rfl, ⟨_, rfl⟩⟩
            case round =>
              obtain ⟨j, hj, rfl, rfl, dj, rfl⟩ := hrel
              by_cases hjl : j < k
              · have hjo : j < O.length := by rw [HOL.out]; exact hjl
                obtain ⟨b4, o4, rfl⟩ := sl_some (sl_of_own intC_length HO.out) (by rw [HOL.out]; omega)
                have c4 := sl_int (sl_of_own intC_length HO.out) hjo
                have HCT := Lib.hid (cntO_take (c := y.id) hjo)
                have hcb := cntO_le (O.take j) y.id
                have hcb2 : (O.take j).length ≤ j := by rw [List.length_take]; omega
                have nb4 : w.newB d b4 := World.oldB_of_cell c4
                generalize O[j] = x at c4 HCT
                generalize cntO (O.take j) y.id = n at HCT hcb ⊢
                clear hjo
                by_cases hx : x = y.id
                · have HCT' := Lib.hid (show cntO (O.take (j + 1)) y.id = n + 1 by rw [HCT.out, if_pos hx])
                  subst hx
                  go_wp2
                  refine wp_region_gain (by kernel_rfl) (by kernel_rfl) ?_
                  repeat (first | go_big_quiet_skip | (go_big_quiet_want; go_big_quiet_op; first | go_big_quiet_on))
                  refine wpQuiet_nil ?_
                  rintro _ ⟨d', rfl⟩
                  go_wp2
                  go_roundw
                  case rel => exact ⟨j + 1, by omega, by go_num, by rw [HCT'.out]; simp, (by repeat (first | with_reducible (first | exact World.gained_refl _ | exact ⟨_, rfl⟩ | apply gain_ext | apply gain_alloc | apply gain_drewN | apply gain_drew) | (refine gain_setCell ?_ (by first | exact Nat.le_refl _ | exact World.size_ext _ _ | (simp; done) | (simp; omega)) _)))⟩
                  case measure => simp [intOf]; omega
                · have HCT' := Lib.hid (show cntO (O.take (j + 1)) y.id = n by rw [HCT.out, if_neg hx]; rfl)
                  go_wp2
                  refine wp_region_gain (by kernel_rfl) (by kernel_rfl) ?_
                  repeat (first | go_big_quiet_skip | (go_big_quiet_want; go_big_quiet_op; first | go_big_quiet_on))
                  refine wpQuiet_nil ?_
                  rintro _ ⟨d', rfl⟩
                  go_wp2
                  go_roundw
                  case rel => exact ⟨j + 1, by omega, by go_num, by rw [HCT'.out], (by repeat (first | with_reducible (first | exact World.gained_refl _ | exact ⟨_, rfl⟩ | apply gain_ext | apply gain_alloc | apply gain_drewN | apply gain_drew) | (refine gain_setCell ?_ (by first | exact Nat.le_refl _ | exact World.size_ext _ _ | (simp; done) | (simp; omega)) _)))⟩
                  case measure => simp [intOf]; omega
              · obtain rfl : j = k := by omega
                have hcb := cntO_le O y.id
                rw [HOL.out] at hcb
                have HTK : Hid (O.take j = O) := Lib.hid (List.take_of_length_le (by rw [HOL.out]; exact Nat.le_refl _))
                rw [HTK.out]
                have HTB : Hid (takeB O r y = (decide ((cntO O y.id : Int) < y.most) && admitB y r)) := Lib.hid rfl
                have HF : Hid (forB y (2026 - r.born) r.woman = admitB y r) := Lib.hid rfl
                generalize cntO O y.id = n at HTB hcb ⊢
                generalize pickO (takeB O r) (l.take q) = G at HP ⊢
                by_cases hG : G = 0
                · by_cases hn : (n : Int) < y.most
                  · cases ha : admitB y r with
                    | true =>
                      have GN' := Lib.hid (show pickO (takeB O r) (l.take (q + 1)) = y.id by rw [HP.out, if_pos hG, HTB.out, decide_eq_true hn, ha]; rfl)
                      rw [ha] at HF
                      clear ha
                      subst hG
                      have hnd : decide ((n : Int) < y.most) = true := decide_eq_true hn
                      clear hn
                      go_wp2
                      refine wp_region_gain (by kernel_rfl) (by kernel_rfl) ?_
                      repeat (first | go_big_quiet_skip | (go_big_quiet_want; go_big_quiet_op; first | go_big_quiet_on | ((apply Exists.intro); (refine ⟨fun _ => ?_, ?_⟩); (· (go_at_call 27; exact Calls.gain (HF.out ▸ l7Admits_any y (2026 - r.born) r.woman _))); (go_big_quiet_on))))
                      refine wpQuiet_nil ?_
                      rintro _ ⟨d', rfl⟩
                      go_wp2
                      go_roundw
                      case rel => exact ⟨q + 1, by omega, by go_num, by rw [GN'.out], (by repeat (first | with_reducible (first | exact World.gained_refl _ | exact ⟨_, rfl⟩ | apply gain_ext | apply gain_alloc | apply gain_drewN | apply gain_drew) | (refine gain_setCell ?_ (by first | exact Nat.le_refl _ | exact World.size_ext _ _ | (simp; done) | (simp; omega)) _)))⟩
                      case measure => simp [intOf]; omega
                    | false =>
                      have GN' := Lib.hid (show pickO (takeB O r) (l.take (q + 1)) = 0 by rw [HP.out, if_pos hG, HTB.out, ha, Bool.and_false]; rfl)
                      rw [ha] at HF
                      clear ha
                      subst hG
                      have hnd : decide ((n : Int) < y.most) = true := decide_eq_true hn
                      clear hn
                      go_wp2
                      refine wp_region_gain (by kernel_rfl) (by kernel_rfl) ?_
                      repeat (first | go_big_quiet_skip | (go_big_quiet_want; go_big_quiet_op; first | go_big_quiet_on | ((apply Exists.intro); (refine ⟨fun _ => ?_, ?_⟩); (· (go_at_call 27; exact Calls.gain (HF.out ▸ l7Admits_any y (2026 - r.born) r.woman _))); (go_big_quiet_on))))
                      refine wpQuiet_nil ?_
                      rintro _ ⟨d', rfl⟩
                      go_wp2
                      go_roundw
                      case rel => exact ⟨q + 1, by omega, by go_num, by rw [GN'.out], (by repeat (first | with_reducible (first | exact World.gained_refl _ | exact ⟨_, rfl⟩ | apply gain_ext | apply gain_alloc | apply gain_drewN | apply gain_drew) | (refine gain_setCell ?_ (by first | exact Nat.le_refl _ | exact World.size_ext _ _ | (simp; done) | (simp; omega)) _)))⟩
                      case measure => simp [intOf]; omega
                  · have GN' := Lib.hid (show pickO (takeB O r) (l.take (q + 1)) = 0 by rw [HP.out, if_pos hG, HTB.out, decide_eq_false hn]; rfl)
                    subst hG
                    have hnd : decide ((n : Int) < y.most) = false := decide_eq_false hn
                    clear hn
                    go_wp2
                    refine wp_region_gain (by kernel_rfl) (by kernel_rfl) ?_
                    repeat (first | go_big_quiet_skip | (go_big_quiet_want; go_big_quiet_op; first | go_big_quiet_on | ((apply Exists.intro); (refine ⟨fun _ => ?_, ?_⟩); (· (go_at_call 27; exact Calls.gain (HF.out ▸ l7Admits_any y (2026 - r.born) r.woman _))); (go_big_quiet_on))))
                    refine wpQuiet_nil ?_
                    rintro _ ⟨d', rfl⟩
                    go_wp2
                    go_roundw
                    case rel => exact ⟨q + 1, by omega, by go_num, by rw [GN'.out], (by repeat (first | with_reducible (first | exact World.gained_refl _ | exact ⟨_, rfl⟩ | apply gain_ext | apply gain_alloc | apply gain_drewN | apply gain_drew) | (refine gain_setCell ?_ (by first | exact Nat.le_refl _ | exact World.size_ext _ _ | (simp; done) | (simp; omega)) _)))⟩
                    case measure => simp [intOf]; omega
                · have GN' := Lib.hid (show pickO (takeB O r) (l.take (q + 1)) = G by rw [HP.out, if_neg hG])
                  have hGd : (G == 0) = false := by simp [hG]
                  clear hG
                  go_wp2
                  refine wp_region_gain (by kernel_rfl) (by kernel_rfl) ?_
                  repeat (first | go_big_quiet_skip | (go_big_quiet_want; go_big_quiet_op; first | go_big_quiet_on | ((apply Exists.intro); (refine ⟨fun _ => ?_, ?_⟩); (· (go_at_call 27; exact Calls.gain (HF.out ▸ l7Admits_any y (2026 - r.born) r.woman _))); (go_big_quiet_on))))
                  refine wpQuiet_nil ?_
                  rintro _ ⟨d', rfl⟩
                  go_wp2
                  go_roundw
                  case rel => exact ⟨q + 1, by omega, by go_num, by rw [GN'.out], (by repeat (first | with_reducible (first | exact World.gained_refl _ | exact ⟨_, rfl⟩ | apply gain_ext | apply gain_alloc | apply gain_drewN | apply gain_drew) | (refine gain_setCell ?_ (by first | exact Nat.le_refl _ | exact World.size_ext _ _ | (simp; done) | (simp; omega)) _)))⟩
                  case measure => simp [intOf]; omega
          · obtain rfl : q = l.length := by omega
            rw [List.take_length]
            generalize pickO (takeB O r) l = G at HS ⊢
            have hob := HOL.out
            set_option maxRecDepth 20000 in go_wp2_with (at_builtin; go_must (refine wpList_append_gain (W := w) (base := w.heap.size) (l := O) (m := [G]) rfl (.tmp 86) (.tmp 88) rfl Try.underlying28 info_int (by rfl) (by omega) intC_length intC_one (by omega) (by repeat (first | with_reducible (first | exact World.gained_refl _ | exact ⟨_, rfl⟩ | apply gain_ext | apply gain_alloc | apply gain_drewN | apply gain_drew) | (refine gain_setCell ?_ (by first | exact Nat.le_refl _ | exact World.size_ext _ _ | (simp; done) | (simp; omega)) _))) (Nat.le_refl _) (gain_size (by repeat (first | with_reducible (first | exact World.gained_refl _ | exact ⟨_, rfl⟩ | apply gain_ext | apply gain_alloc | apply gain_drewN | apply gain_drew) | (refine gain_setCell ?_ (by first | exact Nat.le_refl _ | exact World.size_ext _ _ | (simp; done) | (simp; omega)) _)))) rfl rfl (own_up HO.out (by repeat (first | with_reducible (first | exact World.gained_refl _ | exact ⟨_, rfl⟩ | apply gain_ext | apply gain_alloc | apply gain_drewN | apply gain_drew) | (refine gain_setCell ?_ (by first | exact Nat.le_refl _ | exact World.size_ext _ _ | (simp; done) | (simp; omega)) _)))) (sl_lit (l := [G]) intC_length rfl (by simp)) (by rw [HOL.out]; simp; omega) ?_); intro v' d' ho hg)
            go_roundw
            case rel => exact ⟨k + 1, by omega, by go_num, ⟨_, rfl⟩, by rw [HS.out]; exact ho⟩
            case measure => simp [intOf]; omega
      · clear ho
        go_wp2
        go_ret2
        obtain rfl : k = rs.length := by omega
        rw [HE.out.1, HE.out.2]
        exact ⟨_, rfl, ⟨_, rfl⟩, HO.out⟩
end Go.Proofs.Ytfenempljjenpaa
