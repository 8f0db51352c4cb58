/- impl.AreClasses, spec.l7Good. Condition: at most 1048576 classes, their names too. -/
import Derived.Test.YtffkkchflohhaaaGreatDoorOneClass
import Derived.Test.YtffkkchflohhaaaGreatDoorClsIdx
namespace Go.Proofs.YtffkkchflohhaaaGreatDoor
open Go.RowKit Go.Ori
set_option maxHeartbeats 4000000 in
theorem areClasses_any (v : Value) (l : List Cls) (w : World) (h : w.sl Cls.cells 8 v l) (hl : l.length ≤ 1048576) (hq : ∀ x ∈ l, Cls.small x) :
    Calls Tryz.prog 40 #[v] w fun x w' => x = .returned (.bool (clssB l)) ∧ ∃ d, w' = w.ext d := by
  have hs := Lib.hid h
  have HQ := Lib.hid hq
  clear hq
  obtain ⟨p, c, rfl, _⟩ := h
  go_enter Tryz.func40, Tryz.ntmps40
  go_wp2
  go_loopw [7] (fun i wr => ∃ k : Nat, k ≤ l.length ∧ i = .int .i64 k ∧ (∀ j, j < k → clsAt l j = true) ∧ ∃ d, wr = w.ext d) (fun i _ => l.length - (intOf i).toNat)
  case atStart => exact ⟨0, by omega, rfl, by simp, w.gained_refl⟩
  case round =>
    obtain ⟨k, hk, rfl, hok, d, rfl⟩ := hrel
    have HO := Lib.hid hok
    clear hok
    by_cases hlt : k < l.length
    · obtain ⟨b, o, rfl⟩ := sl_some hs.out (by omega)
      have hck := fun j (hj : j < 8) => sl_cells hs.out hlt hj
      have c0 := hck 0 (by omega)
      have c1 := hck 1 (by omega)
      have c2 := hck 2 (by omega)
      have c3 := hck 3 (by omega)
      have c4 := hck 4 (by omega)
      have c5 := hck 5 (by omega)
      have c6 := hck 6 (by omega)
      have c7 := hck 7 (by omega)
      have cp := sl_cells hs.out (k := k - 1) (by omega) (j := 0) (by omega)
      have he : l[k]? = some l[k] := by simp
      have hpe : l[k - 1]? = some (l[k - 1]'(by omega)) := by rw [List.getElem?_eq_getElem]
      have hsm := HQ.out _ (List.getElem_mem hlt)
      generalize l[k] = e at c0 c1 c2 c3 c4 c5 c6 c7 he hck hsm
      generalize l[k - 1]'(by omega) = e' at cp hpe
      have HE := Lib.hid (clsAt_eq he hpe)
      clear hck he hpe
      simp only [Cls.cells, List.getElem?_cons_zero, List.getElem?_cons_succ, Nat.add_zero] at c0 c1 c2 c3 c4 c5 c6 c7 cp
      have ob := World.oldB_of_cell c0
      have hs1 : e.name.size ≤ 1048576 := hsm
      clear hsm
      cases hvt : classB e with
      | false =>
        have HR := Lib.hid (show clssB l = false by rw [clssB, allB_no hlt (by rw [HE.out, hvt]; rfl)]; rfl)
        go_wp2
        refine wp_region_gain (by kernel_rfl) (by kernel_rfl) ?_
        repeat (first | go_big_quiet_skip | (go_big_quiet_want; go_big_quiet_op; first | go_big_quiet_on | ((apply Exists.intro); (refine ⟨fun _ => ?_, ?_⟩); (· (first | (go_at_call 8; exact Calls.gain (isClass_any _ _ hs1)) | (go_at_call 67; exact Calls.gain (containsFunc_clss 68 _ (fun x => x.name.toList == e.name.toList) _ (l.take k) _ (sl_take (by with_reducible (repeat (first | exact hs.out | refine World.sl_ext Cls.cells_length ?_ _ | refine sl_alloc Cls.cells_length ?_ _ | refine sl_drew ?_))) (by omega)) (by rw [List.length_take]; omega) (fun _ _ => by kernel_rfl) (fun n d => areClasses1_any n e.name _ _ (by simp [go_sem]) (by simp [go_sem])))))); (go_big_quiet_on))))
        refine wpQuiet_nil ?_
        rintro _ ⟨d', rfl⟩
        go_wp2
        go_ret
        rw [HR.out]
        exact ⟨rfl, (by repeat (first | with_reducible (first | exact World.gained_refl _ | exact ⟨_, rfl⟩ | apply gain_ext | apply gain_alloc | apply gain_drewN | apply gain_drew) | (refine gain_setCell ?_ (by first | exact Nat.le_refl _ | exact World.size_ext _ _ | (simp; done) | (simp; omega)) _)))⟩
      | true =>
        by_cases hk0 : 0 < k
        · by_cases hid : e'.id < e.id
          · have hidd : decide (e.id ≤ e'.id) = false := decide_eq_false (by omega)
            cases hany : (l.take k).any (fun x => x.name.toList == e.name.toList) with
            | true =>
              have HR := Lib.hid (show clssB l = false by rw [clssB, allB_no hlt (by rw [HE.out, hany]; simp)]; rfl)
              go_wp2
              refine wp_region_gain (by kernel_rfl) (by kernel_rfl) ?_
              repeat (first | go_big_quiet_skip | (go_big_quiet_want; go_big_quiet_op; first | go_big_quiet_on | ((apply Exists.intro); (refine ⟨fun _ => ?_, ?_⟩); (· (first | (go_at_call 8; exact Calls.gain (isClass_any _ _ hs1)) | (go_at_call 67; exact Calls.gain (containsFunc_clss 68 _ (fun x => x.name.toList == e.name.toList) _ (l.take k) _ (sl_take (by with_reducible (repeat (first | exact hs.out | refine World.sl_ext Cls.cells_length ?_ _ | refine sl_alloc Cls.cells_length ?_ _ | refine sl_drew ?_))) (by omega)) (by rw [List.length_take]; omega) (fun _ _ => by kernel_rfl) (fun n d => areClasses1_any n e.name _ _ (by simp [go_sem]) (by simp [go_sem])))))); (go_big_quiet_on))))
              refine wpQuiet_nil ?_
              rintro _ ⟨d', rfl⟩
              go_wp2
              go_ret
              rw [HR.out]
              exact ⟨rfl, (by repeat (first | with_reducible (first | exact World.gained_refl _ | exact ⟨_, rfl⟩ | apply gain_ext | apply gain_alloc | apply gain_drewN | apply gain_drew) | (refine gain_setCell ?_ (by first | exact Nat.le_refl _ | exact World.size_ext _ _ | (simp; done) | (simp; omega)) _)))⟩
            | false =>
              have HS := Lib.hid (step_all HO.out (show clsAt l k = true by rw [HE.out, hvt, hany]; simp; omega))
              go_wp2
              refine wp_region_gain (by kernel_rfl) (by kernel_rfl) ?_
              repeat (first | go_big_quiet_skip | (go_big_quiet_want; go_big_quiet_op; first | go_big_quiet_on | ((apply Exists.intro); (refine ⟨fun _ => ?_, ?_⟩); (· (first | (go_at_call 8; exact Calls.gain (isClass_any _ _ hs1)) | (go_at_call 67; exact Calls.gain (containsFunc_clss 68 _ (fun x => x.name.toList == e.name.toList) _ (l.take k) _ (sl_take (by with_reducible (repeat (first | exact hs.out | refine World.sl_ext Cls.cells_length ?_ _ | refine sl_alloc Cls.cells_length ?_ _ | refine sl_drew ?_))) (by omega)) (by rw [List.length_take]; omega) (fun _ _ => by kernel_rfl) (fun n d => areClasses1_any n e.name _ _ (by simp [go_sem]) (by simp [go_sem])))))); (go_big_quiet_on))))
              refine wpQuiet_nil ?_
              rintro _ ⟨d', rfl⟩
              go_wp2
              go_roundw
              case rel => exact ⟨k + 1, by omega, by go_num, HS.out, (by repeat (first | with_reducible (first | exact World.gained_refl _ | exact ⟨_, rfl⟩ | apply gain_ext | apply gain_alloc | apply gain_drewN | apply gain_drew) | (refine gain_setCell ?_ (by first | exact Nat.le_refl _ | exact World.size_ext _ _ | (simp; done) | (simp; omega)) _)))⟩
              case measure => simp [intOf]; omega
          · have hidd : decide (e.id ≤ e'.id) = true := decide_eq_true (by omega)
            have HR := Lib.hid (show clssB l = false by rw [clssB, allB_no hlt (by rw [HE.out, decide_eq_false (by omega : ¬ k = 0), decide_eq_false hid]; simp)]; rfl)
            go_wp2
            refine wp_region_gain (by kernel_rfl) (by kernel_rfl) ?_
            repeat (first | go_big_quiet_skip | (go_big_quiet_want; go_big_quiet_op; first | go_big_quiet_on | ((apply Exists.intro); (refine ⟨fun _ => ?_, ?_⟩); (· (first | (go_at_call 8; exact Calls.gain (isClass_any _ _ hs1)) | (go_at_call 67; exact Calls.gain (containsFunc_clss 68 _ (fun x => x.name.toList == e.name.toList) _ (l.take k) _ (sl_take (by with_reducible (repeat (first | exact hs.out | refine World.sl_ext Cls.cells_length ?_ _ | refine sl_alloc Cls.cells_length ?_ _ | refine sl_drew ?_))) (by omega)) (by rw [List.length_take]; omega) (fun _ _ => by kernel_rfl) (fun n d => areClasses1_any n e.name _ _ (by simp [go_sem]) (by simp [go_sem])))))); (go_big_quiet_on))))
            refine wpQuiet_nil ?_
            rintro _ ⟨d', rfl⟩
            go_wp2
            go_ret
            rw [HR.out]
            exact ⟨rfl, (by repeat (first | with_reducible (first | exact World.gained_refl _ | exact ⟨_, rfl⟩ | apply gain_ext | apply gain_alloc | apply gain_drewN | apply gain_drew) | (refine gain_setCell ?_ (by first | exact Nat.le_refl _ | exact World.size_ext _ _ | (simp; done) | (simp; omega)) _)))⟩
        · skip
          cases hany : (l.take k).any (fun x => x.name.toList == e.name.toList) with
          | true =>
            have HR := Lib.hid (show clssB l = false by rw [clssB, allB_no hlt (by rw [HE.out, hany]; simp)]; rfl)
            go_wp2
            refine wp_region_gain (by kernel_rfl) (by kernel_rfl) ?_
            repeat (first | go_big_quiet_skip | (go_big_quiet_want; go_big_quiet_op; first | go_big_quiet_on | ((apply Exists.intro); (refine ⟨fun _ => ?_, ?_⟩); (· (first | (go_at_call 8; exact Calls.gain (isClass_any _ _ hs1)) | (go_at_call 67; exact Calls.gain (containsFunc_clss 68 _ (fun x => x.name.toList == e.name.toList) _ (l.take k) _ (sl_take (by with_reducible (repeat (first | exact hs.out | refine World.sl_ext Cls.cells_length ?_ _ | refine sl_alloc Cls.cells_length ?_ _ | refine sl_drew ?_))) (by omega)) (by rw [List.length_take]; omega) (fun _ _ => by kernel_rfl) (fun n d => areClasses1_any n e.name _ _ (by simp [go_sem]) (by simp [go_sem])))))); (go_big_quiet_on))))
            refine wpQuiet_nil ?_
            rintro _ ⟨d', rfl⟩
            go_wp2
            go_ret
            rw [HR.out]
            exact ⟨rfl, (by repeat (first | with_reducible (first | exact World.gained_refl _ | exact ⟨_, rfl⟩ | apply gain_ext | apply gain_alloc | apply gain_drewN | apply gain_drew) | (refine gain_setCell ?_ (by first | exact Nat.le_refl _ | exact World.size_ext _ _ | (simp; done) | (simp; omega)) _)))⟩
          | false =>
            have HS := Lib.hid (step_all HO.out (show clsAt l k = true by rw [HE.out, hvt, hany]; simp; omega))
            go_wp2
            refine wp_region_gain (by kernel_rfl) (by kernel_rfl) ?_
            repeat (first | go_big_quiet_skip | (go_big_quiet_want; go_big_quiet_op; first | go_big_quiet_on | ((apply Exists.intro); (refine ⟨fun _ => ?_, ?_⟩); (· (first | (go_at_call 8; exact Calls.gain (isClass_any _ _ hs1)) | (go_at_call 67; exact Calls.gain (containsFunc_clss 68 _ (fun x => x.name.toList == e.name.toList) _ (l.take k) _ (sl_take (by with_reducible (repeat (first | exact hs.out | refine World.sl_ext Cls.cells_length ?_ _ | refine sl_alloc Cls.cells_length ?_ _ | refine sl_drew ?_))) (by omega)) (by rw [List.length_take]; omega) (fun _ _ => by kernel_rfl) (fun n d => areClasses1_any n e.name _ _ (by simp [go_sem]) (by simp [go_sem])))))); (go_big_quiet_on))))
            refine wpQuiet_nil ?_
            rintro _ ⟨d', rfl⟩
            go_wp2
            go_roundw
            case rel => exact ⟨k + 1, by omega, by go_num, HS.out, (by repeat (first | with_reducible (first | exact World.gained_refl _ | exact ⟨_, rfl⟩ | apply gain_ext | apply gain_alloc | apply gain_drewN | apply gain_drew) | (refine gain_setCell ?_ (by first | exact Nat.le_refl _ | exact World.size_ext _ _ | (simp; done) | (simp; omega)) _)))⟩
            case measure => simp [intOf]; omega
    · have HE := Lib.hid (show clssB l = decide (l.length ≤ 8) by rw [clssB, allB_yes (fun j hj => HO.out j (by omega))]; rfl)
      go_wp2
      go_ret
      rw [HE.out]
      exact ⟨ret_bool (by rw [Bool.eq_iff_iff]; simp; omega), (by repeat (first | with_reducible (first | exact World.gained_refl _ | exact ⟨_, rfl⟩ | apply gain_ext | apply gain_alloc | apply gain_drewN | apply gain_drew) | (refine gain_setCell ?_ (by first | exact Nat.le_refl _ | exact World.size_ext _ _ | (simp; done) | (simp; omega)) _)))⟩
set_option maxHeartbeats 4000000 in
theorem l7Good_any (v : Value) (l : List Cls) (w : World) (h : w.sl Cls.cells 8 v l) (hl : l.length ≤ 1048576) (hq : ∀ x ∈ l, Cls.small x) :
    Calls Tryz.prog 48 #[v] w fun x w' => x = .returned (.bool (clssB l)) ∧ ∃ d, w' = w.ext d := by
  have hs := Lib.hid h
  have HQ := Lib.hid hq
  clear hq
  obtain ⟨p, c, rfl, _⟩ := h
  go_enter Tryz.func48, Tryz.ntmps48
  go_wp2
  go_loopw [3] (fun i wr => ∃ k : Nat, k ≤ l.length ∧ k ≤ 9 ∧ i = .int .i64 k ∧ (∀ j, j < k → clsAt l j = true) ∧ ∃ d, wr = w.ext d) (fun i _ => l.length - (intOf i).toNat)
  case atStart => exact ⟨0, by omega, by omega, rfl, by simp, w.gained_refl⟩
  case round =>
    obtain ⟨k, hk, hk9, rfl, hok, d, rfl⟩ := hrel
    have hrel : ∃ k' : Nat, k' ≤ l.length ∧ Value.int .i64 k = .int .i64 k' ∧ (∀ j, j < k' → clsAt l j = true) ∧ ∃ d', w.ext d = w.ext d' := ⟨k, hk, rfl, hok, _, rfl⟩
    have HO := Lib.hid hok
    clear hok hrel
    by_cases hk10 : ¬ (k < l.length ∧ k ≤ 8)
    · have HE := Lib.hid (show clssB l = decide (l.length ≤ 8) by
        by_cases h10 : l.length ≤ 8
        · rw [clssB, allB_yes (fun j hj => HO.out j (by omega))]; rfl
        · rw [clssB, decide_eq_false h10, Bool.and_false])
      go_wp2
      all_goals go_ret
      all_goals rw [HE.out]
      all_goals exact ⟨ret_bool (by rw [Bool.eq_iff_iff]; simp; omega), (by repeat (first | with_reducible (first | exact World.gained_refl _ | exact ⟨_, rfl⟩ | apply gain_ext | apply gain_alloc | apply gain_drewN | apply gain_drew) | (refine gain_setCell ?_ (by first | exact Nat.le_refl _ | exact World.size_ext _ _ | (simp; done) | (simp; omega)) _)))⟩
    · have hlt : k < l.length := by omega
      have hk10' : k ≤ 8 := by omega
      clear hk10
      obtain ⟨b, o, rfl⟩ := sl_some hs.out (by omega)
      have hck := fun j (hj : j < 8) => sl_cells hs.out hlt hj
      have c0 := hck 0 (by omega)
      have c1 := hck 1 (by omega)
      have c2 := hck 2 (by omega)
      have c3 := hck 3 (by omega)
      have c4 := hck 4 (by omega)
      have c5 := hck 5 (by omega)
      have c6 := hck 6 (by omega)
      have c7 := hck 7 (by omega)
      have cp := sl_cells hs.out (k := k - 1) (by omega) (j := 0) (by omega)
      have he : l[k]? = some l[k] := by simp
      have hpe : l[k - 1]? = some (l[k - 1]'(by omega)) := by rw [List.getElem?_eq_getElem]
      have hsm := HQ.out _ (List.getElem_mem hlt)
      generalize l[k] = e at c0 c1 c2 c3 c4 c5 c6 c7 he hck hsm
      generalize l[k - 1]'(by omega) = e' at cp hpe
      have HE := Lib.hid (clsAt_eq he hpe)
      clear hck he hpe
      simp only [Cls.cells, List.getElem?_cons_zero, List.getElem?_cons_succ, Nat.add_zero] at c0 c1 c2 c3 c4 c5 c6 c7 cp
      have ob := World.oldB_of_cell c0
      have hs1 : e.name.size ≤ 1048576 := hsm
      clear hsm
      have hk10d : decide ((k : Int) ≤ 8) = true := decide_eq_true (by omega)
      have HONE := Lib.hid (fun w => l7One_any e w hs1)
      cases hvt : classB e with
      | false =>
        rw [hvt] at HONE
        have HR := Lib.hid (show clssB l = false by rw [clssB, allB_no hlt (by rw [HE.out, hvt]; rfl)]; rfl)
        have HVT := Lib.hid hvt
        clear hvt
        go_wp2
        refine wp_region_gain (by kernel_rfl) (by kernel_rfl) ?_
        repeat (first | go_big_quiet_skip | (go_big_quiet_want; go_big_quiet_op; first | go_big_quiet_on | ((apply Exists.intro); (refine ⟨fun _ => ?_, ?_⟩); (· (go_at_call 24; exact Calls.gain (HONE.out _))); (go_big_quiet_on))))
        refine wpQuiet_nil ?_
        rintro _ ⟨d', rfl⟩
        go_wp2
        go_ret
        rw [HR.out]
        exact ⟨rfl, (by repeat (first | with_reducible (first | exact World.gained_refl _ | exact ⟨_, rfl⟩ | apply gain_ext | apply gain_alloc | apply gain_drewN | apply gain_drew) | (refine gain_setCell ?_ (by first | exact Nat.le_refl _ | exact World.size_ext _ _ | (simp; done) | (simp; omega)) _)))⟩
      | true =>
        rw [hvt] at HONE
        by_cases hk0 : 0 < k
        · by_cases hid : e'.id < e.id
          · have hidd : decide (e.id ≤ e'.id) = false := decide_eq_false (by omega)
            have HVT := Lib.hid hvt
            clear hvt
            go_wp2
            refine wp_region_gain (by kernel_rfl) (by kernel_rfl) ?_
            repeat (first | go_big_quiet_skip | (go_big_quiet_want; go_big_quiet_op; first | go_big_quiet_on | ((apply Exists.intro); (refine ⟨fun _ => ?_, ?_⟩); (· (go_at_call 24; exact Calls.gain (HONE.out _))); (go_big_quiet_on))))
            refine wpQuiet_nil ?_
            rintro _ ⟨d', rfl⟩
            go_wp2
            have HK10 := Lib.hid hk10'
            clear hk10'
            try clear hidd
            go_loopw [4] (fun i wr => ∃ q : Nat, q ≤ k ∧ i = .int .i64 q ∧ (∀ (j : Nat) (hj : j < l.length), j < q → (l[j].name.toList == e.name.toList) = false) ∧ ∃ d, wr = w.ext d) (fun i _ => k - (intOf i).toNat)
            case atStart => exact ⟨0, by omega, rfl, by simp, (by repeat (first | with_reducible (first | exact World.gained_refl _ | exact ⟨_, rfl⟩ | apply gain_ext | apply gain_alloc | apply gain_drewN | apply gain_drew) | (refine gain_setCell ?_ (by first | exact Nat.le_refl _ | exact World.size_ext _ _ | (simp; done) | (simp; omega)) _)))⟩
            case round =>
              obtain ⟨q, hqk, rfl, hno, d2, rfl⟩ := hrel
              have HN := Lib.hid hno
              clear hno
              by_cases hql : q < k
              · skip
                have cq := sl_cells hs.out (k := q) (by omega) (j := 1) (by omega)
                have HANY := Lib.hid (fun (hf : (l[q].name.toList == e.name.toList) = true) => show (l.take k).any (fun x => x.name.toList == e.name.toList) = true from List.any_eq_true.2 ⟨l[q], by rw [List.mem_take_iff_getElem]; exact ⟨q, by omega, rfl⟩, hf⟩)
                have HSTEP := Lib.hid (fun (hf : (l[q].name.toList == e.name.toList) = false) => (show ∀ (j : Nat) (hj : j < l.length), j < q + 1 → (l[j].name.toList == e.name.toList) = false from fun j hj hjk => by
                  by_cases ee : j = q
                  · subst ee; exact hf
                  · exact HN.out j hj (by omega)))
                generalize l[q] = y at cq HANY HSTEP
                simp only [Cls.cells, List.getElem?_cons_zero, List.getElem?_cons_succ, Nat.add_zero] at cq
                cases hy : (y.name.toList == e.name.toList) with
                | true =>
                  have HR := Lib.hid (show clssB l = false by rw [clssB, allB_no hlt (by rw [HE.out, HANY.out hy]; simp)]; rfl)
                  go_wp2
                  refine wp_region_gain (by kernel_rfl) (by kernel_rfl) ?_
                  repeat (first | go_big_quiet_skip | (go_big_quiet_want; go_big_quiet_op; first | go_big_quiet_on))
                  refine wpQuiet_nil ?_
                  rintro _ ⟨d', rfl⟩
                  go_wp2
                  go_ret
                  rw [HR.out]
                  exact ⟨rfl, (by repeat (first | with_reducible (first | exact World.gained_refl _ | exact ⟨_, rfl⟩ | apply gain_ext | apply gain_alloc | apply gain_drewN | apply gain_drew) | (refine gain_setCell ?_ (by first | exact Nat.le_refl _ | exact World.size_ext _ _ | (simp; done) | (simp; omega)) _)))⟩
                | false =>
                  have HS := Lib.hid (HSTEP.out hy)
                  go_wp2
                  refine wp_region_gain (by kernel_rfl) (by kernel_rfl) ?_
                  repeat (first | go_big_quiet_skip | (go_big_quiet_want; go_big_quiet_op; first | go_big_quiet_on))
                  refine wpQuiet_nil ?_
                  rintro _ ⟨d', rfl⟩
                  go_wp2
                  go_roundw
                  case rel => exact ⟨q + 1, by omega, by go_num, HS.out, (by repeat (first | with_reducible (first | exact World.gained_refl _ | exact ⟨_, rfl⟩ | apply gain_ext | apply gain_alloc | apply gain_drewN | apply gain_drew) | (refine gain_setCell ?_ (by first | exact Nat.le_refl _ | exact World.size_ext _ _ | (simp; done) | (simp; omega)) _)))⟩
                  case measure => simp [intOf]; omega
              · have HS := Lib.hid (step_all HO.out (show clsAt l k = true by
                  rw [HE.out, HVT.out]
                  have : (l.take k).any (fun x => x.name.toList == e.name.toList) = false := by
                    rw [List.any_eq_false]
                    intro x hx
                    rw [List.mem_take_iff_getElem] at hx
                    obtain ⟨j, hj, rfl⟩ := hx
                    simp [HN.out j (by omega) (by omega)]
                  rw [this]; simp; omega))
                go_wp2
                go_roundw
                case rel => exact ⟨k + 1, by omega, by have := HK10.out; omega, by go_num, HS.out, (by repeat (first | with_reducible (first | exact World.gained_refl _ | exact ⟨_, rfl⟩ | apply gain_ext | apply gain_alloc | apply gain_drewN | apply gain_drew) | (refine gain_setCell ?_ (by first | exact Nat.le_refl _ | exact World.size_ext _ _ | (simp; done) | (simp; omega)) _)))⟩
                case measure => simp [intOf]; omega
          · have hidd : decide (e.id ≤ e'.id) = true := decide_eq_true (by omega)
            have HR := Lib.hid (show clssB l = false by rw [clssB, allB_no hlt (by rw [HE.out, decide_eq_false (by omega : ¬ k = 0), decide_eq_false hid]; simp)]; rfl)
            have HVT := Lib.hid hvt
            clear hvt
            go_wp2
            refine wp_region_gain (by kernel_rfl) (by kernel_rfl) ?_
            repeat (first | go_big_quiet_skip | (go_big_quiet_want; go_big_quiet_op; first | go_big_quiet_on | ((apply Exists.intro); (refine ⟨fun _ => ?_, ?_⟩); (· (go_at_call 24; exact Calls.gain (HONE.out _))); (go_big_quiet_on))))
            refine wpQuiet_nil ?_
            rintro _ ⟨d', rfl⟩
            go_wp2
            go_ret
            rw [HR.out]
            exact ⟨rfl, (by repeat (first | with_reducible (first | exact World.gained_refl _ | exact ⟨_, rfl⟩ | apply gain_ext | apply gain_alloc | apply gain_drewN | apply gain_drew) | (refine gain_setCell ?_ (by first | exact Nat.le_refl _ | exact World.size_ext _ _ | (simp; done) | (simp; omega)) _)))⟩
        · skip
          have HVT := Lib.hid hvt
          clear hvt
          go_wp2
          refine wp_region_gain (by kernel_rfl) (by kernel_rfl) ?_
          repeat (first | go_big_quiet_skip | (go_big_quiet_want; go_big_quiet_op; first | go_big_quiet_on | ((apply Exists.intro); (refine ⟨fun _ => ?_, ?_⟩); (· (go_at_call 24; exact Calls.gain (HONE.out _))); (go_big_quiet_on))))
          refine wpQuiet_nil ?_
          rintro _ ⟨d', rfl⟩
          go_wp2
          have HK10 := Lib.hid hk10'
          clear hk10'
          try clear hidd
          go_loopw [4] (fun i wr => ∃ q : Nat, q ≤ k ∧ i = .int .i64 q ∧ (∀ (j : Nat) (hj : j < l.length), j < q → (l[j].name.toList == e.name.toList) = false) ∧ ∃ d, wr = w.ext d) (fun i _ => k - (intOf i).toNat)
          case atStart => exact ⟨0, by omega, rfl, by simp, (by repeat (first | with_reducible (first | exact World.gained_refl _ | exact ⟨_, rfl⟩ | apply gain_ext | apply gain_alloc | apply gain_drewN | apply gain_drew) | (refine gain_setCell ?_ (by first | exact Nat.le_refl _ | exact World.size_ext _ _ | (simp; done) | (simp; omega)) _)))⟩
          case round =>
            obtain ⟨q, hqk, rfl, hno, d2, rfl⟩ := hrel
            have HN := Lib.hid hno
            clear hno
            by_cases hql : q < k
            · omega
            · have HS := Lib.hid (step_all HO.out (show clsAt l k = true by
                rw [HE.out, HVT.out]
                have : (l.take k).any (fun x => x.name.toList == e.name.toList) = false := by
                  rw [List.any_eq_false]
                  intro x hx
                  rw [List.mem_take_iff_getElem] at hx
                  obtain ⟨j, hj, rfl⟩ := hx
                  simp [HN.out j (by omega) (by omega)]
                rw [this]; simp; omega))
              go_wp2
              go_roundw
              case rel => exact ⟨k + 1, by omega, by have := HK10.out; omega, by go_num, HS.out, (by repeat (first | with_reducible (first | exact World.gained_refl _ | exact ⟨_, rfl⟩ | apply gain_ext | apply gain_alloc | apply gain_drewN | apply gain_drew) | (refine gain_setCell ?_ (by first | exact Nat.le_refl _ | exact World.size_ext _ _ | (simp; done) | (simp; omega)) _)))⟩
              case measure => simp [intOf]; omega
end Go.Proofs.YtffkkchflohhaaaGreatDoor
