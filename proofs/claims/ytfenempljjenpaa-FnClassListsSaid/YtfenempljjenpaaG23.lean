/- spec.AgesWithout. Condition: at most 1048576 classes, their names too. -/
import Derived.Test.YtfenempljjenpaaG19
namespace Go.Proofs.Ytfenempljjenpaa
open Go.RowKit Go.Ori
theorem any_take_succ {l : List Cls} {f : Cls → Bool} {q : Nat} (h : q < l.length) : (l.take (q + 1)).any f = ((l.take q).any f || f l[q]) := by
  rw [List.take_succ_eq_append_getElem h, List.any_append]
  simp
set_option maxHeartbeats 4000000 in
theorem specAgesWithout_any (v : Value) (l : List Cls) (woman : Bool) (w : World) (h : w.sl Cls.cells 8 v l) (hl : l.length ≤ 1048576) (hq : ∀ x ∈ l, Cls.small x) :
    Calls Try.prog 12 #[v, .bool woman] w fun x w' => ∃ r vs, x = .returned (.tuple #[r, .bool (clssB l)]) ∧ (∃ d, w' = w.ext d) ∧ World.rows2 28 3 w' w.heap.size r vs (agesL l woman) ∧ vs.Pairwise Apart2 := by
  have hs := Lib.hid h
  obtain ⟨p, c, rfl, _⟩ := h
  have HG := Lib.hid (fun W hW => l7Good_any (.slice p l.length c) l W hW hl hq)
  cases hC : clssB l with
  | false =>
    have HE := Lib.hid (ages_no woman hC)
    rw [hC] at HG
    clear hC
    go_enter Try.func12, Try.ntmps12
    go_wp2_with (go_at_call 25; refine (HG.out _ (by with_reducible (repeat (first | exact hs.out | refine World.sl_ext Cls.cells_length ?_ _ | refine sl_alloc Cls.cells_length ?_ _ | refine sl_drew ?_)))).mono ?_; rintro e w1 ⟨rfl, d1, rfl⟩)
    go_ret2
    rw [HE.out]
    exact ⟨_, [], rfl, (by repeat (first | with_reducible (first | exact World.gained_refl _ | exact ⟨_, rfl⟩ | apply gain_ext | apply gain_alloc | apply gain_drewN | apply gain_drew) | (refine gain_setCell ?_ (by first | exact Nat.le_refl _ | exact World.size_ext _ _ | (simp; done) | (simp; omega)) _))), rows2_nil (own_up (own_lit' (l := ([] : List Value)) valC_length rfl rfl (gain_size (by repeat (first | with_reducible (first | exact World.gained_refl _ | exact ⟨_, rfl⟩ | apply gain_ext | apply gain_alloc | apply gain_drewN | apply gain_drew) | (refine gain_setCell ?_ (by first | exact Nat.le_refl _ | exact World.size_ext _ _ | (simp; done) | (simp; omega)) _))))) (by repeat (first | with_reducible (first | exact World.gained_refl _ | exact ⟨_, rfl⟩ | apply gain_ext | apply gain_alloc | apply gain_drewN | apply gain_drew) | (refine gain_setCell ?_ (by first | exact Nat.le_refl _ | exact World.size_ext _ _ | (simp; done) | (simp; omega)) _)))), by simp⟩
  | true =>
    have HE := Lib.hid (ages_yes woman hC)
    rw [hC] at HG
    clear hC
    go_enter Try.func12, Try.ntmps12
    go_wp2_with (go_at_call 25; refine (HG.out _ (by with_reducible (repeat (first | exact hs.out | refine World.sl_ext Cls.cells_length ?_ _ | refine sl_alloc Cls.cells_length ?_ _ | refine sl_drew ?_)))).mono ?_; rintro e w1 ⟨rfl, d1, rfl⟩)
    clear HG
    go_loopw [6, 7] (fun ov i wr => ∃ (k : Nat) (vs : List Value), k ≤ 121 ∧ i = .int .i64 k ∧ (∃ d, wr = w.ext d) ∧ World.rows2 28 3 wr w.heap.size ov vs (rowsOf (agesN l woman k)) ∧ vs.Pairwise Apart2) (fun _ i _ => 121 - (intOf i).toNat)
    case atStart => exact ⟨0, [], by omega, rfl, (by repeat (first | with_reducible (first | exact World.gained_refl _ | exact ⟨_, rfl⟩ | apply gain_ext | apply gain_alloc | apply gain_drewN | apply gain_drew) | (refine gain_setCell ?_ (by first | exact Nat.le_refl _ | exact World.size_ext _ _ | (simp; done) | (simp; omega)) _))), rows2_nil (own_up (own_lit' (l := ([] : List Value)) valC_length rfl rfl (gain_size (by repeat (first | with_reducible (first | exact World.gained_refl _ | exact ⟨_, rfl⟩ | apply gain_ext | apply gain_alloc | apply gain_drewN | apply gain_drew) | (refine gain_setCell ?_ (by first | exact Nat.le_refl _ | exact World.size_ext _ _ | (simp; done) | (simp; omega)) _))))) (by repeat (first | with_reducible (first | exact World.gained_refl _ | exact ⟨_, rfl⟩ | apply gain_ext | apply gain_alloc | apply gain_drewN | apply gain_drew) | (refine gain_setCell ?_ (by first | exact Nat.le_refl _ | exact World.size_ext _ _ | (simp; done) | (simp; omega)) _)))), by simp⟩
    case round =>
      obtain ⟨k, vs, hk, rfl, ⟨d, rfl⟩, hr, hp⟩ := hrel
      have HR := Lib.hid hr
      have HP := Lib.hid hp
      have HS : Hid (agesN l woman (k + 1) = stepA (ageP l woman k) k (agesN l woman k)) := Lib.hid rfl
      clear hr hp
      by_cases hlt : k ≤ 120
      · have hkd : decide ((k : Int) ≤ 120) = true := decide_eq_true (by omega)
        go_wp2_with fail
        go_loopw [8, 9] (fun a i wr => ∃ q : Nat, q ≤ l.length ∧ i = .int .i64 q ∧ a = .bool ((l.take q).any fun n => forB n (k : Int) woman) ∧ (∃ d', wr = (w.ext d).ext d')) (fun _ i _ => l.length - (intOf i).toNat)
        case atStart => exact ⟨0, by omega, rfl, by simp, World.gained_refl _⟩
        case round =>
          obtain ⟨q, hq1, rfl, rfl, d2, rfl⟩ := hrel
          by_cases hql : q < l.length
          · obtain ⟨b, o, rfl⟩ := sl_some hs.out (by omega)
            have hck := fun j (hj : j < 8) => sl_cells hs.out hql hj
            have c0 := hck 0 (by omega)
            have c1 := hck 1 (by omega)
            have c2 := hck 2 (by omega)
            have c3 := hck 3 (by omega)
            have c4 := hck 4 (by omega)
            have c5 := hck 5 (by omega)
            have c6 := hck 6 (by omega)
            have c7 := hck 7 (by omega)
            have HA := Lib.hid (any_take_succ (f := fun n => forB n (k : Int) woman) hql)
            generalize l[q] = e at c0 c1 c2 c3 c4 c5 c6 c7 hck HA
            clear hck
            simp only [Cls.cells, List.getElem?_cons_zero, List.getElem?_cons_succ, Nat.add_zero] at c0 c1 c2 c3 c4 c5 c6 c7
            have ob := World.oldB_of_cell c0
            cases hb : (l.take q).any fun n => forB n (k : Int) woman with
            | true =>
              have HA' := Lib.hid (show ((l.take (q + 1)).any fun n => forB n (k : Int) woman) = true by rw [HA.out, hb]; rfl)
              clear hb
              go_wp2
              go_roundw
              case rel => exact ⟨q + 1, by omega, by go_num, by rw [HA'.out], (by repeat (first | with_reducible (first | exact World.gained_refl _ | exact ⟨_, rfl⟩ | apply gain_ext | apply gain_alloc | apply gain_drewN | apply gain_drew) | (refine gain_setCell ?_ (by first | exact Nat.le_refl _ | exact World.size_ext _ _ | (simp; done) | (simp; omega)) _)))⟩
              case measure => simp [intOf]; omega
            | false =>
              have HA' := Lib.hid (show ((l.take (q + 1)).any fun n => forB n (k : Int) woman) = forB e k woman by rw [HA.out, hb]; rfl)
              generalize hfb : forB e (k : Int) woman = fb at HA'
              have HADM := Lib.hid (fun w' => hfb ▸ l7Admits_any e k woman w')
              clear hb hfb
              go_wp2_with (go_at_call 27; refine (HADM.out _).mono ?_; rintro e1 w1 ⟨rfl, d3, rfl⟩)
              go_roundw
              case rel => exact ⟨q + 1, by omega, by go_num, by rw [HA'.out], (by repeat (first | with_reducible (first | exact World.gained_refl _ | exact ⟨_, rfl⟩ | apply gain_ext | apply gain_alloc | apply gain_drewN | apply gain_drew) | (refine gain_setCell ?_ (by first | exact Nat.le_refl _ | exact World.size_ext _ _ | (simp; done) | (simp; omega)) _)))⟩
              case measure => simp [intOf]; omega
          · obtain rfl : q = l.length := by omega
            rw [show ((l.take l.length).any fun n => forB n (k : Int) woman) = ageP l woman k by rw [List.take_length]; rfl]
            replace HR := Lib.hid (rows2_up HR.out (⟨_, rfl⟩ : ∃ d', (w.ext d).ext d2 = (w.ext d).ext d'))
            cases hA : ageP l woman k with
            | true =>
              rw [hA] at HS
              have HS' := Lib.hid HS.out
              clear HS hA
              go_wp2
              go_roundw
              case rel => exact ⟨k + 1, vs, by omega, by go_num, (by repeat (first | with_reducible (first | exact World.gained_refl _ | exact ⟨_, rfl⟩ | apply gain_ext | apply gain_alloc | apply gain_drewN | apply gain_drew) | (refine gain_setCell ?_ (by first | exact Nat.le_refl _ | exact World.size_ext _ _ | (simp; done) | (simp; omega)) _))), by rw [HS'.out]; exact HR.out, HP.out⟩
              case measure => simp [intOf]; omega
            | false =>
              rw [hA] at HS
              clear hA
              have hvl : vs.length = (agesN l woman k).length := by rw [HR.out.len, rowsOf_length]
              have hLn := agesN_length l woman k
              generalize agesN l woman k = L at HS HR hvl hLn
              by_cases hn : L.length = 0
              · obtain rfl : L = [] := List.eq_nil_of_length_eq_zero hn
                obtain rfl : vs = [] := List.eq_nil_of_length_eq_zero hvl
                have HS' : Hid (agesN l woman (k + 1) = [] ++ [((k : Int), (k : Int))]) := Lib.hid HS.out
                obtain ⟨pr, cr, rfl, _⟩ := sl_of_own valC_length HR.out.out
                clear HS
                go_wp2_with (at_builtin; go_must (refine wpList_append_val (x := _) rfl (.tmp 66) (.tmp 70) rfl Try.underlying40 info_slc (by rfl) (by omega) (by repeat (first | with_reducible (first | exact World.gained_refl _ | exact ⟨_, rfl⟩ | apply gain_ext | apply gain_alloc | apply gain_drewN | apply gain_drew) | (refine gain_setCell ?_ (by first | exact Nat.le_refl _ | exact World.size_ext _ _ | (simp; done) | (simp; omega)) _))) (Nat.le_refl _) (gain_size (by repeat (first | with_reducible (first | exact World.gained_refl _ | exact ⟨_, rfl⟩ | apply gain_ext | apply gain_alloc | apply gain_drewN | apply gain_drew) | (refine gain_setCell ?_ (by first | exact Nat.le_refl _ | exact World.size_ext _ _ | (simp; done) | (simp; omega)) _)))) rfl rfl rfl (own_up (HR.out.out) (by repeat (first | with_reducible (first | exact World.gained_refl _ | exact ⟨_, rfl⟩ | apply gain_ext | apply gain_alloc | apply gain_drewN | apply gain_drew) | (refine gain_setCell ?_ (by first | exact Nat.le_refl _ | exact World.size_ext _ _ | (simp; done) | (simp; omega)) _)))) (cell_lit (by first | rfl | simp [World.size_alloc])) (by simp) ?_); intro v9 d9 ho hg)
                go_roundw
                case rel => exact ⟨k + 1, _, by omega, by go_num, ⟨_, rfl⟩, by rw [HS'.out, rowsOf_snoc]; have hx := own_lit' (w := ((w.ext d).ext d2)) (base := w.heap.size) (e := 3) (C := #[.int .i64 (k : Int), .int .i64 (k : Int)]) (l := [(k : Int), (k : Int)]) intC_length rfl rfl (gain_size (by repeat (first | with_reducible (first | exact World.gained_refl _ | exact ⟨_, rfl⟩ | apply gain_ext | apply gain_alloc | apply gain_drewN | apply gain_drew) | (refine gain_setCell ?_ (by first | exact Nat.le_refl _ | exact World.size_ext _ _ | (simp; done) | (simp; omega)) _)))); exact rows2_snoc (w := (((w.ext d).ext d2).alloc (.cells #[.int .i64 k, .int .i64 k] 3)).alloc (.cells #[.slice (some ⟨((w.ext d).ext d2).heap.size, 0, none⟩) 2 2] 28)) (rows2_up HR.out (by repeat (first | with_reducible (first | exact World.gained_refl _ | exact ⟨_, rfl⟩ | apply gain_ext | apply gain_alloc | apply gain_drewN | apply gain_drew) | (refine gain_setCell ?_ (by first | exact Nat.le_refl _ | exact World.size_ext _ _ | (simp; done) | (simp; omega)) _)))) (own_up hx (by repeat (first | with_reducible (first | exact World.gained_refl _ | exact ⟨_, rfl⟩ | apply gain_ext | apply gain_alloc | apply gain_drewN | apply gain_drew) | (refine gain_setCell ?_ (by first | exact Nat.le_refl _ | exact World.size_ext _ _ | (simp; done) | (simp; omega)) _)))) (by decide) ho hg, pairwise_snoc HP.out (rows2_apart (Y := ((w.ext d).ext d2)) HR.out (own_lit (l := [(k : Int), (k : Int)]) intC_length rfl (by simp)))⟩
                case measure => simp [intOf]; omega
              · obtain ⟨m, hm⟩ : ∃ m, L.length = m + 1 := ⟨L.length - 1, by omega⟩
                have hvm : vs.length = m + 1 := by omega
                have hrl : (rowsOf L).length = m + 1 := by rw [rowsOf_length]; exact hm
                obtain ⟨og, ocap, oC, rfl, hog, hoC, _⟩ := own_form HR.out.out (by omega)
                have hrow := HR.out.row m (by omega) (by omega)
                have hlast : (rowsOf L)[m]'(by omega) = [(lastA L).1, (lastA L).2] := by
                  have := rowsOf_last (L := L) (by omega) (by omega)
                  simp only [hm, Nat.add_sub_cancel] at this
                  exact this
                rw [hlast] at hrow
                obtain ⟨rg, rcap, rC, hrv, hrg, hrC, _⟩ := own_form hrow (by simp)
                have cO := sl_cells (sl_of_own valC_length HR.out.out) (k := m) (by omega) (j := 0) (by omega)
                have cR0 := sl_cells (hrv ▸ sl_of_own intC_length hrow) (k := 0) (by simp) (j := 0) (by omega)
                have cR := sl_cells (hrv ▸ sl_of_own intC_length hrow) (k := 1) (by simp) (j := 0) (by omega)
                have HLAST := Lib.hid hlast
                have zO := World.free_of_heap hoC m
                simp only [valC, intC, hrv, List.getElem?_cons_zero, List.getElem_cons_succ, List.getElem_cons_zero, List.length_cons, List.length_nil, Nat.zero_add, Nat.add_zero, Nat.mul_one, Nat.zero_mul, Nat.reduceAdd] at cO cR cR0
                have obo := World.oldB_of_cell cO
                have obr := World.oldB_of_cell cR
                have HVM := Lib.hid hvm
                rw [hvm] at HR ⊢
                have hm1 : m ≤ 121 := by omega
                clear hlast hrow hrv hoC hrC hvm hvl
                generalize hLA : lastA L = la at *
                have HLA := Lib.hid hLA
                clear hLA
                have hmm : (m : Int) < (m : Int) + 1 := by omega
                by_cases hq : la.2 = (k : Int) - 1
                · have HS' : Hid (agesN l woman (k + 1) = L.set m (la.1, (k : Int))) := Lib.hid (by rw [HS.out, stepA, if_neg (by simp), if_pos (by simp [goesA, HLA.out, hq]; omega), hm, HLA.out]; rfl)
                  clear HS
                  have hqb : (la.2 == (k : Int) - 1) = true := by simp [hq]
                  have HOG := Lib.hid hog
                  go_wp2
                  go_roundw
                  case rel =>
                    have hx := own_lit (w := ((w.ext d).ext d2)) (e := 3) (C := #[.int .i64 la.1, .int .i64 (k : Int)]) (l := [la.1, (k : Int)]) intC_length rfl (by simp)
                    refine ⟨k + 1, vs.set m (.slice (some ⟨((w.ext d).ext d2).heap.size, 0, none⟩) 2 2), by omega, by go_num, gain_setCell (by repeat (first | with_reducible (first | exact World.gained_refl _ | exact ⟨_, rfl⟩ | apply gain_ext | apply gain_alloc | apply gain_drewN | apply gain_drew) | (refine gain_setCell ?_ (by first | exact Nat.le_refl _ | exact World.size_ext _ _ | (simp; done) | (simp; omega)) _))) HOG.out _, ?_, pairwise_set HP.out (rows2_apart (Y := ((w.ext d).ext d2)) HR.out hx)⟩
                    rw [HS'.out, rowsOf_set]
                    exact rows2_new (w := ((w.ext d).ext d2).alloc (.cells #[.int .i64 la.1, .int .i64 (k : Int)] 3)) (rows2_up HR.out (by repeat (first | with_reducible (first | exact World.gained_refl _ | exact ⟨_, rfl⟩ | apply gain_ext | apply gain_alloc | apply gain_drewN | apply gain_drew) | (refine gain_setCell ?_ (by first | exact Nat.le_refl _ | exact World.size_ext _ _ | (simp; done) | (simp; omega)) _)))) (by decide) (i := m) (by omega) (own_base hx (gain_size (by repeat (first | with_reducible (first | exact World.gained_refl _ | exact ⟨_, rfl⟩ | apply gain_ext | apply gain_alloc | apply gain_drewN | apply gain_drew) | (refine gain_setCell ?_ (by first | exact Nat.le_refl _ | exact World.size_ext _ _ | (simp; done) | (simp; omega)) _)))))
                  case measure => simp [intOf]; omega
                · have HS' : Hid (agesN l woman (k + 1) = L ++ [((k : Int), (k : Int))]) := Lib.hid (by rw [HS.out, stepA, if_neg (by simp), if_neg (by simp [goesA, HLA.out, hq])])
                  clear HS
                  have hqb : (la.2 == (k : Int) - 1) = false := by simp [hq]
                  go_wp2_with (at_builtin; go_must (refine wpList_append_val (x := _) rfl (.tmp 66) (.tmp 70) rfl Try.underlying40 info_slc (by rfl) (by omega) (by repeat (first | with_reducible (first | exact World.gained_refl _ | exact ⟨_, rfl⟩ | apply gain_ext | apply gain_alloc | apply gain_drewN | apply gain_drew) | (refine gain_setCell ?_ (by first | exact Nat.le_refl _ | exact World.size_ext _ _ | (simp; done) | (simp; omega)) _))) (Nat.le_refl _) (gain_size (by repeat (first | with_reducible (first | exact World.gained_refl _ | exact ⟨_, rfl⟩ | apply gain_ext | apply gain_alloc | apply gain_drewN | apply gain_drew) | (refine gain_setCell ?_ (by first | exact Nat.le_refl _ | exact World.size_ext _ _ | (simp; done) | (simp; omega)) _)))) rfl rfl rfl (own_up (HR.out.out) (by repeat (first | with_reducible (first | exact World.gained_refl _ | exact ⟨_, rfl⟩ | apply gain_ext | apply gain_alloc | apply gain_drewN | apply gain_drew) | (refine gain_setCell ?_ (by first | exact Nat.le_refl _ | exact World.size_ext _ _ | (simp; done) | (simp; omega)) _)))) (cell_lit (by first | rfl | simp [World.size_alloc])) (by have := HVM.out; omega) ?_); intro v9 d9 ho hg)
                  go_roundw
                  case rel => exact ⟨k + 1, _, by omega, by go_num, ⟨_, rfl⟩, by rw [HS'.out, rowsOf_snoc]; have hx := own_lit' (w := ((w.ext d).ext d2)) (base := w.heap.size) (e := 3) (C := #[.int .i64 (k : Int), .int .i64 (k : Int)]) (l := [(k : Int), (k : Int)]) intC_length rfl rfl (gain_size (by repeat (first | with_reducible (first | exact World.gained_refl _ | exact ⟨_, rfl⟩ | apply gain_ext | apply gain_alloc | apply gain_drewN | apply gain_drew) | (refine gain_setCell ?_ (by first | exact Nat.le_refl _ | exact World.size_ext _ _ | (simp; done) | (simp; omega)) _)))); exact rows2_snoc (w := (((w.ext d).ext d2).alloc (.cells #[.int .i64 k, .int .i64 k] 3)).alloc (.cells #[.slice (some ⟨((w.ext d).ext d2).heap.size, 0, none⟩) 2 2] 28)) (rows2_up HR.out (by repeat (first | with_reducible (first | exact World.gained_refl _ | exact ⟨_, rfl⟩ | apply gain_ext | apply gain_alloc | apply gain_drewN | apply gain_drew) | (refine gain_setCell ?_ (by first | exact Nat.le_refl _ | exact World.size_ext _ _ | (simp; done) | (simp; omega)) _)))) (own_up hx (by repeat (first | with_reducible (first | exact World.gained_refl _ | exact ⟨_, rfl⟩ | apply gain_ext | apply gain_alloc | apply gain_drewN | apply gain_drew) | (refine gain_setCell ?_ (by first | exact Nat.le_refl _ | exact World.size_ext _ _ | (simp; done) | (simp; omega)) _)))) (by decide) ho hg, pairwise_snoc HP.out (rows2_apart (Y := ((w.ext d).ext d2)) HR.out (own_lit (l := [(k : Int), (k : Int)]) intC_length rfl (by simp)))⟩
                  case measure => simp [intOf]; omega
      · go_wp2
        go_ret2
        obtain rfl : k = 121 := by omega
        rw [HE.out]
        exact ⟨_, _, rfl, ⟨_, rfl⟩, HR.out, HP.out⟩
end Go.Proofs.Ytfenempljjenpaa
