/- impl.SharedCourses, spec.SharedCourses. Condition: at most 1048576 classes, their names too. -/
import Derived.Test.YtfenempljjenpaaG8
import Derived.Test.YtfenempljjenpaaG24
import Derived.Test.YtfenempljjenpaaG25
import Derived.Test.YtfenempljjenpaaG3
import Derived.Test.YtfenempljjenpaaG2
import Derived.Test.YtfenempljjenpaaG13
namespace Go.Ori
def sharedL (l : List Cls) : List Int := if clssB l then shL (l.map Cls.course) else []
theorem sharedL_no {l : List Cls} (h : clssB l = false) : sharedL l = [] := by simp [sharedL, h]
theorem sharedL_yes {l : List Cls} (h : clssB l = true) : sharedL l = shL (l.map Cls.course) := by simp [sharedL, h]
theorem sharedL_length (l : List Cls) : (sharedL l).length ≤ 1048576 := by
  cases h : clssB l with
  | false => rw [sharedL_no h]; simp
  | true => rw [sharedL_yes h]; have := shK_len (l.map Cls.course) 20; unfold shL; omega
theorem clssB_course {l : List Cls} (h : clssB l = true) : ∀ x ∈ l.map Cls.course, 1 ≤ x ∧ x ≤ 20 := by
  intro x hx
  obtain ⟨c, hc, rfl⟩ := List.mem_map.1 hx
  obtain ⟨k, hk, rfl⟩ := List.getElem_of_mem hc
  have := clssB_at h hk
  simp only [classB, Bool.and_eq_true, insB_true] at this
  exact this.1.2
theorem shO_step (l : List Cls) {k : Nat} (hk : k < l.length) : shO (l.map Cls.course) (k + 1) = shO (l.map Cls.course) k ++ if (l.take k).any (fun x => x.course == l[k].course) then [l[k].course] else [] := by
  have hg : (l.map Cls.course).getD k 0 = l[k].course := by simp [List.getD_eq_getElem?_getD, List.getElem?_eq_getElem hk]
  rw [shO, hg, ← List.map_take, List.any_map]
  rfl
theorem count_step (l : List Cls) {k : Nat} (hk : k < l.length) (c : Int) : ((l.map Cls.course).take (k + 1)).count c = ((l.map Cls.course).take k).count c + if l[k].course == c then 1 else 0 := by
  have ht : (l.map Cls.course).take (k + 1) = (l.map Cls.course).take k ++ [l[k].course] := by
    rw [List.take_succ_eq_append_getElem (by simpa using hk), List.getElem_map]
  rw [ht, List.count_append, List.count_singleton]
end Go.Ori
namespace Go.Proofs.Ytfenempljjenpaa
open Go.RowKit Go.Ori
theorem sharedCourses1_any (n : Cls) (r : Int) (g : Nat) (w : World) (ob : w.oldB g) (hc : w.cell? ⟨g, 6, none⟩ = some (.int .i64 r)) :
    Calls Try.prog 36 #[.agg #[.int .i64 n.id, .string n.name, .int .i64 n.low, .int .i64 n.high, .bool n.women, .bool n.men, .int .i64 n.course, .int .i64 n.most], .pointer (some ⟨g, 0, none⟩)] w fun x w' => x = .returned (.bool (n.course == r)) ∧ ∃ d, w' = w.ext d := by
  go_enter Try.func36, Try.ntmps36
  go_wp2
  go_ret
  exact ⟨rfl, gain_alloc w.gained_refl _⟩
set_option maxHeartbeats 4000000 in
theorem sharedCourses_any (v : Value) (l : List Cls) (w : World) (h : w.sl Cls.cells 8 v l) (hl : l.length ≤ 1048576) (hq : ∀ x ∈ l, Cls.small x) :
    Calls Try.prog 15 #[v] w fun x w' => ∃ R, x = .returned (.tuple #[R, .bool (clssB l)]) ∧ (∃ d, w' = w.ext d) ∧ w'.own w.heap.size 3 intC 1 R (sharedL l) := by
  have hs := Lib.hid h
  have HG := Lib.hid (areClasses_any _ l _ h hl hq)
  obtain ⟨p, c, rfl, _⟩ := h
  cases hC : clssB l with
  | false =>
    rw [sharedL_no hC]
    rw [hC] at HG
    clear hC
    go_enter Try.func15, Try.ntmps15
    go_wp2_with (go_at_call 17; refine HG.out.mono ?_; rintro e w1 ⟨rfl, d1, rfl⟩)
    go_ret2
    exact ⟨_, rfl, (by repeat (first | with_reducible (first | exact World.gained_refl _ | exact ⟨_, rfl⟩ | apply gain_ext | apply gain_alloc | apply gain_drewN | apply gain_drew) | (refine gain_setCell ?_ (by first | exact Nat.le_refl _ | exact World.size_ext _ _ | (simp; done) | (simp; omega)) _))), own_nil _ _ _ _ _⟩
  | true =>
    rw [sharedL_yes hC]
    have hl8 := clssB_len hC
    have HEQ := Lib.hid (share_eq (clssB_course hC))
    have HST := Lib.hid (fun k hk => shO_step l (k := k) hk)
    have HLN := Lib.hid (shO_len (l.map Cls.course))
    have hml : (l.map Cls.course).length = l.length := List.length_map _
    rw [hml] at HEQ
    rw [hC] at HG
    clear hC hml
    generalize l.map Cls.course = cs at HEQ HST HLN ⊢
    go_enter Try.func15, Try.ntmps15
    go_wp2_with (go_at_call 17; refine HG.out.mono ?_; rintro e w1 ⟨rfl, d1, rfl⟩)
    go_loopw [4, 13] (fun o_ i_ wr => ∃ (k g cap : Nat), k ≤ l.length ∧ i_ = .int .i64 k ∧ o_ = .slice (some ⟨g, 0, none⟩) (shO cs k).length cap ∧ wr.own w.heap.size 3 intC 1 (.slice (some ⟨g, 0, none⟩) (shO cs k).length cap) (shO cs k) ∧ ∃ d, wr = w.ext d) (fun _ i_ _ => l.length - (intOf i_).toNat)
    case atStart => exact ⟨0, _, _, by omega, rfl, rfl, own_lit' (l := ([] : List Int)) intC_length rfl rfl (gain_size (by repeat (first | with_reducible (first | exact World.gained_refl _ | exact ⟨_, rfl⟩ | apply gain_ext | apply gain_alloc | apply gain_drewN | apply gain_drew) | (refine gain_setCell ?_ (by first | exact Nat.le_refl _ | exact World.size_ext _ _ | (simp; done) | (simp; omega)) _)))), (by repeat (first | with_reducible (first | exact World.gained_refl _ | exact ⟨_, rfl⟩ | apply gain_ext | apply gain_alloc | apply gain_drewN | apply gain_drew) | (refine gain_setCell ?_ (by first | exact Nat.le_refl _ | exact World.size_ext _ _ | (simp; done) | (simp; omega)) _)))⟩
    case round =>
      obtain ⟨k, g, cap, hk, rfl, rfl, ho, d, rfl⟩ := hrel
      have HO := Lib.hid ho
      have hlk : (shO cs k).length ≤ 8 := by have := HLN.out k; omega
      clear ho
      by_cases hlt : k < l.length
      · obtain ⟨b, o, rfl⟩ := sl_some hs.out (by omega)
        have hck := fun j (hj : j < 8) => sl_cells hs.out hlt hj
        have c0 := hck 0 (by omega)
        have c1 := hck 1 (by omega)
        have c2 := hck 2 (by omega)
        have c3 := hck 3 (by omega)
        have c4 := hck 4 (by omega)
        have c5 := hck 5 (by omega)
        have c6 := hck 6 (by omega)
        have c7 := hck 7 (by omega)
        have HSK := Lib.hid (HST.out k hlt)
        generalize l[k] = e at c0 c1 c2 c3 c4 c5 c6 c7 HSK hck
        clear hck
        simp only [Cls.cells, List.getElem?_cons_zero, List.getElem?_cons_succ, Nat.add_zero] at c0 c1 c2 c3 c4 c5 c6 c7
        have ob := World.oldB_of_cell c0
        go_wp2_with fail
        refine (containsFunc_clss 36 _ (fun x => x.course == e.course) _ (l.take k) _ (sl_take (by with_reducible (repeat (first | exact hs.out | refine World.sl_ext Cls.cells_length ?_ _ | refine sl_alloc Cls.cells_length ?_ _ | refine sl_drew ?_))) (by omega)) (by rw [List.length_take]; omega) (fun _ _ => by kernel_rfl) (fun n d => ?hcl)).mono ?_
        case hcl =>
          refine sharedCourses1_any n e.course _ _ ?_ ?_
          · simp [go_sem]
          · simp [go_sem]
        rintro x w1 ⟨rfl, d1, rfl⟩
        cases hany : (l.take k).any (fun x => x.course == e.course) with
        | true =>
          have HS2 : Hid (shO cs (k + 1) = shO cs k ++ [e.course]) := Lib.hid (by rw [HSK.out, hany]; rfl)
          clear HSK hany
          go_wp2_with (at_builtin; go_must (refine wpList_append_gain (m := [e.course]) rfl (.tmp 23) (.tmp 26) rfl Try.underlying28 info_int (by rfl) (by omega) intC_length intC_one (by omega) (by repeat (first | with_reducible (first | exact World.gained_refl _ | exact ⟨_, rfl⟩ | apply gain_ext | apply gain_alloc | apply gain_drewN | apply gain_drew) | (refine gain_setCell ?_ (by first | exact Nat.le_refl _ | exact World.size_ext _ _ | (simp; done) | (simp; omega)) _))) (Nat.le_refl _) (gain_size (by repeat (first | with_reducible (first | exact World.gained_refl _ | exact ⟨_, rfl⟩ | apply gain_ext | apply gain_alloc | apply gain_drewN | apply gain_drew) | (refine gain_setCell ?_ (by first | exact Nat.le_refl _ | exact World.size_ext _ _ | (simp; done) | (simp; omega)) _)))) rfl rfl (own_up (HO.out) (by repeat (first | with_reducible (first | exact World.gained_refl _ | exact ⟨_, rfl⟩ | apply gain_ext | apply gain_alloc | apply gain_drewN | apply gain_drew) | (refine gain_setCell ?_ (by first | exact Nat.le_refl _ | exact World.size_ext _ _ | (simp; done) | (simp; omega)) _)))) (sl_lit (l := [e.course]) intC_length rfl (by simp)) ((by simp; omega)) ?_); intro v' d2 ho hg)
          obtain ⟨g2, cap2, rfl, hg2, -⟩ := own_addr ho (by simp)
          rw [← HS2.out] at ho
          go_roundw
          case rel => exact ⟨k + 1, g2, cap2, by omega, by go_num, by rw [HS2.out], ho, (by repeat (first | with_reducible (first | exact World.gained_refl _ | exact ⟨_, rfl⟩ | apply gain_ext | apply gain_alloc | apply gain_drewN | apply gain_drew) | (refine gain_setCell ?_ (by first | exact Nat.le_refl _ | exact World.size_ext _ _ | (simp; done) | (simp; omega)) _)))⟩
          case measure => simp [intOf]; omega
        | false =>
          have HS2 : Hid (shO cs (k + 1) = shO cs k) := Lib.hid (by rw [HSK.out, hany]; simp)
          clear HSK hany
          go_wp2
          go_roundw
          case rel => exact ⟨k + 1, g, cap, by omega, by go_num, by rw [HS2.out], by rw [HS2.out]; exact own_up HO.out (by repeat (first | with_reducible (first | exact World.gained_refl _ | exact ⟨_, rfl⟩ | apply gain_ext | apply gain_alloc | apply gain_drewN | apply gain_drew) | (refine gain_setCell ?_ (by first | exact Nat.le_refl _ | exact World.size_ext _ _ | (simp; done) | (simp; omega)) _))), (by repeat (first | with_reducible (first | exact World.gained_refl _ | exact ⟨_, rfl⟩ | apply gain_ext | apply gain_alloc | apply gain_drewN | apply gain_drew) | (refine gain_setCell ?_ (by first | exact Nat.le_refl _ | exact World.size_ext _ _ | (simp; done) | (simp; omega)) _)))⟩
          case measure => simp [intOf]; omega
      · obtain rfl : k = l.length := by omega
        go_wp2_with fail
        refine (sortInts_any w _ w.heap.size g cap _ (by repeat (first | with_reducible (first | exact World.gained_refl _ | exact ⟨_, rfl⟩ | apply gain_ext | apply gain_alloc | apply gain_drewN | apply gain_drew) | (refine gain_setCell ?_ (by first | exact Nat.le_refl _ | exact World.size_ext _ _ | (simp; done) | (simp; omega)) _))) (Nat.le_refl _) (own_up HO.out (by repeat (first | with_reducible (first | exact World.gained_refl _ | exact ⟨_, rfl⟩ | apply gain_ext | apply gain_alloc | apply gain_drewN | apply gain_drew) | (refine gain_setCell ?_ (by first | exact Nat.le_refl _ | exact World.size_ext _ _ | (simp; done) | (simp; omega)) _)))) (by omega)).mono ?_
        rintro x w1 ⟨rfl, ⟨d2, rfl⟩, ho⟩
        have HO2 := Lib.hid ho
        clear ho
        have hlen : (sortI (shO cs l.length)).length = (shO cs l.length).length := List.length_mergeSort _
        have HCP := Lib.hid (fun W hg (ho : W.own w.heap.size 3 intC 1 (.slice (some ⟨g, 0, none⟩) (sortI (shO cs l.length)).length cap) _) => compactInts_any w W w.heap.size g cap (sortI (shO cs l.length)) hg (Nat.le_refl _) ho (by omega))
        simp only [hlen] at HCP
        clear hlen
        go_wp2_with fail
        refine (HCP.out _ (by repeat (first | with_reducible (first | exact World.gained_refl _ | exact ⟨_, rfl⟩ | apply gain_ext | apply gain_alloc | apply gain_drewN | apply gain_drew) | (refine gain_setCell ?_ (by first | exact Nat.le_refl _ | exact World.size_ext _ _ | (simp; done) | (simp; omega)) _))) (own_up HO2.out (by repeat (first | with_reducible (first | exact World.gained_refl _ | exact ⟨_, rfl⟩ | apply gain_ext | apply gain_alloc | apply gain_drewN | apply gain_drew) | (refine gain_setCell ?_ (by first | exact Nat.le_refl _ | exact World.size_ext _ _ | (simp; done) | (simp; omega)) _))))).mono ?_
        rintro x w1 ⟨R, rfl, ⟨d3, rfl⟩, ho⟩
        rw [HEQ.out] at ho
        have HO3 := Lib.hid ho
        go_wp2_with fail
        go_ret2
        exact ⟨_, rfl, (by repeat (first | with_reducible (first | exact World.gained_refl _ | exact ⟨_, rfl⟩ | apply gain_ext | apply gain_alloc | apply gain_drewN | apply gain_drew) | (refine gain_setCell ?_ (by first | exact Nat.le_refl _ | exact World.size_ext _ _ | (simp; done) | (simp; omega)) _))), own_up HO3.out (by repeat (first | with_reducible (first | exact World.gained_refl _ | exact ⟨_, rfl⟩ | apply gain_ext | apply gain_alloc | apply gain_drewN | apply gain_drew) | (refine gain_setCell ?_ (by first | exact Nat.le_refl _ | exact World.size_ext _ _ | (simp; done) | (simp; omega)) _)))⟩
set_option maxHeartbeats 4000000 in
theorem specSharedCourses_any (v : Value) (l : List Cls) (w : World) (h : w.sl Cls.cells 8 v l) (hl : l.length ≤ 1048576) (hq : ∀ x ∈ l, Cls.small x) :
    Calls Try.prog 16 #[v] w fun x w' => ∃ R, x = .returned (.tuple #[R, .bool (clssB l)]) ∧ (∃ d, w' = w.ext d) ∧ w'.own w.heap.size 3 intC 1 R (sharedL l) := by
  have hs := Lib.hid h
  have HG := Lib.hid (fun W hL => l7Good_any v l W hL hl hq)
  obtain ⟨p, c, rfl, _⟩ := h
  cases hC : clssB l with
  | false =>
    rw [sharedL_no hC]
    rw [hC] at HG
    clear hC
    go_enter Try.func16, Try.ntmps16
    go_wp2_with (go_at_call 25; refine (HG.out _ (by with_reducible (repeat (first | exact hs.out | refine World.sl_ext Cls.cells_length ?_ _ | refine sl_alloc Cls.cells_length ?_ _ | refine sl_drew ?_)))).mono ?_; rintro e w1 ⟨rfl, d1, rfl⟩)
    go_ret2
    exact ⟨_, rfl, (by repeat (first | with_reducible (first | exact World.gained_refl _ | exact ⟨_, rfl⟩ | apply gain_ext | apply gain_alloc | apply gain_drewN | apply gain_drew) | (refine gain_setCell ?_ (by first | exact Nat.le_refl _ | exact World.size_ext _ _ | (simp; done) | (simp; omega)) _))), own_up (own_lit' (l := ([] : List Int)) intC_length rfl rfl (gain_size (by repeat (first | with_reducible (first | exact World.gained_refl _ | exact ⟨_, rfl⟩ | apply gain_ext | apply gain_alloc | apply gain_drewN | apply gain_drew) | (refine gain_setCell ?_ (by first | exact Nat.le_refl _ | exact World.size_ext _ _ | (simp; done) | (simp; omega)) _))))) (by repeat (first | with_reducible (first | exact World.gained_refl _ | exact ⟨_, rfl⟩ | apply gain_ext | apply gain_alloc | apply gain_drewN | apply gain_drew) | (refine gain_setCell ?_ (by first | exact Nat.le_refl _ | exact World.size_ext _ _ | (simp; done) | (simp; omega)) _)))⟩
  | true =>
    rw [sharedL_yes hC]
    have hl8 := clssB_len hC
    have HST := Lib.hid (fun k hk c => count_step l (k := k) hk c)
    have HLN := Lib.hid (shK_len (l.map Cls.course))
    have hml : (l.map Cls.course).length = l.length := List.length_map _
    have HFULL : Hid (∀ c, ((l.map Cls.course).take l.length).count c = (l.map Cls.course).count c) := Lib.hid (fun c => by rw [← hml, List.take_length])
    have HSK : Hid (∀ k : Nat, shK (l.map Cls.course) (k + 1) = shK (l.map Cls.course) k ++ if 2 ≤ (l.map Cls.course).count ((k : Int) + 1) then [(k : Int) + 1] else []) := Lib.hid (fun k => rfl)
    rw [hC] at HG
    clear hC hml
    unfold shL
    generalize l.map Cls.course = cs at HST HLN HFULL HSK ⊢
    go_enter Try.func16, Try.ntmps16
    go_wp2_with (go_at_call 25; refine (HG.out _ (by with_reducible (repeat (first | exact hs.out | refine World.sl_ext Cls.cells_length ?_ _ | refine sl_alloc Cls.cells_length ?_ _ | refine sl_drew ?_)))).mono ?_; rintro e w1 ⟨rfl, d1, rfl⟩)
    go_loopw [4, 5] (fun o_ i_ wr => ∃ k : Nat, k ≤ 20 ∧ i_ = .int .i64 ((k : Int) + 1) ∧ wr.own w.heap.size 3 intC 1 o_ (shK cs k) ∧ ∃ d, wr = w.ext d) (fun _ i_ _ => 21 - (intOf i_).toNat)
    case atStart => exact ⟨0, by omega, rfl, own_up (own_lit' (l := ([] : List Int)) intC_length rfl rfl (gain_size (by repeat (first | with_reducible (first | exact World.gained_refl _ | exact ⟨_, rfl⟩ | apply gain_ext | apply gain_alloc | apply gain_drewN | apply gain_drew) | (refine gain_setCell ?_ (by first | exact Nat.le_refl _ | exact World.size_ext _ _ | (simp; done) | (simp; omega)) _))))) (by repeat (first | with_reducible (first | exact World.gained_refl _ | exact ⟨_, rfl⟩ | apply gain_ext | apply gain_alloc | apply gain_drewN | apply gain_drew) | (refine gain_setCell ?_ (by first | exact Nat.le_refl _ | exact World.size_ext _ _ | (simp; done) | (simp; omega)) _))), (by repeat (first | with_reducible (first | exact World.gained_refl _ | exact ⟨_, rfl⟩ | apply gain_ext | apply gain_alloc | apply gain_drewN | apply gain_drew) | (refine gain_setCell ?_ (by first | exact Nat.le_refl _ | exact World.size_ext _ _ | (simp; done) | (simp; omega)) _)))⟩
    case round =>
      obtain ⟨k, hk, rfl, ho, d, rfl⟩ := hrel
      have HO := Lib.hid ho
      have hlk : (shK cs k).length ≤ 20 := by have := HLN.out k; omega
      clear ho
      by_cases hlt : k < 20
      · have hk20 : decide ((k : Int) + 1 ≤ 20) = true := decide_eq_true (by omega)
        go_wp2_with fail
        go_loopw [6, 7] (fun n_ i_ wr => ∃ q : Nat, q ≤ l.length ∧ i_ = .int .i64 q ∧ n_ = .int .i64 ((cs.take q).count ((k : Int) + 1)) ∧ wr = w.ext d) (fun _ i_ _ => l.length - (intOf i_).toNat)
        case atStart => exact ⟨0, by omega, rfl, by simp, rfl⟩
        case round =>
          obtain ⟨q, hq1, rfl, rfl, rfl⟩ := hrel
          have hcb : (cs.take q).count ((k : Int) + 1) ≤ 8 := by
            have := List.count_le_length (a := (k : Int) + 1) (l := cs.take q)
            have := List.length_take_le q cs
            omega
          by_cases hq2 : q < l.length
          · obtain ⟨b, o, rfl⟩ := sl_some hs.out (by omega)
            have c6 := sl_cells hs.out hq2 (j := 6) (by omega)
            have HCT := Lib.hid (HST.out q hq2 ((k : Int) + 1))
            generalize l[q] = e at c6 HCT
            simp only [Cls.cells, List.getElem?_cons_zero, List.getElem?_cons_succ, Nat.add_zero] at c6
            have ob := World.oldB_of_cell c6
            cases hce : (e.course == (k : Int) + 1) with
            | true =>
              rw [hce, if_pos rfl] at HCT
              go_wp2
              go_roundw
              case rel => exact ⟨q + 1, by omega, by go_num, by rw [HCT.out]; go_num, by first | rfl | trivial⟩
              case measure => simp [intOf]; omega
            | false =>
              rw [hce] at HCT
              go_wp2
              go_roundw
              case rel => exact ⟨q + 1, by omega, by go_num, by rw [HCT.out]; simp, by first | rfl | trivial⟩
              case measure => simp [intOf]; omega
          · obtain rfl : q = l.length := by omega
            rw [HFULL.out] at hcb ⊢
            have HS2 := Lib.hid (HSK.out k)
            generalize cs.count ((k : Int) + 1) = N at hcb HS2 ⊢
            by_cases hn2 : 2 ≤ N
            · have hn2d : decide ((2 : Int) ≤ (N : Int)) = true := decide_eq_true (by omega)
              rw [if_pos hn2] at HS2
              go_wp2_with (at_builtin; go_must (refine wpList_append_gain (m := [(k : Int) + 1]) rfl (.tmp 34) (.tmp 36) rfl Try.underlying28 info_int (by rfl) (by omega) intC_length intC_one (by omega) (by repeat (first | with_reducible (first | exact World.gained_refl _ | exact ⟨_, rfl⟩ | apply gain_ext | apply gain_alloc | apply gain_drewN | apply gain_drew) | (refine gain_setCell ?_ (by first | exact Nat.le_refl _ | exact World.size_ext _ _ | (simp; done) | (simp; omega)) _))) (Nat.le_refl _) (gain_size (by repeat (first | with_reducible (first | exact World.gained_refl _ | exact ⟨_, rfl⟩ | apply gain_ext | apply gain_alloc | apply gain_drewN | apply gain_drew) | (refine gain_setCell ?_ (by first | exact Nat.le_refl _ | exact World.size_ext _ _ | (simp; done) | (simp; omega)) _)))) rfl rfl (own_up (HO.out) (by repeat (first | with_reducible (first | exact World.gained_refl _ | exact ⟨_, rfl⟩ | apply gain_ext | apply gain_alloc | apply gain_drewN | apply gain_drew) | (refine gain_setCell ?_ (by first | exact Nat.le_refl _ | exact World.size_ext _ _ | (simp; done) | (simp; omega)) _)))) (sl_lit (l := [(k : Int) + 1]) intC_length rfl (by simp)) ((by simp; omega)) ?_); intro v' d2 ho hg)
              rw [← HS2.out] at ho
              go_roundw
              case rel => exact ⟨k + 1, by omega, by go_num, ho, (by repeat (first | with_reducible (first | exact World.gained_refl _ | exact ⟨_, rfl⟩ | apply gain_ext | apply gain_alloc | apply gain_drewN | apply gain_drew) | (refine gain_setCell ?_ (by first | exact Nat.le_refl _ | exact World.size_ext _ _ | (simp; done) | (simp; omega)) _)))⟩
              case measure => simp [intOf]; omega
            · have hn2d : decide ((2 : Int) ≤ (N : Int)) = false := decide_eq_false (by omega)
              rw [if_neg hn2, List.append_nil] at HS2
              go_wp2
              go_roundw
              case rel => exact ⟨k + 1, by omega, by go_num, by rw [HS2.out]; exact HO.out, (by repeat (first | with_reducible (first | exact World.gained_refl _ | exact ⟨_, rfl⟩ | apply gain_ext | apply gain_alloc | apply gain_drewN | apply gain_drew) | (refine gain_setCell ?_ (by first | exact Nat.le_refl _ | exact World.size_ext _ _ | (simp; done) | (simp; omega)) _)))⟩
              case measure => simp [intOf]; omega
      · obtain rfl : k = 20 := by omega
        go_wp2
        go_ret2
        exact ⟨_, rfl, (by repeat (first | with_reducible (first | exact World.gained_refl _ | exact ⟨_, rfl⟩ | apply gain_ext | apply gain_alloc | apply gain_drewN | apply gain_drew) | (refine gain_setCell ?_ (by first | exact Nat.le_refl _ | exact World.size_ext _ _ | (simp; done) | (simp; omega)) _))), HO.out⟩
end Go.Proofs.Ytfenempljjenpaa
