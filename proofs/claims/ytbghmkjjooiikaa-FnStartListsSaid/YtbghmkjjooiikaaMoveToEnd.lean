/- impl.MoveToEnd, spec.MoveToEnd. Condition: at most 1048576 elements. -/
import Derived.Test.YtbghmkjjooiikaaStarts
import Derived.Test.YtbghmkjjooiikaaL10List
import Derived.Test.YtbghmkjjooiikaaCopyInts
import Derived.Test.YtbghmkjjooiikaaDelFunc
namespace Go.Ori
def mvB (clubs list : List Int) (s : Int) : Bool := startsB clubs list && insB s 0 ((clubs.length : Int) - 1)
def mvL (clubs list : List Int) (s : Int) : List Int := if mvB clubs list s then (list.filter fun x => !(x == s)) ++ [s] else []
theorem mvL_length (clubs list : List Int) (s : Int) : (mvL clubs list s).length ≤ 1048576 := by
  unfold mvL
  split
  · rename_i h
    simp only [mvB, Bool.and_eq_true] at h
    have h1 := (clubsB_true (startsB_true h.1).1).2.1
    have h2 := (listB_true (startsB_true h.1).2).1
    have := List.length_filter_le (fun x => !(x == s)) list
    simp; omega
  · simp
end Go.Ori
namespace Go.Proofs.Ytbghmkjjooiikaa
open Go.RowKit Go.Ori
theorem moveToEnd1_any (n r : Int) (a : Addr) (w : World) (ob : w.oldB a.block) (hc : w.cell? a = some (.int .i64 r)) :
    Calls Try.prog 118 #[.int .i64 n, .pointer (some a)] w fun x w' => x = .returned (.bool (n == r)) ∧ ∃ d, w' = w.ext d := by
  go_enter Try.func118, Try.ntmps118
  go_wp2
  go_ret
  exact ⟨rfl, w.gained_refl⟩
set_option maxHeartbeats 2000000 in
theorem moveToEnd_any (v v2 : Value) (l l2 : List Int) (s : Int) (w : World) (h : w.sl intC 1 v l) (h2 : w.sl intC 1 v2 l2) (hl : l.length ≤ 1048576) (hl2 : l2.length ≤ 1048576) :
    Calls Try.prog 48 #[v, v2, .int .i64 s] w fun x w' => ∃ r, x = .returned (.tuple #[r, .bool (mvB l l2 s)]) ∧ (∃ d, w' = w.ext d) ∧ w'.own w.heap.size 3 intC 1 r (mvL l l2 s) := by
  have hs := Lib.hid h
  have hs2 := Lib.hid h2
  obtain ⟨p, c, rfl, _⟩ := h
  obtain ⟨p2, c2, rfl, _⟩ := h2
  cases hS : startsB l l2 with
  | false =>
    have hcond : mvB l l2 s = false := by simp [mvB, hS]
    have e1 := Lib.hid (show mvL l l2 s = [] by simp [mvL, hcond])
    have e2 := Lib.hid hcond
    clear hcond
    go_enter Try.func48, Try.ntmps48
    go_wp2_with (first | (go_at_call 111; refine (areStarts_any _ _ l l2 _ (by with_reducible (repeat (first | exact hs.out | refine World.sl_ext intC_length ?_ _ | refine sl_alloc intC_length ?_ _ | refine sl_drew ?_))) (by with_reducible (repeat (first | exact hs2.out | refine World.sl_ext intC_length ?_ _ | refine sl_alloc intC_length ?_ _ | refine sl_drew ?_))) hl hl2).mono ?_; rintro e w1 ⟨rfl, d1, rfl⟩) | (go_at_call 88; refine (inside_any _ _ _ _).mono ?_; rintro e w1 ⟨rfl, rfl⟩))
    go_ret2
    rw [e1.out, e2.out]
    exact ⟨_, rfl, (by repeat (first | with_reducible (first | exact World.gained_refl _ | exact ⟨_, rfl⟩ | apply gain_ext | apply gain_alloc | apply gain_drewN | apply gain_drew) | (refine gain_setCell ?_ (by first | exact Nat.le_refl _ | exact World.size_ext _ _ | (simp; done) | (simp; omega)) _))), own_nil _ _ _ _ _⟩
  | true =>
  cases hI : insB s 0 ((l.length : Int) - 1) with
  | false =>
    have hcond : mvB l l2 s = false := by simp [mvB, hI]
    have e1 := Lib.hid (show mvL l l2 s = [] by simp [mvL, hcond])
    have e2 := Lib.hid hcond
    clear hcond
    go_enter Try.func48, Try.ntmps48
    go_wp2_with (first | (go_at_call 111; refine (areStarts_any _ _ l l2 _ (by with_reducible (repeat (first | exact hs.out | refine World.sl_ext intC_length ?_ _ | refine sl_alloc intC_length ?_ _ | refine sl_drew ?_))) (by with_reducible (repeat (first | exact hs2.out | refine World.sl_ext intC_length ?_ _ | refine sl_alloc intC_length ?_ _ | refine sl_drew ?_))) hl hl2).mono ?_; rintro e w1 ⟨rfl, d1, rfl⟩) | (go_at_call 88; refine (inside_any _ _ _ _).mono ?_; rintro e w1 ⟨rfl, rfl⟩))
    go_ret2
    rw [e1.out, e2.out]
    exact ⟨_, rfl, (by repeat (first | with_reducible (first | exact World.gained_refl _ | exact ⟨_, rfl⟩ | apply gain_ext | apply gain_alloc | apply gain_drewN | apply gain_drew) | (refine gain_setCell ?_ (by first | exact Nat.le_refl _ | exact World.size_ext _ _ | (simp; done) | (simp; omega)) _))), own_nil _ _ _ _ _⟩
  | true =>
    have e2 := Lib.hid (show mvB l l2 s = true by simp [mvB, hI, hS])
    have e1 := Lib.hid (show mvL l l2 s = (l2.filter fun x => !(x == s)) ++ [s] by simp [mvL, e2.out])
    have h8 := (clubsB_true (startsB_true hS).1).2.1
    have h9 : l2.length ≤ 8 := by have := (listB_true (startsB_true hS).2).1; omega
    have hf := List.length_filter_le (fun x => !(x == s)) l2
    go_enter Try.func48, Try.ntmps48
    go_wp2_with (first | (go_at_call 111; refine (areStarts_any _ _ l l2 _ (by with_reducible (repeat (first | exact hs.out | refine World.sl_ext intC_length ?_ _ | refine sl_alloc intC_length ?_ _ | refine sl_drew ?_))) (by with_reducible (repeat (first | exact hs2.out | refine World.sl_ext intC_length ?_ _ | refine sl_alloc intC_length ?_ _ | refine sl_drew ?_))) hl hl2).mono ?_; rintro e w1 ⟨rfl, d1, rfl⟩) | (go_at_call 88; refine (inside_any _ _ _ _).mono ?_; rintro e w1 ⟨rfl, rfl⟩) | (go_at_call 117; refine (copyInts_any _ l2 _ (by with_reducible (repeat (first | exact hs2.out | refine World.sl_ext intC_length ?_ _ | refine sl_alloc intC_length ?_ _ | refine sl_drew ?_))) hl2).mono ?_; rintro e w1 ⟨vc, rfl, ⟨dc, rfl⟩, hoc⟩))
    refine (deleteFunc_ints 118 _ (fun n => n == s) (w.alloc (.cells #[.int .i64 s] 3)) vc l2 _ _ (gain_ext (gain_ext (World.gained_refl _) _) _) (Nat.le_refl _) (own_base hoc (World.size_ext _ _)) hl2 (fun _ _ => by kernel_rfl) (fun n d => ?hcl)).mono ?_
    case hcl =>
      refine moveToEnd1_any n s _ _ ?_ ?_
      · simp [go_sem]
      · simp [go_sem]
    rintro e w1 ⟨r, rfl, ⟨d3, rfl⟩, hr⟩
    have HR := Lib.hid (own_base hr (b := w.heap.size) (by simp))
    clear hr hoc
    go_wp2_with (at_builtin; go_must (refine wpList_append_gain (W := w) (m := [s]) rfl (.tmp 25) (.tmp 27) rfl Try.underlying34 info_int (by rfl) (by omega) intC_length intC_one (by omega) (gain_alloc (gain_ext (gain_alloc w.gained_refl _) _) _) (Nat.le_refl _) (gain_size (gain_alloc (gain_ext (gain_alloc w.gained_refl _) _) _)) rfl rfl (own_alloc HR.out _) (sl_lit (l := [s]) intC_length rfl (by simp)) (by simp; omega) ?_); intro v' d' ho hg)
    go_ret2
    rw [e1.out, e2.out]
    exact ⟨_, rfl, (by repeat (first | with_reducible (first | exact World.gained_refl _ | exact ⟨_, rfl⟩ | apply gain_ext | apply gain_alloc | apply gain_drewN | apply gain_drew) | (refine gain_setCell ?_ (by first | exact Nat.le_refl _ | exact World.size_ext _ _ | (simp; done) | (simp; omega)) _))), ho⟩
set_option maxHeartbeats 2000000 in
theorem specMoveToEnd_any (v v2 : Value) (l l2 : List Int) (s : Int) (w : World) (h : w.sl intC 1 v l) (h2 : w.sl intC 1 v2 l2) (hl : l.length ≤ 1048576) (hl2 : l2.length ≤ 1048576) :
    Calls Try.prog 49 #[v, v2, .int .i64 s] w fun x w' => ∃ r, x = .returned (.tuple #[r, .bool (mvB l l2 s)]) ∧ (∃ d, w' = w.ext d) ∧ w'.own w.heap.size 3 intC 1 r (mvL l l2 s) := by
  have hs := Lib.hid h
  have hs2 := Lib.hid h2
  obtain ⟨p, c, rfl, _⟩ := h
  obtain ⟨p2, c2, rfl, _⟩ := h2
  cases hS : startsB l l2 with
  | false =>
    have hcond : mvB l l2 s = false := by simp [mvB, hS]
    have e1 := Lib.hid (show mvL l l2 s = [] by simp [mvL, hcond])
    have e2 := Lib.hid hcond
    clear hcond
    go_enter Try.func49, Try.ntmps49
    go_wp2_with (first | (go_at_call 113; refine (l10List_any _ _ l l2 _ (by with_reducible (repeat (first | exact hs.out | refine World.sl_ext intC_length ?_ _ | refine sl_alloc intC_length ?_ _ | refine sl_drew ?_))) (by with_reducible (repeat (first | exact hs2.out | refine World.sl_ext intC_length ?_ _ | refine sl_alloc intC_length ?_ _ | refine sl_drew ?_))) hl hl2).mono ?_; rintro e w1 ⟨rfl, d1, rfl⟩) | (go_at_call 84; refine (l1In_any _ _ _ _).mono ?_; rintro e w1 ⟨rfl, rfl⟩))
    go_ret2
    rw [e1.out, e2.out]
    exact ⟨_, rfl, (by repeat (first | with_reducible (first | exact World.gained_refl _ | exact ⟨_, rfl⟩ | apply gain_ext | apply gain_alloc | apply gain_drewN | apply gain_drew) | (refine gain_setCell ?_ (by first | exact Nat.le_refl _ | exact World.size_ext _ _ | (simp; done) | (simp; omega)) _))), own_ext (own_lit (l := ([] : List Int)) intC_length rfl (by simp)) _⟩
  | true =>
  cases hI : insB s 0 ((l.length : Int) - 1) with
  | false =>
    have hcond : mvB l l2 s = false := by simp [mvB, hI]
    have e1 := Lib.hid (show mvL l l2 s = [] by simp [mvL, hcond])
    have e2 := Lib.hid hcond
    clear hcond
    go_enter Try.func49, Try.ntmps49
    go_wp2_with (first | (go_at_call 113; refine (l10List_any _ _ l l2 _ (by with_reducible (repeat (first | exact hs.out | refine World.sl_ext intC_length ?_ _ | refine sl_alloc intC_length ?_ _ | refine sl_drew ?_))) (by with_reducible (repeat (first | exact hs2.out | refine World.sl_ext intC_length ?_ _ | refine sl_alloc intC_length ?_ _ | refine sl_drew ?_))) hl hl2).mono ?_; rintro e w1 ⟨rfl, d1, rfl⟩) | (go_at_call 84; refine (l1In_any _ _ _ _).mono ?_; rintro e w1 ⟨rfl, rfl⟩))
    go_ret2
    rw [e1.out, e2.out]
    exact ⟨_, rfl, (by repeat (first | with_reducible (first | exact World.gained_refl _ | exact ⟨_, rfl⟩ | apply gain_ext | apply gain_alloc | apply gain_drewN | apply gain_drew) | (refine gain_setCell ?_ (by first | exact Nat.le_refl _ | exact World.size_ext _ _ | (simp; done) | (simp; omega)) _))), own_ext (own_lit (l := ([] : List Int)) intC_length rfl (by simp)) _⟩
  | true =>
    have e2 := Lib.hid (show mvB l l2 s = true by simp [mvB, hI, hS])
    have e1 := Lib.hid (show mvL l l2 s = (l2.filter fun x => !(x == s)) ++ [s] by simp [mvL, e2.out])
    have h8 := (clubsB_true (startsB_true hS).1).2.1
    have h9 : l2.length ≤ 8 := by have := (listB_true (startsB_true hS).2).1; omega
    have hf := List.length_filter_le (fun x => !(x == s)) l2
    go_enter Try.func49, Try.ntmps49
    go_wp2_with (first | (go_at_call 113; refine (l10List_any _ _ l l2 _ (by with_reducible (repeat (first | exact hs.out | refine World.sl_ext intC_length ?_ _ | refine sl_alloc intC_length ?_ _ | refine sl_drew ?_))) (by with_reducible (repeat (first | exact hs2.out | refine World.sl_ext intC_length ?_ _ | refine sl_alloc intC_length ?_ _ | refine sl_drew ?_))) hl hl2).mono ?_; rintro e w1 ⟨rfl, d1, rfl⟩) | (go_at_call 84; refine (l1In_any _ _ _ _).mono ?_; rintro e w1 ⟨rfl, rfl⟩))
    go_loopw [8, 9] (fun o i wr => ∃ k : Nat, k ≤ l2.length ∧ i = .int .i64 k ∧ (∃ d, wr = w.ext d) ∧ wr.own w.heap.size 3 intC 1 o ((l2.take k).filter fun x => !(x == s))) (fun _ i _ => l2.length - (intOf i).toNat)
    case atStart => exact ⟨0, by omega, rfl, gain_ext (gain_alloc w.gained_refl _) _, own_ext (own_lit (l := ([] : List Int)) intC_length rfl (by simp)) _⟩
    case round =>
      obtain ⟨k, hk, rfl, ⟨d, rfl⟩, ho⟩ := hrel
      have HO := Lib.hid ho
      clear ho
      by_cases hlt : k < l2.length
      · obtain ⟨b, o, rfl⟩ := sl_some hs2.out (by omega)
        have c0 := sl_int hs2.out hlt
        have HS := Lib.hid (filter_succ (f := fun x => x == s) hlt)
        have hfk := List.length_filter_le (fun x => !(x == s)) (l2.take k)
        rw [List.length_take] at hfk
        generalize l2[k] = y at c0 HS
        have ob := World.oldB_of_cell c0
        cases hy : (y == s) with
        | true =>
          have HS' : Hid ((l2.take (k + 1)).filter (fun x => !(x == s)) = (l2.take k).filter (fun x => !(x == s))) := Lib.hid (by rw [HS.out, if_pos hy, List.append_nil])
          have hn : (y != s) = false := by simp [bne, hy]
          go_wp2
          go_roundw
          case rel => exact ⟨k + 1, by omega, by go_num, ⟨_, rfl⟩, by rw [HS'.out]; exact HO.out⟩
          case measure => simp [intOf]; omega
        | false =>
          have HS' : Hid ((l2.take (k + 1)).filter (fun x => !(x == s)) = (l2.take k).filter (fun x => !(x == s)) ++ [y]) := Lib.hid (by rw [HS.out, if_neg (by simp [hy])])
          have hn : (y != s) = true := by simp [bne, hy]
          go_wp2_with (at_builtin; go_must (refine wpList_append_gain (m := [y]) rfl (.tmp 36) (.tmp 41) rfl Try.underlying34 info_int (by rfl) (by omega) intC_length intC_one (by omega) (gain_alloc (⟨_, rfl⟩) _) (Nat.le_refl _) (gain_size (gain_alloc (⟨_, rfl⟩) _)) rfl rfl (own_alloc (HO.out) _) (sl_lit (l := [y]) intC_length rfl (by simp)) (by rw [List.length_singleton]; omega) ?_); intro v' d' ho hg)
          go_roundw
          case rel => exact ⟨k + 1, by omega, by go_num, ⟨_, rfl⟩, by rw [HS'.out]; exact ho⟩
          case measure => simp [intOf]; omega
      · obtain rfl : k = l2.length := by omega
        rw [List.take_length] at HO
        go_wp2_with (at_builtin; go_must (refine wpList_append_gain (W := w) (m := [s]) rfl (.tmp 43) (.tmp 45) rfl Try.underlying34 info_int (by rfl) (by omega) intC_length intC_one (by omega) (gain_alloc ⟨_, rfl⟩ _) (Nat.le_refl _) (gain_size (gain_alloc ⟨_, rfl⟩ _)) rfl rfl (own_alloc HO.out _) (sl_lit (l := [s]) intC_length rfl (by simp)) (by simp; omega) ?_); intro v' d' ho hg)
        go_ret2
        rw [e1.out, e2.out]
        exact ⟨_, rfl, ⟨_, rfl⟩, ho⟩
end Go.Proofs.Ytbghmkjjooiikaa
