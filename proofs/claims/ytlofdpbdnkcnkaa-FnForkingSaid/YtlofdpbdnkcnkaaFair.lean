/- impl.isFairTeam, impl.unfairTeams, spec.l9Unfair. Condition: a valid plan. -/
import Derived.Test.YtlofdpbdnkcnkaaL9Good
import Derived.Test.YtlofdpbdnkcnkaaTwice
import Derived.Test.YtlofdpbdnkcnkaaHas
import Derived.Test.YtlofdpbdnkcnkaaInfoInt
namespace Go.Ori
theorem allB_succ (k : Nat) (f : Nat → Bool) : allB (k + 1) f = (allB k f && f k) := by
  unfold allB
  rw [List.range_succ, List.all_append]
  simp
/-- The variants of the first k legs at a fork. -/
def colN (rows : List (List Int)) (f k : Nat) : List Int := (rows.take k).map fun r => r.getD f 0
theorem colN_zero (rows : List (List Int)) (f : Nat) : colN rows f 0 = [] := by simp [colN]
theorem colN_succ {rows : List (List Int)} {f k : Nat} (h : k < rows.length) : colN rows f (k + 1) = colN rows f k ++ [rows[k].getD f 0] := by
  unfold colN
  rw [List.take_succ_eq_append_getElem h, List.map_append]
  rfl
theorem colN_length (rows : List (List Int)) (f k : Nat) : (colN rows f k).length ≤ k := by simp [colN]; omega
theorem colN_len (rows : List (List Int)) (f k : Nat) (h : k ≤ rows.length) : (colN rows f k).length = k := by simp [colN]; omega
theorem colN_take {rows : List (List Int)} {f k n : Nat} (h : k ≤ n) : (colN rows f n).take k = colN rows f k := by
  unfold colN
  rw [← List.map_take, List.take_take, Nat.min_eq_left h]
theorem freshAt_col {rows : List (List Int)} {f k : Nat} (h : k < rows.length) : freshAt (colN rows f rows.length) k = !hasB (colN rows f k) (rows[k].getD f 0) := by
  have hl : k < (colN rows f rows.length).length := by rw [colN_len _ _ _ (Nat.le_refl _)]; exact h
  rw [freshAt_eq hl, colN_take (by omega)]
  congr 2
  simp [colN]
def fairB (rows : List (List Int)) (F : Nat) : Bool := allB F fun f => !twiceB (colN rows f rows.length)
def unfN (l : List (List (List Int))) (F k : Nat) : List Int := ((List.range k).filter fun t => !fairB (l.getD t []) F).map fun t : Nat => (t : Int)
theorem unfN_zero (l : List (List (List Int))) (F : Nat) : unfN l F 0 = [] := rfl
theorem unfN_succ {l : List (List (List Int))} {F k : Nat} (h : k < l.length) : unfN l F (k + 1) = unfN l F k ++ if fairB l[k] F then [] else [(k : Int)] := by
  unfold unfN
  rw [List.range_succ, List.filter_append, List.map_append]
  congr 1
  have e : l[k]?.getD [] = l[k] := by rw [List.getElem?_eq_getElem h]; rfl
  cases hb : fairB l[k] F <;> simp [List.filter_cons, e, hb]
theorem unfN_length (l : List (List (List Int))) (F k : Nat) : (unfN l F k).length ≤ k := by
  unfold unfN
  rw [List.length_map]
  exact Nat.le_trans (List.length_filter_le _ _) (by simp)
end Go.Ori
namespace Go.Proofs.Ytlofdpbdnkcnkaa
open Go.RowKit Go.Ori
set_option maxHeartbeats 2000000 in
theorem isFairTeam_any (v : Value) (rows : List (List Int)) (F : Nat) (w : World) (h : w.sl2 v rows) (hl : rows.length ≤ 4) (hF : F ≤ 4) (hr : ∀ (q : Nat) (hq : q < rows.length), rows[q].length = F) :
    Calls Try.prog 68 #[v, .int .i64 F] w fun x w' => x = .returned (.bool (fairB rows F)) ∧ ∃ d, w' = w.ext d := by
  have hs := Lib.hid h
  have HR := Lib.hid hr
  obtain ⟨p, c, rfl⟩ := sl2_form h
  clear h hr
  go_enter Try.func68, Try.ntmps68
  go_wp2
  go_loopw [10] (fun i wr => ∃ f : Nat, f ≤ F ∧ i = .int .i64 f ∧ (∀ j, j < f → (!twiceB (colN rows j rows.length)) = true) ∧ ∃ d, wr = w.ext d) (fun i _ => F - (intOf i).toNat)
  case atStart => exact ⟨0, by omega, rfl, by simp, w.gained_refl⟩
  case round =>
    obtain ⟨f, hf, rfl, hno, d, rfl⟩ := hrel
    have HN := Lib.hid hno
    clear hno
    by_cases hlt : f < F
    · go_wp2
      go_loopw [6, 16] (fun o i wr => ∃ q : Nat, q ≤ rows.length ∧ i = .int .i64 q ∧ (∃ d, wr = w.ext d) ∧ wr.own w.heap.size 3 intC 1 o (colN rows f q)) (fun _ i _ => rows.length - (intOf i).toNat)
      case atStart => exact ⟨0, by omega, rfl, (by repeat (first | with_reducible (first | exact World.gained_refl _ | exact ⟨_, rfl⟩ | apply gain_ext | apply gain_alloc | apply gain_drewN | apply gain_drew) | (refine gain_setCell ?_ (by first | exact Nat.le_refl _ | exact World.size_ext _ _ | (simp; done) | (simp; omega)) _))), by rw [colN_zero]; exact own_lit' (l := ([] : List Int)) intC_length rfl rfl (gain_size (by repeat (first | with_reducible (first | exact World.gained_refl _ | exact ⟨_, rfl⟩ | apply gain_ext | apply gain_alloc | apply gain_drewN | apply gain_drew) | (refine gain_setCell ?_ (by first | exact Nat.le_refl _ | exact World.size_ext _ _ | (simp; done) | (simp; omega)) _))))⟩
      case round =>
        obtain ⟨q, hq, rfl, ⟨d, rfl⟩, ho⟩ := hrel
        have HO := Lib.hid ho
        clear ho
        by_cases hqlt : q < rows.length
        · obtain ⟨b, o, rfl⟩ := slOf_some hs.out (by omega)
          obtain ⟨u, c0, hu⟩ := slOf_at hs.out hqlt
          have hrq := HR.out q hqlt
          have HS := Lib.hid (colN_succ (f := f) hqlt)
          generalize rows[q] = row at hu hrq HS
          obtain ⟨pr, cr, rfl⟩ := sl1_form hu
          obtain ⟨b1, o1, rfl⟩ := sl_some hu (by omega)
          have c1 := sl_int hu (k := f) (by omega)
          rw [List.getD_eq_getElem?_getD, List.getElem?_eq_getElem (by omega : f < row.length)] at HS
          simp only [Option.getD_some] at HS
          generalize row[f]'(by omega) = n at c1 HS
          have ob := World.oldB_of_cell c0
          have ob1 := World.oldB_of_cell c1
          clear hu
          go_wp2_with (at_builtin; go_must (refine wpList_append_gain (m := [n]) rfl (.tmp 20) (.tmp 25) rfl Try.underlying28 info_int (by rfl) (by omega) intC_length intC_one (by omega) (by repeat (first | with_reducible (first | exact World.gained_refl _ | exact ⟨_, rfl⟩ | apply gain_ext | apply gain_alloc | apply gain_drewN | apply gain_drew) | (refine gain_setCell ?_ (by first | exact Nat.le_refl _ | exact World.size_ext _ _ | (simp; done) | (simp; omega)) _))) (Nat.le_refl _) (gain_size (by repeat (first | with_reducible (first | exact World.gained_refl _ | exact ⟨_, rfl⟩ | apply gain_ext | apply gain_alloc | apply gain_drewN | apply gain_drew) | (refine gain_setCell ?_ (by first | exact Nat.le_refl _ | exact World.size_ext _ _ | (simp; done) | (simp; omega)) _)))) rfl rfl (own_up (HO.out) (by repeat (first | with_reducible (first | exact World.gained_refl _ | exact ⟨_, rfl⟩ | apply gain_ext | apply gain_alloc | apply gain_drewN | apply gain_drew) | (refine gain_setCell ?_ (by first | exact Nat.le_refl _ | exact World.size_ext _ _ | (simp; done) | (simp; omega)) _)))) (sl_lit (l := [n]) intC_length rfl (by simp)) (by have := colN_length rows f q; simp; omega) ?_); intro v' d' ho hg)
          go_roundw
          case rel => exact ⟨q + 1, by omega, by go_num, ⟨_, rfl⟩, by rw [HS.out]; exact ho⟩
          case measure => simp [intOf]; omega
        · obtain rfl : q = rows.length := by omega
          have hcl := colN_length rows f rows.length
          have HC := Lib.hid (fun (V : Value) (W : World) (hW : W.sl intC 1 V (colN rows f rows.length)) => hasTwice_any V (colN rows f rows.length) W hW (by omega))
          cases ht : twiceB (colN rows f rows.length) with
          | true =>
            have HE := Lib.hid (show fairB rows F = false from allB_no hlt (by simp [ht]))
            rw [ht] at HC
            clear ht
            go_wp2_with fail
            refine (HC.out _ _ (sl_of_own intC_length HO.out)).mono ?_
            rintro e w1 ⟨rfl, d1, rfl⟩
            go_wp2
            go_ret
            rw [HE.out]
            exact ⟨rfl, (by repeat (first | with_reducible (first | exact World.gained_refl _ | exact ⟨_, rfl⟩ | apply gain_ext | apply gain_alloc | apply gain_drewN | apply gain_drew) | (refine gain_setCell ?_ (by first | exact Nat.le_refl _ | exact World.size_ext _ _ | (simp; done) | (simp; omega)) _)))⟩
          | false =>
            have HE := Lib.hid (step_all HN.out (by simp [ht]))
            rw [ht] at HC
            clear ht
            go_wp2_with fail
            refine (HC.out _ _ (sl_of_own intC_length HO.out)).mono ?_
            rintro e w1 ⟨rfl, d1, rfl⟩
            go_wp2
            go_roundw
            case rel => exact ⟨f + 1, by omega, by go_num, HE.out, (by repeat (first | with_reducible (first | exact World.gained_refl _ | exact ⟨_, rfl⟩ | apply gain_ext | apply gain_alloc | apply gain_drewN | apply gain_drew) | (refine gain_setCell ?_ (by first | exact Nat.le_refl _ | exact World.size_ext _ _ | (simp; done) | (simp; omega)) _)))⟩
            case measure => simp [intOf]; omega
    · have HE := Lib.hid (show fairB rows F = true from allB_yes (fun j hj => HN.out j (by omega)))
      go_wp2
      go_ret
      rw [HE.out]
      exact ⟨rfl, (by repeat (first | with_reducible (first | exact World.gained_refl _ | exact ⟨_, rfl⟩ | apply gain_ext | apply gain_alloc | apply gain_drewN | apply gain_drew) | (refine gain_setCell ?_ (by first | exact Nat.le_refl _ | exact World.size_ext _ _ | (simp; done) | (simp; omega)) _)))⟩
set_option maxHeartbeats 2000000 in
theorem unfairTeams_own (v : Value) (l : List (List (List Int))) (L F : Nat) (w : World) (h : w.sl3 v l) (hl : l.length ≤ 6) (hL : L ≤ 4) (hF : F ≤ 4) (hr : ∀ (t : Nat) (ht : t < l.length), l[t].length = L ∧ ∀ (q : Nat) (hq : q < l[t].length), l[t][q].length = F) :
    Calls Try.prog 48 #[v, .int .i64 F] w fun x w' => ∃ q, x = .returned q ∧ (∃ d, w' = w.ext d) ∧ w'.own w.heap.size 3 intC 1 q (unfN l F l.length) := by
  have hs := Lib.hid h
  have HR := Lib.hid hr
  obtain ⟨p, c, rfl⟩ := sl3_form h
  clear h hr
  go_enter Try.func48, Try.ntmps48
  go_wp2
  go_loopw [5, 11] (fun o i wr => ∃ k : Nat, k ≤ l.length ∧ i = .int .i64 k ∧ (∃ d, wr = w.ext d) ∧ wr.own w.heap.size 3 intC 1 o (unfN l F k)) (fun _ i _ => l.length - (intOf i).toNat)
  case atStart => exact ⟨0, by omega, rfl, (by repeat (first | with_reducible (first | exact World.gained_refl _ | exact ⟨_, rfl⟩ | apply gain_ext | apply gain_alloc | apply gain_drewN | apply gain_drew) | (refine gain_setCell ?_ (by first | exact Nat.le_refl _ | exact World.size_ext _ _ | (simp; done) | (simp; omega)) _))), own_lit' (l := ([] : List Int)) intC_length rfl rfl (gain_size (by repeat (first | with_reducible (first | exact World.gained_refl _ | exact ⟨_, rfl⟩ | apply gain_ext | apply gain_alloc | apply gain_drewN | apply gain_drew) | (refine gain_setCell ?_ (by first | exact Nat.le_refl _ | exact World.size_ext _ _ | (simp; done) | (simp; omega)) _))))⟩
  case round =>
    obtain ⟨k, hk, rfl, ⟨d, rfl⟩, ho⟩ := hrel
    have HO := Lib.hid ho
    clear ho
    by_cases hlt : k < l.length
    · obtain ⟨b, o, rfl⟩ := slOf_some hs.out (by omega)
      obtain ⟨u, c0, hu⟩ := slOf_at hs.out hlt
      have hrk := Lib.hid (HR.out k hlt)
      have HS := Lib.hid (unfN_succ (F := F) hlt)
      generalize l[k] = rows at hu hrk HS
      obtain ⟨pr, cr, rfl⟩ := sl2_form hu
      have HU := Lib.hid hu
      have ob := World.oldB_of_cell c0
      clear hu
      have HFT := Lib.hid (fun (W : World) (hW : W.sl2 (.slice pr rows.length cr) rows) => isFairTeam_any _ rows F W hW (by rw [hrk.out.1]; exact hL) hF hrk.out.2)
      cases hb : fairB rows F with
      | true =>
        have HS' : Hid (unfN l F (k + 1) = unfN l F k) := Lib.hid (by rw [HS.out, if_pos hb, List.append_nil])
        rw [hb] at HFT
        clear hb
        go_wp2_with fail
        refine (HFT.out _ (sl2_up HU.out (by repeat (first | with_reducible (first | exact World.gained_refl _ | exact ⟨_, rfl⟩ | apply gain_ext | apply gain_alloc | apply gain_drewN | apply gain_drew) | (refine gain_setCell ?_ (by first | exact Nat.le_refl _ | exact World.size_ext _ _ | (simp; done) | (simp; omega)) _))))).mono ?_
        rintro e w1 ⟨rfl, d1, rfl⟩
        go_wp2
        go_roundw
        case rel => exact ⟨k + 1, by omega, by go_num, (by repeat (first | with_reducible (first | exact World.gained_refl _ | exact ⟨_, rfl⟩ | apply gain_ext | apply gain_alloc | apply gain_drewN | apply gain_drew) | (refine gain_setCell ?_ (by first | exact Nat.le_refl _ | exact World.size_ext _ _ | (simp; done) | (simp; omega)) _))), by rw [HS'.out]; exact (own_up (HO.out) (by repeat (first | with_reducible (first | exact World.gained_refl _ | exact ⟨_, rfl⟩ | apply gain_ext | apply gain_alloc | apply gain_drewN | apply gain_drew) | (refine gain_setCell ?_ (by first | exact Nat.le_refl _ | exact World.size_ext _ _ | (simp; done) | (simp; omega)) _))))⟩
        case measure => simp [intOf]; omega
      | false =>
        have HS' : Hid (unfN l F (k + 1) = unfN l F k ++ [(k : Int)]) := Lib.hid (by rw [HS.out, hb]; rfl)
        rw [hb] at HFT
        clear hb
        go_wp2_with fail
        refine (HFT.out _ (sl2_up HU.out (by repeat (first | with_reducible (first | exact World.gained_refl _ | exact ⟨_, rfl⟩ | apply gain_ext | apply gain_alloc | apply gain_drewN | apply gain_drew) | (refine gain_setCell ?_ (by first | exact Nat.le_refl _ | exact World.size_ext _ _ | (simp; done) | (simp; omega)) _))))).mono ?_
        rintro e w1 ⟨rfl, d1, rfl⟩
        go_wp2_with (at_builtin; go_must (refine wpList_append_gain (m := [(k : Int)]) rfl (.tmp 20) (.tmp 22) rfl Try.underlying28 info_int (by rfl) (by omega) intC_length intC_one (by omega) (by repeat (first | with_reducible (first | exact World.gained_refl _ | exact ⟨_, rfl⟩ | apply gain_ext | apply gain_alloc | apply gain_drewN | apply gain_drew) | (refine gain_setCell ?_ (by first | exact Nat.le_refl _ | exact World.size_ext _ _ | (simp; done) | (simp; omega)) _))) (Nat.le_refl _) (gain_size (by repeat (first | with_reducible (first | exact World.gained_refl _ | exact ⟨_, rfl⟩ | apply gain_ext | apply gain_alloc | apply gain_drewN | apply gain_drew) | (refine gain_setCell ?_ (by first | exact Nat.le_refl _ | exact World.size_ext _ _ | (simp; done) | (simp; omega)) _)))) rfl rfl (own_up (HO.out) (by repeat (first | with_reducible (first | exact World.gained_refl _ | exact ⟨_, rfl⟩ | apply gain_ext | apply gain_alloc | apply gain_drewN | apply gain_drew) | (refine gain_setCell ?_ (by first | exact Nat.le_refl _ | exact World.size_ext _ _ | (simp; done) | (simp; omega)) _)))) (sl_lit (l := [(k : Int)]) intC_length rfl (by simp)) (by have := unfN_length l F k; simp; omega) ?_); intro v' d' ho hg)
        go_roundw
        case rel => exact ⟨k + 1, by omega, by go_num, ⟨_, rfl⟩, by rw [HS'.out]; exact ho⟩
        case measure => simp [intOf]; omega
    · go_wp2
      go_ret
      obtain rfl : k = l.length := by omega
      exact ⟨_, rfl, ⟨_, rfl⟩, HO.out⟩
set_option maxHeartbeats 2000000 in
theorem l9Unfair_own (v : Value) (l : List (List (List Int))) (L F : Nat) (w : World) (h : w.sl3 v l) (hl : l.length ≤ 6) (hL : L ≤ 4) (hF : F ≤ 4) (hr : ∀ (t : Nat) (ht : t < l.length), l[t].length = L ∧ ∀ (q : Nat) (hq : q < l[t].length), l[t][q].length = F) :
    Calls Try.prog 49 #[v, .int .i64 L, .int .i64 F] w fun x w' => ∃ q, x = .returned q ∧ (∃ d, w' = w.ext d) ∧ w'.own w.heap.size 3 intC 1 q (unfN l F l.length) := by
  have hs := Lib.hid h
  have HR := Lib.hid hr
  obtain ⟨p, c, rfl⟩ := sl3_form h
  clear h hr
  go_enter Try.func49, Try.ntmps49
  go_wp2
  go_loopw [7, 8] (fun o i wr => ∃ k : Nat, k ≤ l.length ∧ i = .int .i64 k ∧ (∃ d, wr = w.ext d) ∧ wr.own w.heap.size 3 intC 1 o (unfN l F k)) (fun _ i _ => l.length - (intOf i).toNat)
  case atStart => exact ⟨0, by omega, rfl, (by repeat (first | with_reducible (first | exact World.gained_refl _ | exact ⟨_, rfl⟩ | apply gain_ext | apply gain_alloc | apply gain_drewN | apply gain_drew) | (refine gain_setCell ?_ (by first | exact Nat.le_refl _ | exact World.size_ext _ _ | (simp; done) | (simp; omega)) _))), own_lit' (l := ([] : List Int)) intC_length rfl rfl (gain_size (by repeat (first | with_reducible (first | exact World.gained_refl _ | exact ⟨_, rfl⟩ | apply gain_ext | apply gain_alloc | apply gain_drewN | apply gain_drew) | (refine gain_setCell ?_ (by first | exact Nat.le_refl _ | exact World.size_ext _ _ | (simp; done) | (simp; omega)) _))))⟩
  case round =>
    obtain ⟨k, hk, rfl, ⟨d, rfl⟩, ho⟩ := hrel
    have HO := Lib.hid ho
    clear ho
    by_cases hlt : k < l.length
    · obtain ⟨b, o, rfl⟩ := slOf_some hs.out (by omega)
      obtain ⟨u, c0, hu⟩ := slOf_at hs.out hlt
      have hrk := Lib.hid (HR.out k hlt)
      have HS := Lib.hid (unfN_succ (F := F) hlt)
      generalize l[k] = rows at hu hrk HS
      obtain ⟨pr, cr, rfl⟩ := sl2_form hu
      have HU := Lib.hid hu
      have ob := World.oldB_of_cell c0
      have hlr := hrk.out.1
      clear hu
      go_wp2
      go_loopw [9, 10] (fun fr i wr => ∃ f : Nat, f ≤ F ∧ i = .int .i64 f ∧ fr = .bool (allB f fun f => !twiceB (colN rows f rows.length)) ∧ ∃ d', wr = (w.ext d).ext d') (fun _ i _ => F - (intOf i).toNat)
      case atStart => exact ⟨0, by omega, rfl, rfl, World.gained_refl _⟩
      case round =>
        obtain ⟨f, hf, rfl, rfl, d2, rfl⟩ := hrel
        by_cases hflt : f < F
        · have HSF := Lib.hid (allB_succ f fun f => !twiceB (colN rows f rows.length))
          have HSF2 : Hid ((!twiceB (colN rows f rows.length)) = allB rows.length (freshAt (colN rows f rows.length))) := Lib.hid (by unfold twiceB; rw [colN_len _ _ _ (Nat.le_refl _), Bool.not_not])
          generalize (allB f fun f => !twiceB (colN rows f rows.length)) = A at HSF
          go_wp2
          go_loopw [9, 11, 12] (fun fr o i wr => ∃ q : Nat, q ≤ L ∧ i = .int .i64 q ∧ fr = .bool (A && allB q (freshAt (colN rows f rows.length))) ∧ (∃ d', wr = (w.ext d).ext d') ∧ wr.own (w.ext d).heap.size 3 intC 1 o (colN rows f q)) (fun _ _ i _ => L - (intOf i).toNat)
          case atStart => exact ⟨0, by omega, rfl, by simp [allB], (by repeat (first | with_reducible (first | exact World.gained_refl _ | exact ⟨_, rfl⟩ | apply gain_ext | apply gain_alloc | apply gain_drewN | apply gain_drew) | (refine gain_setCell ?_ (by first | exact Nat.le_refl _ | exact World.size_ext _ _ | (simp; done) | (simp; omega)) _))), by rw [colN_zero]; exact own_lit' (l := ([] : List Int)) intC_length rfl rfl (gain_size (by repeat (first | with_reducible (first | exact World.gained_refl _ | exact ⟨_, rfl⟩ | apply gain_ext | apply gain_alloc | apply gain_drewN | apply gain_drew) | (refine gain_setCell ?_ (by first | exact Nat.le_refl _ | exact World.size_ext _ _ | (simp; done) | (simp; omega)) _))))⟩
          case round =>
            obtain ⟨q, hq, rfl, rfl, ⟨d3, rfl⟩, ho⟩ := hrel
            have HOI := Lib.hid ho
            clear ho
            by_cases hqlt : q < L
            · have hqr : q < rows.length := by omega
              obtain ⟨b1, o1, rfl⟩ := slOf_some HU.out (by omega)
              obtain ⟨u1, c1, hu1⟩ := slOf_at HU.out hqr
              have hrq := hrk.out.2 q hqr
              have HC := Lib.hid (colN_succ (f := f) hqr)
              have HQ := Lib.hid (freshAt_col (f := f) hqr)
              have HAS := Lib.hid (allB_succ q (freshAt (colN rows f rows.length)))
              generalize rows[q] = row at hu1 hrq HC HQ
              obtain ⟨pw, cw, rfl⟩ := sl1_form hu1
              obtain ⟨b2, o2, rfl⟩ := sl_some hu1 (by omega)
              have c2 := sl_int hu1 (k := f) (by omega)
              rw [List.getD_eq_getElem?_getD, List.getElem?_eq_getElem (by omega : f < row.length)] at HC HQ
              simp only [Option.getD_some] at HC HQ
              generalize row[f]'(by omega) = n at c2 HC HQ
              have ob1 := World.oldB_of_cell c1
              have ob2 := World.oldB_of_cell c2
              have hcl := colN_length rows f q
              clear hu1
              rw [HQ.out] at HAS
              have HHC := Lib.hid (fun (V : Value) (W : World) (hW : W.sl intC 1 V (colN rows f q)) => l1Has_any V (colN rows f q) n W hW (by omega))
              generalize hasB (colN rows f q) n = hb at HAS HHC
              generalize allB q (freshAt (colN rows f rows.length)) = B at HAS
              cases A with
              | false =>
                go_wp2_with (at_builtin; go_must (refine wpList_append_gain (m := [n]) rfl (.tmp 47) (.tmp 58) rfl Try.underlying28 info_int (by rfl) (by omega) intC_length intC_one (by omega) (by repeat (first | with_reducible (first | exact World.gained_refl _ | exact ⟨_, rfl⟩ | apply gain_ext | apply gain_alloc | apply gain_drewN | apply gain_drew) | (refine gain_setCell ?_ (by first | exact Nat.le_refl _ | exact World.size_ext _ _ | (simp; done) | (simp; omega)) _))) (Nat.le_refl _) (gain_size (by repeat (first | with_reducible (first | exact World.gained_refl _ | exact ⟨_, rfl⟩ | apply gain_ext | apply gain_alloc | apply gain_drewN | apply gain_drew) | (refine gain_setCell ?_ (by first | exact Nat.le_refl _ | exact World.size_ext _ _ | (simp; done) | (simp; omega)) _)))) rfl rfl (own_up (HOI.out) (by repeat (first | with_reducible (first | exact World.gained_refl _ | exact ⟨_, rfl⟩ | apply gain_ext | apply gain_alloc | apply gain_drewN | apply gain_drew) | (refine gain_setCell ?_ (by first | exact Nat.le_refl _ | exact World.size_ext _ _ | (simp; done) | (simp; omega)) _)))) (sl_lit (l := [n]) intC_length rfl (by simp)) (by simp; omega) ?_); intro v' d' ho hg)
                go_roundw
                case rel => exact ⟨q + 1, by omega, by go_num, by simp, ⟨_, rfl⟩, by rw [HC.out]; exact ho⟩
                case measure => simp [intOf]; omega
              | true =>
              cases B with
              | false =>
                go_wp2_with (at_builtin; go_must (refine wpList_append_gain (m := [n]) rfl (.tmp 47) (.tmp 58) rfl Try.underlying28 info_int (by rfl) (by omega) intC_length intC_one (by omega) (by repeat (first | with_reducible (first | exact World.gained_refl _ | exact ⟨_, rfl⟩ | apply gain_ext | apply gain_alloc | apply gain_drewN | apply gain_drew) | (refine gain_setCell ?_ (by first | exact Nat.le_refl _ | exact World.size_ext _ _ | (simp; done) | (simp; omega)) _))) (Nat.le_refl _) (gain_size (by repeat (first | with_reducible (first | exact World.gained_refl _ | exact ⟨_, rfl⟩ | apply gain_ext | apply gain_alloc | apply gain_drewN | apply gain_drew) | (refine gain_setCell ?_ (by first | exact Nat.le_refl _ | exact World.size_ext _ _ | (simp; done) | (simp; omega)) _)))) rfl rfl (own_up (HOI.out) (by repeat (first | with_reducible (first | exact World.gained_refl _ | exact ⟨_, rfl⟩ | apply gain_ext | apply gain_alloc | apply gain_drewN | apply gain_drew) | (refine gain_setCell ?_ (by first | exact Nat.le_refl _ | exact World.size_ext _ _ | (simp; done) | (simp; omega)) _)))) (sl_lit (l := [n]) intC_length rfl (by simp)) (by simp; omega) ?_); intro v' d' ho hg)
                go_roundw
                case rel => exact ⟨q + 1, by omega, by go_num, by rw [HAS.out]; simp, ⟨_, rfl⟩, by rw [HC.out]; exact ho⟩
                case measure => simp [intOf]; omega
              | true =>
              go_wp2_with fail
              refine (HHC.out _ _ (sl_of_own intC_length HOI.out)).mono ?_
              rintro e w1 ⟨rfl, d1, rfl⟩
              go_wp2_with (at_builtin; go_must (refine wpList_append_gain (m := [n]) rfl (.tmp 47) (.tmp 58) rfl Try.underlying28 info_int (by rfl) (by omega) intC_length intC_one (by omega) (by repeat (first | with_reducible (first | exact World.gained_refl _ | exact ⟨_, rfl⟩ | apply gain_ext | apply gain_alloc | apply gain_drewN | apply gain_drew) | (refine gain_setCell ?_ (by first | exact Nat.le_refl _ | exact World.size_ext _ _ | (simp; done) | (simp; omega)) _))) (Nat.le_refl _) (gain_size (by repeat (first | with_reducible (first | exact World.gained_refl _ | exact ⟨_, rfl⟩ | apply gain_ext | apply gain_alloc | apply gain_drewN | apply gain_drew) | (refine gain_setCell ?_ (by first | exact Nat.le_refl _ | exact World.size_ext _ _ | (simp; done) | (simp; omega)) _)))) rfl rfl (own_up (HOI.out) (by repeat (first | with_reducible (first | exact World.gained_refl _ | exact ⟨_, rfl⟩ | apply gain_ext | apply gain_alloc | apply gain_drewN | apply gain_drew) | (refine gain_setCell ?_ (by first | exact Nat.le_refl _ | exact World.size_ext _ _ | (simp; done) | (simp; omega)) _)))) (sl_lit (l := [n]) intC_length rfl (by simp)) (by simp; omega) ?_); intro v' d' ho hg)
              go_roundw
              case rel => exact ⟨q + 1, by omega, by go_num, by rw [HAS.out]; simp, ⟨_, rfl⟩, by rw [HC.out]; exact ho⟩
              case measure => simp [intOf]; omega
            · obtain rfl : q = L := by omega
              rw [hlr] at HSF2
              go_wp2
              go_roundw
              case rel => exact ⟨f + 1, by omega, by go_num, by rw [HSF.out, hlr, HSF2.out], (by repeat (first | with_reducible (first | exact World.gained_refl _ | exact ⟨_, rfl⟩ | apply gain_ext | apply gain_alloc | apply gain_drewN | apply gain_drew) | (refine gain_setCell ?_ (by first | exact Nat.le_refl _ | exact World.size_ext _ _ | (simp; done) | (simp; omega)) _)))⟩
              case measure => simp [intOf]; omega
        · obtain rfl : f = F := by omega
          have HFB : Hid ((allB f fun f => !twiceB (colN rows f rows.length)) = fairB rows f) := Lib.hid rfl
          rw [HFB.out]
          cases hb : fairB rows f with
          | true =>
            have HS' : Hid (unfN l f (k + 1) = unfN l f k) := Lib.hid (by rw [HS.out, if_pos hb, List.append_nil])
            clear hb
            go_wp2
            go_roundw
            case rel => exact ⟨k + 1, by omega, by go_num, (by repeat (first | with_reducible (first | exact World.gained_refl _ | exact ⟨_, rfl⟩ | apply gain_ext | apply gain_alloc | apply gain_drewN | apply gain_drew) | (refine gain_setCell ?_ (by first | exact Nat.le_refl _ | exact World.size_ext _ _ | (simp; done) | (simp; omega)) _))), by rw [HS'.out]; exact (own_up (HO.out) (by repeat (first | with_reducible (first | exact World.gained_refl _ | exact ⟨_, rfl⟩ | apply gain_ext | apply gain_alloc | apply gain_drewN | apply gain_drew) | (refine gain_setCell ?_ (by first | exact Nat.le_refl _ | exact World.size_ext _ _ | (simp; done) | (simp; omega)) _))))⟩
            case measure => simp [intOf]; omega
          | false =>
            have HS' : Hid (unfN l f (k + 1) = unfN l f k ++ [(k : Int)]) := Lib.hid (by rw [HS.out, hb]; rfl)
            clear hb
            go_wp2_with (at_builtin; go_must (refine wpList_append_gain (m := [(k : Int)]) rfl (.tmp 62) (.tmp 64) rfl Try.underlying28 info_int (by rfl) (by omega) intC_length intC_one (by omega) (by repeat (first | with_reducible (first | exact World.gained_refl _ | exact ⟨_, rfl⟩ | apply gain_ext | apply gain_alloc | apply gain_drewN | apply gain_drew) | (refine gain_setCell ?_ (by first | exact Nat.le_refl _ | exact World.size_ext _ _ | (simp; done) | (simp; omega)) _))) (Nat.le_refl _) (gain_size (by repeat (first | with_reducible (first | exact World.gained_refl _ | exact ⟨_, rfl⟩ | apply gain_ext | apply gain_alloc | apply gain_drewN | apply gain_drew) | (refine gain_setCell ?_ (by first | exact Nat.le_refl _ | exact World.size_ext _ _ | (simp; done) | (simp; omega)) _)))) rfl rfl (own_up (HO.out) (by repeat (first | with_reducible (first | exact World.gained_refl _ | exact ⟨_, rfl⟩ | apply gain_ext | apply gain_alloc | apply gain_drewN | apply gain_drew) | (refine gain_setCell ?_ (by first | exact Nat.le_refl _ | exact World.size_ext _ _ | (simp; done) | (simp; omega)) _)))) (sl_lit (l := [(k : Int)]) intC_length rfl (by simp)) (by have := unfN_length l f k; simp; omega) ?_); intro v' d' ho hg)
            go_roundw
            case rel => exact ⟨k + 1, by omega, by go_num, ⟨_, rfl⟩, by rw [HS'.out]; exact ho⟩
            case measure => simp [intOf]; omega
    · go_wp2
      go_ret
      obtain rfl : k = l.length := by omega
      exact ⟨_, rfl, ⟨_, rfl⟩, HO.out⟩
end Go.Proofs.Ytlofdpbdnkcnkaa
