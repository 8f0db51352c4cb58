/- impl.TeamTimes, spec.TeamTimes. Condition: sizes of at most 1048576. -/
import Derived.Test.YtlofdpbdnkcnkaaLegTimesOf2
namespace Go.Ori
/-- The sum of the times of the first q legs of a team. -/
def sumT (rows : List (List Int)) (F : Nat) (ts : List (List Int)) : Nat → Int
  | 0 => 0
  | q + 1 => sumT rows F ts q + rowT (rows.getD q []) ts F
def teamN (l : List (List (List Int))) (F : Nat) (ts : List (List Int)) (q k : Nat) : List Int := (l.take k).map fun rows => sumT rows F ts q
theorem teamN_zero (l : List (List (List Int))) (F : Nat) (ts : List (List Int)) (q : Nat) : teamN l F ts q 0 = [] := by simp [teamN]
theorem teamN_succ {l : List (List (List Int))} {F : Nat} {ts : List (List Int)} {q k : Nat} (h : k < l.length) : teamN l F ts q (k + 1) = teamN l F ts q k ++ [sumT l[k] F ts q] := by
  unfold teamN
  rw [List.take_succ_eq_append_getElem h, List.map_append]
  rfl
theorem teamN_length (l : List (List (List Int))) (F : Nat) (ts : List (List Int)) (q k : Nat) : (teamN l F ts q k).length ≤ k := by simp [teamN]; omega
def teamL (l : List (List (List Int))) (legs forks : Int) (ts : List (List Int)) : List Int := if timedB l legs forks ts then teamN l forks.toNat ts legs.toNat l.length else []
theorem teamL_length (l : List (List (List Int))) (legs forks : Int) (ts : List (List Int)) (h : l.length ≤ 1048576) : (teamL l legs forks ts).length ≤ 1048576 := by
  unfold teamL
  split
  · exact Nat.le_trans (teamN_length _ _ _ _ _) h
  · simp
theorem team_no {l : List (List (List Int))} {legs forks : Int} {ts : List (List Int)} (h : timedB l legs forks ts = false) : teamL l legs forks ts = [] ∧ timedB l legs forks ts = false := by simp [teamL, h]
theorem sumT_bd {rows : List (List Int)} {ts : List (List Int)} {L F : Nat} (h : ∀ (q : Nat) (hq : q < rows.length), RowOk rows[q] ts L F) (hF : F ≤ 4) (q : Nat) (hq : q ≤ rows.length) : 0 ≤ sumT rows F ts q ∧ sumT rows F ts q ≤ 4000 * (q : Int) := by
  induction q with
  | zero => simp [sumT]
  | succ q ih =>
    have h1 := ih (by omega)
    have h2 := rowT_bd (h q (by omega)) F (Nat.le_refl _)
    rw [sumT, List.getD_eq_getElem?_getD, List.getElem?_eq_getElem (by omega : q < rows.length)]
    simp only [Option.getD_some]
    omega
/-- What stands in the spec's table: the first k teams have their (q+1)st leg added, the others not yet. -/
def mixN (l : List (List (List Int))) (F : Nat) (ts : List (List Int)) (q k : Nat) : List Int := teamN l F ts (q + 1) k ++ (l.drop k).map fun rows => sumT rows F ts q
theorem mixN_length (l : List (List (List Int))) (F : Nat) (ts : List (List Int)) (q k : Nat) (h : k ≤ l.length) : (mixN l F ts q k).length = l.length := by
  simp [mixN, teamN]; omega
theorem mixN_zero (l : List (List (List Int))) (F : Nat) (ts : List (List Int)) (q : Nat) : mixN l F ts q 0 = teamN l F ts q l.length := by
  simp [mixN, teamN]
theorem mixN_full (l : List (List (List Int))) (F : Nat) (ts : List (List Int)) (q : Nat) : mixN l F ts q l.length = teamN l F ts (q + 1) l.length := by
  simp [mixN, teamN]
theorem mixN_at {l : List (List (List Int))} {F : Nat} {ts : List (List Int)} {q k : Nat} (h : k < l.length) : (mixN l F ts q k)[k]? = some (sumT l[k] F ts q) := by
  unfold mixN
  rw [List.getElem?_append_right (teamN_length _ _ _ _ _)]
  simp only [teamN, List.length_map, List.length_take, Nat.min_eq_left (Nat.le_of_lt h), Nat.sub_self]
  rw [List.drop_eq_getElem_cons h]
  rfl
theorem mixN_succ {l : List (List (List Int))} {F : Nat} {ts : List (List Int)} {q k : Nat} (h : k < l.length) : mixN l F ts q (k + 1) = (mixN l F ts q k).set k (sumT l[k] F ts q + rowT (l[k].getD q []) ts F) := by
  have hl : (teamN l F ts (q + 1) k).length = k := by simp [teamN]; omega
  unfold mixN
  rw [teamN_succ h, List.set_append_right _ _ (by omega), hl, Nat.sub_self, List.drop_eq_getElem_cons h, List.map_cons, List.set_cons_zero, List.append_assoc]
  rfl
theorem teamN_z (l : List (List (List Int))) (F : Nat) (ts : List (List Int)) : teamN l F ts 0 l.length = List.replicate l.length 0 := by
  simp only [teamN, List.take_length, sumT]
  rw [List.map_const']
end Go.Ori
namespace Go.Proofs.Ytlofdpbdnkcnkaa
open Go.RowKit Go.Ori
set_option maxHeartbeats 2000000 in
theorem teamTimes_any (v v2 : Value) (l : List (List (List Int))) (ts : List (List Int)) (legs forks : Int) (w : World) (h : w.sl3 v l) (hT : tot3 l ≤ 1048576) (h2 : w.sl2 v2 ts) (hT2 : tot2 ts ≤ 1048576) :
    Calls Try.prog 8 #[v, .int .i64 legs, .int .i64 forks, v2] w fun x w' => ∃ r, x = .returned (.tuple #[r, .bool (timedB l legs forks ts)]) ∧ (∃ d, w' = w.ext d) ∧ w'.own w.heap.size 3 intC 1 r (teamL l legs forks ts) := by
  have hs := Lib.hid h
  have hst := Lib.hid h2
  have hl : l.length ≤ 1048576 := by have := tot3_len l; omega
  obtain ⟨p, c, rfl⟩ := sl3_form h
  obtain ⟨p2, c2, rfl⟩ := sl2_form h2
  clear h h2
  have HG := Lib.hid (fun W hW hW2 => isTimed_any (.slice p l.length c) (.slice p2 ts.length c2) l ts legs forks W hW hT hW2 hT2)
  cases hP : timedB l legs forks ts with
  | false =>
    have HE := Lib.hid (team_no hP)
    rw [hP] at HG
    clear hP
    go_enter Try.func8, Try.ntmps8
    go_wp2_with fail
    refine (HG.out _ (sl3_up hs.out (by repeat (first | with_reducible (first | exact World.gained_refl _ | exact ⟨_, rfl⟩ | apply gain_ext | apply gain_alloc | apply gain_drewN | apply gain_drew) | (refine gain_setCell ?_ (by first | exact Nat.le_refl _ | exact World.size_ext _ _ | (simp; done) | (simp; omega)) _)))) (sl2_up hst.out (by repeat (first | with_reducible (first | exact World.gained_refl _ | exact ⟨_, rfl⟩ | apply gain_ext | apply gain_alloc | apply gain_drewN | apply gain_drew) | (refine gain_setCell ?_ (by first | exact Nat.le_refl _ | exact World.size_ext _ _ | (simp; done) | (simp; omega)) _))))).mono ?_
    rintro e w1 ⟨rfl, d1, rfl⟩
    go_wp2
    go_ret2
    rw [HE.out.1]
    exact ⟨_, rfl, (by repeat (first | with_reducible (first | exact World.gained_refl _ | exact ⟨_, rfl⟩ | apply gain_ext | apply gain_alloc | apply gain_drewN | apply gain_drew) | (refine gain_setCell ?_ (by first | exact Nat.le_refl _ | exact World.size_ext _ _ | (simp; done) | (simp; omega)) _))), own_nil _ _ _ _ _⟩
  | true =>
    have hPP := hP
    simp only [timedB, Bool.and_eq_true] at hPP
    obtain ⟨L, F, rfl, rfl, a1, a2, a3, a4, a5, hall⟩ := planB_true hPP.1
    have HALL := Lib.hid hall
    have HTB := Lib.hid hPP.2
    have HE : Hid (teamL l L F ts = teamN l F ts L l.length) := Lib.hid (by rw [teamL, if_pos hP]; simp)
    rw [hP] at HG
    clear hall hPP hP
    go_enter Try.func8, Try.ntmps8
    go_wp2_with fail
    refine (HG.out _ (sl3_up hs.out (by repeat (first | with_reducible (first | exact World.gained_refl _ | exact ⟨_, rfl⟩ | apply gain_ext | apply gain_alloc | apply gain_drewN | apply gain_drew) | (refine gain_setCell ?_ (by first | exact Nat.le_refl _ | exact World.size_ext _ _ | (simp; done) | (simp; omega)) _)))) (sl2_up hst.out (by repeat (first | with_reducible (first | exact World.gained_refl _ | exact ⟨_, rfl⟩ | apply gain_ext | apply gain_alloc | apply gain_drewN | apply gain_drew) | (refine gain_setCell ?_ (by first | exact Nat.le_refl _ | exact World.size_ext _ _ | (simp; done) | (simp; omega)) _))))).mono ?_
    rintro e w1 ⟨rfl, d1, rfl⟩
    go_wp2
    go_loopw [10, 25] (fun ov i wr => ∃ t : Nat, t ≤ l.length ∧ i = .int .i64 t ∧ (∃ d, wr = w.ext d) ∧ wr.own w.heap.size 3 intC 1 ov (teamN l F ts L t)) (fun _ i _ => l.length - (intOf i).toNat)
    case atStart => exact ⟨0, by omega, rfl, (by repeat (first | with_reducible (first | exact World.gained_refl _ | exact ⟨_, rfl⟩ | apply gain_ext | apply gain_alloc | apply gain_drewN | apply gain_drew) | (refine gain_setCell ?_ (by first | exact Nat.le_refl _ | exact World.size_ext _ _ | (simp; done) | (simp; omega)) _))), by rw [teamN_zero]; exact own_lit' (l := ([] : List Int)) intC_length rfl rfl (gain_size (by repeat (first | with_reducible (first | exact World.gained_refl _ | exact ⟨_, rfl⟩ | apply gain_ext | apply gain_alloc | apply gain_drewN | apply gain_drew) | (refine gain_setCell ?_ (by first | exact Nat.le_refl _ | exact World.size_ext _ _ | (simp; done) | (simp; omega)) _))))⟩
    case round =>
      obtain ⟨t, ht, rfl, ⟨d, rfl⟩, ho⟩ := hrel
      have HO := Lib.hid ho
      clear ho
      by_cases hlt : t < l.length
      · obtain ⟨b0, o0, rfl⟩ := slOf_some hs.out (by omega)
        obtain ⟨u, c0, hu⟩ := slOf_at hs.out hlt
        have hlr := (HALL.out t hlt).1
        have HOK := Lib.hid (fun (q : Nat) (hq : q < l[t].length) => rowOk_of HALL.out HTB.out hlt hq)
        have HS0 := Lib.hid (teamN_succ (F := F) (ts := ts) (q := L) hlt)
        generalize l[t] = rows at hu hlr HOK HS0
        obtain ⟨p1, c1, rfl⟩ := sl2_form hu
        have HU := Lib.hid hu
        have obt := World.oldB_of_cell c0
        subst hlr
        clear hu
        go_wp2
        go_loopw [13, 31] (fun s i wr => ∃ q : Nat, q ≤ rows.length ∧ i = .int .i64 q ∧ s = .int .i64 (sumT rows F ts q) ∧ ∃ d', wr = (w.ext d).ext d') (fun _ i _ => rows.length - (intOf i).toNat)
        case atStart => exact ⟨0, by omega, rfl, rfl, World.gained_refl _⟩
        case round =>
          obtain ⟨q, hq, rfl, rfl, d2, rfl⟩ := hrel
          by_cases hql : q < rows.length
          · obtain ⟨b1, o1, rfl⟩ := slOf_some HU.out (by omega)
            obtain ⟨u1, e0, hu1⟩ := slOf_at HU.out hql
            have hok := HOK.out q hql
            have hsb := sumT_bd HOK.out a3 q hq
            have HSQ : Hid (sumT rows F ts (q + 1) = sumT rows F ts q + rowT rows[q] ts F) := Lib.hid (by rw [sumT, List.getD_eq_getElem?_getD, List.getElem?_eq_getElem hql]; rfl)
            have hbd := rowT_bd hok F (Nat.le_refl _)
            have HU1 := Lib.hid hu1
            have obg := World.oldB_of_cell e0
            have HR := Lib.hid (fun W hW hW2 => rowTime_any u1 (.slice p2 ts.length c2) (rows[q]'hql) ts rows.length F W hW hW2 hok a3 a2)
            generalize rowT rows[q] ts F = T at HSQ HR hbd
            generalize sumT rows F ts q = S at HSQ hsb
            clear hu1 hok
            obtain ⟨hb1, hb2⟩ := hbd
            obtain ⟨hs1, hs2⟩ := hsb
            go_wp2_with fail
            refine (HR.out _ (sl1_up HU1.out (by repeat (first | with_reducible (first | exact World.gained_refl _ | exact ⟨_, rfl⟩ | apply gain_ext | apply gain_alloc | apply gain_drewN | apply gain_drew) | (refine gain_setCell ?_ (by first | exact Nat.le_refl _ | exact World.size_ext _ _ | (simp; done) | (simp; omega)) _)))) (sl2_up hst.out (by repeat (first | with_reducible (first | exact World.gained_refl _ | exact ⟨_, rfl⟩ | apply gain_ext | apply gain_alloc | apply gain_drewN | apply gain_drew) | (refine gain_setCell ?_ (by first | exact Nat.le_refl _ | exact World.size_ext _ _ | (simp; done) | (simp; omega)) _))))).mono ?_
            rintro e w1 ⟨rfl, d1, rfl⟩
            go_wp2
            go_roundw
            case rel => exact ⟨q + 1, by omega, by go_num, by rw [HSQ.out], (by repeat (first | with_reducible (first | exact World.gained_refl _ | exact ⟨_, rfl⟩ | apply gain_ext | apply gain_alloc | apply gain_drewN | apply gain_drew) | (refine gain_setCell ?_ (by first | exact Nat.le_refl _ | exact World.size_ext _ _ | (simp; done) | (simp; omega)) _)))⟩
            case measure => simp [intOf]; omega
          · obtain rfl : q = rows.length := by omega
            generalize sumT rows F ts rows.length = T at HS0
            go_wp2_with (at_builtin; go_must (refine wpList_append_gain (m := [T]) rfl (.tmp 41) (.tmp 43) rfl Try.underlying28 info_int (by rfl) (by omega) intC_length intC_one (by omega) (by repeat (first | with_reducible (first | exact World.gained_refl _ | exact ⟨_, rfl⟩ | apply gain_ext | apply gain_alloc | apply gain_drewN | apply gain_drew) | (refine gain_setCell ?_ (by first | exact Nat.le_refl _ | exact World.size_ext _ _ | (simp; done) | (simp; omega)) _))) (Nat.le_refl _) (gain_size (by repeat (first | with_reducible (first | exact World.gained_refl _ | exact ⟨_, rfl⟩ | apply gain_ext | apply gain_alloc | apply gain_drewN | apply gain_drew) | (refine gain_setCell ?_ (by first | exact Nat.le_refl _ | exact World.size_ext _ _ | (simp; done) | (simp; omega)) _)))) rfl rfl (own_up (HO.out) (by repeat (first | with_reducible (first | exact World.gained_refl _ | exact ⟨_, rfl⟩ | apply gain_ext | apply gain_alloc | apply gain_drewN | apply gain_drew) | (refine gain_setCell ?_ (by first | exact Nat.le_refl _ | exact World.size_ext _ _ | (simp; done) | (simp; omega)) _)))) (sl_lit (l := [T]) intC_length rfl (by simp)) (by have := teamN_length l F ts rows.length t; simp; omega) ?_); intro v' d' ho hg)
            go_roundw
            case rel => exact ⟨t + 1, by omega, by go_num, ⟨_, rfl⟩, by rw [HS0.out]; exact ho⟩
            case measure => simp [intOf]; omega
      · go_wp2
        go_ret2
        obtain rfl : t = l.length := by omega
        rw [HE.out]
        exact ⟨_, rfl, ⟨_, rfl⟩, HO.out⟩
set_option maxHeartbeats 2000000 in
theorem specTeamTimes_any (v v2 : Value) (l : List (List (List Int))) (ts : List (List Int)) (legs forks : Int) (w : World) (h : w.sl3 v l) (hT : tot3 l ≤ 1048576) (h2 : w.sl2 v2 ts) (hT2 : tot2 ts ≤ 1048576) :
    Calls Try.prog 9 #[v, .int .i64 legs, .int .i64 forks, v2] w fun x w' => ∃ r, x = .returned (.tuple #[r, .bool (timedB l legs forks ts)]) ∧ (∃ d, w' = w.ext d) ∧ w'.own w.heap.size 3 intC 1 r (teamL l legs forks ts) := by
  have hs := Lib.hid h
  have hst := Lib.hid h2
  have hl : l.length ≤ 1048576 := by have := tot3_len l; omega
  obtain ⟨p, c, rfl⟩ := sl3_form h
  obtain ⟨p2, c2, rfl⟩ := sl2_form h2
  clear h h2
  have HP := Lib.hid (fun W hW => l9Good_any (.slice p l.length c) l legs forks W hW hT)
  cases hP : planB l legs forks with
  | false =>
    have HE := Lib.hid (team_no (l := l) (legs := legs) (forks := forks) (ts := ts) (by simp [timedB, hP]))
    go_enter Try.func9, Try.ntmps9
    go_wp2_with (go_at_call 45; refine (HP.out _ (sl3_up hs.out (by repeat (first | with_reducible (first | exact World.gained_refl _ | exact ⟨_, rfl⟩ | apply gain_ext | apply gain_alloc | apply gain_drewN | apply gain_drew) | (refine gain_setCell ?_ (by first | exact Nat.le_refl _ | exact World.size_ext _ _ | (simp; done) | (simp; omega)) _))))).mono ?_; rintro e w1 ⟨rfl, d1, rfl⟩)
    go_ret2
    rw [HE.out.1, HE.out.2]
    exact ⟨_, rfl, (by repeat (first | with_reducible (first | exact World.gained_refl _ | exact ⟨_, rfl⟩ | apply gain_ext | apply gain_alloc | apply gain_drewN | apply gain_drew) | (refine gain_setCell ?_ (by first | exact Nat.le_refl _ | exact World.size_ext _ _ | (simp; done) | (simp; omega)) _))), own_lit' (l := ([] : List Int)) intC_length rfl rfl (gain_size (by repeat (first | with_reducible (first | exact World.gained_refl _ | exact ⟨_, rfl⟩ | apply gain_ext | apply gain_alloc | apply gain_drewN | apply gain_drew) | (refine gain_setCell ?_ (by first | exact Nat.le_refl _ | exact World.size_ext _ _ | (simp; done) | (simp; omega)) _))))⟩
  | true =>
    obtain ⟨L, F, rfl, rfl, a1, a2, a3, a4, a5, hall⟩ := planB_true hP
    have HALL := Lib.hid hall
    clear hall
    cases hQ : timesB ts L F with
    | false =>
      have HE := Lib.hid (team_no (l := l) (legs := L) (forks := F) (ts := ts) (by simp [timedB, hQ]))
      go_enter Try.func9, Try.ntmps9
      go_wp2_with (first | (go_at_call 45; refine (HP.out _ (sl3_up hs.out (by repeat (first | with_reducible (first | exact World.gained_refl _ | exact ⟨_, rfl⟩ | apply gain_ext | apply gain_alloc | apply gain_drewN | apply gain_drew) | (refine gain_setCell ?_ (by first | exact Nat.le_refl _ | exact World.size_ext _ _ | (simp; done) | (simp; omega)) _))))).mono ?_; rintro e w1 ⟨rfl, d1, rfl⟩) | (go_at_call 46; refine (l9Times_any _ ts _ _ _ (sl2_up hst.out (by repeat (first | with_reducible (first | exact World.gained_refl _ | exact ⟨_, rfl⟩ | apply gain_ext | apply gain_alloc | apply gain_drewN | apply gain_drew) | (refine gain_setCell ?_ (by first | exact Nat.le_refl _ | exact World.size_ext _ _ | (simp; done) | (simp; omega)) _)))) hT2 (by omega) (by omega)).mono ?_; rintro e w1 ⟨rfl, d2, rfl⟩))
      go_ret2
      rw [HE.out.1, HE.out.2]
      exact ⟨_, rfl, (by repeat (first | with_reducible (first | exact World.gained_refl _ | exact ⟨_, rfl⟩ | apply gain_ext | apply gain_alloc | apply gain_drewN | apply gain_drew) | (refine gain_setCell ?_ (by first | exact Nat.le_refl _ | exact World.size_ext _ _ | (simp; done) | (simp; omega)) _))), own_lit' (l := ([] : List Int)) intC_length rfl rfl (gain_size (by repeat (first | with_reducible (first | exact World.gained_refl _ | exact ⟨_, rfl⟩ | apply gain_ext | apply gain_alloc | apply gain_drewN | apply gain_drew) | (refine gain_setCell ?_ (by first | exact Nat.le_refl _ | exact World.size_ext _ _ | (simp; done) | (simp; omega)) _))))⟩
    | true =>
      have HTB := Lib.hid hQ
      have hB : timedB l L F ts = true := by simp [timedB, hP, hQ]
      have HE : Hid (teamL l L F ts = teamN l F ts L l.length ∧ timedB l L F ts = true) := Lib.hid ⟨by rw [teamL, if_pos hB]; simp, hB⟩
      have hmk := fun w => run_make_rows (P := Try.prog) Try.underlying28 info_int l.length (by omega) (by omega) w
      clear hB
      go_enter Try.func9, Try.ntmps9
      go_wp2_with (first | (go_at_call 45; refine (HP.out _ (sl3_up hs.out (by repeat (first | with_reducible (first | exact World.gained_refl _ | exact ⟨_, rfl⟩ | apply gain_ext | apply gain_alloc | apply gain_drewN | apply gain_drew) | (refine gain_setCell ?_ (by first | exact Nat.le_refl _ | exact World.size_ext _ _ | (simp; done) | (simp; omega)) _))))).mono ?_; rintro e w1 ⟨rfl, d1, rfl⟩) | (go_at_call 46; refine (l9Times_any _ ts _ _ _ (sl2_up hst.out (by repeat (first | with_reducible (first | exact World.gained_refl _ | exact ⟨_, rfl⟩ | apply gain_ext | apply gain_alloc | apply gain_drewN | apply gain_drew) | (refine gain_setCell ?_ (by first | exact Nat.le_refl _ | exact World.size_ext _ _ | (simp; done) | (simp; omega)) _)))) hT2 (by omega) (by omega)).mono ?_; rintro e w1 ⟨rfl, d2, rfl⟩))
      clear hmk hP hQ
      have HGB := Lib.hid (show w.heap.size ≤ ((w.ext d1).ext d2).heap.size from (gain_size (by repeat (first | with_reducible (first | exact World.gained_refl _ | exact ⟨_, rfl⟩ | apply gain_ext | apply gain_alloc | apply gain_drewN | apply gain_drew) | (refine gain_setCell ?_ (by first | exact Nat.le_refl _ | exact World.size_ext _ _ | (simp; done) | (simp; omega)) _)))))
      go_loopw [11] (fun i wr => ∃ q : Nat, q ≤ L ∧ i = .int .i64 q ∧ (∃ d, wr = w.ext d) ∧ wr.heap[((w.ext d1).ext d2).heap.size]? = some (.cells ((teamN l F ts q l.length).map (Value.int .i64)).toArray 3 (0, 0))) (fun i _ => L - (intOf i).toNat)
      case atStart => exact ⟨0, by omega, rfl, (by repeat (first | with_reducible (first | exact World.gained_refl _ | exact ⟨_, rfl⟩ | apply gain_ext | apply gain_alloc | apply gain_drewN | apply gain_drew) | (refine gain_setCell ?_ (by first | exact Nat.le_refl _ | exact World.size_ext _ _ | (simp; done) | (simp; omega)) _))), by rw [heap_alloc_new, made_ints, teamN_z]⟩
      case round =>
        obtain ⟨q, hq, rfl, ⟨d, rfl⟩, hC⟩ := hrel
        have HC := Lib.hid hC
        have hgl : ((w.ext d1).ext d2).heap.size < (w.ext d).heap.size := (Array.getElem?_eq_some_iff.1 hC).1
        clear hC
        generalize ((w.ext d1).ext d2).heap.size = g at HC HGB hgl
        by_cases hql : q < L
        · go_wp2_with fail
          refine (l9Leg_own _ _ l ts L F q _ (sl3_up hs.out (by repeat (first | with_reducible (first | exact World.gained_refl _ | exact ⟨_, rfl⟩ | apply gain_ext | apply gain_alloc | apply gain_drewN | apply gain_drew) | (refine gain_setCell ?_ (by first | exact Nat.le_refl _ | exact World.size_ext _ _ | (simp; done) | (simp; omega)) _)))) (sl2_up hst.out (by repeat (first | with_reducible (first | exact World.gained_refl _ | exact ⟨_, rfl⟩ | apply gain_ext | apply gain_alloc | apply gain_drewN | apply gain_drew) | (refine gain_setCell ?_ (by first | exact Nat.le_refl _ | exact World.size_ext _ _ | (simp; done) | (simp; omega)) _)))) a5 a2 a3 hql HALL.out HTB.out).mono ?_
          rintro e w1 ⟨sv, rfl, ⟨d4, rfl⟩, ho⟩
          have HO := Lib.hid ho
          have hll : (legN l F ts q l.length).length = l.length := by simp [legN]
          obtain ⟨ps, cs, rfl, _⟩ := sl_of_own intC_length ho
          rw [hll]
          rw [hll] at HO
          clear ho
          go_wp2
          go_loopw [13] (fun i wr => ∃ k : Nat, k ≤ l.length ∧ i = .int .i64 k ∧ (∃ d, wr = w.ext d) ∧ wr.heap[g]? = some (.cells ((mixN l F ts q k).map (Value.int .i64)).toArray 3 (0, 0)) ∧ wr.own (w.ext d).heap.size 3 intC 1 (.slice ps l.length cs) (legN l F ts q l.length)) (fun i _ => l.length - (intOf i).toNat)
          case atStart => exact ⟨0, by omega, rfl, (by repeat (first | with_reducible (first | exact World.gained_refl _ | exact ⟨_, rfl⟩ | apply gain_ext | apply gain_alloc | apply gain_drewN | apply gain_drew) | (refine gain_setCell ?_ (by first | exact Nat.le_refl _ | exact World.size_ext _ _ | (simp; done) | (simp; omega)) _))), by rw [mixN_zero]; exact World.heap_ext_old d4 HC.out, HO.out⟩
          case round =>
            obtain ⟨k, hk, rfl, ⟨d5, rfl⟩, hC5, ho5⟩ := hrel
            have HC5 := Lib.hid hC5
            have HO5 := Lib.hid ho5
            by_cases hkl : k < l.length
            · obtain ⟨b3, o3, rfl⟩ := sl_some (sl_of_own intC_length ho5) (by omega)
              have e3 := sl_int (sl_of_own intC_length ho5) (k := k) (by omega)
              have eL : (legN l F ts q l.length)[k]'(by omega) = rowT (l[k].getD q []) ts F := by simp [legN]
              rw [eL] at e3
              have hlr := (HALL.out k hkl).1
              have hok : RowOk (l[k].getD q []) ts L F := by
                rw [List.getD_eq_getElem?_getD, List.getElem?_eq_getElem (by omega : q < l[k].length)]
                exact rowOk_of HALL.out HTB.out hkl (q := q) (by omega)
              have hsb := sumT_bd (rows := l[k]) (fun q' hq' => rowOk_of HALL.out HTB.out hkl hq') a3 q (by omega)
              have hbd := rowT_bd hok F (Nat.le_refl _)
              have HS := Lib.hid (mixN_succ (F := F) (ts := ts) (q := q) hkl)
              have t0 : (w.ext d5).cell? ⟨g, k, none⟩ = some (.int .i64 (sumT l[k] F ts q)) := by
                rw [World.cell_of_heap hC5]
                simp [mixN_at hkl]
              have z0 : (w.ext d5).frozen? ⟨g, k, none⟩ = false := World.free_of_heap hC5 k
              have ng : w.newB d5 g := World.newB_of_heap hC5
              have nb3 : w.newB d5 b3 := World.oldB_of_cell e3
              generalize rowT (l[k].getD q []) ts F = T at e3 hbd HS
              generalize sumT l[k] F ts q = S at t0 hsb HS
              obtain ⟨hb1, hb2⟩ := hbd
              obtain ⟨hs1, hs2⟩ := hsb
              clear hC5 ho5 eL hok hlr hll
              go_wp2
              go_region_law fail
              all_goals (
                go_wp2
                go_roundw
                case rel =>
                  refine ⟨k + 1, by omega, by go_num, gain_drew (gain_setCell ⟨_, rfl⟩ HGB.out _), ?_, own_drew (own_far HO5.out hgl _)⟩
                  exact (show _ from World.heap_setCell_row HC5.out k (.int .i64 (S + T))).trans (by rw [setInts, HS.out])
                case measure => simp [intOf]; omega)
            · obtain rfl : k = l.length := by omega
              rw [mixN_full] at HC5
              clear hC5 ho5
              go_wp2
              go_roundw
              case rel => exact ⟨q + 1, by omega, by go_num, ⟨_, rfl⟩, HC5.out⟩
              case measure => simp [intOf]; omega
        · go_wp2
          go_ret2
          obtain rfl : q = L := by omega
          rw [HE.out.1, HE.out.2]
          have hlen : (teamN l F ts q l.length).length = l.length := by simp [teamN]
          have ho := own_ints (base := w.heap.size) HC.out HGB.out (by rw [hlen]; omega)
          rw [hlen] at ho
          exact ⟨_, rfl, ⟨_, rfl⟩, ho⟩
end Go.Proofs.Ytlofdpbdnkcnkaa
