/- spec.l9Times, impl.isTimed, spec.l9Leg, impl.LegTimesOf, spec.LegTimesOf. Condition: sizes of at most 1048576. -/
import Derived.Test.YtlofdpbdnkcnkaaTimeB
namespace Go.Ori
theorem rowOk_of {l : List (List (List Int))} {L F : Nat} {ts : List (List Int)} (hall : ∀ (t : Nat) (ht : t < l.length), l[t].length = L ∧ ∀ (q : Nat) (hq : q < l[t].length), l[t][q].length = F ∧ ∀ (f : Nat) (hf : f < l[t][q].length), 0 ≤ l[t][q][f] ∧ l[t][q][f] < L) (ht : timesB ts L F = true) {t q : Nat} (h1 : t < l.length) (h2 : q < l[t].length) : RowOk l[t][q] ts L F :=
  ⟨((hall t h1).2 q h2).1, (timesB_true ht).1, ((hall t h1).2 q h2).2, (timesB_true ht).2⟩
end Go.Ori
namespace Go.Proofs.Ytlofdpbdnkcnkaa
open Go.RowKit Go.Ori
set_option maxHeartbeats 2000000 in
theorem l9Times_any (v : Value) (ts : List (List Int)) (L F : Nat) (w : World) (h : w.sl2 v ts) (hT : tot2 ts ≤ 1048576) (hL : L ≤ 4) (hF : F ≤ 4) :
    Calls Try.prog 46 #[v, .int .i64 L, .int .i64 F] w fun x w' => x = .returned (.bool (timesB ts L F)) ∧ ∃ d, w' = w.ext d := by
  have hs := Lib.hid h
  have hl : ts.length ≤ 1048576 := by have := tot2_len ts; omega
  have HT := Lib.hid (fun (k : Nat) (hk : k < ts.length) => Nat.le_trans (tot2_at hk) hT)
  obtain ⟨p, c, rfl⟩ := sl2_form h
  clear h hT
  by_cases hlen : ts.length = F
  · have HR := Lib.hid (show timesB ts L F = ts.all (rowB L 1000) by simp [timesB, rowsB, hlen])
    subst hlen
    go_enter Try.func46, Try.ntmps46
    go_wp2
    go_loopw [7] (fun i wr => ∃ q : Nat, q ≤ ts.length ∧ i = .int .i64 q ∧ (∀ (j : Nat) (hj : j < ts.length), j < q → rowB L 1000 ts[j] = true) ∧ ∃ d, wr = w.ext d) (fun i _ => ts.length - (intOf i).toNat)
    case atStart => exact ⟨0, by omega, rfl, by simp, (by repeat (first | with_reducible (first | exact World.gained_refl _ | exact ⟨_, rfl⟩ | apply gain_ext | apply gain_alloc | apply gain_drewN | apply gain_drew) | (refine gain_setCell ?_ (by first | exact Nat.le_refl _ | exact World.size_ext _ _ | (simp; done) | (simp; omega)) _)))⟩
    case round =>
      obtain ⟨q, hq, rfl, hno, d, rfl⟩ := hrel
      have HN2 := Lib.hid hno
      clear hno
      by_cases hqlt : q < ts.length
      · obtain ⟨b1, o1, rfl⟩ := slOf_some hs.out (by omega)
        obtain ⟨u1, c1, hu1⟩ := slOf_at hs.out hqlt
        have hlr := HT.out q hqlt
        have J1 := Lib.hid (fun (hf : rowB L 1000 ts[q] = false) => all_no hqlt hf)
        have J2 := Lib.hid (fun (hf : rowB L 1000 ts[q] = true) => step_at HN2.out (fun _ => hf))
        generalize ts[q] = row at hu1 J1 J2 hlr
        obtain ⟨pw, cw, rfl⟩ := sl1_form hu1
        have HU1 := Lib.hid hu1
        clear hu1
        unfold tot1 at hlr
        have ob1 := World.oldB_of_cell c1
        by_cases hlen2 : row.length = L
        · have HRow2 := Lib.hid (show rowB L 1000 row = row.all (fun n => insB n 0 1000) by simp [rowB, hlen2])
          subst hlen2
          go_wp2
          go_loopw [8] (fun i wr => ∃ f : Nat, f ≤ row.length ∧ i = .int .i64 f ∧ (∀ (j : Nat) (hj : j < row.length), j < f → insB row[j] 0 1000 = true) ∧ ∃ d, wr = w.ext d) (fun i _ => row.length - (intOf i).toNat)
          case atStart => exact ⟨0, by omega, rfl, by simp, (by repeat (first | with_reducible (first | exact World.gained_refl _ | exact ⟨_, rfl⟩ | apply gain_ext | apply gain_alloc | apply gain_drewN | apply gain_drew) | (refine gain_setCell ?_ (by first | exact Nat.le_refl _ | exact World.size_ext _ _ | (simp; done) | (simp; omega)) _)))⟩
          case round =>
            obtain ⟨f, hf, rfl, hno, d, rfl⟩ := hrel
            have HN3 := Lib.hid hno
            clear hno
            by_cases hflt : f < row.length
            · obtain ⟨b2, o2, rfl⟩ := sl_some HU1.out (by omega)
              have c2 := sl_int HU1.out hflt
              have ob2 := World.oldB_of_cell c2
              have K1 := Lib.hid (fun (hf : insB row[f] 0 1000 = false) => all_no (p := fun n => insB n 0 1000) hflt hf)
              have K2 := Lib.hid (fun (hf : insB row[f] 0 1000 = true) => step_at (p := fun n => insB n 0 1000) HN3.out (fun _ => hf))
              generalize row[f] = n at c2 K1 K2
              cases hin : insB n 0 1000 with
              | false =>
                have hF := Lib.hid (J1.out (by rw [HRow2.out]; exact K1.out hin))
                go_wp2_with (go_at_call 57; refine (l1In_any _ _ _ _).mono ?_; rintro e w1 ⟨rfl, rfl⟩)
                go_ret
                rw [HR.out, hF.out]
                exact ⟨rfl, (by repeat (first | with_reducible (first | exact World.gained_refl _ | exact ⟨_, rfl⟩ | apply gain_ext | apply gain_alloc | apply gain_drewN | apply gain_drew) | (refine gain_setCell ?_ (by first | exact Nat.le_refl _ | exact World.size_ext _ _ | (simp; done) | (simp; omega)) _)))⟩
              | true =>
                have hF := Lib.hid (K2.out hin)
                go_wp2_with (go_at_call 57; refine (l1In_any _ _ _ _).mono ?_; rintro e w1 ⟨rfl, rfl⟩)
                go_roundw
                case rel => exact ⟨f + 1, by omega, by go_num, hF.out, (by repeat (first | with_reducible (first | exact World.gained_refl _ | exact ⟨_, rfl⟩ | apply gain_ext | apply gain_alloc | apply gain_drewN | apply gain_drew) | (refine gain_setCell ?_ (by first | exact Nat.le_refl _ | exact World.size_ext _ _ | (simp; done) | (simp; omega)) _)))⟩
                case measure => simp [intOf]; omega
            · have hF := Lib.hid (J2.out (by rw [HRow2.out]; exact all_yes (fun j hj => HN3.out j hj (by omega))))
              go_wp2
              go_roundw
              case rel => exact ⟨q + 1, by omega, by go_num, hF.out, (by repeat (first | with_reducible (first | exact World.gained_refl _ | exact ⟨_, rfl⟩ | apply gain_ext | apply gain_alloc | apply gain_drewN | apply gain_drew) | (refine gain_setCell ?_ (by first | exact Nat.le_refl _ | exact World.size_ext _ _ | (simp; done) | (simp; omega)) _)))⟩
              case measure => simp [intOf]; omega
        · have hF := Lib.hid (J1.out (by simp [rowB]; intro e; omega))
          go_wp2
          go_ret
          rw [HR.out, hF.out]
          exact ⟨rfl, (by repeat (first | with_reducible (first | exact World.gained_refl _ | exact ⟨_, rfl⟩ | apply gain_ext | apply gain_alloc | apply gain_drewN | apply gain_drew) | (refine gain_setCell ?_ (by first | exact Nat.le_refl _ | exact World.size_ext _ _ | (simp; done) | (simp; omega)) _)))⟩
      · have hF := Lib.hid (all_yes (l := ts) (p := rowB L 1000) (fun j hj => HN2.out j hj (by omega)))
        go_wp2
        go_ret
        rw [HR.out, hF.out]
        exact ⟨rfl, (by repeat (first | with_reducible (first | exact World.gained_refl _ | exact ⟨_, rfl⟩ | apply gain_ext | apply gain_alloc | apply gain_drewN | apply gain_drew) | (refine gain_setCell ?_ (by first | exact Nat.le_refl _ | exact World.size_ext _ _ | (simp; done) | (simp; omega)) _)))⟩
  · have HR := Lib.hid (show timesB ts L F = false by simp [timesB, rowsB]; intro e; omega)
    have hne : ¬ (ts.length : Int) = F := by omega
    go_enter Try.func46, Try.ntmps46
    go_wp2
    go_ret
    rw [HR.out]
    exact ⟨rfl, (by repeat (first | with_reducible (first | exact World.gained_refl _ | exact ⟨_, rfl⟩ | apply gain_ext | apply gain_alloc | apply gain_drewN | apply gain_drew) | (refine gain_setCell ?_ (by first | exact Nat.le_refl _ | exact World.size_ext _ _ | (simp; done) | (simp; omega)) _)))⟩
set_option maxHeartbeats 1000000 in
theorem isTimed_any (v v2 : Value) (l : List (List (List Int))) (ts : List (List Int)) (legs forks : Int) (w : World) (h : w.sl3 v l) (hT : tot3 l ≤ 1048576) (h2 : w.sl2 v2 ts) (hT2 : tot2 ts ≤ 1048576) :
    Calls Try.prog 43 #[v, .int .i64 legs, .int .i64 forks, v2] w fun x w' => x = .returned (.bool (timedB l legs forks ts)) ∧ ∃ d, w' = w.ext d := by
  have hs := Lib.hid h
  have hst := Lib.hid h2
  obtain ⟨p, c, rfl⟩ := sl3_form h
  obtain ⟨p2, c2, rfl⟩ := sl2_form h2
  clear h h2
  have HP := Lib.hid (fun W hW => isPlanOf_any (.slice p l.length c) l legs forks W hW hT)
  have HQ := Lib.hid (fun W hW => isRows_any (.slice p2 ts.length c2) ts forks legs 1000 W hW hT2)
  have HE : Hid (timedB l legs forks ts = (planB l legs forks && rowsB forks legs 1000 ts)) := Lib.hid rfl
  generalize planB l legs forks = A at HP HE
  generalize rowsB forks legs 1000 ts = B at HQ HE
  cases A with
  | false =>
    go_enter Try.func43, Try.ntmps43
    go_wp2_with fail
    refine (HP.out _ (sl3_up hs.out (by repeat (first | with_reducible (first | exact World.gained_refl _ | exact ⟨_, rfl⟩ | apply gain_ext | apply gain_alloc | apply gain_drewN | apply gain_drew) | (refine gain_setCell ?_ (by first | exact Nat.le_refl _ | exact World.size_ext _ _ | (simp; done) | (simp; omega)) _))))).mono ?_
    rintro e w1 ⟨rfl, d1, rfl⟩
    go_wp2
    go_ret
    rw [HE.out]
    exact ⟨rfl, (by repeat (first | with_reducible (first | exact World.gained_refl _ | exact ⟨_, rfl⟩ | apply gain_ext | apply gain_alloc | apply gain_drewN | apply gain_drew) | (refine gain_setCell ?_ (by first | exact Nat.le_refl _ | exact World.size_ext _ _ | (simp; done) | (simp; omega)) _)))⟩
  | true =>
    go_enter Try.func43, Try.ntmps43
    go_wp2_with fail
    refine (HP.out _ (sl3_up hs.out (by repeat (first | with_reducible (first | exact World.gained_refl _ | exact ⟨_, rfl⟩ | apply gain_ext | apply gain_alloc | apply gain_drewN | apply gain_drew) | (refine gain_setCell ?_ (by first | exact Nat.le_refl _ | exact World.size_ext _ _ | (simp; done) | (simp; omega)) _))))).mono ?_
    rintro e w1 ⟨rfl, d1, rfl⟩
    go_wp2_with fail
    refine (HQ.out _ (sl2_up hst.out (by repeat (first | with_reducible (first | exact World.gained_refl _ | exact ⟨_, rfl⟩ | apply gain_ext | apply gain_alloc | apply gain_drewN | apply gain_drew) | (refine gain_setCell ?_ (by first | exact Nat.le_refl _ | exact World.size_ext _ _ | (simp; done) | (simp; omega)) _))))).mono ?_
    rintro e w1 ⟨rfl, d1, rfl⟩
    go_wp2
    go_ret
    rw [HE.out]
    exact ⟨rfl, (by repeat (first | with_reducible (first | exact World.gained_refl _ | exact ⟨_, rfl⟩ | apply gain_ext | apply gain_alloc | apply gain_drewN | apply gain_drew) | (refine gain_setCell ?_ (by first | exact Nat.le_refl _ | exact World.size_ext _ _ | (simp; done) | (simp; omega)) _)))⟩
set_option maxHeartbeats 2000000 in
theorem l9Leg_own (v v2 : Value) (l : List (List (List Int))) (ts : List (List Int)) (L F G : Nat) (w : World) (h : w.sl3 v l) (h2 : w.sl2 v2 ts) (hl : l.length ≤ 6) (hL : L ≤ 4) (hF : F ≤ 4) (hG : G < L)
    (hall : ∀ (t : Nat) (ht : t < l.length), l[t].length = L ∧ ∀ (q : Nat) (hq : q < l[t].length), l[t][q].length = F ∧ ∀ (f : Nat) (hf : f < l[t][q].length), 0 ≤ l[t][q][f] ∧ l[t][q][f] < L) (htb : timesB ts L F = true) :
    Calls Try.prog 47 #[v, .int .i64 F, v2, .int .i64 G] w fun x w' => ∃ r, x = .returned r ∧ (∃ d, w' = w.ext d) ∧ w'.own w.heap.size 3 intC 1 r (legN l F ts G l.length) := by
  have hs := Lib.hid h
  have hst := Lib.hid h2
  have HALL := Lib.hid hall
  have HTB := Lib.hid htb
  obtain ⟨p, c, rfl⟩ := sl3_form h
  obtain ⟨p2, c2, rfl⟩ := sl2_form h2
  clear h h2 hall htb
  go_enter Try.func47, Try.ntmps47
  go_wp2
  go_loopw [9, 10] (fun ov i wr => ∃ t : Nat, t ≤ l.length ∧ i = .int .i64 t ∧ (∃ d, wr = w.ext d) ∧ wr.own w.heap.size 3 intC 1 ov (legN l F ts G t)) (fun _ i _ => l.length - (intOf i).toNat)
  case atStart => exact ⟨0, by omega, rfl, (by repeat (first | with_reducible (first | exact World.gained_refl _ | exact ⟨_, rfl⟩ | apply gain_ext | apply gain_alloc | apply gain_drewN | apply gain_drew) | (refine gain_setCell ?_ (by first | exact Nat.le_refl _ | exact World.size_ext _ _ | (simp; done) | (simp; omega)) _))), by rw [legN_zero]; exact own_lit' (l := ([] : List Int)) intC_length rfl rfl (gain_size (by repeat (first | with_reducible (first | exact World.gained_refl _ | exact ⟨_, rfl⟩ | apply gain_ext | apply gain_alloc | apply gain_drewN | apply gain_drew) | (refine gain_setCell ?_ (by first | exact Nat.le_refl _ | exact World.size_ext _ _ | (simp; done) | (simp; omega)) _))))⟩
  case round =>
    obtain ⟨t, ht, rfl, ⟨d, rfl⟩, ho⟩ := hrel
    have HO := Lib.hid ho
    clear ho
    by_cases hlt : t < l.length
    · obtain ⟨b0, o0, rfl⟩ := slOf_some hs.out (by omega)
      obtain ⟨u, c0, hu⟩ := slOf_at hs.out hlt
      have hlr := (HALL.out t hlt).1
      have hok : RowOk (l[t].getD G []) ts L F := by
        rw [List.getD_eq_getElem?_getD, List.getElem?_eq_getElem (by omega : G < l[t].length)]
        exact rowOk_of HALL.out HTB.out hlt (q := G) (by omega)
      have HS0 := Lib.hid (legN_succ (F := F) (ts := ts) (G := G) hlt)
      generalize l[t] = rows at hu hlr hok HS0
      obtain ⟨p1, c1, rfl⟩ := sl2_form hu
      obtain ⟨b1, o1, rfl⟩ := slOf_some hu (by omega)
      obtain ⟨u1, e0, hu1⟩ := slOf_at hu (k := G) (by omega)
      rw [show rows[G]'(by omega) = rows.getD G [] by rw [List.getD_eq_getElem?_getD, List.getElem?_eq_getElem (by omega : G < rows.length)]; rfl] at hu1
      generalize rows.getD G [] = row at hu1 hok HS0
      obtain ⟨p3, c3, rfl⟩ := sl1_form hu1
      have hsx := Lib.hid hu1
      have obt := World.oldB_of_cell c0
      have obg := World.oldB_of_cell e0
      clear hu hu1
      go_wp2
      go_loopw [11, 12] (fun s i wr => ∃ k : Nat, k ≤ F ∧ i = .int .i64 k ∧ s = .int .i64 (rowT row ts k) ∧ ∃ d', wr = (w.ext d).ext d') (fun _ i _ => F - (intOf i).toNat)
      case atStart => exact ⟨0, by omega, rfl, rfl, World.gained_refl _⟩
      case round =>
        obtain ⟨k, hk, rfl, rfl, d2, rfl⟩ := hrel
        by_cases hkl : k < F
        · skip
          obtain ⟨b, o, rfl⟩ := sl_some hsx.out (by have := hok.len; omega)
          obtain ⟨bt, ot, rfl⟩ := slOf_some hst.out (by have := hok.len; have := hok.tlen; omega)
          have hk1 : k < row.length := by have := hok.len; omega
          have hk2 : k < ts.length := by have := hok.len; have := hok.tlen; omega
          have e1 := sl_int hsx.out hk1
          obtain ⟨u, e2, hu⟩ := slOf_at hst.out hk2
          have h2 := hok.var k hk1
          have h3 := hok.tim k hk2
          have h4 : (row[k]).toNat < ts[k].length := by omega
          have h5 := h3.2 _ h4
          have hbd := rowT_bd hok k (by have := hok.len; omega)
          obtain ⟨pu, cu, rfl⟩ := sl1_form hu
          obtain ⟨b2, o2, rfl⟩ := sl_some hu (by omega)
          have e3 := sl_int hu h4
          have HS : Hid (rowT row ts (k + 1) = rowT row ts k + ts[k][(row[k]).toNat]) := Lib.hid (by
            rw [rowT]
            simp only [List.getD_eq_getElem?_getD, List.getElem?_eq_getElem hk1, List.getElem?_eq_getElem hk2, Option.getD_some, List.getElem?_eq_getElem h4])
          have hx : ((row[k]).toNat : Int) = row[k] := by omega
          generalize ts[k][(row[k]).toNat] = m at HS h5 e3
          generalize (row[k]).toNat = V at hx h4 e3
          rw [← hx] at e1 h2
          clear hx hu h3
          generalize ts[k].length = n2 at h4 e2
          have ob1 := World.oldB_of_cell e1
          have ob2 := World.oldB_of_cell e2
          have ob3 := World.oldB_of_cell e3
          obtain ⟨h5a, h5b⟩ := h5
          obtain ⟨hb1, hb2⟩ := hbd
          generalize rowT row ts k = T at hb1 hb2 HS
          go_wp2
          refine wp_region_gain (by kernel_rfl) (by kernel_rfl) ?_
          repeat (first | go_big_quiet_skip | (go_big_quiet_want; go_big_quiet_op; first | go_big_quiet_on))
          refine wpQuiet_nil ?_
          rintro _ ⟨d', rfl⟩
          go_wp2
          go_roundw
          case rel => exact ⟨k + 1, by omega, by go_num, by rw [HS.out], (by repeat (first | with_reducible (first | exact World.gained_refl _ | exact ⟨_, rfl⟩ | apply gain_ext | apply gain_alloc | apply gain_drewN | apply gain_drew) | (refine gain_setCell ?_ (by first | exact Nat.le_refl _ | exact World.size_ext _ _ | (simp; done) | (simp; omega)) _)))⟩
          case measure => simp [intOf]; omega
        · obtain rfl : k = F := by omega
          generalize rowT row ts k = T at HS0
          go_wp2_with (at_builtin; go_must (refine wpList_append_gain (m := [T]) rfl (.tmp 43) (.tmp 45) rfl Try.underlying28 info_int (by rfl) (by omega) intC_length intC_one (by omega) (by repeat (first | with_reducible (first | exact World.gained_refl _ | exact ⟨_, rfl⟩ | apply gain_ext | apply gain_alloc | apply gain_drewN | apply gain_drew) | (refine gain_setCell ?_ (by first | exact Nat.le_refl _ | exact World.size_ext _ _ | (simp; done) | (simp; omega)) _))) (Nat.le_refl _) (gain_size (by repeat (first | with_reducible (first | exact World.gained_refl _ | exact ⟨_, rfl⟩ | apply gain_ext | apply gain_alloc | apply gain_drewN | apply gain_drew) | (refine gain_setCell ?_ (by first | exact Nat.le_refl _ | exact World.size_ext _ _ | (simp; done) | (simp; omega)) _)))) rfl rfl (own_up (HO.out) (by repeat (first | with_reducible (first | exact World.gained_refl _ | exact ⟨_, rfl⟩ | apply gain_ext | apply gain_alloc | apply gain_drewN | apply gain_drew) | (refine gain_setCell ?_ (by first | exact Nat.le_refl _ | exact World.size_ext _ _ | (simp; done) | (simp; omega)) _)))) (sl_lit (l := [T]) intC_length rfl (by simp)) (by have := legN_length l k ts G t; simp; omega) ?_); intro v' d' ho hg)
          go_roundw
          case rel => exact ⟨t + 1, by omega, by go_num, ⟨_, rfl⟩, by rw [HS0.out]; exact ho⟩
          case measure => simp [intOf]; omega
    · go_wp2
      go_ret
      obtain rfl : t = l.length := by omega
      exact ⟨_, rfl, ⟨_, rfl⟩, HO.out⟩
end Go.Proofs.Ytlofdpbdnkcnkaa
