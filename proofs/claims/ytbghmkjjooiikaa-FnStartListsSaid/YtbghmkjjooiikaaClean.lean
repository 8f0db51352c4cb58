/- impl.cleanList, spec.l10Clean and the two CleanStartList. Condition: clubs of 1 to 8 starters, a begun list of starters. -/
import Derived.Test.YtbghmkjjooiikaaPClean
import Derived.Test.YtbghmkjjooiikaaClubs
import Derived.Test.YtbghmkjjooiikaaContainsInts
import Derived.Test.YtbghmkjjooiikaaHas
import Derived.Test.YtbghmkjjooiikaaCopyInts
import Derived.Test.YtbghmkjjooiikaaL1Own
namespace Go.Proofs.Ytbghmkjjooiikaa
open Go.RowKit Go.Ori
set_option maxHeartbeats 2000000 in
theorem cleanList_any (clubs : List Int) (h1 : 1 ≤ clubs.length) (h8 : clubs.length ≤ 8) : ∀ (m : Nat) (v v2 : Value) (l : List Int) (base : Nat) (w : World), w.sl intC 1 v clubs → base ≤ w.heap.size → w.own base 3 intC 1 v2 l → l.length + m = clubs.length → (∀ x ∈ l, 0 ≤ x ∧ x < (clubs.length : Int)) →
    Calls Try.prog 121 #[v, v2] w fun x w' => ∃ r, x = .returned (.tuple #[r, .bool (decide (0 < (clean clubs m l).length))]) ∧ (∃ d, w' = w.ext d) ∧ w'.own base 3 intC 1 r (clean clubs m l) := by
  intro m
  induction m with
  | zero =>
    intro v v2 l base w h hbase ho hlen hbd
    have HO := Lib.hid ho
    have h2 := sl_of_own intC_length ho
    clear ho hbd
    obtain ⟨p, c, rfl, _⟩ := h
    obtain ⟨p2, c2, rfl, _⟩ := h2
    go_enter Try.func121, Try.ntmps121
    go_wp2
    go_ret2
    rw [show decide (0 < (clean clubs 0 l).length) = true from decide_eq_true (by rw [clean]; omega)]
    exact ⟨_, rfl, w.gained_refl, HO.out⟩
  | succ m ih =>
    intro v v2 l base w h hbase ho hlen hbd
    have HO := Lib.hid ho
    have hs := Lib.hid h
    have hs2 := Lib.hid (sl_of_own intC_length ho)
    have h2 := sl_of_own intC_length ho
    have HB := Lib.hid hbd
    have HI := Lib.hid ih
    clear ho hbd ih
    have hne : ((l.length : Int) == (clubs.length : Int)) = false := by simp only [beq_eq_false_iff_ne, ne_eq]; omega
    obtain ⟨p, c, rfl, _⟩ := h
    obtain ⟨p2, c2, rfl, _⟩ := h2
    go_enter Try.func121, Try.ntmps121
    go_wp2
    go_loopw [18] (fun i wr => ∃ k : Nat, k ≤ clubs.length ∧ i = .int .i64 k ∧ clean clubs (m + 1) l = firstN (cleanF clubs (clean clubs m) l) (clubs.length - k) k ∧ ∃ d, wr = w.ext d) (fun i _ => clubs.length - (intOf i).toNat)
    case atStart => exact ⟨0, by omega, rfl, clean_succ _ _ _, w.gained_refl⟩
    case round =>
      obtain ⟨k, hk, rfl, HF, d, rfl⟩ := hrel
      replace HF := Lib.hid HF
      by_cases hlt : k < clubs.length
      · obtain ⟨b, o, rfl⟩ := sl_some hs.out (by omega)
        have ck := sl_int hs.out hlt
        have ob := World.oldB_of_cell ck
        have HNO := Lib.hid (fun h : ¬ 0 < (cleanF clubs (clean clubs m) l k).length => HF.out.trans (firstN_no hlt h))
        have HYES := Lib.hid (fun h : 0 < (cleanF clubs (clean clubs m) l k).length => HF.out.trans (firstN_yes hlt h))
        cases hh : hasB l (k : Int) with
        | true =>
          have HN := Lib.hid (HNO.out (by rw [cleanF, hh]; simp))
          have HC : Hid (∀ v w, World.sl w intC 1 v l → Calls Try.prog 146 #[v, .int .i64 k] w fun x w' => x = .returned (.bool true) ∧ ∃ d, w' = w.ext d) := Lib.hid (fun v w hw => by have := contains_ints v l (k : Int) w hw (by omega); rwa [hh] at this)
          clear hh
          go_wp2_with (go_at_call 146; refine (HC.out _ _ (by with_reducible (repeat (first | exact hs2.out | refine World.sl_ext intC_length ?_ _ | refine sl_alloc intC_length ?_ _ | refine sl_drew ?_)))).mono ?_; rintro e w1 ⟨rfl, d1, rfl⟩)
          go_roundw
          case rel => exact ⟨k + 1, by omega, by go_num, HN.out, (by repeat (first | with_reducible (first | exact World.gained_refl _ | exact ⟨_, rfl⟩ | apply gain_ext | apply gain_alloc | apply gain_drewN | apply gain_drew) | (refine gain_setCell ?_ (by first | exact Nat.le_refl _ | exact World.size_ext _ _ | (simp; done) | (simp; omega)) _)))⟩
          case measure => simp [intOf]; omega
        | false =>
          have HC : Hid (∀ v w, World.sl w intC 1 v l → Calls Try.prog 146 #[v, .int .i64 k] w fun x w' => x = .returned (.bool false) ∧ ∃ d, w' = w.ext d) := Lib.hid (fun v w hw => by have := contains_ints v l (k : Int) w hw (by omega); rwa [hh] at this)
          have IH := Lib.hid (fun v v2 base w a b c => HI.out v v2 (l ++ [(k : Int)]) base w a b c (by simp; omega) (bound_snoc HB.out hlt))
          by_cases hp : 0 < l.length
          · obtain ⟨b2, o2, rfl⟩ := sl_some hs2.out hp
            have c2 := sl_int hs2.out (k := l.length - 1) (by omega)
            obtain ⟨q, hq, hql⟩ := bound_at HB.out (k := l.length - 1) (by omega)
            have HT := Lib.hid (tieB_at hp hq hql hlt)
            rw [hq] at c2
            clear hq
            have cq := sl_int hs.out hql
            generalize clubs[q] = y1 at cq HT
            generalize clubs[k] = y2 at ck HT
            have ob2 := World.oldB_of_cell c2
            cases hy : (y1 == y2) with
            | true =>
              have HN := Lib.hid (HNO.out (by rw [cleanF, HT.out, hy]; simp))
              go_wp2_with (go_at_call 146; refine (HC.out _ _ (by with_reducible (repeat (first | exact hs2.out | refine World.sl_ext intC_length ?_ _ | refine sl_alloc intC_length ?_ _ | refine sl_drew ?_)))).mono ?_; rintro e w1 ⟨rfl, d1, rfl⟩)
              go_roundw
              case rel => exact ⟨k + 1, by omega, by go_num, HN.out, (by repeat (first | with_reducible (first | exact World.gained_refl _ | exact ⟨_, rfl⟩ | apply gain_ext | apply gain_alloc | apply gain_drewN | apply gain_drew) | (refine gain_setCell ?_ (by first | exact Nat.le_refl _ | exact World.size_ext _ _ | (simp; done) | (simp; omega)) _)))⟩
              case measure => simp [intOf]; omega
            | false =>
              have ht : tieB clubs l k = false := by rw [HT.out]; exact hy
              have hCF := Lib.hid (show cleanF clubs (clean clubs m) l k = clean clubs m (l ++ [(k : Int)]) by rw [cleanF, hh, ht]; rfl)
              rw [hCF.out] at HNO HYES
              generalize clean clubs m (l ++ [(k : Int)]) = C at IH HNO HYES
              clear hh ht hCF
              go_wp2_with (go_at_call 146; refine (HC.out _ _ (by with_reducible (repeat (first | exact hs2.out | refine World.sl_ext intC_length ?_ _ | refine sl_alloc intC_length ?_ _ | refine sl_drew ?_)))).mono ?_; rintro e w1 ⟨rfl, d1, rfl⟩)
              refine (copyInts_any _ l _ (by with_reducible (repeat (first | exact hs2.out | refine World.sl_ext intC_length ?_ _ | refine sl_alloc intC_length ?_ _ | refine sl_drew ?_))) (by omega)).mono ?_
              rintro e w1 ⟨vc, rfl, ⟨dc, rfl⟩, hoc⟩
              have HOC := Lib.hid hoc
              clear hoc
              go_wp2_with (at_builtin; go_must (refine wpList_append_gain (m := [(k : Int)]) rfl (.tmp 47) (.tmp 49) rfl Try.underlying34 info_int (by rfl) (by omega) intC_length intC_one (by omega) (gain_alloc (⟨_, rfl⟩) _) (Nat.le_refl _) (gain_size (gain_alloc (⟨_, rfl⟩) _)) rfl rfl (own_alloc (HOC.out) _) (sl_lit (l := [(k : Int)]) intC_length rfl (by simp)) (by simp; omega) ?_); intro v' d' ho hg)
              have HOA := Lib.hid ho
              clear ho hg
              go_wp2_with fail
              refine (IH.out _ _ w.heap.size _ (by with_reducible (repeat (first | exact hs.out | refine World.sl_ext intC_length ?_ _ | refine sl_alloc intC_length ?_ _ | refine sl_drew ?_))) (gain_size (by repeat (first | with_reducible (first | exact World.gained_refl _ | exact ⟨_, rfl⟩ | apply gain_ext | apply gain_alloc | apply gain_drewN | apply gain_drew) | (refine gain_setCell ?_ (by first | exact Nat.le_refl _ | exact World.size_ext _ _ | (simp; done) | (simp; omega)) _)))) (own_base HOA.out (gain_size (by repeat (first | with_reducible (first | exact World.gained_refl _ | exact ⟨_, rfl⟩ | apply gain_ext | apply gain_alloc | apply gain_drewN | apply gain_drew) | (refine gain_setCell ?_ (by first | exact Nat.le_refl _ | exact World.size_ext _ _ | (simp; done) | (simp; omega)) _)))))).mono ?_
              rintro e w1 ⟨r, rfl, ⟨d3, rfl⟩, hr⟩
              have HR := Lib.hid hr
              clear hr HOA HOC
              by_cases hz : 0 < C.length
              · go_wp2
                go_ret2
                rw [HYES.out hz, decide_eq_true hz]
                exact ⟨_, rfl, (by repeat (first | with_reducible (first | exact World.gained_refl _ | exact ⟨_, rfl⟩ | apply gain_ext | apply gain_alloc | apply gain_drewN | apply gain_drew) | (refine gain_setCell ?_ (by first | exact Nat.le_refl _ | exact World.size_ext _ _ | (simp; done) | (simp; omega)) _))), own_base HR.out hbase⟩
              · go_wp2
                go_roundw
                case rel => exact ⟨k + 1, by omega, by go_num, HNO.out hz, (by repeat (first | with_reducible (first | exact World.gained_refl _ | exact ⟨_, rfl⟩ | apply gain_ext | apply gain_alloc | apply gain_drewN | apply gain_drew) | (refine gain_setCell ?_ (by first | exact Nat.le_refl _ | exact World.size_ext _ _ | (simp; done) | (simp; omega)) _)))⟩
                case measure => simp [intOf]; omega
          · have ht := tieB_nil clubs l k hp
            have hCF := Lib.hid (show cleanF clubs (clean clubs m) l k = clean clubs m (l ++ [(k : Int)]) by rw [cleanF, hh, ht]; rfl)
            rw [hCF.out] at HNO HYES
            generalize clean clubs m (l ++ [(k : Int)]) = C at IH HNO HYES
            clear hh ht hCF
            go_wp2_with (go_at_call 146; refine (HC.out _ _ (by with_reducible (repeat (first | exact hs2.out | refine World.sl_ext intC_length ?_ _ | refine sl_alloc intC_length ?_ _ | refine sl_drew ?_)))).mono ?_; rintro e w1 ⟨rfl, d1, rfl⟩)
            refine (copyInts_any _ l _ (by with_reducible (repeat (first | exact hs2.out | refine World.sl_ext intC_length ?_ _ | refine sl_alloc intC_length ?_ _ | refine sl_drew ?_))) (by omega)).mono ?_
            rintro e w1 ⟨vc, rfl, ⟨dc, rfl⟩, hoc⟩
            have HOC := Lib.hid hoc
            clear hoc
            go_wp2_with (at_builtin; go_must (refine wpList_append_gain (m := [(k : Int)]) rfl (.tmp 47) (.tmp 49) rfl Try.underlying34 info_int (by rfl) (by omega) intC_length intC_one (by omega) (gain_alloc (⟨_, rfl⟩) _) (Nat.le_refl _) (gain_size (gain_alloc (⟨_, rfl⟩) _)) rfl rfl (own_alloc (HOC.out) _) (sl_lit (l := [(k : Int)]) intC_length rfl (by simp)) (by simp; omega) ?_); intro v' d' ho hg)
            have HOA := Lib.hid ho
            clear ho hg
            go_wp2_with fail
            refine (IH.out _ _ w.heap.size _ (by with_reducible (repeat (first | exact hs.out | refine World.sl_ext intC_length ?_ _ | refine sl_alloc intC_length ?_ _ | refine sl_drew ?_))) (gain_size (by repeat (first | with_reducible (first | exact World.gained_refl _ | exact ⟨_, rfl⟩ | apply gain_ext | apply gain_alloc | apply gain_drewN | apply gain_drew) | (refine gain_setCell ?_ (by first | exact Nat.le_refl _ | exact World.size_ext _ _ | (simp; done) | (simp; omega)) _)))) (own_base HOA.out (gain_size (by repeat (first | with_reducible (first | exact World.gained_refl _ | exact ⟨_, rfl⟩ | apply gain_ext | apply gain_alloc | apply gain_drewN | apply gain_drew) | (refine gain_setCell ?_ (by first | exact Nat.le_refl _ | exact World.size_ext _ _ | (simp; done) | (simp; omega)) _)))))).mono ?_
            rintro e w1 ⟨r, rfl, ⟨d3, rfl⟩, hr⟩
            have HR := Lib.hid hr
            clear hr HOA HOC
            by_cases hz : 0 < C.length
            · go_wp2
              go_ret2
              rw [HYES.out hz, decide_eq_true hz]
              exact ⟨_, rfl, (by repeat (first | with_reducible (first | exact World.gained_refl _ | exact ⟨_, rfl⟩ | apply gain_ext | apply gain_alloc | apply gain_drewN | apply gain_drew) | (refine gain_setCell ?_ (by first | exact Nat.le_refl _ | exact World.size_ext _ _ | (simp; done) | (simp; omega)) _))), own_base HR.out hbase⟩
            · go_wp2
              go_roundw
              case rel => exact ⟨k + 1, by omega, by go_num, HNO.out hz, (by repeat (first | with_reducible (first | exact World.gained_refl _ | exact ⟨_, rfl⟩ | apply gain_ext | apply gain_alloc | apply gain_drewN | apply gain_drew) | (refine gain_setCell ?_ (by first | exact Nat.le_refl _ | exact World.size_ext _ _ | (simp; done) | (simp; omega)) _)))⟩
              case measure => simp [intOf]; omega
      · have HE := Lib.hid (show clean clubs (m + 1) l = [] by rw [HF.out, show k = clubs.length by omega]; exact firstN_end)
        go_wp2
        go_ret2
        rw [HE.out]
        exact ⟨_, rfl, (by repeat (first | with_reducible (first | exact World.gained_refl _ | exact ⟨_, rfl⟩ | apply gain_ext | apply gain_alloc | apply gain_drewN | apply gain_drew) | (refine gain_setCell ?_ (by first | exact Nat.le_refl _ | exact World.size_ext _ _ | (simp; done) | (simp; omega)) _))), own_nil _ _ _ _ _⟩
set_option maxHeartbeats 2000000 in
theorem l10Clean_any (clubs : List Int) (h1 : 1 ≤ clubs.length) (h8 : clubs.length ≤ 8) : ∀ (m : Nat) (v v2 : Value) (l : List Int) (base : Nat) (w : World), w.sl intC 1 v clubs → base ≤ w.heap.size → w.own base 3 intC 1 v2 l → l.length + m = clubs.length → (∀ x ∈ l, 0 ≤ x ∧ x < (clubs.length : Int)) →
    Calls Try.prog 122 #[v, v2] w fun x w' => ∃ r, x = .returned r ∧ (∃ d, w' = w.ext d) ∧ w'.own base 3 intC 1 r (clean clubs m l) := by
  intro m
  induction m with
  | zero =>
    intro v v2 l base w h hbase ho hlen hbd
    have HO := Lib.hid ho
    have h2 := sl_of_own intC_length ho
    clear ho hbd
    obtain ⟨p, c, rfl, _⟩ := h
    obtain ⟨p2, c2, rfl, _⟩ := h2
    go_enter Try.func122, Try.ntmps122
    go_wp2
    go_ret
    exact ⟨_, rfl, w.gained_refl, HO.out⟩
  | succ m ih =>
    intro v v2 l base w h hbase ho hlen hbd
    have HO := Lib.hid ho
    have hs := Lib.hid h
    have hs2 := Lib.hid (sl_of_own intC_length ho)
    have h2 := sl_of_own intC_length ho
    have HB := Lib.hid hbd
    have HI := Lib.hid ih
    clear ho hbd ih
    have hne : ((l.length : Int) == (clubs.length : Int)) = false := by simp only [beq_eq_false_iff_ne, ne_eq]; omega
    obtain ⟨p, c, rfl, _⟩ := h
    obtain ⟨p2, c2, rfl, _⟩ := h2
    go_enter Try.func122, Try.ntmps122
    go_wp2
    go_loopw [5] (fun i wr => ∃ k : Nat, k ≤ clubs.length ∧ i = .int .i64 k ∧ clean clubs (m + 1) l = firstN (cleanF clubs (clean clubs m) l) (clubs.length - k) k ∧ ∃ d, wr = w.ext d) (fun i _ => clubs.length - (intOf i).toNat)
    case atStart => exact ⟨0, by omega, rfl, clean_succ _ _ _, w.gained_refl⟩
    case round =>
      obtain ⟨k, hk, rfl, HF, d, rfl⟩ := hrel
      replace HF := Lib.hid HF
      by_cases hlt : k < clubs.length
      · obtain ⟨b, o, rfl⟩ := sl_some hs.out (by omega)
        have ck := sl_int hs.out hlt
        have ob := World.oldB_of_cell ck
        have HNO := Lib.hid (fun h : ¬ 0 < (cleanF clubs (clean clubs m) l k).length => HF.out.trans (firstN_no hlt h))
        have HYES := Lib.hid (fun h : 0 < (cleanF clubs (clean clubs m) l k).length => HF.out.trans (firstN_yes hlt h))
        cases hh : hasB l (k : Int) with
        | true =>
          have HN := Lib.hid (HNO.out (by rw [cleanF, hh]; simp))
          have HC : Hid (∀ v w, World.sl w intC 1 v l → Calls Try.prog 129 #[v, .int .i64 k] w fun x w' => x = .returned (.bool true) ∧ ∃ d, w' = w.ext d) := Lib.hid (fun v w hw => by have := l1Has_any v l (k : Int) w hw (by omega); rwa [hh] at this)
          clear hh
          go_wp2
          refine wp_region_gain (by kernel_rfl) (by kernel_rfl) ?_
          repeat (first | go_big_quiet_skip | (go_big_quiet_want; go_big_quiet_op; first | go_big_quiet_on | ((apply Exists.intro); (refine ⟨fun _ => ?_, ?_⟩); (· (go_at_call 129; exact Calls.gain (HC.out _ _ (by with_reducible (repeat (first | exact hs2.out | refine World.sl_ext intC_length ?_ _ | refine sl_alloc intC_length ?_ _ | refine sl_drew ?_)))))); (go_big_quiet_on))))
          refine wpQuiet_nil ?_
          rintro _ ⟨d', rfl⟩
          go_wp2_with fail
          go_roundw
          case rel => exact ⟨k + 1, by omega, by go_num, HN.out, (by repeat (first | with_reducible (first | exact World.gained_refl _ | exact ⟨_, rfl⟩ | apply gain_ext | apply gain_alloc | apply gain_drewN | apply gain_drew) | (refine gain_setCell ?_ (by first | exact Nat.le_refl _ | exact World.size_ext _ _ | (simp; done) | (simp; omega)) _)))⟩
          case measure => simp [intOf]; omega
        | false =>
          have HC : Hid (∀ v w, World.sl w intC 1 v l → Calls Try.prog 129 #[v, .int .i64 k] w fun x w' => x = .returned (.bool false) ∧ ∃ d, w' = w.ext d) := Lib.hid (fun v w hw => by have := l1Has_any v l (k : Int) w hw (by omega); rwa [hh] at this)
          have IH := Lib.hid (fun v v2 base w a b c => HI.out v v2 (l ++ [(k : Int)]) base w a b c (by simp; omega) (bound_snoc HB.out hlt))
          by_cases hp : 0 < l.length
          · obtain ⟨b2, o2, rfl⟩ := sl_some hs2.out hp
            have c2 := sl_int hs2.out (k := l.length - 1) (by omega)
            obtain ⟨q, hq, hql⟩ := bound_at HB.out (k := l.length - 1) (by omega)
            have HT := Lib.hid (tieB_at hp hq hql hlt)
            rw [hq] at c2
            clear hq
            have cq := sl_int hs.out hql
            generalize clubs[q] = y1 at cq HT
            generalize clubs[k] = y2 at ck HT
            have ob2 := World.oldB_of_cell c2
            cases hy : (y1 == y2) with
            | true =>
              have HN := Lib.hid (HNO.out (by rw [cleanF, HT.out, hy]; simp))
              go_wp2
              refine wp_region_gain (by kernel_rfl) (by kernel_rfl) ?_
              repeat (first | go_big_quiet_skip | (go_big_quiet_want; go_big_quiet_op; first | go_big_quiet_on | ((apply Exists.intro); (refine ⟨fun _ => ?_, ?_⟩); (· (go_at_call 129; exact Calls.gain (HC.out _ _ (by with_reducible (repeat (first | exact hs2.out | refine World.sl_ext intC_length ?_ _ | refine sl_alloc intC_length ?_ _ | refine sl_drew ?_)))))); (go_big_quiet_on))))
              refine wpQuiet_nil ?_
              rintro _ ⟨d', rfl⟩
              go_wp2_with fail
              go_roundw
              case rel => exact ⟨k + 1, by omega, by go_num, HN.out, (by repeat (first | with_reducible (first | exact World.gained_refl _ | exact ⟨_, rfl⟩ | apply gain_ext | apply gain_alloc | apply gain_drewN | apply gain_drew) | (refine gain_setCell ?_ (by first | exact Nat.le_refl _ | exact World.size_ext _ _ | (simp; done) | (simp; omega)) _)))⟩
              case measure => simp [intOf]; omega
            | false =>
              have ht : tieB clubs l k = false := by rw [HT.out]; exact hy
              have hCF := Lib.hid (show cleanF clubs (clean clubs m) l k = clean clubs m (l ++ [(k : Int)]) by rw [cleanF, hh, ht]; rfl)
              rw [hCF.out] at HNO HYES
              generalize clean clubs m (l ++ [(k : Int)]) = C at IH HNO HYES
              clear hh ht hCF
              go_wp2
              refine wp_region_gain (by kernel_rfl) (by kernel_rfl) ?_
              repeat (first | go_big_quiet_skip | (go_big_quiet_want; go_big_quiet_op; first | go_big_quiet_on | ((apply Exists.intro); (refine ⟨fun _ => ?_, ?_⟩); (· (go_at_call 129; exact Calls.gain (HC.out _ _ (by with_reducible (repeat (first | exact hs2.out | refine World.sl_ext intC_length ?_ _ | refine sl_alloc intC_length ?_ _ | refine sl_drew ?_)))))); (go_big_quiet_on))))
              refine wpQuiet_nil ?_
              rintro _ ⟨d', rfl⟩
              go_wp2_with fail
              refine (l1Own_any _ l _ (by with_reducible (repeat (first | exact hs2.out | refine World.sl_ext intC_length ?_ _ | refine sl_alloc intC_length ?_ _ | refine sl_drew ?_))) (by omega)).mono ?_
              rintro e w1 ⟨vc, rfl, ⟨dc, rfl⟩, hoc⟩
              have HOC := Lib.hid hoc
              clear hoc
              go_wp2_with (at_builtin; go_must (refine wpList_append_gain (m := [(k : Int)]) rfl (.tmp 45) (.tmp 47) rfl Try.underlying34 info_int (by rfl) (by omega) intC_length intC_one (by omega) (gain_alloc (⟨_, rfl⟩) _) (Nat.le_refl _) (gain_size (gain_alloc (⟨_, rfl⟩) _)) rfl rfl (own_alloc (HOC.out) _) (sl_lit (l := [(k : Int)]) intC_length rfl (by simp)) (by simp; omega) ?_); intro v' d' ho hg)
              have HOA := Lib.hid ho
              clear ho hg
              go_wp2_with fail
              refine (IH.out _ _ w.heap.size _ (by with_reducible (repeat (first | exact hs.out | refine World.sl_ext intC_length ?_ _ | refine sl_alloc intC_length ?_ _ | refine sl_drew ?_))) (gain_size (by repeat (first | with_reducible (first | exact World.gained_refl _ | exact ⟨_, rfl⟩ | apply gain_ext | apply gain_alloc | apply gain_drewN | apply gain_drew) | (refine gain_setCell ?_ (by first | exact Nat.le_refl _ | exact World.size_ext _ _ | (simp; done) | (simp; omega)) _)))) (own_base HOA.out (gain_size (by repeat (first | with_reducible (first | exact World.gained_refl _ | exact ⟨_, rfl⟩ | apply gain_ext | apply gain_alloc | apply gain_drewN | apply gain_drew) | (refine gain_setCell ?_ (by first | exact Nat.le_refl _ | exact World.size_ext _ _ | (simp; done) | (simp; omega)) _)))))).mono ?_
              rintro e w1 ⟨r, rfl, ⟨d3, rfl⟩, hr⟩
              have HR := Lib.hid hr
              obtain ⟨pr, cr, rfl, _⟩ := sl_of_own intC_length hr
              clear hr HOA HOC
              by_cases hz : 0 < C.length
              · go_wp2
                go_ret
                rw [HYES.out hz]
                exact ⟨_, rfl, (by repeat (first | with_reducible (first | exact World.gained_refl _ | exact ⟨_, rfl⟩ | apply gain_ext | apply gain_alloc | apply gain_drewN | apply gain_drew) | (refine gain_setCell ?_ (by first | exact Nat.le_refl _ | exact World.size_ext _ _ | (simp; done) | (simp; omega)) _))), own_base HR.out hbase⟩
              · go_wp2
                go_roundw
                case rel => exact ⟨k + 1, by omega, by go_num, HNO.out hz, (by repeat (first | with_reducible (first | exact World.gained_refl _ | exact ⟨_, rfl⟩ | apply gain_ext | apply gain_alloc | apply gain_drewN | apply gain_drew) | (refine gain_setCell ?_ (by first | exact Nat.le_refl _ | exact World.size_ext _ _ | (simp; done) | (simp; omega)) _)))⟩
                case measure => simp [intOf]; omega
          · have ht := tieB_nil clubs l k hp
            have hCF := Lib.hid (show cleanF clubs (clean clubs m) l k = clean clubs m (l ++ [(k : Int)]) by rw [cleanF, hh, ht]; rfl)
            rw [hCF.out] at HNO HYES
            generalize clean clubs m (l ++ [(k : Int)]) = C at IH HNO HYES
            clear hh ht hCF
            go_wp2
            refine wp_region_gain (by kernel_rfl) (by kernel_rfl) ?_
            repeat (first | go_big_quiet_skip | (go_big_quiet_want; go_big_quiet_op; first | go_big_quiet_on | ((apply Exists.intro); (refine ⟨fun _ => ?_, ?_⟩); (· (go_at_call 129; exact Calls.gain (HC.out _ _ (by with_reducible (repeat (first | exact hs2.out | refine World.sl_ext intC_length ?_ _ | refine sl_alloc intC_length ?_ _ | refine sl_drew ?_)))))); (go_big_quiet_on))))
            refine wpQuiet_nil ?_
            rintro _ ⟨d', rfl⟩
            go_wp2_with fail
            refine (l1Own_any _ l _ (by with_reducible (repeat (first | exact hs2.out | refine World.sl_ext intC_length ?_ _ | refine sl_alloc intC_length ?_ _ | refine sl_drew ?_))) (by omega)).mono ?_
            rintro e w1 ⟨vc, rfl, ⟨dc, rfl⟩, hoc⟩
            have HOC := Lib.hid hoc
            clear hoc
            go_wp2_with (at_builtin; go_must (refine wpList_append_gain (m := [(k : Int)]) rfl (.tmp 45) (.tmp 47) rfl Try.underlying34 info_int (by rfl) (by omega) intC_length intC_one (by omega) (gain_alloc (⟨_, rfl⟩) _) (Nat.le_refl _) (gain_size (gain_alloc (⟨_, rfl⟩) _)) rfl rfl (own_alloc (HOC.out) _) (sl_lit (l := [(k : Int)]) intC_length rfl (by simp)) (by simp; omega) ?_); intro v' d' ho hg)
            have HOA := Lib.hid ho
            clear ho hg
            go_wp2_with fail
            refine (IH.out _ _ w.heap.size _ (by with_reducible (repeat (first | exact hs.out | refine World.sl_ext intC_length ?_ _ | refine sl_alloc intC_length ?_ _ | refine sl_drew ?_))) (gain_size (by repeat (first | with_reducible (first | exact World.gained_refl _ | exact ⟨_, rfl⟩ | apply gain_ext | apply gain_alloc | apply gain_drewN | apply gain_drew) | (refine gain_setCell ?_ (by first | exact Nat.le_refl _ | exact World.size_ext _ _ | (simp; done) | (simp; omega)) _)))) (own_base HOA.out (gain_size (by repeat (first | with_reducible (first | exact World.gained_refl _ | exact ⟨_, rfl⟩ | apply gain_ext | apply gain_alloc | apply gain_drewN | apply gain_drew) | (refine gain_setCell ?_ (by first | exact Nat.le_refl _ | exact World.size_ext _ _ | (simp; done) | (simp; omega)) _)))))).mono ?_
            rintro e w1 ⟨r, rfl, ⟨d3, rfl⟩, hr⟩
            have HR := Lib.hid hr
            obtain ⟨pr, cr, rfl, _⟩ := sl_of_own intC_length hr
            clear hr HOA HOC
            by_cases hz : 0 < C.length
            · go_wp2
              go_ret
              rw [HYES.out hz]
              exact ⟨_, rfl, (by repeat (first | with_reducible (first | exact World.gained_refl _ | exact ⟨_, rfl⟩ | apply gain_ext | apply gain_alloc | apply gain_drewN | apply gain_drew) | (refine gain_setCell ?_ (by first | exact Nat.le_refl _ | exact World.size_ext _ _ | (simp; done) | (simp; omega)) _))), own_base HR.out hbase⟩
            · go_wp2
              go_roundw
              case rel => exact ⟨k + 1, by omega, by go_num, HNO.out hz, (by repeat (first | with_reducible (first | exact World.gained_refl _ | exact ⟨_, rfl⟩ | apply gain_ext | apply gain_alloc | apply gain_drewN | apply gain_drew) | (refine gain_setCell ?_ (by first | exact Nat.le_refl _ | exact World.size_ext _ _ | (simp; done) | (simp; omega)) _)))⟩
              case measure => simp [intOf]; omega
      · have HE := Lib.hid (show clean clubs (m + 1) l = [] by rw [HF.out, show k = clubs.length by omega]; exact firstN_end)
        go_wp2
        go_ret
        rw [HE.out]
        exact ⟨_, rfl, (by repeat (first | with_reducible (first | exact World.gained_refl _ | exact ⟨_, rfl⟩ | apply gain_ext | apply gain_alloc | apply gain_drewN | apply gain_drew) | (refine gain_setCell ?_ (by first | exact Nat.le_refl _ | exact World.size_ext _ _ | (simp; done) | (simp; omega)) _))), own_base (own_lit' (l := ([] : List Int)) intC_length rfl rfl (gain_size (by repeat (first | with_reducible (first | exact World.gained_refl _ | exact ⟨_, rfl⟩ | apply gain_ext | apply gain_alloc | apply gain_drewN | apply gain_drew) | (refine gain_setCell ?_ (by first | exact Nat.le_refl _ | exact World.size_ext _ _ | (simp; done) | (simp; omega)) _))))) hbase⟩
set_option maxHeartbeats 1000000 in
theorem cleanStartList_any (v : Value) (l : List Int) (w : World) (h : w.sl intC 1 v l) (hl : l.length ≤ 1048576) :
    Calls Try.prog 57 #[v] w fun x w' => ∃ r, x = .returned (.tuple #[r, .bool (cleanB l)]) ∧ (∃ d, w' = w.ext d) ∧ w'.own w.heap.size 3 intC 1 r (cleanL l) := by
  have hs := Lib.hid h
  obtain ⟨p, c, rfl, _⟩ := h
  cases hc : clubsB l with
  | false =>
    have e1 := Lib.hid (show cleanL l = [] by simp [cleanL, hc])
    have e2 := Lib.hid (show cleanB l = false by simp [cleanB, cleanL, hc])
    have HG : Hid (∀ v w, World.sl w intC 1 v l → Calls Try.prog 115 #[v] w fun x w' => x = .returned (.bool false) ∧ ∃ d, w' = w.ext d) := Lib.hid (fun v w hw => by have := areClubs_any v l w hw hl; rwa [hc] at this)
    clear hc
    go_enter Try.func57, Try.ntmps57
    go_wp2_with (go_at_call 115; refine (HG.out _ _ hs.out).mono ?_; rintro e w1 ⟨rfl, d1, rfl⟩)
    go_ret2
    rw [e1.out, e2.out]
    exact ⟨_, rfl, (by repeat (first | with_reducible (first | exact World.gained_refl _ | exact ⟨_, rfl⟩ | apply gain_ext | apply gain_alloc | apply gain_drewN | apply gain_drew) | (refine gain_setCell ?_ (by first | exact Nat.le_refl _ | exact World.size_ext _ _ | (simp; done) | (simp; omega)) _))), own_nil _ _ _ _ _⟩
  | true =>
    have e1 := Lib.hid (show cleanL l = clean l l.length [] by simp [cleanL, hc])
    have e2 := Lib.hid (show cleanB l = decide (0 < (clean l l.length []).length) by simp [cleanB, cleanL, hc])
    have HG : Hid (∀ v w, World.sl w intC 1 v l → Calls Try.prog 115 #[v] w fun x w' => x = .returned (.bool true) ∧ ∃ d, w' = w.ext d) := Lib.hid (fun v w hw => by have := areClubs_any v l w hw hl; rwa [hc] at this)
    have h1 := (clubsB_true hc).1
    have h8 := (clubsB_true hc).2.1
    clear hc
    go_enter Try.func57, Try.ntmps57
    go_wp2_with (go_at_call 115; refine (HG.out _ _ hs.out).mono ?_; rintro e w1 ⟨rfl, d1, rfl⟩)
    refine (cleanList_any l h1 h8 l.length _ _ [] w.heap.size _ (by with_reducible (repeat (first | exact hs.out | refine World.sl_ext intC_length ?_ _ | refine sl_alloc intC_length ?_ _ | refine sl_drew ?_))) (gain_size (by repeat (first | with_reducible (first | exact World.gained_refl _ | exact ⟨_, rfl⟩ | apply gain_ext | apply gain_alloc | apply gain_drewN | apply gain_drew) | (refine gain_setCell ?_ (by first | exact Nat.le_refl _ | exact World.size_ext _ _ | (simp; done) | (simp; omega)) _)))) (own_lit' (l := ([] : List Int)) intC_length rfl rfl (gain_size (by repeat (first | with_reducible (first | exact World.gained_refl _ | exact ⟨_, rfl⟩ | apply gain_ext | apply gain_alloc | apply gain_drewN | apply gain_drew) | (refine gain_setCell ?_ (by first | exact Nat.le_refl _ | exact World.size_ext _ _ | (simp; done) | (simp; omega)) _))))) (by simp) (by simp)).mono ?_
    rintro e w1 ⟨r, rfl, ⟨d2, rfl⟩, hr⟩
    have HR := Lib.hid hr
    skip
    clear hr
    go_wp2
    go_ret2
    rw [e1.out, e2.out]
    exact ⟨_, rfl, (by repeat (first | with_reducible (first | exact World.gained_refl _ | exact ⟨_, rfl⟩ | apply gain_ext | apply gain_alloc | apply gain_drewN | apply gain_drew) | (refine gain_setCell ?_ (by first | exact Nat.le_refl _ | exact World.size_ext _ _ | (simp; done) | (simp; omega)) _))), HR.out⟩
set_option maxHeartbeats 1000000 in
theorem specCleanStartList_any (v : Value) (l : List Int) (w : World) (h : w.sl intC 1 v l) (hl : l.length ≤ 1048576) :
    Calls Try.prog 58 #[v] w fun x w' => ∃ r, x = .returned (.tuple #[r, .bool (cleanB l)]) ∧ (∃ d, w' = w.ext d) ∧ w'.own w.heap.size 3 intC 1 r (cleanL l) := by
  have hs := Lib.hid h
  obtain ⟨p, c, rfl, _⟩ := h
  cases hc : clubsB l with
  | false =>
    have e1 := Lib.hid (show cleanL l = [] by simp [cleanL, hc])
    have e2 := Lib.hid (show cleanB l = false by simp [cleanB, cleanL, hc])
    have HG : Hid (∀ v w, World.sl w intC 1 v l → Calls Try.prog 120 #[v] w fun x w' => x = .returned (.bool false) ∧ ∃ d, w' = w.ext d) := Lib.hid (fun v w hw => by have := l10Clubs_any v l w hw hl; rwa [hc] at this)
    clear hc
    go_enter Try.func58, Try.ntmps58
    go_wp2_with (go_at_call 120; refine (HG.out _ _ hs.out).mono ?_; rintro e w1 ⟨rfl, d1, rfl⟩)
    go_ret2
    rw [e1.out, e2.out]
    exact ⟨_, rfl, (by repeat (first | with_reducible (first | exact World.gained_refl _ | exact ⟨_, rfl⟩ | apply gain_ext | apply gain_alloc | apply gain_drewN | apply gain_drew) | (refine gain_setCell ?_ (by first | exact Nat.le_refl _ | exact World.size_ext _ _ | (simp; done) | (simp; omega)) _))), own_lit' (l := ([] : List Int)) intC_length rfl rfl (gain_size (by repeat (first | with_reducible (first | exact World.gained_refl _ | exact ⟨_, rfl⟩ | apply gain_ext | apply gain_alloc | apply gain_drewN | apply gain_drew) | (refine gain_setCell ?_ (by first | exact Nat.le_refl _ | exact World.size_ext _ _ | (simp; done) | (simp; omega)) _))))⟩
  | true =>
    have e1 := Lib.hid (show cleanL l = clean l l.length [] by simp [cleanL, hc])
    have e2 := Lib.hid (show cleanB l = decide (0 < (clean l l.length []).length) by simp [cleanB, cleanL, hc])
    have HG : Hid (∀ v w, World.sl w intC 1 v l → Calls Try.prog 120 #[v] w fun x w' => x = .returned (.bool true) ∧ ∃ d, w' = w.ext d) := Lib.hid (fun v w hw => by have := l10Clubs_any v l w hw hl; rwa [hc] at this)
    have h1 := (clubsB_true hc).1
    have h8 := (clubsB_true hc).2.1
    clear hc
    go_enter Try.func58, Try.ntmps58
    go_wp2_with (go_at_call 120; refine (HG.out _ _ hs.out).mono ?_; rintro e w1 ⟨rfl, d1, rfl⟩)
    refine (l10Clean_any l h1 h8 l.length _ _ [] w.heap.size _ (by with_reducible (repeat (first | exact hs.out | refine World.sl_ext intC_length ?_ _ | refine sl_alloc intC_length ?_ _ | refine sl_drew ?_))) (gain_size (by repeat (first | with_reducible (first | exact World.gained_refl _ | exact ⟨_, rfl⟩ | apply gain_ext | apply gain_alloc | apply gain_drewN | apply gain_drew) | (refine gain_setCell ?_ (by first | exact Nat.le_refl _ | exact World.size_ext _ _ | (simp; done) | (simp; omega)) _)))) (own_lit' (l := ([] : List Int)) intC_length rfl rfl (gain_size (by repeat (first | with_reducible (first | exact World.gained_refl _ | exact ⟨_, rfl⟩ | apply gain_ext | apply gain_alloc | apply gain_drewN | apply gain_drew) | (refine gain_setCell ?_ (by first | exact Nat.le_refl _ | exact World.size_ext _ _ | (simp; done) | (simp; omega)) _))))) (by simp) (by simp)).mono ?_
    rintro e w1 ⟨r, rfl, ⟨d2, rfl⟩, hr⟩
    have HR := Lib.hid hr
    obtain ⟨pr, cr, rfl, _⟩ := sl_of_own intC_length hr
    clear hr
    go_wp2
    go_ret2
    rw [e1.out, e2.out]
    exact ⟨_, rfl, (by repeat (first | with_reducible (first | exact World.gained_refl _ | exact ⟨_, rfl⟩ | apply gain_ext | apply gain_alloc | apply gain_drewN | apply gain_drew) | (refine gain_setCell ?_ (by first | exact Nat.le_refl _ | exact World.size_ext _ _ | (simp; done) | (simp; omega)) _))), HR.out⟩
end Go.Proofs.Ytbghmkjjooiikaa
