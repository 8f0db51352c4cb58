/- Texts laid together: impl.DoesAdmit, spec.DoesAdmit. Condition: strings of at most 1048576 bytes.; Class lists: plain law. No condition. -/
import Derived.Test.YtfenempljjenpaaG16
import Derived.Test.YtfenempljjenpaaG17
import Derived.Test.YtfenempljjenpaaG19
/- impl.DoesAdmit, spec.DoesAdmit. Condition: strings of at most 1048576 bytes. -/
namespace Go.Ori
theorem runnerB_born {r : Runner} (h : runnerB r = true) : 1920 ≤ r.born ∧ r.born ≤ 2020 := by
  simp only [runnerB, Bool.and_eq_true, insB_true] at h
  exact h.1.2
def doesB (c : Cls) (r : Runner) : Bool := classB c && runnerB r
end Go.Ori
namespace Go.Proofs.Ytfenempljjenpaa
open Go.RowKit Go.Ori
set_option maxHeartbeats 1000000 in
theorem doesAdmit_any (c : Cls) (r : Runner) (w : World) (hn : c.name.size ≤ 1048576) (hm : r.name.size ≤ 1048576) (hk : r.club.size ≤ 1048576) :
    Calls Try.prog 9 #[.agg #[.int .i64 c.id, .string c.name, .int .i64 c.low, .int .i64 c.high, .bool c.women, .bool c.men, .int .i64 c.course, .int .i64 c.most], .agg #[.int .i64 r.id, .string r.name, .string r.club, .int .i64 r.born, .bool r.woman, .int .i64 r.card]] w fun x w' => x = .returned (.tuple #[.bool (doesB c r && admitB c r), .bool (doesB c r)]) ∧ ∃ d, w' = w.ext d := by
  skip
  cases hc : classB c with
  | false =>
    have HE := Lib.hid (show doesB c r = false by rw [doesB, hc]; rfl)
    go_enter Try.func9, Try.ntmps9
    go_wp2_with (first | (go_at_call 28; refine (isClass_any c _ hn).mono ?_; rintro e w1 ⟨rfl, d1, rfl⟩) | (go_at_call 29; refine (isRunner_any r _ hm hk).mono ?_; rintro e w1 ⟨rfl, d1, rfl⟩))
    go_ret2
    rw [HE.out]
    exact ⟨rfl, (by repeat (first | with_reducible (first | exact World.gained_refl _ | exact ⟨_, rfl⟩ | apply gain_ext | apply gain_alloc | apply gain_drewN | apply gain_drew) | (refine gain_setCell ?_ (by first | exact Nat.le_refl _ | exact World.size_ext _ _ | (simp; done) | (simp; omega)) _)))⟩
  | true =>
  cases hr : runnerB r with
  | false =>
    have HE := Lib.hid (show doesB c r = false by rw [doesB, hr, Bool.and_false])
    go_enter Try.func9, Try.ntmps9
    go_wp2_with (first | (go_at_call 28; refine (isClass_any c _ hn).mono ?_; rintro e w1 ⟨rfl, d1, rfl⟩) | (go_at_call 29; refine (isRunner_any r _ hm hk).mono ?_; rintro e w1 ⟨rfl, d1, rfl⟩))
    go_ret2
    rw [HE.out]
    exact ⟨rfl, (by repeat (first | with_reducible (first | exact World.gained_refl _ | exact ⟨_, rfl⟩ | apply gain_ext | apply gain_alloc | apply gain_drewN | apply gain_drew) | (refine gain_setCell ?_ (by first | exact Nat.le_refl _ | exact World.size_ext _ _ | (simp; done) | (simp; omega)) _)))⟩
  | true =>
    have HE := Lib.hid (show doesB c r = true by rw [doesB, hc, hr]; rfl)
    have hb := runnerB_born hr
    go_enter Try.func9, Try.ntmps9
    go_wp2_with (first | (go_at_call 28; refine (isClass_any c _ hn).mono ?_; rintro e w1 ⟨rfl, d1, rfl⟩) | (go_at_call 29; refine (isRunner_any r _ hm hk).mono ?_; rintro e w1 ⟨rfl, d1, rfl⟩) | (go_at_call 30; refine (admits_any c r _ hb).mono ?_; rintro e w1 ⟨rfl, d1, rfl⟩))
    go_ret2
    rw [HE.out]
    exact ⟨rfl, (by repeat (first | with_reducible (first | exact World.gained_refl _ | exact ⟨_, rfl⟩ | apply gain_ext | apply gain_alloc | apply gain_drewN | apply gain_drew) | (refine gain_setCell ?_ (by first | exact Nat.le_refl _ | exact World.size_ext _ _ | (simp; done) | (simp; omega)) _)))⟩
end Go.Proofs.Ytfenempljjenpaa
/- Class lists: plain law. No condition. -/
namespace Go.Ori
theorem pickO_mem {p : Cls → Bool} {l : List Cls} (h : pickO p l ≠ 0) : ∃ c ∈ l, p c = true ∧ c.id = pickO p l := by
  unfold pickO at h ⊢
  cases hf : l.find? p with
  | none => rw [hf] at h; exact absurd rfl h
  | some a => exact ⟨a, List.mem_of_find?_eq_some hf, List.find?_some hf, rfl⟩
theorem pickO_zero {p : Cls → Bool} {l : List Cls} (hi : ∀ c ∈ l, c.id ≠ 0) (h : pickO p l = 0) : ∀ c ∈ l, p c = false := by
  unfold pickO at h
  cases hf : l.find? p with
  | none => intro c hc; simpa using List.find?_eq_none.1 hf c hc
  | some a =>
    rw [hf] at h
    exact absurd h (hi a (List.mem_of_find?_eq_some hf))
theorem id_inj {l : List Cls} (h : clssB l = true) {c c' : Cls} (hc : c ∈ l) (hc' : c' ∈ l) (e : c.id = c'.id) : c = c' := by
  obtain ⟨i, hi, rfl⟩ := List.getElem_of_mem hc
  obtain ⟨j, hj, rfl⟩ := List.getElem_of_mem hc'
  have hp := List.pairwise_iff_getElem.1 (clss_rise h)
  rcases Nat.lt_trichotomy i j with h1 | h1 | h1
  · have := hp i j hi hj h1; omega
  · subst h1; rfl
  · have := hp j i hj hi h1; omega
theorem clss_mem {l : List Cls} (h : clssB l = true) {c : Cls} (hc : c ∈ l) : classB c = true := by
  obtain ⟨k, hk, rfl⟩ := List.getElem_of_mem hc
  exact clssB_at h hk
theorem fill_sum {l : List Cls} {rs : List Runner} (h : clssB l = true) : ∀ k, k ≤ rs.length → ∀ c ∈ l, (cntO (fillN l rs k) c.id : Int) ≤ c.most
  | 0, _, c, hc => by
    have := cls_id (clss_mem h hc)
    simp only [fillN, cntO, List.filter_nil, List.length_nil]
    omega
  | k + 1, hk, c, hc => by
    have ih := fill_sum (rs := rs) h k (by omega) c hc
    rw [fillN_succ (l := l) (rs := rs) (k := k) (show k < rs.length by omega), cntO_snoc]
    have hid := cls_id (clss_mem h hc)
    by_cases e : pickO (takeB (fillN l rs k) rs[k]) l = c.id
    · rw [if_pos e]
      obtain ⟨c', hc', hp, he⟩ := pickO_mem (p := takeB (fillN l rs k) rs[k]) (l := l) (by omega)
      obtain rfl := id_inj h hc' hc (by omega)
      simp only [takeB, roomB, Bool.and_eq_true, decide_eq_true_eq] at hp
      omega
    · rw [if_neg e]
      omega
theorem fillN_take (l : List Cls) (rs : List Runner) : ∀ (n i : Nat), i ≤ n → ∃ t, fillN l rs n = fillN l rs i ++ t
  | 0, i, h => by
    obtain rfl : i = 0 := by omega
    exact ⟨[], by simp⟩
  | n + 1, i, h => by
    rcases Nat.lt_or_ge i (n + 1) with e | e
    · obtain ⟨t, ht⟩ := fillN_take l rs n i (by omega)
      exact ⟨t ++ [match rs[n]? with | some r => pickO (takeB (fillN l rs n) r) l | none => 0], by rw [← List.append_assoc, ← ht]; rfl⟩
    · obtain rfl : i = n + 1 := by omega
      exact ⟨[], by simp⟩
theorem fillN_at {l : List Cls} {rs : List Runner} {n i : Nat} (hn : n ≤ rs.length) (hi : i < n) (hF : i < (fillN l rs n).length) : (fillN l rs n)[i] = pickO (takeB (fillN l rs i) rs[i]) l ∧ ∀ c, cntO (fillN l rs i) c ≤ cntO (fillN l rs n) c := by
  obtain ⟨t, ht⟩ := fillN_take l rs n (i + 1) (by omega)
  have hs := fillN_succ (l := l) (rs := rs) (k := i) (by omega)
  have hl := fillN_length l rs i
  constructor
  · simp only [ht, hs]
    rw [List.getElem_append_left (by simp [hl]), List.getElem_append_right (by omega)]
    simp [hl]
  · intro c
    rw [ht, hs]
    simp only [cntO, List.filter_append, List.length_append]
    omega
/-- What the law asks of a filled list. -/
theorem fill_facts {l : List Cls} {rs : List Runner} (h : fillB l rs = true) : (fillL l rs).length = rs.length ∧ ∀ (k : Nat) (hk : k < l.length), (cntO (fillL l rs) l[k].id : Int) ≤ l[k].most ∧
    ∀ (i : Nat) (hi : i < (fillL l rs).length) (hi2 : i < rs.length), doesB l[k] rs[i] = true ∧ ((fillL l rs)[i] = 0 → admitB l[k] rs[i] = true → ¬ (cntO (fillL l rs) l[k].id : Int) < l[k].most) ∧ ((fillL l rs)[i] = l[k].id → admitB l[k] rs[i] = true) := by
  have e := (fill_yes h).1
  simp only [fillB, Bool.and_eq_true] at h
  obtain ⟨hc, hr⟩ := h
  have hids : ∀ c ∈ l, c.id ≠ 0 := fun c hm => by have := cls_id (clss_mem hc hm); omega
  rw [e]
  refine ⟨fillN_length _ _ _, fun k hk => ⟨fill_sum hc rs.length (Nat.le_refl _) _ (List.getElem_mem hk), fun i hi hi2 => ?_⟩⟩
  obtain ⟨h1, h2⟩ := fillN_at (Nat.le_refl _) hi2 hi
  have hm := List.getElem_mem hk
  refine ⟨by rw [doesB, clss_mem hc hm, runsB_at hr hi2]; rfl, fun h0 ha hlt => ?_, fun h0 => ?_⟩
  · rw [h1] at h0
    have := pickO_zero hids h0 _ hm
    simp only [takeB, ha, Bool.and_true, roomB, decide_eq_false_iff_not] at this
    have := h2 l[k].id
    omega
  · rw [h1] at h0
    obtain ⟨c', hc', hp, he⟩ := pickO_mem (p := takeB (fillN l rs i) rs[i]) (l := l) (by rw [h0]; exact hids _ hm)
    have := id_inj hc hc' hm (by omega)
    rw [this] at hp
    simp only [takeB, Bool.and_eq_true] at hp
    exact hp.2
theorem cls_span {c : Cls} (h : classB c = true) : c.low ≤ c.high := by
  simp only [classB, agesB, Bool.and_eq_true, insB_true] at h
  omega
/-- The ages left out: no class is for any of them. -/
def GoodA (l : List Cls) (woman : Bool) (k : Nat) (L : List (Int × Int)) : Prop := ∀ p ∈ L, ∃ a b : Nat, p = ((a : Int), (b : Int)) ∧ a ≤ b ∧ b < k ∧ ∀ x, a ≤ x → x ≤ b → ageP l woman x = false
theorem lastA_mem {L : List (Int × Int)} (h : 0 < L.length) : lastA L ∈ L := by
  unfold lastA
  rw [List.getD_eq_getElem?_getD, List.getElem?_eq_getElem (by omega)]
  exact List.getElem_mem _
theorem ages_good (l : List Cls) (woman : Bool) : ∀ k, GoodA l woman k (agesN l woman k)
  | 0 => fun p hp => by simp [agesN] at hp
  | k + 1 => by
    have ih := ages_good l woman k
    rw [agesN]
    unfold stepA
    have up : GoodA l woman (k + 1) (agesN l woman k) := fun p hp => by
      obtain ⟨a, b, h1, h2, h3, h4⟩ := ih p hp
      exact ⟨a, b, h1, h2, by omega, h4⟩
    cases hA : ageP l woman k with
    | true => simpa using up
    | false =>
      simp only [Bool.false_eq_true, if_false]
      by_cases hg : goesA k (agesN l woman k) = true
      · rw [if_pos hg]
        simp only [goesA, Bool.and_eq_true, decide_eq_true_eq] at hg
        obtain ⟨a, b, h1, h2, h3, h4⟩ := ih _ (lastA_mem hg.1)
        intro p hp
        rcases List.mem_or_eq_of_mem_set hp with hp | rfl
        · exact up p hp
        · rw [h1] at hg ⊢
          have hb : (b : Int) = (k : Int) - 1 := hg.2
          refine ⟨a, k, rfl, by omega, by omega, fun x hx1 hx2 => ?_⟩
          rcases Nat.lt_or_ge x k with e | e
          · exact h4 x hx1 (by omega)
          · obtain rfl : x = k := by omega
            exact hA
      · rw [if_neg hg]
        intro p hp
        rcases List.mem_append.1 hp with hp | hp
        · exact up p hp
        · simp only [List.mem_singleton] at hp
          subst hp
          refine ⟨k, k, rfl, Nat.le_refl _, by omega, fun x hx1 hx2 => ?_⟩
          obtain rfl : x = k := by omega
          exact hA
theorem agesL_facts (l : List Cls) (woman : Bool) : (agesL l woman).length ≤ 121 ∧ ∀ r ∈ agesL l woman, ∃ a b : Int, r = [a, b] ∧ ∀ (k : Nat) (hk : k < l.length), ((woman && l[k].women) || (!woman && l[k].men)) = true → l[k].low ≤ b → ¬ a ≤ l[k].high := by
  cases hB : clssB l with
  | false => rw [ages_no woman hB]; simp
  | true =>
    rw [ages_yes woman hB]
    refine ⟨by rw [rowsOf_length]; exact agesN_length l woman 121, fun r hr => ?_⟩
    rw [rowsOf, List.mem_map] at hr
    obtain ⟨p, hp, rfl⟩ := hr
    obtain ⟨a, b, rfl, h2, h3, h4⟩ := ages_good l woman 121 p hp
    refine ⟨a, b, rfl, fun k hk hs h5 h6 => ?_⟩
    have hcl := cls_ages (clss_mem hB (List.getElem_mem hk))
    have hlh := cls_span (clss_mem hB (List.getElem_mem hk))
    obtain ⟨x, hx⟩ : ∃ x : Nat, (x : Int) = max (a : Int) l[k].low := ⟨(max (a : Int) l[k].low).toNat, by omega⟩
    have h7 := h4 x (by omega) (by omega)
    unfold ageP at h7
    rw [List.any_eq_false] at h7
    apply h7 l[k] (List.getElem_mem hk)
    simp only [forB, Bool.and_eq_true, insB_true]
    exact ⟨by omega, hs⟩
end Go.Ori
