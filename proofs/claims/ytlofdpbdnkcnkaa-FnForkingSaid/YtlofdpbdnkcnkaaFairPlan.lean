/- impl.IsFairPlan, spec.IsFairPlan, impl.UnfairTeams, spec.UnfairTeams. Condition: a size of at most 1048576. -/
import Derived.Test.YtlofdpbdnkcnkaaFair
namespace Go.Ori
def unfL (l : List (List (List Int))) (legs forks : Int) : List Int := if planB l legs forks then unfN l forks.toNat l.length else []
theorem unfL_length (l : List (List (List Int))) (legs forks : Int) (h : l.length ≤ 1048576) : (unfL l legs forks).length ≤ 1048576 := by
  unfold unfL
  split
  · exact Nat.le_trans (unfN_length _ _ _) h
  · simp
def fairI (l : List (List (List Int))) (legs forks : Int) : Bool := planB l legs forks && decide ((unfL l legs forks).length = 0)
theorem ret_bb {a b c : Bool} (h : a = b) : Ending.returned (.tuple #[.bool a, .bool c]) = .returned (.tuple #[.bool b, .bool c]) := by rw [h]
theorem nil_dec (n : Nat) : ((n : Int) == 0) = decide (n = 0) := by rw [Bool.eq_iff_iff]; simp
end Go.Ori
namespace Go.Proofs.Ytlofdpbdnkcnkaa
open Go.RowKit Go.Ori
set_option maxHeartbeats 1000000 in
theorem unfairTeams_any (v : Value) (l : List (List (List Int))) (legs forks : Int) (w : World) (h : w.sl3 v l) (hT : tot3 l ≤ 1048576) :
    Calls Try.prog 12 #[v, .int .i64 legs, .int .i64 forks] w fun x w' => ∃ r, x = .returned (.tuple #[r, .bool (planB l legs forks)]) ∧ (∃ d, w' = w.ext d) ∧ w'.own w.heap.size 3 intC 1 r (unfL l legs forks) := by
  have hs := Lib.hid h
  obtain ⟨p, c, rfl⟩ := sl3_form h
  clear h
  cases hP : planB l legs forks with
  | false =>
    have HE := Lib.hid (show unfL l legs forks = [] by simp [unfL, hP])
    have HG := Lib.hid (fun W hW => isPlanOf_any (.slice p l.length c) l legs forks W hW hT)
    rw [hP] at HG
    clear hP
    go_enter Try.func12, Try.ntmps12
    go_wp2_with fail
    refine (HG.out _ (sl3_up hs.out (by repeat (first | with_reducible (first | exact World.gained_refl _ | exact ⟨_, rfl⟩ | apply gain_ext | apply gain_alloc | apply gain_drewN | apply gain_drew) | (refine gain_setCell ?_ (by first | exact Nat.le_refl _ | exact World.size_ext _ _ | (simp; done) | (simp; omega)) _))))).mono ?_
    rintro e w1 ⟨rfl, d1, rfl⟩
    go_wp2
    go_ret2
    rw [HE.out]
    exact ⟨_, rfl, (by repeat (first | with_reducible (first | exact World.gained_refl _ | exact ⟨_, rfl⟩ | apply gain_ext | apply gain_alloc | apply gain_drewN | apply gain_drew) | (refine gain_setCell ?_ (by first | exact Nat.le_refl _ | exact World.size_ext _ _ | (simp; done) | (simp; omega)) _))), own_nil _ _ _ _ _⟩
  | true =>
    have HE := Lib.hid (show unfL l legs forks = unfN l forks.toNat l.length by simp [unfL, hP])
    have HG := Lib.hid (fun W hW => isPlanOf_any (.slice p l.length c) l legs forks W hW hT)
    rw [hP] at HG
    obtain ⟨L, F, rfl, rfl, a1, a2, a3, a4, a5, hall⟩ := planB_true hP
    have HALL := Lib.hid (fun (t : Nat) (ht : t < l.length) => (⟨(hall t ht).1, fun q hq => ((hall t ht).2 q hq).1⟩ : l[t].length = L ∧ ∀ (q : Nat) (hq : q < l[t].length), l[t][q].length = F))
    clear hP hall
    go_enter Try.func12, Try.ntmps12
    go_wp2_with fail
    refine (HG.out _ (sl3_up hs.out (by repeat (first | with_reducible (first | exact World.gained_refl _ | exact ⟨_, rfl⟩ | apply gain_ext | apply gain_alloc | apply gain_drewN | apply gain_drew) | (refine gain_setCell ?_ (by first | exact Nat.le_refl _ | exact World.size_ext _ _ | (simp; done) | (simp; omega)) _))))).mono ?_
    rintro e w1 ⟨rfl, d1, rfl⟩
    go_wp2_with fail
    refine (unfairTeams_own _ l L F _ (sl3_up hs.out (by repeat (first | with_reducible (first | exact World.gained_refl _ | exact ⟨_, rfl⟩ | apply gain_ext | apply gain_alloc | apply gain_drewN | apply gain_drew) | (refine gain_setCell ?_ (by first | exact Nat.le_refl _ | exact World.size_ext _ _ | (simp; done) | (simp; omega)) _)))) a5 a2 a3 HALL.out).mono ?_
    rintro e w1 ⟨q, rfl, ⟨d2, rfl⟩, ho⟩
    go_wp2
    go_ret2
    rw [HE.out]
    exact ⟨_, rfl, (by repeat (first | with_reducible (first | exact World.gained_refl _ | exact ⟨_, rfl⟩ | apply gain_ext | apply gain_alloc | apply gain_drewN | apply gain_drew) | (refine gain_setCell ?_ (by first | exact Nat.le_refl _ | exact World.size_ext _ _ | (simp; done) | (simp; omega)) _))), own_base ho (gain_size (by repeat (first | with_reducible (first | exact World.gained_refl _ | exact ⟨_, rfl⟩ | apply gain_ext | apply gain_alloc | apply gain_drewN | apply gain_drew) | (refine gain_setCell ?_ (by first | exact Nat.le_refl _ | exact World.size_ext _ _ | (simp; done) | (simp; omega)) _))))⟩
set_option maxHeartbeats 1000000 in
theorem specUnfairTeams_any (v : Value) (l : List (List (List Int))) (legs forks : Int) (w : World) (h : w.sl3 v l) (hT : tot3 l ≤ 1048576) :
    Calls Try.prog 15 #[v, .int .i64 legs, .int .i64 forks] w fun x w' => ∃ r, x = .returned (.tuple #[r, .bool (planB l legs forks)]) ∧ (∃ d, w' = w.ext d) ∧ w'.own w.heap.size 3 intC 1 r (unfL l legs forks) := by
  have hs := Lib.hid h
  obtain ⟨p, c, rfl⟩ := sl3_form h
  clear h
  cases hP : planB l legs forks with
  | false =>
    have HE := Lib.hid (show unfL l legs forks = [] by simp [unfL, hP])
    have HG := Lib.hid (fun W hW => l9Good_any (.slice p l.length c) l legs forks W hW hT)
    rw [hP] at HG
    clear hP
    go_enter Try.func15, Try.ntmps15
    go_wp2_with fail
    refine (HG.out _ (sl3_up hs.out (by repeat (first | with_reducible (first | exact World.gained_refl _ | exact ⟨_, rfl⟩ | apply gain_ext | apply gain_alloc | apply gain_drewN | apply gain_drew) | (refine gain_setCell ?_ (by first | exact Nat.le_refl _ | exact World.size_ext _ _ | (simp; done) | (simp; omega)) _))))).mono ?_
    rintro e w1 ⟨rfl, d1, rfl⟩
    go_wp2
    go_ret2
    rw [HE.out]
    exact ⟨_, rfl, (by repeat (first | with_reducible (first | exact World.gained_refl _ | exact ⟨_, rfl⟩ | apply gain_ext | apply gain_alloc | apply gain_drewN | apply gain_drew) | (refine gain_setCell ?_ (by first | exact Nat.le_refl _ | exact World.size_ext _ _ | (simp; done) | (simp; omega)) _))), own_lit' (l := ([] : List Int)) intC_length rfl rfl (gain_size (by repeat (first | with_reducible (first | exact World.gained_refl _ | exact ⟨_, rfl⟩ | apply gain_ext | apply gain_alloc | apply gain_drewN | apply gain_drew) | (refine gain_setCell ?_ (by first | exact Nat.le_refl _ | exact World.size_ext _ _ | (simp; done) | (simp; omega)) _))))⟩
  | true =>
    have HE := Lib.hid (show unfL l legs forks = unfN l forks.toNat l.length by simp [unfL, hP])
    have HG := Lib.hid (fun W hW => l9Good_any (.slice p l.length c) l legs forks W hW hT)
    rw [hP] at HG
    obtain ⟨L, F, rfl, rfl, a1, a2, a3, a4, a5, hall⟩ := planB_true hP
    have HALL := Lib.hid (fun (t : Nat) (ht : t < l.length) => (⟨(hall t ht).1, fun q hq => ((hall t ht).2 q hq).1⟩ : l[t].length = L ∧ ∀ (q : Nat) (hq : q < l[t].length), l[t][q].length = F))
    clear hP hall
    go_enter Try.func15, Try.ntmps15
    go_wp2_with fail
    refine (HG.out _ (sl3_up hs.out (by repeat (first | with_reducible (first | exact World.gained_refl _ | exact ⟨_, rfl⟩ | apply gain_ext | apply gain_alloc | apply gain_drewN | apply gain_drew) | (refine gain_setCell ?_ (by first | exact Nat.le_refl _ | exact World.size_ext _ _ | (simp; done) | (simp; omega)) _))))).mono ?_
    rintro e w1 ⟨rfl, d1, rfl⟩
    go_wp2_with fail
    refine (l9Unfair_own _ l L F _ (sl3_up hs.out (by repeat (first | with_reducible (first | exact World.gained_refl _ | exact ⟨_, rfl⟩ | apply gain_ext | apply gain_alloc | apply gain_drewN | apply gain_drew) | (refine gain_setCell ?_ (by first | exact Nat.le_refl _ | exact World.size_ext _ _ | (simp; done) | (simp; omega)) _)))) a5 a2 a3 HALL.out).mono ?_
    rintro e w1 ⟨q, rfl, ⟨d2, rfl⟩, ho⟩
    go_wp2
    go_ret2
    rw [HE.out]
    exact ⟨_, rfl, (by repeat (first | with_reducible (first | exact World.gained_refl _ | exact ⟨_, rfl⟩ | apply gain_ext | apply gain_alloc | apply gain_drewN | apply gain_drew) | (refine gain_setCell ?_ (by first | exact Nat.le_refl _ | exact World.size_ext _ _ | (simp; done) | (simp; omega)) _))), own_base ho (gain_size (by repeat (first | with_reducible (first | exact World.gained_refl _ | exact ⟨_, rfl⟩ | apply gain_ext | apply gain_alloc | apply gain_drewN | apply gain_drew) | (refine gain_setCell ?_ (by first | exact Nat.le_refl _ | exact World.size_ext _ _ | (simp; done) | (simp; omega)) _))))⟩
set_option maxHeartbeats 1000000 in
theorem isFairPlan_any (v : Value) (l : List (List (List Int))) (legs forks : Int) (w : World) (h : w.sl3 v l) (hT : tot3 l ≤ 1048576) :
    Calls Try.prog 11 #[v, .int .i64 legs, .int .i64 forks] w fun x w' => x = .returned (.tuple #[.bool (fairI l legs forks), .bool (planB l legs forks)]) ∧ ∃ d, w' = w.ext d := by
  have hs := Lib.hid h
  obtain ⟨p, c, rfl⟩ := sl3_form h
  clear h
  cases hP : planB l legs forks with
  | false =>
    have HE := Lib.hid (show fairI l legs forks = false by simp [fairI, hP])
    have HG := Lib.hid (fun W hW => isPlanOf_any (.slice p l.length c) l legs forks W hW hT)
    rw [hP] at HG
    clear hP
    go_enter Try.func11, Try.ntmps11
    go_wp2_with fail
    refine (HG.out _ (sl3_up hs.out (by repeat (first | with_reducible (first | exact World.gained_refl _ | exact ⟨_, rfl⟩ | apply gain_ext | apply gain_alloc | apply gain_drewN | apply gain_drew) | (refine gain_setCell ?_ (by first | exact Nat.le_refl _ | exact World.size_ext _ _ | (simp; done) | (simp; omega)) _))))).mono ?_
    rintro e w1 ⟨rfl, d1, rfl⟩
    go_wp2
    go_ret2
    rw [HE.out]
    exact ⟨rfl, (by repeat (first | with_reducible (first | exact World.gained_refl _ | exact ⟨_, rfl⟩ | apply gain_ext | apply gain_alloc | apply gain_drewN | apply gain_drew) | (refine gain_setCell ?_ (by first | exact Nat.le_refl _ | exact World.size_ext _ _ | (simp; done) | (simp; omega)) _)))⟩
  | true =>
    have HE := Lib.hid (show fairI l legs forks = decide ((unfN l forks.toNat l.length).length = 0) by simp [fairI, unfL, hP])
    have HG := Lib.hid (fun W hW => isPlanOf_any (.slice p l.length c) l legs forks W hW hT)
    rw [hP] at HG
    obtain ⟨L, F, rfl, rfl, a1, a2, a3, a4, a5, hall⟩ := planB_true hP
    have HALL := Lib.hid (fun (t : Nat) (ht : t < l.length) => (⟨(hall t ht).1, fun q hq => ((hall t ht).2 q hq).1⟩ : l[t].length = L ∧ ∀ (q : Nat) (hq : q < l[t].length), l[t][q].length = F))
    clear hP hall
    go_enter Try.func11, Try.ntmps11
    go_wp2_with fail
    refine (HG.out _ (sl3_up hs.out (by repeat (first | with_reducible (first | exact World.gained_refl _ | exact ⟨_, rfl⟩ | apply gain_ext | apply gain_alloc | apply gain_drewN | apply gain_drew) | (refine gain_setCell ?_ (by first | exact Nat.le_refl _ | exact World.size_ext _ _ | (simp; done) | (simp; omega)) _))))).mono ?_
    rintro e w1 ⟨rfl, d1, rfl⟩
    go_wp2_with fail
    refine (unfairTeams_own _ l L F _ (sl3_up hs.out (by repeat (first | with_reducible (first | exact World.gained_refl _ | exact ⟨_, rfl⟩ | apply gain_ext | apply gain_alloc | apply gain_drewN | apply gain_drew) | (refine gain_setCell ?_ (by first | exact Nat.le_refl _ | exact World.size_ext _ _ | (simp; done) | (simp; omega)) _)))) a5 a2 a3 HALL.out).mono ?_
    rintro e w1 ⟨q, rfl, ⟨d2, rfl⟩, ho⟩
    have hul := unfN_length l F l.length
    obtain ⟨pq, cq, rfl, _⟩ := sl_of_own intC_length ho
    clear ho
    go_wp2
    go_ret2
    rw [HE.out]
    refine ⟨?_, (by repeat (first | with_reducible (first | exact World.gained_refl _ | exact ⟨_, rfl⟩ | apply gain_ext | apply gain_alloc | apply gain_drewN | apply gain_drew) | (refine gain_setCell ?_ (by first | exact Nat.le_refl _ | exact World.size_ext _ _ | (simp; done) | (simp; omega)) _)))⟩
    simp only [Int.toNat_natCast]
    exact ret_bb (nil_dec _)
set_option maxHeartbeats 1000000 in
theorem specIsFairPlan_any (v : Value) (l : List (List (List Int))) (legs forks : Int) (w : World) (h : w.sl3 v l) (hT : tot3 l ≤ 1048576) :
    Calls Try.prog 13 #[v, .int .i64 legs, .int .i64 forks] w fun x w' => x = .returned (.tuple #[.bool (fairI l legs forks), .bool (planB l legs forks)]) ∧ ∃ d, w' = w.ext d := by
  have hs := Lib.hid h
  obtain ⟨p, c, rfl⟩ := sl3_form h
  clear h
  cases hP : planB l legs forks with
  | false =>
    have HE := Lib.hid (show fairI l legs forks = false by simp [fairI, hP])
    have HG := Lib.hid (fun W hW => l9Good_any (.slice p l.length c) l legs forks W hW hT)
    rw [hP] at HG
    clear hP
    go_enter Try.func13, Try.ntmps13
    go_wp2_with fail
    refine (HG.out _ (sl3_up hs.out (by repeat (first | with_reducible (first | exact World.gained_refl _ | exact ⟨_, rfl⟩ | apply gain_ext | apply gain_alloc | apply gain_drewN | apply gain_drew) | (refine gain_setCell ?_ (by first | exact Nat.le_refl _ | exact World.size_ext _ _ | (simp; done) | (simp; omega)) _))))).mono ?_
    rintro e w1 ⟨rfl, d1, rfl⟩
    go_wp2
    go_ret2
    rw [HE.out]
    exact ⟨rfl, (by repeat (first | with_reducible (first | exact World.gained_refl _ | exact ⟨_, rfl⟩ | apply gain_ext | apply gain_alloc | apply gain_drewN | apply gain_drew) | (refine gain_setCell ?_ (by first | exact Nat.le_refl _ | exact World.size_ext _ _ | (simp; done) | (simp; omega)) _)))⟩
  | true =>
    have HE := Lib.hid (show fairI l legs forks = decide ((unfN l forks.toNat l.length).length = 0) by simp [fairI, unfL, hP])
    have HG := Lib.hid (fun W hW => l9Good_any (.slice p l.length c) l legs forks W hW hT)
    rw [hP] at HG
    obtain ⟨L, F, rfl, rfl, a1, a2, a3, a4, a5, hall⟩ := planB_true hP
    have HALL := Lib.hid (fun (t : Nat) (ht : t < l.length) => (⟨(hall t ht).1, fun q hq => ((hall t ht).2 q hq).1⟩ : l[t].length = L ∧ ∀ (q : Nat) (hq : q < l[t].length), l[t][q].length = F))
    clear hP hall
    go_enter Try.func13, Try.ntmps13
    go_wp2_with fail
    refine (HG.out _ (sl3_up hs.out (by repeat (first | with_reducible (first | exact World.gained_refl _ | exact ⟨_, rfl⟩ | apply gain_ext | apply gain_alloc | apply gain_drewN | apply gain_drew) | (refine gain_setCell ?_ (by first | exact Nat.le_refl _ | exact World.size_ext _ _ | (simp; done) | (simp; omega)) _))))).mono ?_
    rintro e w1 ⟨rfl, d1, rfl⟩
    go_wp2_with fail
    refine (l9Unfair_own _ l L F _ (sl3_up hs.out (by repeat (first | with_reducible (first | exact World.gained_refl _ | exact ⟨_, rfl⟩ | apply gain_ext | apply gain_alloc | apply gain_drewN | apply gain_drew) | (refine gain_setCell ?_ (by first | exact Nat.le_refl _ | exact World.size_ext _ _ | (simp; done) | (simp; omega)) _)))) a5 a2 a3 HALL.out).mono ?_
    rintro e w1 ⟨q, rfl, ⟨d2, rfl⟩, ho⟩
    have hul := unfN_length l F l.length
    obtain ⟨pq, cq, rfl, _⟩ := sl_of_own intC_length ho
    clear ho
    go_wp2
    go_ret2
    rw [HE.out]
    refine ⟨?_, (by repeat (first | with_reducible (first | exact World.gained_refl _ | exact ⟨_, rfl⟩ | apply gain_ext | apply gain_alloc | apply gain_drewN | apply gain_drew) | (refine gain_setCell ?_ (by first | exact Nat.le_refl _ | exact World.size_ext _ _ | (simp; done) | (simp; omega)) _)))⟩
    simp only [Int.toNat_natCast]
    exact ret_bb (nil_dec _)
end Go.Proofs.Ytlofdpbdnkcnkaa
