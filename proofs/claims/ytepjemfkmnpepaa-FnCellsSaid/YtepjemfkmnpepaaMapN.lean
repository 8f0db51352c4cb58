/- impl.absOf, gapOf; spec.l1Most. Conditions: a valid map; cells of it. -/
import Derived.Test.YtepjemfkmnpepaaMapS
namespace Go.Proofs.Ytepjemfkmnpepaa
open Go.RowKit Go.Ori
theorem absOf_any (n : Int) (w : World) (h1 : -1000000 ≤ n) (h2 : n ≤ 1000000) : Calls Try.prog 50 #[.int .i64 n] w fun x w' => x = .returned (.int .i64 (n.natAbs : Int)) ∧ w = w' := by
  go_enter Try.func50, Try.ntmps50
  go_wp2
  all_goals go_ret
  all_goals exact ⟨ret_int (by omega), rfl⟩
theorem l1Most_any (a b : Int) (w : World) : Calls Try.prog 40 #[.int .i64 a, .int .i64 b] w fun x w' => x = .returned (.int .i64 (max a b)) ∧ w = w' := by
  by_cases h : b < a
  · have HE := Lib.hid (show max a b = a by omega)
    go_enter Try.func40, Try.ntmps40
    go_wp2
    go_ret
    rw [HE.out]
    exact ⟨rfl, rfl⟩
  · have HE := Lib.hid (show max a b = b by omega)
    go_enter Try.func40, Try.ntmps40
    go_wp2
    go_ret
    rw [HE.out]
    exact ⟨rfl, rfl⟩
theorem wrap_nat {n : Nat} (h : n ≤ 36) : wrap64 (n : Int) = n := by unfold wrap64; omega
theorem wrap_sub {x y : Nat} (h : x ≤ 36) (h' : y ≤ 36) : wrap64 ((x : Int) - (y : Int)) = (x : Int) - (y : Int) := by unfold wrap64; omega
theorem sub_bd {x y : Nat} (h : x ≤ 36) (h' : y ≤ 36) : -1000000 ≤ (x : Int) - (y : Int) ∧ (x : Int) - (y : Int) ≤ 1000000 := by omega
theorem abs_bd2 {x y : Nat} (h : x ≤ 36) (h' : y ≤ 36) : 0 ≤ (((x : Int) - (y : Int)).natAbs : Int) ∧ (((x : Int) - (y : Int)).natAbs : Int) ≤ 36 := by omega
theorem abs_bd {x y : Nat} (h : x ≤ 36) (h' : y ≤ 36) : ((x : Int) - (y : Int)).natAbs ≤ 36 := by omega
theorem gap_facts {W a b : Nat} (h1 : 1 ≤ W) (h6 : W ≤ 6) (ha : a ≤ 36) (hb : b ≤ 36) : ∃ x1 x2 y1 y2 : Nat, x1 ≤ 36 ∧ x2 ≤ 36 ∧ y1 ≤ 36 ∧ y2 ≤ 36 ∧ x1 = a % W ∧ x2 = b % W ∧ y1 = a / W ∧ y2 = b / W ∧
    (a : Int) % (W : Int) = (x1 : Int) ∧ (b : Int) % (W : Int) = (x2 : Int) ∧ wrap64 ((a : Int) / (W : Int)) = (y1 : Int) ∧ wrap64 ((b : Int) / (W : Int)) = (y2 : Int) := by
  have q1 := Nat.lt_of_lt_of_le (Nat.mod_lt a h1) h6
  have q2 := Nat.lt_of_lt_of_le (Nat.mod_lt b h1) h6
  have q3 := Nat.le_trans (Nat.div_le_self a W) ha
  have q4 := Nat.le_trans (Nat.div_le_self b W) hb
  have e3 : (a : Int) / (W : Int) = ((a / W : Nat) : Int) := rfl
  have e4 : (b : Int) / (W : Int) = ((b / W : Nat) : Int) := rfl
  exact ⟨a % W, b % W, a / W, b / W, Nat.le_trans (Nat.le_of_lt q1) (by decide), Nat.le_trans (Nat.le_of_lt q2) (by decide), q3, q4, rfl, rfl, rfl, rfl, rfl, rfl, by rw [e3]; exact wrap_nat q3, by rw [e4]; exact wrap_nat q4⟩
theorem absOf_sub {x y : Nat} {A : Int} (h : x ≤ 36) (h' : y ≤ 36) (hA : A = (((x : Int) - (y : Int)).natAbs : Int)) (w : World) : Calls Try.prog 50 #[.int .i64 (wrap64 ((x : Int) - (y : Int)))] w fun x w' => x = .returned (.int .i64 A) ∧ w = w' := by
  rw [hA, wrap_sub h h']; exact absOf_any _ w (sub_bd h h').1 (sub_bd h h').2
set_option maxHeartbeats 2000000 in
theorem gapOf_any (m : Mp) (rv cv : Value) (W H a b : Nat) (w : World) (hok : MapOk m W H) (ha : a < m.cost.length) (hb : b < m.cost.length) :
    Calls Try.prog 35 #[.agg #[.int .i64 m.wd, .int .i64 m.ht, rv, cv], .int .i64 a, .int .i64 b] w fun x w' => x = .returned (.int .i64 (gapN m.wd.toNat a b)) ∧ ∃ d, w' = w.ext d := by
  have hn := hok.n36
  have hW := hok.w1
  have hW6 := hok.w6
  obtain ⟨x1, x2, y1, y2, q1, q2, q3, q4, e1, e2, e3, e4, r1, r2, r3, r4⟩ := gap_facts hW hW6 (a := a) (b := b) (by omega) (by omega)
  obtain ⟨A1, hA1⟩ : ∃ A : Int, A = (((x1 : Int) - (x2 : Int)).natAbs : Int) := ⟨_, rfl⟩
  obtain ⟨A2, hA2⟩ : ∃ A : Int, A = (((y1 : Int) - (y2 : Int)).natAbs : Int) := ⟨_, rfl⟩
  have HE := Lib.hid (show gapN (W : Int).toNat a b = A1 + A2 by rw [hA1, hA2, e1, e2, e3, e4]; rfl)
  rw [hok.wd]
  have HA1 := Lib.hid (absOf_sub q1 q2 hA1)
  have HA2 := Lib.hid (absOf_sub q3 q4 hA2)
  obtain ⟨n1, n1'⟩ : 0 ≤ A1 ∧ A1 ≤ 36 := by rw [hA1]; exact abs_bd2 q1 q2
  obtain ⟨n2, n2'⟩ : 0 ≤ A2 ∧ A2 ≤ 36 := by rw [hA2]; exact abs_bd2 q3 q4
  clear hA1 hA2 q1 q2 q3 q4
  clear hok e1 e2 e3 e4
  go_enter Try.func35, Try.ntmps35
  go_wp2
  refine wp_region_gain (by kernel_rfl) (by kernel_rfl) ?_
  repeat (first | go_big_quiet_skip | (go_big_quiet_want; go_big_quiet_op; first | go_big_quiet_on | ((apply Exists.intro); (refine ⟨fun _ => ?_, ?_⟩); (· (first | (go_at_call 50; ((with_reducible exact Calls.gain_same (HA1.out _)))) | (go_at_call 50; ((with_reducible exact Calls.gain_same (HA2.out _)))))); (go_big_quiet_on))))
  refine wpQuiet_nil ?_
  rintro _ ⟨d', rfl⟩
  clear r1 r2 r3 r4
  go_wp2
  go_ret
  rw [HE.out]
  exact ⟨rfl, (by repeat (first | with_reducible (first | exact World.gained_refl _ | exact ⟨_, rfl⟩ | apply gain_ext | apply gain_alloc | apply gain_drewN | apply gain_drew) | (refine gain_setCell ?_ (by first | exact Nat.le_refl _ | exact World.size_ext _ _ | (simp; done) | (simp; omega)) _)))⟩
end Go.Proofs.Ytepjemfkmnpepaa
