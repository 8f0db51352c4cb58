/- Best routes and routes: what FnRoutes asks, in plain Lean. No condition. -/
import Derived.Test.YtfpobghllfoijaaPDet
namespace Go.Ori
theorem goB_of {m : Mp} {A B : Nat} (hm : mapB m = true) (a1 : A < m.cost.length) (a2 : 0 < costAt m A) (b1 : B < m.cost.length) (b2 : 0 < costAt m B) (h : timeB m A B < 1073741824) : goB m A B = true := by
  simp only [goB, openB_of hm a1 a2, openB_of hm b1 b2, Int.toNat_natCast, Bool.and_self, Bool.true_and, decide_eq_true_eq]
  exact h
/-- (P4) A part of a best route has the least time, too. -/
theorem best_facts {m : Mp} {a b : Int} (h : goB m a b = true) : rtimeI m (bestL m a b) = leastI m a b ∧ routeB m (bestL m a b) = true ∧ mapB m = true ∧ 0 < (bestL m a b).length ∧ (bestL m a b).length ≤ 36 ∧
    ∀ c ∈ bestL m a b, goB m a c = true ∧ goB m c b = true ∧ leastI m a c + leastI m c b = leastI m a b ∧ crossT m a b c = true ∧ crossB m a b c = true ∧ (0 ≤ leastI m a c ∧ leastI m a c ≤ 945) ∧ (0 ≤ leastI m c b ∧ leastI m c b ≤ 945) := by
  have h' := h
  obtain ⟨A, B, rfl, rfl, a1, a2, b1, b2, hi, hmb⟩ := goB_true h
  obtain ⟨W, H, hm⟩ := mapB_ok hmb
  have eL : leastI m A B = timeB m A B := by rw [leastI, if_pos h']; rfl
  have eB : bestL m A B = (routeL m A B).map (fun k : Nat => (k : Int)) := by rw [bestL, if_pos h']; rfl
  obtain ⟨t1, t2⟩ := route_time hm a1 a2 b1 hi hmb
  have hrt := route_rt hm a1 a2 b1 hi
  rw [eB, eL]
  refine ⟨t1, t2, hmb, by rw [List.length_map]; exact hrt.pos, by rw [List.length_map]; exact rt_len hm hrt, fun c hc => ?_⟩
  obtain ⟨C, hC, rfl⟩ := List.mem_map.1 hc
  obtain ⟨c1, c2, c3, c4, c5⟩ := route_mid hm a1 a2 b1 hi hC
  have g1 := goB_of hmb a1 a2 c1 c2 c3
  have g2 := goB_of hmb c1 c2 b1 b2 c4
  have e1 : leastI m A C = timeB m A C := by rw [leastI, if_pos g1]; rfl
  have e2 : leastI m C B = timeB m C B := by rw [leastI, if_pos g2]; rfl
  have q1 := time_bd hm c1 a1 c3
  have q2 := time_bd hm b1 c1 c4
  have oA := openB_of hmb a1 a2
  have oB := openB_of hmb b1 b2
  have oC := openB_of hmb c1 c2
  have hT : crossT m A B C = true := by
    simp only [crossT, oA, oB, oC, Bool.and_self, Bool.true_and, Int.toNat_natCast, decide_eq_true_eq]
    exact hi
  have hD : detB m A C B = true := by
    simp only [detB, oA, oB, oC, Bool.and_self, Bool.true_and, Int.toNat_natCast, Bool.and_eq_true, decide_eq_true_eq]
    exact ⟨c3, c4⟩
  have hI : detI m A C B = 0 := by
    rw [detI, if_pos hD]
    simp only [Int.toNat_natCast]
    omega
  rw [e1, e2]
  exact ⟨g1, g2, c5, hT, by rw [crossB, hT, hD, hI]; rfl, q1, q2⟩
/-- (P4) No route takes less than the least time. -/
theorem short_facts {m : Mp} {l : List Int} (h : routeB m l = true) (h0 : 0 < l.length) : goB m (l[0]) (l[l.length - 1]) = true ∧ leastI m (l[0]) (l[l.length - 1]) ≤ rtimeI m l := by
  have hmb : mapB m = true := by rw [routeB, Bool.and_eq_true] at h; exact h.1
  obtain ⟨W, H, hm⟩ := mapB_ok hmb
  have h' := h
  obtain ⟨r, rfl, hrt⟩ := routeB_true h
  have hp := hrt.pos
  obtain ⟨q1, q2⟩ := route_least hm hrt (r.length - 1) 0 hp (by omega)
  rw [stepsF_one] at q1
  have c0 := hrt.cell _ (List.getElem_mem hp)
  have c1 := hrt.cell _ (List.getElem_mem (show r.length - 1 < r.length by omega))
  have g := goB_of hmb c0.1 c0.2 c1.1 c1.2 q2
  have e0 : (r.map fun k : Nat => (k : Int))[0]'(by rw [List.length_map]; exact hp) = ((r[0] : Nat) : Int) := by simp
  have e1 : (r.map fun k : Nat => (k : Int))[(r.map fun k : Nat => (k : Int)).length - 1]'(by rw [List.length_map]; omega) = ((r[r.length - 1]'(by omega) : Nat) : Int) := by simp
  rw [e0, e1]
  refine ⟨g, ?_⟩
  rw [leastI, if_pos g, rtimeI, if_pos h', List.length_map]
  simp only [Int.toNat_natCast]
  omega
theorem climb_nn (m : Mp) (l : List Int) : 0 ≤ climbI m l := by
  unfold climbI
  split
  · rename_i h
    have hmb : mapB m = true := by rw [routeB, Bool.and_eq_true] at h; exact h.1
    obtain ⟨W, H, hm⟩ := mapB_ok hmb
    exact (stepsF_bd (f := climbZ m) (l := l) (B := 9) (by omega) (fun x y => climbZ_le hm x y) l.length).1
  · omega
theorem route_pos {m : Mp} {l : List Int} (h : routeB m l = true) : 0 < l.length := by
  obtain ⟨r, rfl, hrt⟩ := routeB_true h
  rw [List.length_map]
  exact hrt.pos
end Go.Ori
