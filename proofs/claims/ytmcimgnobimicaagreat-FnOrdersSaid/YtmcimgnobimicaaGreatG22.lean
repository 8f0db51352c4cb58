/- Texts laid together: Least times, best routes and routes: what the great laws say, in plain Lean. No condition.; Legs that begin back along the leg before; faults of a course: plain functions. No condition.; Courses: what the great laws say, in plain Lean. No condition. -/
import Derived.Test.YtmcimgnobimicaaGreatG21
/- Least times, best routes and routes: what the great laws say, in plain Lean. No condition. -/
namespace Go.Ori
theorem time_bd {m : Mp} {W H a b : Nat} (hm : MapOk m W H) (hb : b < m.cost.length) (ha : a < m.cost.length) (hi : timeB m a b < 1073741824) : 0 ≤ timeB m a b ∧ timeB m a b ≤ 945 := by
  have h := times_inv hm hb
  have h1 := h.fin a ha hi
  have h2 := finN_le (timesL m b)
  have h3 := hm.n36
  have h4 := h.len
  have h5 := h.lo a
  unfold timeB
  omega
theorem time_hi {m : Mp} {W H b : Nat} (hm : MapOk m W H) (hb : b < m.cost.length) (a : Nat) : 0 ≤ timeB m a b ∧ timeB m a b ≤ 1073741824 := ⟨(times_inv hm hb).lo a, (times_inv hm hb).hi a⟩
theorem time_self {m : Mp} {W H b : Nat} (hm : MapOk m W H) (hb : b < m.cost.length) : timeB m b b = 0 := (times_tight hm hb).at0
/-- (P4) A detour never saves time. -/
theorem time_tri' {m : Mp} {W H b y : Nat} (hm : MapOk m W H) (hb : b < m.cost.length) (hy : y < m.cost.length) (hyb : timeB m y b < 1073741824) :
    ∀ (N a : Nat), (timeB m a y).toNat ≤ N → a < m.cost.length → timeB m a y < 1073741824 → timeB m a b ≤ timeB m a y + timeB m y b := by
  have b1 := time_bd hm hb hy hyb
  have key : ∀ (N a : Nat), (∀ k, (timeB m k y).toNat < N → k < m.cost.length → timeB m k y < 1073741824 → timeB m k b ≤ timeB m k y + timeB m y b) → (timeB m a y).toNat ≤ N → a < m.cost.length → timeB m a y < 1073741824 → timeB m a b ≤ timeB m a y + timeB m y b := by
    intro N a ih hN ha hi
    by_cases e : a = y
    · subst e
      rw [time_self hm hy]
      omega
    · obtain ⟨h1, k, h2, h3, h4⟩ := (times_tight hm hy).via a ha e hi
      have hs := stepZ_le hm a k
      have hc := (next_mem.1 h2).2.1
      have h0 := (times_inv hm hy).lo k
      have hk := next_lt _ h2
      have i1 := ih k (by unfold timeB at *; omega) hk h3
      have b2 := time_bd hm hy hk h3
      have h5 := times_le hm hb ha (by omega) h2 (by unfold timeB at *; omega)
      unfold timeB at *
      omega
  intro N
  induction N with
  | zero => exact fun a => key 0 a (fun k hk => absurd hk (Nat.not_lt_zero _))
  | succ N ih => exact fun a => key (N + 1) a (fun k hk => ih k (by omega))
theorem time_tri {m : Mp} {W H a y b : Nat} (hm : MapOk m W H) (ha : a < m.cost.length) (hy : y < m.cost.length) (hb : b < m.cost.length) (h1 : timeB m a y < 1073741824) (h2 : timeB m y b < 1073741824) : timeB m a b ≤ timeB m a y + timeB m y b ∧ timeB m a b < 1073741824 := by
  have := time_tri' hm hb hy h2 _ a (Nat.le_refl _) ha h1
  have b1 := time_bd hm hy ha h1
  have b2 := time_bd hm hb hy h2
  omega
/-- A list that runs on best steps to b. -/
structure OnR (m : Mp) (b : Nat) (r : List Nat) : Prop where
  pos : 0 < r.length
  last : r.getLast? = some b
  step : ∀ (i : Nat) (h : i + 1 < r.length), timeB m r[i + 1] b + stepZ m (r[i]'(by omega)) r[i + 1] = timeB m (r[i]'(by omega)) b ∧ r[i + 1] ∈ nextL m (r[i]'(by omega))
theorem rest_on {m : Mp} {W H b : Nat} (hm : MapOk m W H) (hb : b < m.cost.length) : ∀ (N a : Nat), (timeB m a b).toNat ≤ N → a < m.cost.length → timeB m a b < 1073741824 → OnR m b (a :: restR m a b) := by
  have base : OnR m b [b] := ⟨by simp, rfl, fun i h => by simp at h⟩
  intro N
  induction N with
  | zero =>
    intro a hN ha hi
    by_cases e : a = b
    · subst e
      rw [rest_end]
      exact base
    · have := hop_ok hm hb ha e hi
      have h0 := (times_inv hm hb).lo (hopN m b a)
      unfold timeB at hN
      omega
  | succ N ih =>
    intro a hN ha hi
    by_cases e : a = b
    · subst e
      rw [rest_end]
      exact base
    · obtain ⟨h1, h2, h3, h4⟩ := hop_ok hm hb ha e hi
      have h0 := (times_inv hm hb).lo (hopN m b a)
      have h5 := ih (hopN m b a) (by unfold timeB at *; omega) (next_lt _ h2) (by unfold timeB at *; omega)
      rw [rest_step hm hb ha e hi]
      refine ⟨by simp, by rw [List.getLast?_cons_cons]; exact h5.last, fun i hi => ?_⟩
      cases i with
      | zero => exact ⟨h3, h2⟩
      | succ i =>
        simp only [List.getElem_cons_succ]
        exact h5.step i (by simpa using hi)
theorem route_on {m : Mp} {W H a b : Nat} (hm : MapOk m W H) (hb : b < m.cost.length) (ha : a < m.cost.length) (hi : timeB m a b < 1073741824) : OnR m b (routeL m a b) := rest_on hm hb _ a (Nat.le_refl _) ha hi
theorem OnR.end_ {m : Mp} {b : Nat} {r : List Nat} (h : OnR m b r) : r[r.length - 1]'(by have := h.pos; omega) = b := by
  have := h.last
  rw [List.getLast?_eq_getElem?, List.getElem?_eq_getElem (by have := h.pos; omega)] at this
  exact Option.some.inj this
theorem steps_on {m : Mp} {b : Nat} {r : List Nat} (h : OnR m b r) : ∀ (k : Nat) (hk : k < r.length), stepsF (stepZ m) (r.map fun k : Nat => (k : Int)) (k + 1) + timeB m r[k] b = timeB m (r[0]'(by omega)) b
  | 0, _ => by rw [stepsF_one]; simp
  | k + 1, hk => by
    have h1 := steps_on h k (by omega)
    have h2 := (h.step k hk).1
    rw [stepsF_succ (stepZ m) (l := r.map fun k : Nat => (k : Int)) (x := r[k]) (y := r[k + 1]) (by omega) (by simpa using hk) (by simp) (by simp)]
    omega
theorem part_on {m : Mp} {W H b : Nat} {r : List Nat} (hm : MapOk m W H) (hb : b < m.cost.length) (h : OnR m b r) (hr : Rt m r) {j : Nat} (hj : j < r.length) : ∀ (d i : Nat) (hi : i < r.length), i + d = j → timeB m r[i] b < 1073741824 →
    timeB m r[i] r[j] + timeB m r[j] b ≤ timeB m r[i] b ∧ timeB m r[i] r[j] < 1073741824
  | 0, i, hi, e, hf => by
    have e2 : i = j := by omega
    subst e2
    rw [time_self hm (hr.cell _ (List.getElem_mem hi)).1]
    omega
  | d + 1, i, hi, e, hf => by
    obtain ⟨s1, s2⟩ := h.step i (by omega)
    have hc := hr.cell _ (List.getElem_mem hi)
    have hj2 := (hr.cell _ (List.getElem_mem hj)).1
    have hs := stepZ_le hm r[i] (r[i + 1]'(by omega))
    obtain ⟨i1, i2⟩ := part_on hm hb h hr hj d (i + 1) (by omega) (by omega) (by omega)
    have h5 := times_le hm hj2 hc.1 (by omega) s2 i2
    have b2 := time_bd hm hj2 (next_lt _ s2) i2
    unfold timeB at *
    omega
/-- (P4) A part of a best route has the least time, too. -/
theorem route_mid {m : Mp} {W H a b : Nat} (hm : MapOk m W H) (ha : a < m.cost.length) (h0 : 0 < costAt m a) (hb : b < m.cost.length) (hi : timeB m a b < 1073741824) {c : Nat} (hc : c ∈ routeL m a b) :
    c < m.cost.length ∧ 0 < costAt m c ∧ timeB m a c < 1073741824 ∧ timeB m c b < 1073741824 ∧ timeB m a c + timeB m c b = timeB m a b := by
  have hr := route_rt hm ha h0 hb hi
  have ho := route_on hm hb ha hi
  obtain ⟨j, hj, rfl⟩ := List.getElem_of_mem hc
  have e0 : (routeL m a b)[0]'(ho.pos) = a := rfl
  have h1 := part_on hm hb ho hr hj j 0 ho.pos (by omega) (by rw [e0]; exact hi)
  rw [e0] at h1
  have hcc := hr.cell _ (List.getElem_mem hj)
  have h2 := (time_hi hm hcc.1 a).1
  have h3 : timeB m (routeL m a b)[j] b < 1073741824 := by omega
  have h4 := time_tri hm ha hcc.1 hb h1.2 h3
  exact ⟨hcc.1, hcc.2, h1.2, h3, by omega⟩
theorem route_time {m : Mp} {W H a b : Nat} (hm : MapOk m W H) (ha : a < m.cost.length) (h0 : 0 < costAt m a) (hb : b < m.cost.length) (hi : timeB m a b < 1073741824) (hmb : mapB m = true) : rtimeI m ((routeL m a b).map fun k : Nat => (k : Int)) = timeB m a b ∧ routeB m ((routeL m a b).map fun k : Nat => (k : Int)) = true := by
  have hr := route_rt hm ha h0 hb hi
  have ho := route_on hm hb ha hi
  have hp := ho.pos
  have hB := routeB_of hmb hr
  refine ⟨?_, hB⟩
  rw [rtimeI, if_pos hB, List.length_map]
  have h1 := steps_on ho ((routeL m a b).length - 1) (by omega)
  rw [ho.end_, time_self hm hb, show (routeL m a b).length - 1 + 1 = (routeL m a b).length by omega] at h1
  have e0 : (routeL m a b)[0]'(ho.pos) = a := rfl
  rw [e0] at h1
  omega
/-- (P4) No route takes less than the least time. -/
theorem route_least {m : Mp} {W H : Nat} {r : List Nat} (hm : MapOk m W H) (hr : Rt m r) : ∀ (d i : Nat) (hi : i < r.length), i + d + 1 = r.length → stepsF (stepZ m) (r.map fun k : Nat => (k : Int)) (i + 1) + timeB m r[i] (r[r.length - 1]'(by omega)) ≤ stepsF (stepZ m) (r.map fun k : Nat => (k : Int)) r.length ∧ timeB m r[i] (r[r.length - 1]'(by omega)) < 1073741824
  | 0, i, hi, e => by
    have e2 : r.length - 1 = i := by omega
    have hc := (hr.cell _ (List.getElem_mem hi)).1
    simp only [e2]
    rw [time_self hm hc, show r.length = i + 1 by omega]
    omega
  | d + 1, i, hi, e => by
    obtain ⟨i1, i2⟩ := route_least hm hr d (i + 1) (by omega) (by omega)
    have hl := (hr.cell _ (List.getElem_mem (show r.length - 1 < r.length by omega))).1
    have hc := hr.cell _ (List.getElem_mem hi)
    have hk := hr.cell _ (List.getElem_mem (show i + 1 < r.length by omega))
    have hn : r[i + 1] ∈ nextL m r[i] := next_mem.2 ⟨hk.1, hk.2, hr.next i (by omega)⟩
    have h5 := times_le hm hl hc.1 (by omega) hn i2
    have b2 := time_bd hm hl hk.1 i2
    have hs := stepZ_le hm r[i] (r[i + 1]'(by omega))
    rw [stepsF_succ (stepZ m) (l := r.map fun k : Nat => (k : Int)) (x := r[i]) (y := r[i + 1]) (by omega) (by simp; omega) (by simp) (by simp)] at i1
    unfold timeB at *
    omega
end Go.Ori
/- Legs that begin back along the leg before; faults of a course: plain functions. No condition. -/
namespace Go.Ori
theorem code_at {l : List Ctl} {c : Int} (h : hasK l c = true) : (l[atK l c]'(atK_lt h)).code = c := by
  have := List.findIdx_getElem (xs := l) (p := fun x : Ctl => x.code == c) (w := atK_lt h)
  exact eq_of_beq this
theorem cell_apart {m : Mp} {l : List Ctl} (hg : ctlsB m l = true) {i j : Nat} (hij : i < j) (hj : j < l.length) : (l[i]'(by omega)).cell ≠ l[j].cell := by
  simp only [ctlsB, Bool.and_eq_true] at hg
  have := allB_iff.1 hg.2 j hj
  rw [ctlAt_eq (List.getElem?_eq_getElem hj) (List.getElem?_eq_getElem (by omega : j - 1 < l.length))] at this
  simp only [Bool.and_eq_true, Bool.not_eq_true'] at this
  have h2 := this.2
  rw [List.any_eq_false] at h2
  intro e
  exact h2 (l[i]'(by omega)) (List.mem_take_iff_getElem.2 ⟨i, by omega, rfl⟩) (by simp [e])
theorem cellN_ne {m : Mp} {l : List Ctl} {x y : Int} (hg : ctlsB m l = true) (hx : hasK l x = true) (hy : hasK l y = true) (hne : x ≠ y) : cellN l x ≠ cellN l y := by
  intro e
  have h1 := (cellK_open hg hx).1
  have h2 := (cellK_open hg hy).1
  rw [cellK_eq hx] at h1
  rw [cellK_eq hy] at h2
  have h3 : (l[atK l x]'(atK_lt hx)).cell = (l[atK l y]'(atK_lt hy)).cell := by rw [h1, h2, e]
  rcases Nat.lt_trichotomy (atK l x) (atK l y) with h | h | h
  · exact cell_apart hg h (atK_lt hy) h3
  · have a := code_at hx
    have b := code_at hy
    apply hne
    rw [← a, ← b]
    congr 2
  · exact cell_apart hg h (atK_lt hx) h3.symm
theorem legR_two {m : Mp} {W H : Nat} {l : List Ctl} {c : List Int} (hm : MapOk m W H) (hC : Crs m l c) {i : Nat} (hi : i + 1 < c.length) : 2 ≤ (legR m l c i).length := by
  have h1 : i < c.length := by omega
  have hw := hC.way i hi
  have hx := cellK_open hC.good (hC.has i h1)
  have hy := cellK_open hC.good (hC.has (i + 1) hi)
  have hne := cellN_ne hC.good (hC.has i h1) (hC.has (i + 1) hi) (hC.ne i hi)
  rw [legR, List.getD_eq_getElem?_getD, List.getD_eq_getElem?_getD, List.getElem?_eq_getElem h1, List.getElem?_eq_getElem hi, Option.getD_some, Option.getD_some]
  rw [route_eq, rest_step hm hy.2.1 hx.2.1 hne hw]
  simp
theorem if1 (p : Prop) [Decidable p] (x : Int) : (if p then [x] else []).length ≤ 1 := by split <;> simp
def backB (r1 r2 : List Nat) : Bool := r2.getD 1 0 == r1.getD (r1.length - 2) 0
def backAt (m : Mp) (l : List Ctl) (c : List Int) (k : Nat) : Bool := decide (1 ≤ k) && backB (legR m l c (k - 1)) (legR m l c k)
def backN (m : Mp) (l : List Ctl) (c : List Int) : Nat → List Int
  | 0 => []
  | k + 1 => backN m l c k ++ if backAt m l c k then [(k : Int)] else []
theorem backN_one (m : Mp) (l : List Ctl) (c : List Int) : backN m l c 1 = [] := by simp [backN, backAt]
theorem backN_length (m : Mp) (l : List Ctl) (c : List Int) : ∀ k, (backN m l c k).length ≤ k
  | 0 => by simp [backN]
  | k + 1 => by
    have := backN_length m l c k
    rw [backN, List.length_append]
    split <;> simp <;> omega
def backC (m : Mp) (l : List Ctl) (c : List Int) : List Int := if crsB m l c then backN m l c (c.length - 1) else []
theorem backC_length (m : Mp) (l : List Ctl) (c : List Int) : (backC m l c).length ≤ 1048576 := by
  unfold backC
  split
  · rename_i h
    have := (crsB_true h).hi
    have := backN_length m l c (c.length - 1)
    omega
  · simp
def faultL (m : Mp) (l : List Ctl) (c : List Int) : List Int :=
  if crsB m l c then (if c.length < 4 then [1] else []) ++ (if twiceB c then [2] else []) ++ (if (legsT m l c (c.length - 1)).any (fun x => decide (x < 3)) then [3] else []) ++ (if 0 < (backN m l c (c.length - 1)).length then [4] else []) else []
theorem faultL_length (m : Mp) (l : List Ctl) (c : List Int) : (faultL m l c).length ≤ 1048576 := by
  unfold faultL
  split
  · simp only [List.length_append]
    have q : ∀ (p : Prop) [Decidable p] (x : Int), (if p then [x] else []).length ≤ 1 := fun p _ x => by split <;> simp
    have := q (c.length < 4) 1
    have := q (twiceB c = true) 2
    have := q ((legsT m l c (c.length - 1)).any (fun x => decide (x < 3)) = true) 3
    have := q (0 < (backN m l c (c.length - 1)).length) 4
    omega
  · simp
end Go.Ori
/- Courses: what the great laws say, in plain Lean. No condition. -/
namespace Go.Ori
theorem gapN_comm (W a b : Nat) : gapN W a b = gapN W b a := by
  unfold gapN
  omega
/-- Who can go there can come back. -/
theorem time_back' {m : Mp} {W H b : Nat} (hm : MapOk m W H) (hb : b < m.cost.length) (h0 : 0 < costAt m b) : ∀ (N a : Nat), (timeB m a b).toNat ≤ N → a < m.cost.length → timeB m a b < 1073741824 → timeB m b a < 1073741824 := by
  have key : ∀ (N a : Nat), (∀ k, (timeB m k b).toNat < N → k < m.cost.length → timeB m k b < 1073741824 → timeB m b k < 1073741824) → (timeB m a b).toNat ≤ N → a < m.cost.length → timeB m a b < 1073741824 → timeB m b a < 1073741824 := by
    intro N a ih hN ha hi
    by_cases e : a = b
    · subst e; exact hi
    · obtain ⟨h1, k, h2, h3, h4⟩ := (times_tight hm hb).via a ha e hi
      have hs := stepZ_le hm a k
      have hc := (next_mem.1 h2).2.1
      have hg := (next_mem.1 h2).2.2
      have hz := (times_inv hm hb).lo k
      have hk := next_lt _ h2
      have i1 := ih k (by unfold timeB at *; omega) hk h3
      have hn : a ∈ nextL m k := next_mem.2 ⟨ha, h1, by rw [gapN_comm]; exact hg⟩
      have hs2 := stepZ_le hm k a
      have ht := time_self hm ha
      have h5 := times_le hm ha hk (by omega) hn (by unfold timeB at *; omega)
      exact (time_tri hm hb hk ha i1 (by unfold timeB at *; omega)).2
  intro N
  induction N with
  | zero => exact fun a => key 0 a (fun k hk => absurd hk (Nat.not_lt_zero _))
  | succ N ih => exact fun a => key (N + 1) a (fun k hk => ih k (by omega))
theorem time_back {m : Mp} {W H a b : Nat} (hm : MapOk m W H) (ha : a < m.cost.length) (hb : b < m.cost.length) (h0 : 0 < costAt m b) (h : timeB m a b < 1073741824) : timeB m b a < 1073741824 := time_back' hm hb h0 _ a (Nat.le_refl _) ha h
/-- A reversed course is a course. -/
theorem crs_rev {m : Mp} {l : List Ctl} {t : List Int} (h : crsB m l t = true) : crsB m l t.reverse = true := by
  have hC := crsB_true h
  obtain ⟨W, H, hm⟩ := mapB_ok (ctlsB_map hC.good)
  have h0 := h
  simp only [crsB, Bool.and_eq_true, insB_true] at h0
  simp only [crsB, Bool.and_eq_true, insB_true, List.length_reverse]
  refine ⟨h0.1, ?_⟩
  rw [allB_iff]
  intro i hi
  have e1 : t.reverse[i]? = some t[t.length - 1 - i] := by rw [List.getElem?_reverse hi, List.getElem?_eq_getElem]
  have hx := hC.has (t.length - 1 - i) (by omega)
  by_cases h1 : i = 0
  · subst h1
    rw [crsAt_eq e1 (p := t[t.length - 1 - 0]) (by simpa using e1), hx]
    simp
  · have e2 : t.reverse[i - 1]? = some (t[t.length - 1 - i + 1]'(by omega)) := by
      rw [List.getElem?_reverse (by omega), List.getElem?_eq_getElem (by omega)]
      congr 1
      congr 1
      omega
    have hp := hC.has (t.length - 1 - i + 1) (by omega)
    have hn := hC.ne (t.length - 1 - i) (by omega)
    have hw := hC.way (t.length - 1 - i) (by omega)
    obtain ⟨_, q1, q2⟩ := cellK_open hC.good hx
    obtain ⟨_, q3, q4⟩ := cellK_open hC.good hp
    have hb := time_back hm q1 q3 q4 hw
    rw [crsAt_eq e1 e2, hx, Bool.true_and]
    simp only [Bool.or_eq_true, Bool.and_eq_true, decide_eq_true_eq]
    exact .inr ⟨fun e => hn e.symm, hb⟩
theorem leg_bd {m : Mp} {l : List Ctl} {t : List Int} (h : crsB m l t = true) : ∀ x ∈ legTimesL m l t, 0 ≤ x ∧ x ≤ 1000 := by
  have hC := crsB_true h
  obtain ⟨W, H, hm⟩ := mapB_ok (ctlsB_map hC.good)
  intro x hx
  rw [legTimesL, if_pos h, legsT, List.mem_map] at hx
  obtain ⟨i, hi, rfl⟩ := hx
  rw [List.mem_range] at hi
  have h1 : i + 1 < t.length := by omega
  obtain ⟨_, q1, q2⟩ := cellK_open hC.good (hC.has i (by omega))
  obtain ⟨_, q3, q4⟩ := cellK_open hC.good (hC.has (i + 1) h1)
  have hw := timeB_bd hm q1 q3 (hC.way i h1)
  simp only [legT, List.getD_eq_getElem?_getD, List.getElem?_eq_getElem h1, List.getElem?_eq_getElem (by omega : i < t.length), Option.getD_some]
  omega
theorem legTimes_len {m : Mp} {l : List Ctl} {t : List Int} (h : crsB m l t = true) : ((legTimesL m l t).length : Int) = (t.length : Int) - 1 := by
  have hC := (crsB_true h).lo
  rw [legTimesL, if_pos h, legsT_length]
  omega
theorem fault_has {m : Mp} {l : List Ctl} {t : List Int} (h : crsB m l t = true) : hasB (faultL m l t) 4 = decide (0 < (backN m l t (t.length - 1)).length) ∧ hasB (faultL m l t) 1 = decide (t.length < 4) := by
  rw [faultL, if_pos h]
  generalize twiceB t = A
  generalize (legsT m l t (t.length - 1)).any (fun x => decide (x < 3)) = B
  generalize (backN m l t (t.length - 1)).length = n
  by_cases h1 : t.length < 4 <;> by_cases h2 : 0 < n <;> cases A <;> cases B <;> simp [hasB, h1, h2]
theorem climb_ge (m : Mp) (l : List Ctl) (t : List Int) : 0 ≤ climbC m l t := by
  unfold climbC
  split
  · rename_i h
    have hC := crsB_true h
    obtain ⟨W, H, hm⟩ := mapB_ok (ctlsB_map hC.good)
    have := hC.lo
    exact (climbK_bd hm hC (t.length - 1) (by omega)).1
  · omega
end Go.Ori
