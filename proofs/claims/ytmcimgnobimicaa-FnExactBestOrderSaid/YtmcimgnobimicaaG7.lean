/- Texts laid together: Controls and courses: plain functions. No condition.; A map in memory: a struct of two numbers and two slices. No condition.; When a list of cells is a route; sums over its steps. No condition. -/
import Derived.Test.YtmcimgnobimicaaG6
import Derived.Test.YtmcimgnobimicaaG3
/- Controls and courses: plain functions. No condition. -/
namespace Go.Ori
theorem at0_le {α : Type} {l : List α} {f : α → Bool} {k : Nat} {x : α} (h : (l.take k).any f = false) (hk : k < l.length) (hx : l[k] = x) (hf : f x = true) : idxB l f = k :=
  idxB_some hk (fun j hj hjk => by
    rw [List.any_eq_false] at h
    have := h l[j] (List.mem_take_iff_getElem.2 ⟨j, by omega, rfl⟩)
    simpa using this) (by rw [hx]; exact hf)
/-- Are the controls up to the i-th valid? -/
def ctlAt (m : Mp) (l : List Ctl) (i : Nat) : Bool := match l[i]? with
  | some c => insB c.code 31 99 && openB m c.cell && (decide (i = 0) || match l[i - 1]? with | some p => decide (p.code < c.code) | none => true) && !((l.take i).any fun x => x.cell == c.cell)
  | none => true
theorem ctlAt_eq {m : Mp} {l : List Ctl} {i : Nat} {c p : Ctl} (h : l[i]? = some c) (hp : l[i - 1]? = some p) : ctlAt m l i = (insB c.code 31 99 && openB m c.cell && (decide (i = 0) || decide (p.code < c.code)) && !((l.take i).any fun x => x.cell == c.cell)) := by
  simp [ctlAt, h, hp]
def ctlsB (m : Mp) (l : List Ctl) : Bool := mapB m && decide (l.length ≤ 10) && allB l.length (ctlAt m l)
theorem ctlsB_map {m : Mp} {l : List Ctl} (h : ctlsB m l = true) : mapB m = true := by
  simp only [ctlsB, Bool.and_eq_true] at h; exact h.1.1
theorem ctlsB_len {m : Mp} {l : List Ctl} (h : ctlsB m l = true) : l.length ≤ 10 := by
  simp only [ctlsB, Bool.and_eq_true, decide_eq_true_eq] at h; exact h.1.2
theorem openB_true {m : Mp} {c : Int} (h : openB m c = true) : ∃ k : Nat, c = k ∧ k < m.cost.length ∧ 0 < costAt m k := by
  simp only [openB, cellB, Bool.and_eq_true, decide_eq_true_eq, insB_true] at h
  exact ⟨c.toNat, by omega, by omega, h.2⟩
theorem ctlsB_open {m : Mp} {l : List Ctl} (h : ctlsB m l = true) {i : Nat} (hi : i < l.length) : openB m l[i].cell = true := by
  simp only [ctlsB, Bool.and_eq_true] at h
  have := allB_iff.1 h.2 i hi
  rw [ctlAt, List.getElem?_eq_getElem hi] at this
  simp only [Bool.and_eq_true] at this
  exact this.1.1.2
/-- Where the control with a code stands. -/
def hasK (l : List Ctl) (c : Int) : Bool := l.any fun x => x.code == c
def atK (l : List Ctl) (c : Int) : Nat := l.findIdx fun x => x.code == c
def cellK (l : List Ctl) (c : Int) : Int := (l[atK l c]?.map Ctl.cell).getD 0
def cellN (l : List Ctl) (c : Int) : Nat := (cellK l c).toNat
theorem idxK_no {l : List Ctl} {c : Int} (h : hasK l c = false) : (idxB l fun e => e.code == c) = -1 := by
  unfold idxB; rw [show (l.any fun e => e.code == c) = false from h]; rfl
theorem idxK_yes {l : List Ctl} {c : Int} (h : hasK l c = true) : (idxB l fun e => e.code == c) = (atK l c : Int) := by
  unfold idxB; rw [show (l.any fun e => e.code == c) = true from h]; rfl
theorem atK_lt {l : List Ctl} {c : Int} (h : hasK l c = true) : atK l c < l.length := by
  unfold atK
  rw [List.findIdx_lt_length]
  exact List.any_eq_true.1 h
theorem cellK_eq {l : List Ctl} {c : Int} (h : hasK l c = true) : cellK l c = (l[atK l c]'(atK_lt h)).cell := by
  simp [cellK, List.getElem?_eq_getElem (atK_lt h)]
theorem cellK_open {m : Mp} {l : List Ctl} {c : Int} (hg : ctlsB m l = true) (h : hasK l c = true) : cellK l c = (cellN l c : Int) ∧ cellN l c < m.cost.length ∧ 0 < costAt m (cellN l c) := by
  obtain ⟨k, h1, h2, h3⟩ := openB_true (ctlsB_open hg (atK_lt h))
  have e : cellK l c = k := by rw [cellK_eq h]; exact h1
  have e2 : cellN l c = k := by rw [cellN, e]; rfl
  rw [e2]
  exact ⟨e, h2, h3⟩
/-- Is the course up to the i-th code valid? -/
def crsAt (m : Mp) (l : List Ctl) (c : List Int) (i : Nat) : Bool := match c[i]? with
  | some x => hasK l x && (decide (i = 0) || match c[i - 1]? with | some p => decide (p ≠ x) && decide (timeB m (cellN l p) (cellN l x) < 1073741824) | none => true)
  | none => true
theorem crsAt_eq {m : Mp} {l : List Ctl} {c : List Int} {i : Nat} {x p : Int} (h : c[i]? = some x) (hp : c[i - 1]? = some p) : crsAt m l c i = (hasK l x && (decide (i = 0) || decide (p ≠ x) && decide (timeB m (cellN l p) (cellN l x) < 1073741824))) := by
  simp [crsAt, h, hp]
def crsB (m : Mp) (l : List Ctl) (c : List Int) : Bool := ctlsB m l && insB c.length 2 8 && allB c.length (crsAt m l c)
structure Crs (m : Mp) (l : List Ctl) (c : List Int) : Prop where
  good : ctlsB m l = true
  lo : 2 ≤ c.length
  hi : c.length ≤ 8
  has : ∀ i (h : i < c.length), hasK l c[i] = true
  ne : ∀ i (h : i + 1 < c.length), c[i] ≠ c[i + 1]
  way : ∀ i (h : i + 1 < c.length), timeB m (cellN l c[i]) (cellN l c[i + 1]) < 1073741824
theorem crsB_true {m : Mp} {l : List Ctl} {c : List Int} (h : crsB m l c = true) : Crs m l c := by
  simp only [crsB, Bool.and_eq_true, insB_true] at h
  obtain ⟨⟨h1, h2⟩, h3⟩ := h
  rw [allB_iff] at h3
  have hw : ∀ i (h : i + 1 < c.length), c[i] ≠ c[i + 1] ∧ timeB m (cellN l c[i]) (cellN l c[i + 1]) < 1073741824 := fun i hi => by
    have := h3 (i + 1) hi
    rw [crsAt_eq (List.getElem?_eq_getElem hi) (p := c[i]) (by simp [List.getElem?_eq_getElem (by omega : i < c.length)])] at this
    simp only [Bool.and_eq_true, Bool.or_eq_true, decide_eq_true_eq] at this
    obtain ⟨_, h | h⟩ := this
    · omega
    · exact h
  refine ⟨h1, by omega, by omega, fun i hi => ?_, fun i hi => (hw i hi).1, fun i hi => (hw i hi).2⟩
  have := h3 i hi
  rw [crsAt, List.getElem?_eq_getElem hi] at this
  simp only [Bool.and_eq_true] at this
  exact this.1
/-- The time of the i-th leg; the times of all. -/
def legT (m : Mp) (l : List Ctl) (c : List Int) (i : Nat) : Int := timeB m (cellN l (c.getD i 0)) (cellN l (c.getD (i + 1) 0))
def legsT (m : Mp) (l : List Ctl) (c : List Int) (k : Nat) : List Int := (List.range k).map (legT m l c)
theorem legsT_succ (m : Mp) (l : List Ctl) (c : List Int) (k : Nat) : legsT m l c (k + 1) = legsT m l c k ++ [legT m l c k] := by simp [legsT, List.range_succ]
theorem legsT_length (m : Mp) (l : List Ctl) (c : List Int) (k : Nat) : (legsT m l c k).length = k := by simp [legsT]
def legTimesL (m : Mp) (l : List Ctl) (c : List Int) : List Int := if crsB m l c then legsT m l c (c.length - 1) else []
theorem timeB_bd {m : Mp} {W H a b : Nat} (hm : MapOk m W H) (ha : a < m.cost.length) (hb : b < m.cost.length) (hi : timeB m a b < 1073741824) : 0 ≤ timeB m a b ∧ timeB m a b ≤ 1000 := by
  have h := times_inv hm hb
  have h1 := h.lo a
  have h2 := h.fin a ha hi
  have h3 := finN_le (timesL m b)
  rw [h.len] at h3
  have := hm.n36
  unfold timeB at hi ⊢
  omega
end Go.Ori
/- A map in memory: a struct of two numbers and two slices. No condition. -/
namespace Go
open RowKit Go.Ori
structure World.mp (w : World) (rv cv : Value) (m : Mp) : Prop where
  r : w.sl intC 1 rv m.rise
  c : w.sl intC 1 cv m.cost
  rl : m.rise.length ≤ 1048576
  cl : m.cost.length ≤ 1048576
theorem mp_up {w w' : World} {rv cv : Value} {m : Mp} (h : w.mp rv cv m) (hg : ∃ d, w' = w.ext d) : w'.mp rv cv m := ⟨sl_up intC_length h.r hg, sl_up intC_length h.c hg, h.rl, h.cl⟩
theorem mp_form {w : World} {rv cv : Value} {m : Mp} (h : w.mp rv cv m) : ∃ p c p' c', rv = .slice p m.rise.length c ∧ cv = .slice p' m.cost.length c' := by
  obtain ⟨p, c, h1, _⟩ := h.r
  obtain ⟨p', c', h2, _⟩ := h.c
  exact ⟨p, c, p', c', h1, h2⟩
structure MpIn (w : World) (m : Mp) (rv cv : Value) (b1 o1 c1 b2 o2 c2 : Nat) : Prop where
  rv : rv = .slice (some ⟨b1, o1, none⟩) m.cost.length c1
  cv : cv = .slice (some ⟨b2, o2, none⟩) m.cost.length c2
  ro : ∀ k, k < m.cost.length → w.cell? ⟨b1, o1 + k, none⟩ = some (.int .i64 (riseAt m k))
  co : ∀ k, k < m.cost.length → w.cell? ⟨b2, o2 + k, none⟩ = some (.int .i64 (costAt m k))
  ob1 : w.oldB b1
  ob2 : w.oldB b2
theorem mp_in {w : World} {rv cv : Value} {m : Mp} {W H : Nat} (h : w.mp rv cv m) (hm : MapOk m W H) : ∃ b1 o1 c1 b2 o2 c2, MpIn w m rv cv b1 o1 c1 b2 o2 c2 := by
  have hn : 0 < W * H := Nat.mul_pos hm.w1 hm.h1
  obtain ⟨p, c1, h1, h3⟩ := h.r
  obtain ⟨p', c2, h2, h4⟩ := h.c
  have hrl := hm.rl
  have hcl := hm.cl
  obtain ⟨b1, o1, rfl, e1⟩ := h3.1 (by omega)
  obtain ⟨b2, o2, rfl, e2⟩ := h4.1 (by omega)
  have q1 : ∀ k, k < m.cost.length → w.cell? ⟨b1, o1 + k, none⟩ = some (.int .i64 (riseAt m k)) := fun k hk => by
    have := e1 k (by omega) 0 (by omega)
    simpa [intC, riseAt, List.getD_eq_getElem?_getD, List.getElem?_eq_getElem (by omega : k < m.rise.length)] using this
  have q2 : ∀ k, k < m.cost.length → w.cell? ⟨b2, o2 + k, none⟩ = some (.int .i64 (costAt m k)) := fun k hk => by
    have := e2 k (by omega) 0 (by omega)
    simpa [intC, costAt, List.getD_eq_getElem?_getD, List.getElem?_eq_getElem hk] using this
  exact ⟨b1, o1, c1, b2, o2, c2, by rw [h1, hrl, hcl], h2, q1, q2, World.oldB_of_cell (q1 0 (by omega)), World.oldB_of_cell (q2 0 (by omega))⟩
end Go
/- When a list of cells is a route; sums over its steps. No condition. -/
namespace Go.Ori
def routeAt (m : Mp) (l : List Int) (i : Nat) : Bool := match l[i]?, l[i - 1]? with
  | some x, some p => openB m x && !hasB (l.take i) x && (decide (i = 0) || decide (gapN m.wd.toNat p.toNat x.toNat = 1))
  | _, _ => true
theorem routeAt_eq {m : Mp} {l : List Int} {i : Nat} {x p : Int} (h : l[i]? = some x) (hp : l[i - 1]? = some p) : routeAt m l i = (openB m x && !hasB (l.take i) x && (decide (i = 0) || decide (gapN m.wd.toNat p.toNat x.toNat = 1))) := by
  simp [routeAt, h, hp]
/-- .. given that the map is valid. -/
def routeR (m : Mp) (l : List Int) : Bool := allB l.length (routeAt m l) && decide (0 < l.length)
def routeB (m : Mp) (l : List Int) : Bool := mapB m && routeR m l
theorem nat_of_open {m : Mp} {l : List Int} (h : ∀ x ∈ l, openB m x = true) : ∃ r : List Nat, l = r.map (fun k : Nat => (k : Int)) ∧ ∀ k ∈ r, k < m.cost.length ∧ 0 < costAt m k := by
  refine ⟨l.map Int.toNat, ?_, ?_⟩
  · rw [List.map_map]
    conv => lhs; rw [← List.map_id l]
    apply List.map_congr_left
    intro x hx
    obtain ⟨k, rfl, _⟩ := openB_true (h x hx)
    rfl
  · intro k hk
    obtain ⟨x, hx, rfl⟩ := List.mem_map.1 hk
    obtain ⟨j, rfl, h1, h2⟩ := openB_true (h x hx)
    exact ⟨h1, h2⟩
structure Rt (m : Mp) (r : List Nat) : Prop where
  pos : 0 < r.length
  cell : ∀ k ∈ r, k < m.cost.length ∧ 0 < costAt m k
  nodup : r.Nodup
  next : ∀ i (h : i + 1 < r.length), gapN m.wd.toNat (r[i]'(by omega)) r[i + 1] = 1
theorem routeB_true {m : Mp} {l : List Int} (h : routeB m l = true) : ∃ r : List Nat, l = r.map (fun k : Nat => (k : Int)) ∧ Rt m r := by
  simp only [routeB, routeR, Bool.and_eq_true, decide_eq_true_eq, allB_iff] at h
  obtain ⟨hm, ha, h0⟩ := h
  have hat : ∀ i (hi : i < l.length), openB m l[i] = true ∧ hasB (l.take i) l[i] = false ∧ (i = 0 ∨ gapN m.wd.toNat (l[i - 1]'(by omega)).toNat l[i].toNat = 1) := by
    intro i hi
    have := ha i hi
    rw [routeAt_eq (List.getElem?_eq_getElem hi) (List.getElem?_eq_getElem (by omega))] at this
    simpa [Bool.and_eq_true, and_assoc] using this
  obtain ⟨r, rfl, hr⟩ := nat_of_open (m := m) (l := l) (fun x hx => by
    obtain ⟨i, hi, rfl⟩ := List.getElem_of_mem hx
    exact (hat i hi).1)
  refine ⟨r, rfl, by simpa using h0, hr, ?_, fun i hi => ?_⟩
  · rw [List.nodup_iff_pairwise_ne, List.pairwise_iff_getElem]
    intro i j hi hj hij e
    have := (hat j (by simpa using hj)).2.1
    rw [← Bool.not_eq_true, hasB_iff] at this
    apply this
    rw [List.mem_take_iff_getElem]
    exact ⟨i, by simp; omega, by simp [e]⟩
  · have := (hat (i + 1) (by simpa using hi)).2.2
    rcases this with h | h
    · omega
    · simpa using h
theorem routeB_of {m : Mp} {r : List Nat} (hm : mapB m = true) (h : Rt m r) : routeB m (r.map fun k : Nat => (k : Int)) = true := by
  simp only [routeB, routeR, Bool.and_eq_true, decide_eq_true_eq, allB_iff]
  refine ⟨hm, fun i hi => ?_, by simpa using h.pos⟩
  have hi' : i < r.length := by simpa using hi
  rw [routeAt_eq (List.getElem?_eq_getElem hi) (List.getElem?_eq_getElem (by omega))]
  simp only [List.getElem_map, Bool.and_eq_true, Bool.or_eq_true, decide_eq_true_eq, Bool.not_eq_true', Int.toNat_natCast]
  have hc := h.cell r[i] (List.getElem_mem hi')
  refine ⟨⟨?_, ?_⟩, ?_⟩
  · simp only [openB, cellB, hm, Bool.true_and, Bool.and_eq_true, insB_true, decide_eq_true_eq, Int.toNat_natCast]
    exact ⟨by omega, hc.2⟩
  · rw [← Bool.not_eq_true, hasB_iff, ← List.map_take]
    intro hx
    obtain ⟨k, hk, e⟩ := List.mem_map.1 hx
    have e' : k = r[i] := by omega
    subst e'
    obtain ⟨j, hj, e2⟩ := List.mem_take_iff_getElem.1 hk
    have := h.nodup
    rw [List.nodup_iff_pairwise_ne, List.pairwise_iff_getElem] at this
    exact this j i (by omega) hi' (by omega) e2
  · by_cases e : i = 0
    · exact .inl e
    · right
      have := h.next (i - 1) (by omega)
      have e2 : i - 1 + 1 = i := by omega
      simp only [e2] at this
      exact this
/-- The best route is a route. -/
theorem route_rt {m : Mp} {W H a b : Nat} (hm : MapOk m W H) (ha : a < m.cost.length) (h0 : 0 < costAt m a) (hb : b < m.cost.length) (hi : timeB m a b < 1073741824) : Rt m (routeL m a b) := by
  obtain ⟨h1, h2, h3, h4⟩ := rest_chain hm hb _ a (Nat.le_refl _) ha hi
  rw [route_eq]
  refine ⟨by simp, fun k hk => ?_, ?_, fun i hi => ?_⟩
  · rcases List.mem_cons.1 hk with rfl | hk
    · exact ⟨ha, h0⟩
    · exact ⟨(h2 k hk).1, (h2 k hk).2.1⟩
  · rw [List.nodup_iff_pairwise_ne]
    exact h3.imp (fun h e => by rw [e] at h; omega)
  · exact (next_mem.1 (chain_get h4 i hi)).2.2
theorem nodup_len : ∀ (n : Nat) (l : List Nat), l.Nodup → (∀ x ∈ l, x < n) → l.length ≤ n
  | 0, [], _, _ => Nat.le_refl _
  | 0, x :: l, _, h => absurd (h x (by simp)) (Nat.not_lt_zero _)
  | n + 1, l, hd, h => by
    by_cases hm : n ∈ l
    · have h1 := nodup_len n (l.erase n) (hd.erase n) (fun x hx => by
        have h2 := (hd.mem_erase_iff).1 hx
        have := h x h2.2
        omega)
      rw [List.length_erase_of_mem hm] at h1
      omega
    · have := nodup_len n l hd (fun x hx => by
        have h2 := h x hx
        have h3 : x ≠ n := fun e => hm (e ▸ hx)
        omega)
      omega
theorem rt_len {m : Mp} {W H : Nat} {r : List Nat} (hm : MapOk m W H) (h : Rt m r) : r.length ≤ 36 :=
  Nat.le_trans (nodup_len _ r h.nodup fun k hk => (h.cell k hk).1) hm.n36
/-- The sum of f over the steps to the k-th cell. -/
def stepsF (f : Nat → Nat → Int) (l : List Int) : Nat → Int
  | 0 => 0
  | k + 1 => if k = 0 then 0 else stepsF f l k + f (l.getD (k - 1) 0).toNat (l.getD k 0).toNat
theorem stepsF_one (f : Nat → Nat → Int) (l : List Int) : stepsF f l 1 = 0 := by simp [stepsF]
theorem stepsF_succ (f : Nat → Nat → Int) {l : List Int} {k x y : Nat} (hk : 1 ≤ k) (hl : k < l.length) (hx : l[k - 1] = (x : Int)) (hy : l[k] = (y : Int)) : stepsF f l (k + 1) = stepsF f l k + f x y := by
  have h1 : k - 1 < l.length := by omega
  rw [stepsF, if_neg (by omega), List.getD_eq_getElem?_getD, List.getD_eq_getElem?_getD, List.getElem?_eq_getElem hl, List.getElem?_eq_getElem h1, Option.getD_some, Option.getD_some, hx, hy]
  rfl
theorem stepsF_bd {f : Nat → Nat → Int} {l : List Int} {B : Int} (hB : 0 ≤ B) (hf : ∀ x y, 0 ≤ f x y ∧ f x y ≤ B) : ∀ k, 0 ≤ stepsF f l k ∧ stepsF f l k ≤ B * (k : Int)
  | 0 => by simp [stepsF]
  | k + 1 => by
    have h1 := stepsF_bd (l := l) hB hf k
    have h2 := hf (l.getD (k - 1) 0).toNat (l.getD k 0).toNat
    have h3 : B * ((k + 1 : Nat) : Int) = B * (k : Int) + B := by rw [Int.natCast_add, Int.mul_add]; simp
    have h4 : 0 ≤ B * (k : Int) := Int.mul_nonneg hB (by omega)
    rw [stepsF, h3]
    split <;> omega
def climbZ (m : Mp) (a b : Nat) : Int := max (riseAt m b - riseAt m a) 0
theorem climbZ_le {m : Mp} {W H : Nat} (h : MapOk m W H) (a b : Nat) : 0 ≤ climbZ m a b ∧ climbZ m a b ≤ 9 := by
  have h1 := h.rr a
  have h2 := h.rr b
  unfold climbZ
  omega
def climbI (m : Mp) (l : List Int) : Int := if routeB m l then stepsF (climbZ m) l l.length else 0
def rtimeI (m : Mp) (l : List Int) : Int := if routeB m l then stepsF (stepZ m) l l.length else 0
/-- The route of the i-th leg of a course. -/
def legR (m : Mp) (l : List Ctl) (c : List Int) (i : Nat) : List Nat := routeL m (cellN l (c.getD i 0)) (cellN l (c.getD (i + 1) 0))
def legsR (m : Mp) (l : List Ctl) (c : List Int) (k : Nat) : List (List Int) := (List.range k).map fun i => (legR m l c i).map fun k : Nat => (k : Int)
theorem legsR_succ (m : Mp) (l : List Ctl) (c : List Int) (k : Nat) : legsR m l c (k + 1) = legsR m l c k ++ [(legR m l c k).map fun k : Nat => (k : Int)] := by simp [legsR, List.range_succ]
theorem legsR_length (m : Mp) (l : List Ctl) (c : List Int) (k : Nat) : (legsR m l c k).length = k := by simp [legsR]
theorem legR_rt {m : Mp} {W H : Nat} {l : List Ctl} {c : List Int} (hm : MapOk m W H) (hC : Crs m l c) {i : Nat} (hi : i + 1 < c.length) : Rt m (legR m l c i) := by
  have h1 : i < c.length := by omega
  have hw := hC.way i hi
  have x := cellK_open hC.good (hC.has i h1)
  have y := cellK_open hC.good (hC.has (i + 1) hi)
  rw [legR, List.getD_eq_getElem?_getD, List.getD_eq_getElem?_getD, List.getElem?_eq_getElem h1, List.getElem?_eq_getElem hi, Option.getD_some, Option.getD_some]
  exact route_rt hm x.2.1 x.2.2 y.2.1 hw
/-- The climb of the first k legs. -/
def climbK (m : Mp) (l : List Ctl) (c : List Int) : Nat → Int
  | 0 => 0
  | k + 1 => climbK m l c k + stepsF (climbZ m) ((legR m l c k).map fun k : Nat => (k : Int)) (legR m l c k).length
def climbC (m : Mp) (l : List Ctl) (c : List Int) : Int := if crsB m l c then climbK m l c (c.length - 1) else 0
theorem climbK_bd {m : Mp} {W H : Nat} {l : List Ctl} {c : List Int} (hm : MapOk m W H) (hC : Crs m l c) : ∀ k, k + 1 ≤ c.length → 0 ≤ climbK m l c k ∧ climbK m l c k ≤ 400 * (k : Int)
  | 0, _ => by simp [climbK]
  | k + 1, hk => by
    have h1 := climbK_bd hm hC k (by omega)
    have h2 := stepsF_bd (l := (legR m l c k).map fun k : Nat => (k : Int)) (B := 9) (by omega) (climbZ_le hm) (legR m l c k).length
    have h3 := rt_len hm (legR_rt hm hC (i := k) (by omega))
    rw [climbK]
    omega
end Go.Ori
