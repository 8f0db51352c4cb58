/- Texts laid together: A map whose keys are pairs of ints: what stands in it. No condition.; The best order of a course's controls: plain functions, plain law. No condition.; When a list of cells is a route; sums over its steps. No condition. -/
import Derived.Test.YtmcimgnobimicaaGreatRows
import Derived.Test.YtmcimgnobimicaaGreatG3
import Derived.Test.YtmcimgnobimicaaGreatG1
import Derived.Test.YtmcimgnobimicaaGreatG2
import Derived.Maps.OwnOps
import Derived.Maps.Views
import Derived.WideKeyPair
import Derived.Test.YtmcimgnobimicaaGreatG6
/- A map whose keys are pairs of ints: what stands in it. No condition. -/
namespace Go.Proofs.YtmcimgnobimicaaGreat
open Go.RowKit Go.Ori Go.Maps Go.WideMaps
theorem arr_key : ArrKey Tryz.prog 43 3 2 := ⟨Tryz.underlying43, by kernel_rfl, by kernel_rfl, by kernel_rfl⟩
theorem law_pair : Keyed Tryz.prog 43 := Keyed.of_law arr_key.law
theorem zero_intP (w : World) : (zeroValue 3).run Tryz.prog w = .ok (.int .i64 0) w := by kernel_rfl
def kp (a b : Int) : Lit := .string (keyBytes [.int .i64 a, .int .i64 b])
def wfI (a : Int) : Prop := -9223372036854775808 ≤ a ∧ a ≤ 9223372036854775807
theorem wf_of {a : Int} (h : wfI a) : (Lit.int .i64 a).wf = true := WalkArith.wf_i64 (by unfold wfI at h; omega)
theorem types_pos : ∃ m, Tryz.prog.types.size = m + 1 := by
  have h : decide (Tryz.prog.types.size = 0) = false := by kernel_rfl
  exact Nat.exists_eq_succ_of_ne_zero (of_decide_eq_false h)
theorem key_pair {a b : Int} (ha : wfI a) (hb : wfI b) : keyOf Tryz.prog 43 (.agg #[.int .i64 a, .int .i64 b]) = some (kp a b) :=
  keyOf_pair arr_key Tryz.underlying3 types_pos (wf_of ha) (wf_of hb)
theorem kp_inj {a b c d : Int} (ha : wfI a) (hb : wfI b) (hc : wfI c) (hd : wfI d) (h : kp a b = kp c d) : a = c ∧ b = d := by
  have := law_pair.inj (key_pair ha hb) (by rw [h]; exact key_pair hc hd)
  simp only [Value.agg.injEq, Array.mk.injEq, List.cons.injEq, Value.int.injEq, true_and, and_true] at this
  exact this
/-- The map holds T at the pairs of Q. -/
def TmOk (T : Int → Int → Int) (Q : Int → Int → Prop) (D : DataW Unit) : Prop := IsMap D ∧ ∀ a b : Int, Q a b → wfI a → wfI b → D.atKey (kp a b) (.lit (.int .i64 0)) = .lit (.int .i64 (T a b))
theorem tm_nil (T : Int → Int → Int) {Q : Int → Int → Prop} (h : ∀ a b, ¬ Q a b) : TmOk T Q (.map []) := ⟨isMap_empty, fun a b hq => absurd hq (h a b)⟩
theorem tm_put {T : Int → Int → Int} {Q Q' : Int → Int → Prop} {D : DataW Unit} (h : TmOk T Q D) {x y : Int} (hx : wfI x) (hy : wfI y) (hq : ∀ a b, Q' a b → Q a b ∨ (a = x ∧ b = y)) : TmOk T Q' (D.put (kp x y) (.lit (.int .i64 (T x y)))) :=
  ⟨h.1.put _ _, fun a b hab ha hb => by
    by_cases e : a = x ∧ b = y
    · obtain ⟨rfl, rfl⟩ := e
      rw [atKey_put_same h.1 (show WideAt.IsKeyLit (kp a b) from trivial)]
    · rw [atKey_put_other (fun q => e (kp_inj ha hb hx hy q))]
      rcases hq a b hab with hq | hq
      · exact h.2 a b hq ha hb
      · exact absurd hq e⟩
theorem tm_le {T : Int → Int → Int} {Q Q' : Int → Int → Prop} {D : DataW Unit} (h : TmOk T Q D) (hq : ∀ a b, Q' a b → Q a b) : TmOk T Q' D := ⟨h.1, fun a b hab => h.2 a b (hq a b hab)⟩
end Go.Proofs.YtmcimgnobimicaaGreat
/- The best order of a course's controls: plain functions, plain law. No condition. -/
namespace Go.Ori
section
variable (T : Int → Int → Int)
/-- The sum of a course's legs. -/
def sumT : List Int → Int
  | [] => 0
  | [_] => 0
  | a :: b :: t => T a b + sumT (b :: t)
def lastI (l : List Int) : Int := l.getD (l.length - 1) 0
theorem lastI_snoc (l : List Int) (x : Int) : lastI (l ++ [x]) = x := by simp [lastI]
theorem sumT_snoc : ∀ (l : List Int) (x : Int), l ≠ [] → sumT T (l ++ [x]) = sumT T l + T (lastI l) x
  | [], _, h => absurd rfl h
  | [a], x, _ => by simp [sumT, lastI]
  | a :: b :: t, x, _ => by
    have ih := sumT_snoc (b :: t) x (by simp)
    have e : lastI (a :: b :: t) = lastI (b :: t) := by simp [lastI]
    simp only [List.cons_append, sumT] at ih ⊢
    rw [ih, e]
    omega
/-- Of two the first, if the second is not better. -/
def better (s t : List Int × Int) : List Int × Int := if s.2 < 0 ∨ t.2 < s.2 then t else s
def noO : List Int × Int := ([], -1)
theorem better_no (t : List Int × Int) : better noO t = t := by simp [better, noO]
theorem better_assoc {s x y : List Int × Int} (hx : 0 ≤ x.2) (hy : 0 ≤ y.2) : better (better s x) y = better s (better x y) := by
  unfold better
  repeat' split
  all_goals first | rfl | (exfalso; omega)
theorem better_pos {s x : List Int × Int} (hx : 0 ≤ x.2) : 0 ≤ (better s x).2 := by
  unfold better
  split <;> omega
theorem foldl_better {s x : List Int × Int} : ∀ {xs : List (List Int × Int)}, 0 ≤ x.2 → (∀ y ∈ xs, 0 ≤ y.2) → (x :: xs).foldl better s = better s (xs.foldl better x)
  | [], _, _ => rfl
  | y :: xs, hx, hy => by
    have h1 := hy y List.mem_cons_self
    have ih := foldl_better (s := s) (x := better x y) (xs := xs) (by exact better_pos h1) (fun z hz => hy z (List.mem_cons_of_mem _ hz))
    rw [List.foldl_cons] at ih
    rw [List.foldl_cons, List.foldl_cons, List.foldl_cons, better_assoc hx h1]
    exact ih
/-- A fold from anywhere: the best of all, against what was. -/
theorem foldl_from {s : List Int × Int} {xs : List (List Int × Int)} (h0 : xs ≠ []) (h : ∀ y ∈ xs, 0 ≤ y.2) : xs.foldl better s = better s (xs.foldl better noO) := by
  cases xs with
  | nil => exact absurd rfl h0
  | cons x xs =>
    rw [foldl_better (h x List.mem_cons_self) (fun y hy => h y (List.mem_cons_of_mem _ hy)), List.foldl_cons, better_no]
variable (fin : Int)
/-- The reference: the best course that continues one with some codes. -/
def ordS : Nat → List Int → List Int → List Int × Int
  | 0, begun, _ => (begun ++ [fin], sumT T (begun ++ [fin]))
  | n + 1, begun, left => ((List.range left.length).map fun k => ordS n (begun ++ [left.getD k 0]) (left.eraseIdx k)).foldl better noO
/-- .. the first k ways. -/
def ordK (n : Nat) (begun left : List Int) (k : Nat) : List Int × Int := ((List.range k).map fun k => ordS T fin n (begun ++ [left.getD k 0]) (left.eraseIdx k)).foldl better noO
theorem ordK_zero (n : Nat) (begun left : List Int) : ordK T fin n begun left 0 = noO := rfl
theorem ordK_succ (n : Nat) (begun left : List Int) (k : Nat) : ordK T fin n begun left (k + 1) = better (ordK T fin n begun left k) (ordS T fin n (begun ++ [left.getD k 0]) (left.eraseIdx k)) := by
  unfold ordK
  rw [List.range_succ, List.map_append, List.foldl_append]
  rfl
theorem ordK_full (n : Nat) (begun left : List Int) : ordK T fin n begun left left.length = ordS T fin (n + 1) begun left := rfl
/-- The program: orders visited one after the other, the best so far at hand. -/
def restO (middle order : List Int) : List Int := middle.filter fun c => !order.contains c
def visS (middle : List Int) : Nat → List Int → Int → List Int × Int → List Int × Int
  | 0, order, sum, st => better st (order ++ [fin], sum + T (lastI order) fin)
  | n + 1, order, sum, st => (restO middle order).foldl (fun s c => visS middle n (order ++ [c]) (sum + T (lastI order) c) s) st
/-- .. after the first q codes. -/
def visK (middle : List Int) (n : Nat) (order : List Int) (sum : Int) (st : List Int × Int) (q : Nat) : List Int × Int :=
  (restO (middle.take q) order).foldl (fun s c => visS T fin middle n (order ++ [c]) (sum + T (lastI order) c) s) st
theorem visK_zero (middle : List Int) (n : Nat) (order : List Int) (sum : Int) (st : List Int × Int) : visK T fin middle n order sum st 0 = st := by simp [visK, restO]
theorem visK_in {middle : List Int} (n : Nat) {order : List Int} (sum : Int) (st : List Int × Int) {q : Nat} (hq : q < middle.length) (h : order.contains middle[q] = true) : visK T fin middle n order sum st (q + 1) = visK T fin middle n order sum st q := by
  unfold visK restO
  have e : ([middle[q]].filter fun c => !order.contains c) = [] := by simp only [List.filter_cons, List.filter_nil, h]; rfl
  rw [List.take_succ_eq_append_getElem hq, List.filter_append, e, List.append_nil]
theorem visK_out {middle : List Int} (n : Nat) {order : List Int} (sum : Int) (st : List Int × Int) {q : Nat} (hq : q < middle.length) (h : order.contains middle[q] = false) :
    visK T fin middle n order sum st (q + 1) = visS T fin middle n (order ++ [middle[q]]) (sum + T (lastI order) middle[q]) (visK T fin middle n order sum st q) := by
  unfold visK restO
  have e : ([middle[q]].filter fun c => !order.contains c) = [middle[q]] := by simp only [List.filter_cons, List.filter_nil, h]; rfl
  rw [List.take_succ_eq_append_getElem hq, List.filter_append, e, List.foldl_append]
  rfl
theorem visK_full (middle : List Int) (n : Nat) (order : List Int) (sum : Int) (st : List Int × Int) : visK T fin middle n order sum st middle.length = visS T fin middle (n + 1) order sum st := by
  unfold visK
  rw [List.take_length]
  rfl
theorem sumT_pos (h : ∀ a b, 0 ≤ T a b) : ∀ l : List Int, 0 ≤ sumT T l
  | [] => Int.le_refl _
  | [_] => Int.le_refl _
  | a :: b :: t => by
    have := sumT_pos h (b :: t)
    have := h a b
    simp only [sumT]
    omega
theorem ordS_pos (h : ∀ a b, 0 ≤ T a b) : ∀ (n : Nat) (begun left : List Int), left.length = n → 0 ≤ (ordS T fin n begun left).2
  | 0, begun, left, _ => sumT_pos T h _
  | n + 1, begun, left, hl => by
    have key : ∀ xs : List (List Int × Int), xs ≠ [] → (∀ y ∈ xs, 0 ≤ y.2) → 0 ≤ (xs.foldl better noO).2 := by
      intro xs h0 hx
      cases xs with
      | nil => exact absurd rfl h0
      | cons x xs =>
        rw [List.foldl_cons, better_no]
        have : ∀ (xs : List (List Int × Int)) (x : List Int × Int), 0 ≤ x.2 → (∀ y ∈ xs, 0 ≤ y.2) → 0 ≤ (xs.foldl better x).2 := by
          intro xs
          induction xs with
          | nil => exact fun x h _ => h
          | cons y xs ih => exact fun x _ hy => ih _ (better_pos (hy y List.mem_cons_self)) (fun z hz => hy z (List.mem_cons_of_mem _ hz))
        exact this xs x (hx x List.mem_cons_self) (fun y hy => hx y (List.mem_cons_of_mem _ hy))
    rw [ordS]
    refine key _ (by intro e; have h2 := congrArg List.length e; rw [List.length_map, List.length_range, List.length_nil] at h2; omega) (fun y hy => ?_)
    rw [List.mem_map] at hy
    obtain ⟨k, hk, rfl⟩ := hy
    rw [List.mem_range] at hk
    exact ordS_pos h n _ _ (by rw [List.length_eraseIdx, if_pos hk]; omega)
theorem map_range_getD {β : Type} (f : Int → β) (l : List Int) : ((List.range l.length).map fun k => f (l.getD k 0)) = l.map f := by
  apply List.ext_getElem
  · simp
  · intro i h1 h2
    simp only [List.length_map, List.length_range] at h1
    simp [List.getD_eq_getElem?_getD, h1]
theorem rest_snoc (middle order : List Int) (c : Int) : restO middle (order ++ [c]) = (restO middle order).filter fun x => x != c := by
  unfold restO
  rw [List.filter_filter]
  refine List.filter_congr fun x _ => ?_
  by_cases e : x = c <;> simp [e]
theorem filter_mid {A B : List Int} {x : Int} (h : (A ++ x :: B).Nodup) : ((A ++ x :: B).filter fun y => y != x) = A ++ B := by
  rw [List.nodup_append] at h
  obtain ⟨_, h2, h3⟩ := h
  rw [List.nodup_cons] at h2
  rw [List.filter_append, List.filter_cons]
  have e1 : (A.filter fun y => y != x) = A := List.filter_eq_self.2 (fun y hy => by simpa using h3 y hy x List.mem_cons_self)
  have e2 : (B.filter fun y => y != x) = B := List.filter_eq_self.2 (fun y hy => by
    have : y ≠ x := fun e => h2.1 (e ▸ hy)
    simpa using this)
  rw [e1, e2]
  simp
theorem filter_ne_erase {l : List Int} (hn : l.Nodup) {k : Nat} (hk : k < l.length) : (l.filter fun x => x != l[k]) = l.eraseIdx k := by
  have hl : l = l.take k ++ l[k] :: l.drop (k + 1) := by rw [← List.drop_eq_getElem_cons hk, List.take_append_drop]
  rw [List.eraseIdx_eq_take_drop_succ]
  have h2 := hn
  rw [hl] at h2
  have h3 := filter_mid h2
  rw [← hl] at h3
  exact h3
theorem foldl_mem {σ : Type} {f g : σ → Nat → σ} : ∀ (l : List Nat) (s : σ), (∀ s k, k ∈ l → f s k = g s k) → l.foldl f s = l.foldl g s
  | [], _, _ => rfl
  | a :: l, s, h => by
    rw [List.foldl_cons, List.foldl_cons, h s a List.mem_cons_self]
    exact foldl_mem l _ fun s k hk => h s k (List.mem_cons_of_mem _ hk)
theorem foldl_index {σ : Type} (f : σ → Int → σ) (l : List Int) (s : σ) : l.foldl f s = (List.range l.length).foldl (fun s k => f s (l.getD k 0)) s := by
  have e := map_range_getD (fun x => x) l
  simp only [List.map_id'] at e
  conv => lhs; rw [← e]
  rw [List.foldl_map]
/-- The program's best is the reference's. -/
theorem vis_ord (h : ∀ a b, 0 ≤ T a b) {middle : List Int} (hm : middle.Nodup) : ∀ (n : Nat) (order : List Int) (st : List Int × Int), order ≠ [] → (restO middle order).length = n →
    visS T fin middle n order (sumT T order) st = better st (ordS T fin n order (restO middle order))
  | 0, order, st, h0, hl => by
    rw [visS, ordS, sumT_snoc T _ _ h0]
  | n + 1, order, st, h0, hl => by
    have hR : (restO middle order).Nodup := hm.filter _
    have e1 : ∀ (s : List Int × Int) (k : Nat) (hk : k < (restO middle order).length), visS T fin middle n (order ++ [(restO middle order)[k]]) (sumT T order + T (lastI order) (restO middle order)[k]) s = better s (ordS T fin n (order ++ [(restO middle order)[k]]) ((restO middle order).eraseIdx k)) := by
      intro s k hk
      have e : restO middle (order ++ [(restO middle order)[k]]) = (restO middle order).eraseIdx k := by rw [rest_snoc, filter_ne_erase hR hk]
      have ih := vis_ord h hm n (order ++ [(restO middle order)[k]]) s (by simp) (by rw [e, List.length_eraseIdx, if_pos hk]; omega)
      rw [sumT_snoc T _ _ h0, e] at ih
      exact ih
    have hp : ∀ y ∈ (List.range (restO middle order).length).map fun k => ordS T fin n (order ++ [(restO middle order).getD k 0]) ((restO middle order).eraseIdx k), 0 ≤ y.2 := fun y hy => by
      rw [List.mem_map] at hy
      obtain ⟨k, hk, rfl⟩ := hy
      rw [List.mem_range] at hk
      exact ordS_pos T fin h n _ _ (by rw [List.length_eraseIdx, if_pos hk]; omega)
    rw [visS, ordS, ← foldl_from (by intro e; have h2 := congrArg List.length e; rw [List.length_map, List.length_range, List.length_nil] at h2; omega) hp, foldl_index, List.foldl_map]
    refine foldl_mem _ _ fun s k hk => ?_
    rw [List.mem_range] at hk
    have h2 := e1 s k hk
    rw [List.getD_eq_getElem?_getD, List.getElem?_eq_getElem hk]
    exact h2
end
end Go.Ori
/- When a list of cells is a route; sums over its steps. No condition. -/
namespace Go.Ori
def routeAt (m : Mp) (l : List Int) (i : Nat) : Bool := match l[i]?, l[i - 1]? with
  | some x, some p => openB m x && !hasB (l.take i) x && (decide (i = 0) || decide (gapN m.wd.toNat p.toNat x.toNat = 1))
  | _, _ => true
theorem routeAt_eq {m : Mp} {l : List Int} {i : Nat} {x p : Int} (h : l[i]? = some x) (hp : l[i - 1]? = some p) : routeAt m l i = (openB m x && !hasB (l.take i) x && (decide (i = 0) || decide (gapN m.wd.toNat p.toNat x.toNat = 1))) := by
  simp [routeAt, h, hp]
/-- .. given that the map is valid. -/
def routeR (m : Mp) (l : List Int) : Bool := allB l.length (routeAt m l) && decide (0 < l.length)
def routeB (m : Mp) (l : List Int) : Bool := mapB m && routeR m l
theorem nat_of_open {m : Mp} {l : List Int} (h : ∀ x ∈ l, openB m x = true) : ∃ r : List Nat, l = r.map (fun k : Nat => (k : Int)) ∧ ∀ k ∈ r, k < m.cost.length ∧ 0 < costAt m k := by
  refine ⟨l.map Int.toNat, ?_, ?_⟩
  · rw [List.map_map]
    conv => lhs; rw [← List.map_id l]
    apply List.map_congr_left
    intro x hx
    obtain ⟨k, rfl, _⟩ := openB_true (h x hx)
    rfl
  · intro k hk
    obtain ⟨x, hx, rfl⟩ := List.mem_map.1 hk
    obtain ⟨j, rfl, h1, h2⟩ := openB_true (h x hx)
    exact ⟨h1, h2⟩
structure Rt (m : Mp) (r : List Nat) : Prop where
  pos : 0 < r.length
  cell : ∀ k ∈ r, k < m.cost.length ∧ 0 < costAt m k
  nodup : r.Nodup
  next : ∀ i (h : i + 1 < r.length), gapN m.wd.toNat (r[i]'(by omega)) r[i + 1] = 1
theorem routeB_true {m : Mp} {l : List Int} (h : routeB m l = true) : ∃ r : List Nat, l = r.map (fun k : Nat => (k : Int)) ∧ Rt m r := by
  simp only [routeB, routeR, Bool.and_eq_true, decide_eq_true_eq, allB_iff] at h
  obtain ⟨hm, ha, h0⟩ := h
  have hat : ∀ i (hi : i < l.length), openB m l[i] = true ∧ hasB (l.take i) l[i] = false ∧ (i = 0 ∨ gapN m.wd.toNat (l[i - 1]'(by omega)).toNat l[i].toNat = 1) := by
    intro i hi
    have := ha i hi
    rw [routeAt_eq (List.getElem?_eq_getElem hi) (List.getElem?_eq_getElem (by omega))] at this
    simpa [Bool.and_eq_true, and_assoc] using this
  obtain ⟨r, rfl, hr⟩ := nat_of_open (m := m) (l := l) (fun x hx => by
    obtain ⟨i, hi, rfl⟩ := List.getElem_of_mem hx
    exact (hat i hi).1)
  refine ⟨r, rfl, by simpa using h0, hr, ?_, fun i hi => ?_⟩
  · rw [List.nodup_iff_pairwise_ne, List.pairwise_iff_getElem]
    intro i j hi hj hij e
    have := (hat j (by simpa using hj)).2.1
    rw [← Bool.not_eq_true, hasB_iff] at this
    apply this
    rw [List.mem_take_iff_getElem]
    exact ⟨i, by simp; omega, by simp [e]⟩
  · have := (hat (i + 1) (by simpa using hi)).2.2
    rcases this with h | h
    · omega
    · simpa using h
theorem routeB_of {m : Mp} {r : List Nat} (hm : mapB m = true) (h : Rt m r) : routeB m (r.map fun k : Nat => (k : Int)) = true := by
  simp only [routeB, routeR, Bool.and_eq_true, decide_eq_true_eq, allB_iff]
  refine ⟨hm, fun i hi => ?_, by simpa using h.pos⟩
  have hi' : i < r.length := by simpa using hi
  rw [routeAt_eq (List.getElem?_eq_getElem hi) (List.getElem?_eq_getElem (by omega))]
  simp only [List.getElem_map, Bool.and_eq_true, Bool.or_eq_true, decide_eq_true_eq, Bool.not_eq_true', Int.toNat_natCast]
  have hc := h.cell r[i] (List.getElem_mem hi')
  refine ⟨⟨?_, ?_⟩, ?_⟩
  · simp only [openB, cellB, hm, Bool.true_and, Bool.and_eq_true, insB_true, decide_eq_true_eq, Int.toNat_natCast]
    exact ⟨by omega, hc.2⟩
  · rw [← Bool.not_eq_true, hasB_iff, ← List.map_take]
    intro hx
    obtain ⟨k, hk, e⟩ := List.mem_map.1 hx
    have e' : k = r[i] := by omega
    subst e'
    obtain ⟨j, hj, e2⟩ := List.mem_take_iff_getElem.1 hk
    have := h.nodup
    rw [List.nodup_iff_pairwise_ne, List.pairwise_iff_getElem] at this
    exact this j i (by omega) hi' (by omega) e2
  · by_cases e : i = 0
    · exact .inl e
    · right
      have := h.next (i - 1) (by omega)
      have e2 : i - 1 + 1 = i := by omega
      simp only [e2] at this
      exact this
/-- The best route is a route. -/
theorem route_rt {m : Mp} {W H a b : Nat} (hm : MapOk m W H) (ha : a < m.cost.length) (h0 : 0 < costAt m a) (hb : b < m.cost.length) (hi : timeB m a b < 1073741824) : Rt m (routeL m a b) := by
  obtain ⟨h1, h2, h3, h4⟩ := rest_chain hm hb _ a (Nat.le_refl _) ha hi
  rw [route_eq]
  refine ⟨by simp, fun k hk => ?_, ?_, fun i hi => ?_⟩
  · rcases List.mem_cons.1 hk with rfl | hk
    · exact ⟨ha, h0⟩
    · exact ⟨(h2 k hk).1, (h2 k hk).2.1⟩
  · rw [List.nodup_iff_pairwise_ne]
    exact h3.imp (fun h e => by rw [e] at h; omega)
  · exact (next_mem.1 (chain_get h4 i hi)).2.2
theorem nodup_len : ∀ (n : Nat) (l : List Nat), l.Nodup → (∀ x ∈ l, x < n) → l.length ≤ n
  | 0, [], _, _ => Nat.le_refl _
  | 0, x :: l, _, h => absurd (h x (by simp)) (Nat.not_lt_zero _)
  | n + 1, l, hd, h => by
    by_cases hm : n ∈ l
    · have h1 := nodup_len n (l.erase n) (hd.erase n) (fun x hx => by
        have h2 := (hd.mem_erase_iff).1 hx
        have := h x h2.2
        omega)
      rw [List.length_erase_of_mem hm] at h1
      omega
    · have := nodup_len n l hd (fun x hx => by
        have h2 := h x hx
        have h3 : x ≠ n := fun e => hm (e ▸ hx)
        omega)
      omega
theorem rt_len {m : Mp} {W H : Nat} {r : List Nat} (hm : MapOk m W H) (h : Rt m r) : r.length ≤ 36 :=
  Nat.le_trans (nodup_len _ r h.nodup fun k hk => (h.cell k hk).1) hm.n36
/-- The sum of f over the steps to the k-th cell. -/
def stepsF (f : Nat → Nat → Int) (l : List Int) : Nat → Int
  | 0 => 0
  | k + 1 => if k = 0 then 0 else stepsF f l k + f (l.getD (k - 1) 0).toNat (l.getD k 0).toNat
theorem stepsF_one (f : Nat → Nat → Int) (l : List Int) : stepsF f l 1 = 0 := by simp [stepsF]
theorem stepsF_succ (f : Nat → Nat → Int) {l : List Int} {k x y : Nat} (hk : 1 ≤ k) (hl : k < l.length) (hx : l[k - 1] = (x : Int)) (hy : l[k] = (y : Int)) : stepsF f l (k + 1) = stepsF f l k + f x y := by
  have h1 : k - 1 < l.length := by omega
  rw [stepsF, if_neg (by omega), List.getD_eq_getElem?_getD, List.getD_eq_getElem?_getD, List.getElem?_eq_getElem hl, List.getElem?_eq_getElem h1, Option.getD_some, Option.getD_some, hx, hy]
  rfl
theorem stepsF_bd {f : Nat → Nat → Int} {l : List Int} {B : Int} (hB : 0 ≤ B) (hf : ∀ x y, 0 ≤ f x y ∧ f x y ≤ B) : ∀ k, 0 ≤ stepsF f l k ∧ stepsF f l k ≤ B * (k : Int)
  | 0 => by simp [stepsF]
  | k + 1 => by
    have h1 := stepsF_bd (l := l) hB hf k
    have h2 := hf (l.getD (k - 1) 0).toNat (l.getD k 0).toNat
    have h3 : B * ((k + 1 : Nat) : Int) = B * (k : Int) + B := by rw [Int.natCast_add, Int.mul_add]; simp
    have h4 : 0 ≤ B * (k : Int) := Int.mul_nonneg hB (by omega)
    rw [stepsF, h3]
    split <;> omega
def climbZ (m : Mp) (a b : Nat) : Int := max (riseAt m b - riseAt m a) 0
theorem climbZ_le {m : Mp} {W H : Nat} (h : MapOk m W H) (a b : Nat) : 0 ≤ climbZ m a b ∧ climbZ m a b ≤ 9 := by
  have h1 := h.rr a
  have h2 := h.rr b
  unfold climbZ
  omega
def climbI (m : Mp) (l : List Int) : Int := if routeB m l then stepsF (climbZ m) l l.length else 0
def rtimeI (m : Mp) (l : List Int) : Int := if routeB m l then stepsF (stepZ m) l l.length else 0
/-- The route of the i-th leg of a course. -/
def legR (m : Mp) (l : List Ctl) (c : List Int) (i : Nat) : List Nat := routeL m (cellN l (c.getD i 0)) (cellN l (c.getD (i + 1) 0))
def legsR (m : Mp) (l : List Ctl) (c : List Int) (k : Nat) : List (List Int) := (List.range k).map fun i => (legR m l c i).map fun k : Nat => (k : Int)
theorem legsR_succ (m : Mp) (l : List Ctl) (c : List Int) (k : Nat) : legsR m l c (k + 1) = legsR m l c k ++ [(legR m l c k).map fun k : Nat => (k : Int)] := by simp [legsR, List.range_succ]
theorem legsR_length (m : Mp) (l : List Ctl) (c : List Int) (k : Nat) : (legsR m l c k).length = k := by simp [legsR]
theorem legR_rt {m : Mp} {W H : Nat} {l : List Ctl} {c : List Int} (hm : MapOk m W H) (hC : Crs m l c) {i : Nat} (hi : i + 1 < c.length) : Rt m (legR m l c i) := by
  have h1 : i < c.length := by omega
  have hw := hC.way i hi
  have x := cellK_open hC.good (hC.has i h1)
  have y := cellK_open hC.good (hC.has (i + 1) hi)
  rw [legR, List.getD_eq_getElem?_getD, List.getD_eq_getElem?_getD, List.getElem?_eq_getElem h1, List.getElem?_eq_getElem hi, Option.getD_some, Option.getD_some]
  exact route_rt hm x.2.1 x.2.2 y.2.1 hw
/-- The climb of the first k legs. -/
def climbK (m : Mp) (l : List Ctl) (c : List Int) : Nat → Int
  | 0 => 0
  | k + 1 => climbK m l c k + stepsF (climbZ m) ((legR m l c k).map fun k : Nat => (k : Int)) (legR m l c k).length
def climbC (m : Mp) (l : List Ctl) (c : List Int) : Int := if crsB m l c then climbK m l c (c.length - 1) else 0
theorem climbK_bd {m : Mp} {W H : Nat} {l : List Ctl} {c : List Int} (hm : MapOk m W H) (hC : Crs m l c) : ∀ k, k + 1 ≤ c.length → 0 ≤ climbK m l c k ∧ climbK m l c k ≤ 400 * (k : Int)
  | 0, _ => by simp [climbK]
  | k + 1, hk => by
    have h1 := climbK_bd hm hC k (by omega)
    have h2 := stepsF_bd (l := (legR m l c k).map fun k : Nat => (k : Int)) (B := 9) (by omega) (climbZ_le hm) (legR m l c k).length
    have h3 := rt_len hm (legR_rt hm hC (i := k) (by omega))
    rw [climbK]
    omega
end Go.Ori
