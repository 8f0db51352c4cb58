/- Texts laid together: A map whose keys are pairs of ints: what stands in it. No condition.; The best order of a course's controls: plain functions, plain law. No condition. -/
import Derived.Test.YtmcimgnobimicaaRows
import Derived.Test.YtmcimgnobimicaaG2
import Derived.Test.YtmcimgnobimicaaG1
import Derived.Test.YtmcimgnobimicaaG3
import Derived.Maps.OwnOps
import Derived.Maps.Views
import Derived.WideKeyPair
/- A map whose keys are pairs of ints: what stands in it. No condition. -/
namespace Go.Proofs.Ytmcimgnobimicaa
open Go.RowKit Go.Ori Go.Maps Go.WideMaps
theorem arr_key : ArrKey Try.prog 54 3 2 := ⟨Try.underlying54, by kernel_rfl, by kernel_rfl, by kernel_rfl⟩
theorem law_pair : Keyed Try.prog 54 := Keyed.of_law arr_key.law
theorem zero_intP (w : World) : (zeroValue 3).run Try.prog w = .ok (.int .i64 0) w := by kernel_rfl
def kp (a b : Int) : Lit := .string (keyBytes [.int .i64 a, .int .i64 b])
def wfI (a : Int) : Prop := -9223372036854775808 ≤ a ∧ a ≤ 9223372036854775807
theorem wf_of {a : Int} (h : wfI a) : (Lit.int .i64 a).wf = true := WalkArith.wf_i64 (by unfold wfI at h; omega)
theorem types_pos : ∃ m, Try.prog.types.size = m + 1 := by
  have h : decide (Try.prog.types.size = 0) = false := by kernel_rfl
  exact Nat.exists_eq_succ_of_ne_zero (of_decide_eq_false h)
theorem key_pair {a b : Int} (ha : wfI a) (hb : wfI b) : keyOf Try.prog 54 (.agg #[.int .i64 a, .int .i64 b]) = some (kp a b) :=
  keyOf_pair arr_key Try.underlying3 types_pos (wf_of ha) (wf_of hb)
theorem kp_inj {a b c d : Int} (ha : wfI a) (hb : wfI b) (hc : wfI c) (hd : wfI d) (h : kp a b = kp c d) : a = c ∧ b = d := by
  have := law_pair.inj (key_pair ha hb) (by rw [h]; exact key_pair hc hd)
  simp only [Value.agg.injEq, Array.mk.injEq, List.cons.injEq, Value.int.injEq, true_and, and_true] at this
  exact this
/-- The map holds T at the pairs of Q. -/
def TmOk (T : Int → Int → Int) (Q : Int → Int → Prop) (D : DataW Unit) : Prop := IsMap D ∧ ∀ a b : Int, Q a b → wfI a → wfI b → D.atKey (kp a b) (.lit (.int .i64 0)) = .lit (.int .i64 (T a b))
theorem tm_nil (T : Int → Int → Int) {Q : Int → Int → Prop} (h : ∀ a b, ¬ Q a b) : TmOk T Q (.map []) := ⟨isMap_empty, fun a b hq => absurd hq (h a b)⟩
theorem tm_put {T : Int → Int → Int} {Q Q' : Int → Int → Prop} {D : DataW Unit} (h : TmOk T Q D) {x y : Int} (hx : wfI x) (hy : wfI y) (hq : ∀ a b, Q' a b → Q a b ∨ (a = x ∧ b = y)) : TmOk T Q' (D.put (kp x y) (.lit (.int .i64 (T x y)))) :=
  ⟨h.1.put _ _, fun a b hab ha hb => by
    by_cases e : a = x ∧ b = y
    · obtain ⟨rfl, rfl⟩ := e
      rw [atKey_put_same h.1 (show WideAt.IsKeyLit (kp a b) from trivial)]
    · rw [atKey_put_other (fun q => e (kp_inj ha hb hx hy q))]
      rcases hq a b hab with hq | hq
      · exact h.2 a b hq ha hb
      · exact absurd hq e⟩
theorem tm_le {T : Int → Int → Int} {Q Q' : Int → Int → Prop} {D : DataW Unit} (h : TmOk T Q D) (hq : ∀ a b, Q' a b → Q a b) : TmOk T Q' D := ⟨h.1, fun a b hab => h.2 a b (hq a b hab)⟩
end Go.Proofs.Ytmcimgnobimicaa
/- The best order of a course's controls: plain functions, plain law. No condition. -/
namespace Go.Ori
section
variable (T : Int → Int → Int)
/-- The sum of a course's legs. -/
def sumT : List Int → Int
  | [] => 0
  | [_] => 0
  | a :: b :: t => T a b + sumT (b :: t)
def lastI (l : List Int) : Int := l.getD (l.length - 1) 0
theorem lastI_snoc (l : List Int) (x : Int) : lastI (l ++ [x]) = x := by simp [lastI]
theorem sumT_snoc : ∀ (l : List Int) (x : Int), l ≠ [] → sumT T (l ++ [x]) = sumT T l + T (lastI l) x
  | [], _, h => absurd rfl h
  | [a], x, _ => by simp [sumT, lastI]
  | a :: b :: t, x, _ => by
    have ih := sumT_snoc (b :: t) x (by simp)
    have e : lastI (a :: b :: t) = lastI (b :: t) := by simp [lastI]
    simp only [List.cons_append, sumT] at ih ⊢
    rw [ih, e]
    omega
/-- Of two the first, if the second is not better. -/
def better (s t : List Int × Int) : List Int × Int := if s.2 < 0 ∨ t.2 < s.2 then t else s
def noO : List Int × Int := ([], -1)
theorem better_no (t : List Int × Int) : better noO t = t := by simp [better, noO]
theorem better_assoc {s x y : List Int × Int} (hx : 0 ≤ x.2) (hy : 0 ≤ y.2) : better (better s x) y = better s (better x y) := by
  unfold better
  repeat' split
  all_goals first | rfl | (exfalso; omega)
theorem better_pos {s x : List Int × Int} (hx : 0 ≤ x.2) : 0 ≤ (better s x).2 := by
  unfold better
  split <;> omega
theorem foldl_better {s x : List Int × Int} : ∀ {xs : List (List Int × Int)}, 0 ≤ x.2 → (∀ y ∈ xs, 0 ≤ y.2) → (x :: xs).foldl better s = better s (xs.foldl better x)
  | [], _, _ => rfl
  | y :: xs, hx, hy => by
    have h1 := hy y List.mem_cons_self
    have ih := foldl_better (s := s) (x := better x y) (xs := xs) (by exact better_pos h1) (fun z hz => hy z (List.mem_cons_of_mem _ hz))
    rw [List.foldl_cons] at ih
    rw [List.foldl_cons, List.foldl_cons, List.foldl_cons, better_assoc hx h1]
    exact ih
/-- A fold from anywhere: the best of all, against what was. -/
theorem foldl_from {s : List Int × Int} {xs : List (List Int × Int)} (h0 : xs ≠ []) (h : ∀ y ∈ xs, 0 ≤ y.2) : xs.foldl better s = better s (xs.foldl better noO) := by
  cases xs with
  | nil => exact absurd rfl h0
  | cons x xs =>
    rw [foldl_better (h x List.mem_cons_self) (fun y hy => h y (List.mem_cons_of_mem _ hy)), List.foldl_cons, better_no]
variable (fin : Int)
/-- The reference: the best course that continues one with some codes. -/
def ordS : Nat → List Int → List Int → List Int × Int
  | 0, begun, _ => (begun ++ [fin], sumT T (begun ++ [fin]))
  | n + 1, begun, left => ((List.range left.length).map fun k => ordS n (begun ++ [left.getD k 0]) (left.eraseIdx k)).foldl better noO
/-- .. the first k ways. -/
def ordK (n : Nat) (begun left : List Int) (k : Nat) : List Int × Int := ((List.range k).map fun k => ordS T fin n (begun ++ [left.getD k 0]) (left.eraseIdx k)).foldl better noO
theorem ordK_zero (n : Nat) (begun left : List Int) : ordK T fin n begun left 0 = noO := rfl
theorem ordK_succ (n : Nat) (begun left : List Int) (k : Nat) : ordK T fin n begun left (k + 1) = better (ordK T fin n begun left k) (ordS T fin n (begun ++ [left.getD k 0]) (left.eraseIdx k)) := by
  unfold ordK
  rw [List.range_succ, List.map_append, List.foldl_append]
  rfl
theorem ordK_full (n : Nat) (begun left : List Int) : ordK T fin n begun left left.length = ordS T fin (n + 1) begun left := rfl
/-- The program: orders visited one after the other, the best so far at hand. -/
def restO (middle order : List Int) : List Int := middle.filter fun c => !order.contains c
def visS (middle : List Int) : Nat → List Int → Int → List Int × Int → List Int × Int
  | 0, order, sum, st => better st (order ++ [fin], sum + T (lastI order) fin)
  | n + 1, order, sum, st => (restO middle order).foldl (fun s c => visS middle n (order ++ [c]) (sum + T (lastI order) c) s) st
/-- .. after the first q codes. -/
def visK (middle : List Int) (n : Nat) (order : List Int) (sum : Int) (st : List Int × Int) (q : Nat) : List Int × Int :=
  (restO (middle.take q) order).foldl (fun s c => visS T fin middle n (order ++ [c]) (sum + T (lastI order) c) s) st
theorem visK_zero (middle : List Int) (n : Nat) (order : List Int) (sum : Int) (st : List Int × Int) : visK T fin middle n order sum st 0 = st := by simp [visK, restO]
theorem visK_in {middle : List Int} (n : Nat) {order : List Int} (sum : Int) (st : List Int × Int) {q : Nat} (hq : q < middle.length) (h : order.contains middle[q] = true) : visK T fin middle n order sum st (q + 1) = visK T fin middle n order sum st q := by
  unfold visK restO
  have e : ([middle[q]].filter fun c => !order.contains c) = [] := by simp only [List.filter_cons, List.filter_nil, h]; rfl
  rw [List.take_succ_eq_append_getElem hq, List.filter_append, e, List.append_nil]
theorem visK_out {middle : List Int} (n : Nat) {order : List Int} (sum : Int) (st : List Int × Int) {q : Nat} (hq : q < middle.length) (h : order.contains middle[q] = false) :
    visK T fin middle n order sum st (q + 1) = visS T fin middle n (order ++ [middle[q]]) (sum + T (lastI order) middle[q]) (visK T fin middle n order sum st q) := by
  unfold visK restO
  have e : ([middle[q]].filter fun c => !order.contains c) = [middle[q]] := by simp only [List.filter_cons, List.filter_nil, h]; rfl
  rw [List.take_succ_eq_append_getElem hq, List.filter_append, e, List.foldl_append]
  rfl
theorem visK_full (middle : List Int) (n : Nat) (order : List Int) (sum : Int) (st : List Int × Int) : visK T fin middle n order sum st middle.length = visS T fin middle (n + 1) order sum st := by
  unfold visK
  rw [List.take_length]
  rfl
theorem sumT_pos (h : ∀ a b, 0 ≤ T a b) : ∀ l : List Int, 0 ≤ sumT T l
  | [] => Int.le_refl _
  | [_] => Int.le_refl _
  | a :: b :: t => by
    have := sumT_pos h (b :: t)
    have := h a b
    simp only [sumT]
    omega
theorem ordS_pos (h : ∀ a b, 0 ≤ T a b) : ∀ (n : Nat) (begun left : List Int), left.length = n → 0 ≤ (ordS T fin n begun left).2
  | 0, begun, left, _ => sumT_pos T h _
  | n + 1, begun, left, hl => by
    have key : ∀ xs : List (List Int × Int), xs ≠ [] → (∀ y ∈ xs, 0 ≤ y.2) → 0 ≤ (xs.foldl better noO).2 := by
      intro xs h0 hx
      cases xs with
      | nil => exact absurd rfl h0
      | cons x xs =>
        rw [List.foldl_cons, better_no]
        have : ∀ (xs : List (List Int × Int)) (x : List Int × Int), 0 ≤ x.2 → (∀ y ∈ xs, 0 ≤ y.2) → 0 ≤ (xs.foldl better x).2 := by
          intro xs
          induction xs with
          | nil => exact fun x h _ => h
          | cons y xs ih => exact fun x _ hy => ih _ (better_pos (hy y List.mem_cons_self)) (fun z hz => hy z (List.mem_cons_of_mem _ hz))
        exact this xs x (hx x List.mem_cons_self) (fun y hy => hx y (List.mem_cons_of_mem _ hy))
    rw [ordS]
    refine key _ (by intro e; have h2 := congrArg List.length e; rw [List.length_map, List.length_range, List.length_nil] at h2; omega) (fun y hy => ?_)
    rw [List.mem_map] at hy
    obtain ⟨k, hk, rfl⟩ := hy
    rw [List.mem_range] at hk
    exact ordS_pos h n _ _ (by rw [List.length_eraseIdx, if_pos hk]; omega)
theorem map_range_getD {β : Type} (f : Int → β) (l : List Int) : ((List.range l.length).map fun k => f (l.getD k 0)) = l.map f := by
  apply List.ext_getElem
  · simp
  · intro i h1 h2
    simp only [List.length_map, List.length_range] at h1
    simp [List.getD_eq_getElem?_getD, h1]
theorem rest_snoc (middle order : List Int) (c : Int) : restO middle (order ++ [c]) = (restO middle order).filter fun x => x != c := by
  unfold restO
  rw [List.filter_filter]
  refine List.filter_congr fun x _ => ?_
  by_cases e : x = c <;> simp [e]
theorem filter_mid {A B : List Int} {x : Int} (h : (A ++ x :: B).Nodup) : ((A ++ x :: B).filter fun y => y != x) = A ++ B := by
  rw [List.nodup_append] at h
  obtain ⟨_, h2, h3⟩ := h
  rw [List.nodup_cons] at h2
  rw [List.filter_append, List.filter_cons]
  have e1 : (A.filter fun y => y != x) = A := List.filter_eq_self.2 (fun y hy => by simpa using h3 y hy x List.mem_cons_self)
  have e2 : (B.filter fun y => y != x) = B := List.filter_eq_self.2 (fun y hy => by
    have : y ≠ x := fun e => h2.1 (e ▸ hy)
    simpa using this)
  rw [e1, e2]
  simp
theorem filter_ne_erase {l : List Int} (hn : l.Nodup) {k : Nat} (hk : k < l.length) : (l.filter fun x => x != l[k]) = l.eraseIdx k := by
  have hl : l = l.take k ++ l[k] :: l.drop (k + 1) := by rw [← List.drop_eq_getElem_cons hk, List.take_append_drop]
  rw [List.eraseIdx_eq_take_drop_succ]
  have h2 := hn
  rw [hl] at h2
  have h3 := filter_mid h2
  rw [← hl] at h3
  exact h3
theorem foldl_mem {σ : Type} {f g : σ → Nat → σ} : ∀ (l : List Nat) (s : σ), (∀ s k, k ∈ l → f s k = g s k) → l.foldl f s = l.foldl g s
  | [], _, _ => rfl
  | a :: l, s, h => by
    rw [List.foldl_cons, List.foldl_cons, h s a List.mem_cons_self]
    exact foldl_mem l _ fun s k hk => h s k (List.mem_cons_of_mem _ hk)
theorem foldl_index {σ : Type} (f : σ → Int → σ) (l : List Int) (s : σ) : l.foldl f s = (List.range l.length).foldl (fun s k => f s (l.getD k 0)) s := by
  have e := map_range_getD (fun x => x) l
  simp only [List.map_id'] at e
  conv => lhs; rw [← e]
  rw [List.foldl_map]
/-- The program's best is the reference's. -/
theorem vis_ord (h : ∀ a b, 0 ≤ T a b) {middle : List Int} (hm : middle.Nodup) : ∀ (n : Nat) (order : List Int) (st : List Int × Int), order ≠ [] → (restO middle order).length = n →
    visS T fin middle n order (sumT T order) st = better st (ordS T fin n order (restO middle order))
  | 0, order, st, h0, hl => by
    rw [visS, ordS, sumT_snoc T _ _ h0]
  | n + 1, order, st, h0, hl => by
    have hR : (restO middle order).Nodup := hm.filter _
    have e1 : ∀ (s : List Int × Int) (k : Nat) (hk : k < (restO middle order).length), visS T fin middle n (order ++ [(restO middle order)[k]]) (sumT T order + T (lastI order) (restO middle order)[k]) s = better s (ordS T fin n (order ++ [(restO middle order)[k]]) ((restO middle order).eraseIdx k)) := by
      intro s k hk
      have e : restO middle (order ++ [(restO middle order)[k]]) = (restO middle order).eraseIdx k := by rw [rest_snoc, filter_ne_erase hR hk]
      have ih := vis_ord h hm n (order ++ [(restO middle order)[k]]) s (by simp) (by rw [e, List.length_eraseIdx, if_pos hk]; omega)
      rw [sumT_snoc T _ _ h0, e] at ih
      exact ih
    have hp : ∀ y ∈ (List.range (restO middle order).length).map fun k => ordS T fin n (order ++ [(restO middle order).getD k 0]) ((restO middle order).eraseIdx k), 0 ≤ y.2 := fun y hy => by
      rw [List.mem_map] at hy
      obtain ⟨k, hk, rfl⟩ := hy
      rw [List.mem_range] at hk
      exact ordS_pos T fin h n _ _ (by rw [List.length_eraseIdx, if_pos hk]; omega)
    rw [visS, ordS, ← foldl_from (by intro e; have h2 := congrArg List.length e; rw [List.length_map, List.length_range, List.length_nil] at h2; omega) hp, foldl_index, List.foldl_map]
    refine foldl_mem _ _ fun s k hk => ?_
    rw [List.mem_range] at hk
    have h2 := e1 s k hk
    rw [List.getD_eq_getElem?_getD, List.getElem?_eq_getElem hk]
    exact h2
end
end Go.Ori
