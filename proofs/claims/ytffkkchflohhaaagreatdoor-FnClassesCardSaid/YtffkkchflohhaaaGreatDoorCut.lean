/- Slices of the call's own: elements cut out of them; clear; append in a region that draws its order. No condition. -/
import Derived.Test.YtffkkchflohhaaaGreatDoorOwn
import Derived.Deep.RegionLaw
namespace Go
open RowKit
/-- clear(s): the cells turn to zero values. -/
theorem run_clear_cells {P : Program} (w : World) (t e ty : TypeId) (z : Value) (zs : List Value) (ht : P.underlying t = some (.slice e)) (hv : ∀ w, (zeroValue e).run P w = .ok z w) (b o n c : Nat)
    (hzs : zs = (Builtin.zeroCells z.cells n).toList) (h1 : ∀ u ∈ zs, u.oneCell' = true) (hn : 0 < n)
    (hc : ∀ j, j < zs.length → (w.cell? ⟨b, o + j, none⟩).isSome = true) (hf : ∀ j, j < zs.length → w.frozen? ⟨b, o + j, none⟩ = false) :
    (Builtin.clear_ #[t] ty #[.slice (some ⟨b, o, none⟩) n c]).run P w = .ok (.tuple #[]) (w.setCells b o zs) := by
  have hst := run_storeCells_cells (P := P) b o zs 0 w (by simpa using hc) (by simpa using hf) h1
  simp only [Nat.add_zero] at hst
  obtain ⟨m, rfl⟩ : ∃ m, n = m + 1 := ⟨n - 1, by omega⟩
  simp [Builtin.clear_, run_underlying ht, hv, ← hzs, hst]
theorem flat_take {α : Type} {enc : α → List Value} {sz : Nat} (hz : ∀ x, (enc x).length = sz) (l : List α) (i : Nat) : (l.take i).flatMap enc = (l.flatMap enc).take (i * sz) := by
  induction l generalizing i with
  | nil => simp
  | cons a l ih =>
    cases i with
    | zero => simp
    | succ i =>
      rw [List.take_succ_cons, List.flatMap_cons, List.flatMap_cons, ih, List.take_append, hz]
      rw [List.take_of_length_le (l := enc a) (by rw [hz, Nat.add_mul]; omega)]
      congr 2
      rw [Nat.add_mul]; omega
theorem flat_drop {α : Type} {enc : α → List Value} {sz : Nat} (hz : ∀ x, (enc x).length = sz) (l : List α) (i : Nat) : (l.drop i).flatMap enc = (l.flatMap enc).drop (i * sz) := by
  induction l generalizing i with
  | nil => simp
  | cons a l ih =>
    cases i with
    | zero => simp
    | succ i =>
      rw [List.drop_succ_cons, List.flatMap_cons, ih, List.drop_append, hz, List.drop_eq_nil_of_le (as := enc a) (by rw [hz, Nat.add_mul]; omega), List.nil_append]
      congr 1
      rw [Nat.add_mul]; omega
/-- Elements i .. j - 1 are cut out: what stands behind them moves down, the last cells are overwritten. -/
theorem own_del {α : Type} {w : World} {enc : α → List Value} {sz base : Nat} {e : TypeId} {g n cap : Nat} {l : List α} (hlen : ∀ x, (enc x).length = sz)
    (h : w.own base e enc sz (.slice (some ⟨g, 0, none⟩) n cap) l) {i j : Nat} (hij : i ≤ j) (hj : j ≤ l.length) (zs : List Value) (hzs : zs.length = (j - i) * sz) :
    ((w.setCells g (i * sz) ((l.drop j).flatMap enc)).setCells g ((l.length - (j - i)) * sz) zs).own base e enc sz (.slice (some ⟨g, 0, none⟩) (l.length - (j - i)) cap) (l.take i ++ l.drop j) := by
  obtain ⟨h1, ⟨hv, _⟩ | ⟨g', cap', cur, hv, hg, hh, hle, hcap, hs, ht⟩⟩ := h
  · cases hv
  · simp only [Value.slice.injEq, Option.some.injEq, Addr.mk.injEq, and_true] at hv
    obtain ⟨rfl, rfl, rfl⟩ := hv
    have hm : ((l.drop j).flatMap enc).length = (l.length - j) * sz := by rw [flat_length hlen, List.length_drop]
    have e1 : i * sz + (l.length - j) * sz = (l.length - (j - i)) * sz := by rw [← Nat.add_mul]; congr 1; omega
    have e2 : (l.length - (j - i)) * sz + (j - i) * sz = l.length * sz := by rw [← Nat.add_mul]; congr 1; omega
    have e3 : l.length * sz ≤ cap * sz := Nat.mul_le_mul_right _ hle
    obtain ⟨C', c1, c2, c3⟩ := setCells_row ((l.drop j).flatMap enc) (i * sz) hh (by rw [hm, hs]; omega)
    obtain ⟨C2, d1, d2, d3⟩ := setCells_row zs ((l.length - (j - i)) * sz) c1 (by rw [hzs, c2, hs]; omega)
    have hlen' : (l.take i ++ l.drop j).length = l.length - (j - i) := by simp; omega
    unfold World.own
    rw [hlen']
    refine ⟨by rw [flat_length hlen, hlen'], .inr ⟨g, cap, C2, rfl, hg, d1, by omega, hcap, by rw [d2, c2]; exact hs, ?_⟩⟩
    rw [List.flatMap_append, flat_take hlen]
    apply List.ext_getElem?
    intro q
    have hF : (l.flatMap enc).length = l.length * sz := flat_length hlen l
    rw [List.getElem?_take, List.getElem?_append, List.length_take, hF, Array.getElem?_toList, d3 q, c3 q, hm, hzs]
    have e4 : i * sz ≤ l.length * sz := Nat.mul_le_mul_right _ (by omega)
    rw [Nat.min_eq_left e4]
    by_cases q1 : q < i * sz
    · rw [if_pos (by omega), if_neg (by omega), if_neg (by omega), if_pos q1, List.getElem?_take, if_pos q1, ← ht, List.getElem?_take, if_pos (by omega), Array.getElem?_toList]
    · rw [if_neg q1]
      by_cases q2 : q < (l.length - (j - i)) * sz
      · rw [if_pos q2, if_neg (by omega), if_pos (by omega)]
      · rw [if_neg q2, List.getElem?_eq_none (by rw [hm]; omega)]
theorem own_flat {α : Type} {w : World} {enc : α → List Value} {sz base : Nat} {e : TypeId} {g n cap : Nat} {l : List α} (h : w.own base e enc sz (.slice (some ⟨g, 0, none⟩) n cap) l) {q : Nat} (hq : q < l.length * sz) :
    w.cell? ⟨g, q, none⟩ = (l.flatMap enc)[q]? := by
  obtain ⟨h1, ⟨hv, _⟩ | ⟨g', cap', cur, hv, hg, hh, hle, hcap, hs, ht⟩⟩ := h
  · cases hv
  · simp only [Value.slice.injEq, Option.some.injEq, Addr.mk.injEq, and_true] at hv
    obtain ⟨rfl, rfl, rfl⟩ := hv
    rw [World.cell_of_heap hh, ← ht, List.getElem?_take, if_pos hq, Array.getElem?_toList]
theorem own_drew {α : Type} {w : World} {enc : α → List Value} {sz base : Nat} {e : TypeId} {v : Value} {l : List α} (h : w.own base e enc sz v l) : w.drew.own base e enc sz v l := by
  obtain ⟨d, hd⟩ := gain_drew w.gained_refl
  rw [hd]
  exact own_ext h d
theorem own_live {α : Type} {w : World} {enc : α → List Value} {sz base : Nat} {e : TypeId} {g n cap : Nat} {l : List α} (hlen : ∀ x, (enc x).length = sz) (h : w.own base e enc sz (.slice (some ⟨g, 0, none⟩) n cap) l) (vs : List Value) (o : Nat) (hb : o + vs.length ≤ l.length * sz) {q : Nat} (hq : q < l.length * sz) :
    ((w.setCells g o vs).cell? ⟨g, q, none⟩).isSome = true ∧ (w.setCells g o vs).frozen? ⟨g, q, none⟩ = false := by
  obtain ⟨h1, ⟨hv, _⟩ | ⟨g', cap', cur, hv, hg, hh, hle, hcap, hs, ht⟩⟩ := h
  · cases hv
  · simp only [Value.slice.injEq, Option.some.injEq, Addr.mk.injEq, and_true] at hv
    obtain ⟨rfl, rfl, rfl⟩ := hv
    have e3 : l.length * sz ≤ cap * sz := Nat.mul_le_mul_right _ hle
    obtain ⟨C', c1, c2, c3⟩ := setCells_row vs o hh (by rw [hs]; omega)
    refine ⟨?_, World.free_of_heap c1 q⟩
    rw [World.cell_of_heap c1, Array.getElem?_eq_getElem (by rw [c2, hs]; omega)]
    rfl
theorem sl_drew {α : Type} {w : World} {enc : α → List Value} {sz : Nat} {v : Value} {l : List α} (h : w.sl enc sz v l) : w.drew.sl enc sz v l := h
theorem sl_drop_any {α : Type} {w : World} {enc : α → List Value} {sz : Nat} {b o n c : Nat} {l : List α} (h : w.sl enc sz (.slice (some ⟨b, o, none⟩) n c) l) {k : Nat} (hk : k ≤ l.length) {A : Addr} (hA : (if c = k then some (⟨b, o, none⟩ : Addr) else some ⟨b, o + k * sz, none⟩) = some A) :
    w.sl enc sz (.slice (some A) (l.length - k) (c - k)) (l.drop k) := by
  obtain ⟨p, c', hv, hc, hle⟩ := h
  simp only [Value.slice.injEq] at hv
  obtain ⟨rfl, rfl, rfl⟩ := hv
  refine ⟨_, _, by rw [List.length_drop], fun h0 => ?_, by rw [List.length_drop]; omega⟩
  rw [List.length_drop] at h0
  rw [if_neg (by omega)] at hA
  simp only [Option.some.injEq] at hA
  subst hA
  obtain ⟨b', o', e, hcell⟩ := hc (by omega)
  simp only [Option.some.injEq, Addr.mk.injEq, and_true] at e
  obtain ⟨rfl, rfl⟩ := e
  refine ⟨_, _, rfl, fun q hq j hj => ?_⟩
  rw [List.length_drop] at hq
  have := hcell (k + q) (by omega) j hj
  rw [List.getElem_drop, ← this]
  congr 2
  rw [Nat.add_mul]; omega
theorem sl_cap {α : Type} {w : World} {enc : α → List Value} {sz n c : Nat} {p : Option Addr} {l : List α} (h : w.sl enc sz (.slice p n c) l) : l.length ≤ c := by
  obtain ⟨p', c', hv, _, hle⟩ := h
  simp only [Value.slice.injEq] at hv
  obtain ⟨_, _, rfl⟩ := hv
  exact hle
/-- append, in a region that draws its order. -/
theorem step_append_gain {P : Program} {ops : Array Oper} {o : Oper} {a : Act} {K : Act → World → Prop} {Q : Exit → Act → World → Prop} {E : Prop} {α : Type} {enc : α → List Value} {sz by_ : Nat} {t e : TypeId} {z : Value}
    (hgd : o.guard = none) (s x : Operand) (ho : o.op = .call { callee := .builtin .append, args := #[s, x], argTypes := #[t, t] })
    (ht : P.underlying t = some (.slice e)) (hi : (P.info? e).map (fun i => (i.zero, i.size, i.bytes)) = some (some z, sz, by_))
    (hz : z.cells.size = sz) (h0 : 0 < sz) (hlen : ∀ x, (enc x).length = sz) (hone : ∀ x, ∀ c ∈ enc x, c.oneCell' = true) (hby : by_ ≤ 4096)
    {W w : World} (hW : ∃ d, w = W.ext d) {base : Nat} (hB : W.heap.size ≤ base) (hbase : base ≤ w.heap.size) {v u : Value} {l m : List α} (hs : a.eval s = v) (hx : a.eval x = u)
    (hown : w.own base e enc sz v l) (hu : w.sl enc sz u m) (hn : l.length + m.length ≤ 2097152)
    (h : ∀ v' d, (W.ext d).own base e enc sz v' (l ++ m) → w.grownBy (W.ext d) v.ownBlock → K (a.put o.dst v') (W.ext d)) :
    if Region.wanted o (yielded ops a.tmps) = true then Oper.wp P o a w K Q else E := by
  have hw : Region.wanted o (yielded ops a.tmps) = true := by simp [Region.wanted, hgd]
  rw [if_pos hw]
  obtain ⟨v', d, hr, h2, h3⟩ := run_append_gain (P := P) o.type ht hi hz h0 hlen hone hby hW hB hbase hown hu hn
  unfold Oper.wp execOp
  simp only [ho, resolve, invoke, builtin, Sem.run_bind, Sem.run_pure, Result.andThen_ok, List.map_toArray, List.map_cons, List.map_nil, hs, hx, hr]
  exact h v' d h2 h3
end Go
