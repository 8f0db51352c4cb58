/- Texts laid together: Slices of the call's own: elements cut out of them; clear; append in a region that draws its order. No condition.; What is said of a world is said of it grown: slices, rows, cells. No condition. -/
import Derived.Test.YtmcimgnobimicaaGreatG1
import Derived.Deep.RegionLaw
import Derived.Deep.CutRange
import Derived.Deep.RegionHeld
/- Slices of the call's own: elements cut out of them; clear; append in a region that draws its order. No condition. -/
namespace Go
open RowKit
/-- clear(s): the cells turn to zero values. -/
theorem run_clear_cells {P : Program} (w : World) (t e ty : TypeId) (z : Value) (zs : List Value) (ht : P.underlying t = some (.slice e)) (hv : ∀ w, (zeroValue e).run P w = .ok z w) (b o n c : Nat)
    (hzs : zs = (Builtin.zeroCells z.cells n).toList) (h1 : ∀ u ∈ zs, u.oneCell' = true) (hn : 0 < n)
    (hc : ∀ j, j < zs.length → (w.cell? ⟨b, o + j, none⟩).isSome = true) (hf : ∀ j, j < zs.length → w.frozen? ⟨b, o + j, none⟩ = false) :
    (Builtin.clear_ #[t] ty #[.slice (some ⟨b, o, none⟩) n c]).run P w = .ok (.tuple #[]) (w.setCells b o zs) := by
  have hst := run_storeCells_cells (P := P) b o zs 0 w (by simpa using hc) (by simpa using hf) h1
  simp only [Nat.add_zero] at hst
  obtain ⟨m, rfl⟩ : ∃ m, n = m + 1 := ⟨n - 1, by omega⟩
  simp [Builtin.clear_, run_underlying ht, hv, ← hzs, hst]
theorem flat_take {α : Type} {enc : α → List Value} {sz : Nat} (hz : ∀ x, (enc x).length = sz) (l : List α) (i : Nat) : (l.take i).flatMap enc = (l.flatMap enc).take (i * sz) := by
  induction l generalizing i with
  | nil => simp
  | cons a l ih =>
    cases i with
    | zero => simp
    | succ i =>
      rw [List.take_succ_cons, List.flatMap_cons, List.flatMap_cons, ih, List.take_append, hz]
      rw [List.take_of_length_le (l := enc a) (by rw [hz, Nat.add_mul]; omega)]
      congr 2
      rw [Nat.add_mul]; omega
theorem flat_drop {α : Type} {enc : α → List Value} {sz : Nat} (hz : ∀ x, (enc x).length = sz) (l : List α) (i : Nat) : (l.drop i).flatMap enc = (l.flatMap enc).drop (i * sz) := by
  induction l generalizing i with
  | nil => simp
  | cons a l ih =>
    cases i with
    | zero => simp
    | succ i =>
      rw [List.drop_succ_cons, List.flatMap_cons, ih, List.drop_append, hz, List.drop_eq_nil_of_le (as := enc a) (by rw [hz, Nat.add_mul]; omega), List.nil_append]
      congr 1
      rw [Nat.add_mul]; omega
/-- Elements i .. j - 1 are cut out: what stands behind them moves down, the last cells are overwritten. -/
theorem own_del {α : Type} {w : World} {enc : α → List Value} {sz base : Nat} {e : TypeId} {g n cap : Nat} {l : List α} (hlen : ∀ x, (enc x).length = sz)
    (h : w.own base e enc sz (.slice (some ⟨g, 0, none⟩) n cap) l) {i j : Nat} (hij : i ≤ j) (hj : j ≤ l.length) (zs : List Value) (hzs : zs.length = (j - i) * sz) :
    ((w.setCells g (i * sz) ((l.drop j).flatMap enc)).setCells g ((l.length - (j - i)) * sz) zs).own base e enc sz (.slice (some ⟨g, 0, none⟩) (l.length - (j - i)) cap) (l.take i ++ l.drop j) := by
  obtain ⟨h1, ⟨hv, _⟩ | ⟨g', cap', cur, hv, hg, hh, hle, hcap, hs, ht⟩⟩ := h
  · cases hv
  · simp only [Value.slice.injEq, Option.some.injEq, Addr.mk.injEq, and_true] at hv
    obtain ⟨rfl, rfl, rfl⟩ := hv
    have hm : ((l.drop j).flatMap enc).length = (l.length - j) * sz := by rw [flat_length hlen, List.length_drop]
    have e1 : i * sz + (l.length - j) * sz = (l.length - (j - i)) * sz := by rw [← Nat.add_mul]; congr 1; omega
    have e2 : (l.length - (j - i)) * sz + (j - i) * sz = l.length * sz := by rw [← Nat.add_mul]; congr 1; omega
    have e3 : l.length * sz ≤ cap * sz := Nat.mul_le_mul_right _ hle
    obtain ⟨C', c1, c2, c3⟩ := setCells_row ((l.drop j).flatMap enc) (i * sz) hh (by rw [hm, hs]; omega)
    obtain ⟨C2, d1, d2, d3⟩ := setCells_row zs ((l.length - (j - i)) * sz) c1 (by rw [hzs, c2, hs]; omega)
    have hlen' : (l.take i ++ l.drop j).length = l.length - (j - i) := by simp; omega
    unfold World.own
    rw [hlen']
    refine ⟨by rw [flat_length hlen, hlen'], .inr ⟨g, cap, C2, rfl, hg, d1, by omega, hcap, by rw [d2, c2]; exact hs, ?_⟩⟩
    rw [List.flatMap_append, flat_take hlen]
    apply List.ext_getElem?
    intro q
    have hF : (l.flatMap enc).length = l.length * sz := flat_length hlen l
    rw [List.getElem?_take, List.getElem?_append, List.length_take, hF, Array.getElem?_toList, d3 q, c3 q, hm, hzs]
    have e4 : i * sz ≤ l.length * sz := Nat.mul_le_mul_right _ (by omega)
    rw [Nat.min_eq_left e4]
    by_cases q1 : q < i * sz
    · rw [if_pos (by omega), if_neg (by omega), if_neg (by omega), if_pos q1, List.getElem?_take, if_pos q1, ← ht, List.getElem?_take, if_pos (by omega), Array.getElem?_toList]
    · rw [if_neg q1]
      by_cases q2 : q < (l.length - (j - i)) * sz
      · rw [if_pos q2, if_neg (by omega), if_pos (by omega)]
      · rw [if_neg q2, List.getElem?_eq_none (by rw [hm]; omega)]
theorem own_flat {α : Type} {w : World} {enc : α → List Value} {sz base : Nat} {e : TypeId} {g n cap : Nat} {l : List α} (h : w.own base e enc sz (.slice (some ⟨g, 0, none⟩) n cap) l) {q : Nat} (hq : q < l.length * sz) :
    w.cell? ⟨g, q, none⟩ = (l.flatMap enc)[q]? := by
  obtain ⟨h1, ⟨hv, _⟩ | ⟨g', cap', cur, hv, hg, hh, hle, hcap, hs, ht⟩⟩ := h
  · cases hv
  · simp only [Value.slice.injEq, Option.some.injEq, Addr.mk.injEq, and_true] at hv
    obtain ⟨rfl, rfl, rfl⟩ := hv
    rw [World.cell_of_heap hh, ← ht, List.getElem?_take, if_pos hq, Array.getElem?_toList]
theorem own_drew {α : Type} {w : World} {enc : α → List Value} {sz base : Nat} {e : TypeId} {v : Value} {l : List α} (h : w.own base e enc sz v l) : w.drew.own base e enc sz v l := by
  obtain ⟨d, hd⟩ := gain_drew w.gained_refl
  rw [hd]
  exact own_ext h d
theorem own_live {α : Type} {w : World} {enc : α → List Value} {sz base : Nat} {e : TypeId} {g n cap : Nat} {l : List α} (hlen : ∀ x, (enc x).length = sz) (h : w.own base e enc sz (.slice (some ⟨g, 0, none⟩) n cap) l) (vs : List Value) (o : Nat) (hb : o + vs.length ≤ l.length * sz) {q : Nat} (hq : q < l.length * sz) :
    ((w.setCells g o vs).cell? ⟨g, q, none⟩).isSome = true ∧ (w.setCells g o vs).frozen? ⟨g, q, none⟩ = false := by
  obtain ⟨h1, ⟨hv, _⟩ | ⟨g', cap', cur, hv, hg, hh, hle, hcap, hs, ht⟩⟩ := h
  · cases hv
  · simp only [Value.slice.injEq, Option.some.injEq, Addr.mk.injEq, and_true] at hv
    obtain ⟨rfl, rfl, rfl⟩ := hv
    have e3 : l.length * sz ≤ cap * sz := Nat.mul_le_mul_right _ hle
    obtain ⟨C', c1, c2, c3⟩ := setCells_row vs o hh (by rw [hs]; omega)
    refine ⟨?_, World.free_of_heap c1 q⟩
    rw [World.cell_of_heap c1, Array.getElem?_eq_getElem (by rw [c2, hs]; omega)]
    rfl
theorem sl_drew {α : Type} {w : World} {enc : α → List Value} {sz : Nat} {v : Value} {l : List α} (h : w.sl enc sz v l) : w.drew.sl enc sz v l := h
theorem sl_drop_any {α : Type} {w : World} {enc : α → List Value} {sz : Nat} {b o n c : Nat} {l : List α} (h : w.sl enc sz (.slice (some ⟨b, o, none⟩) n c) l) {k : Nat} (hk : k ≤ l.length) {A : Addr} (hA : (if c = k then some (⟨b, o, none⟩ : Addr) else some ⟨b, o + k * sz, none⟩) = some A) :
    w.sl enc sz (.slice (some A) (l.length - k) (c - k)) (l.drop k) := by
  obtain ⟨p, c', hv, hc, hle⟩ := h
  simp only [Value.slice.injEq] at hv
  obtain ⟨rfl, rfl, rfl⟩ := hv
  refine ⟨_, _, by rw [List.length_drop], fun h0 => ?_, by rw [List.length_drop]; omega⟩
  rw [List.length_drop] at h0
  rw [if_neg (by omega)] at hA
  simp only [Option.some.injEq] at hA
  subst hA
  obtain ⟨b', o', e, hcell⟩ := hc (by omega)
  simp only [Option.some.injEq, Addr.mk.injEq, and_true] at e
  obtain ⟨rfl, rfl⟩ := e
  refine ⟨_, _, rfl, fun q hq j hj => ?_⟩
  rw [List.length_drop] at hq
  have := hcell (k + q) (by omega) j hj
  rw [List.getElem_drop, ← this]
  congr 2
  rw [Nat.add_mul]; omega
theorem sl_cap {α : Type} {w : World} {enc : α → List Value} {sz n c : Nat} {p : Option Addr} {l : List α} (h : w.sl enc sz (.slice p n c) l) : l.length ≤ c := by
  obtain ⟨p', c', hv, _, hle⟩ := h
  simp only [Value.slice.injEq] at hv
  obtain ⟨_, _, rfl⟩ := hv
  exact hle
/-- append, in a region that draws its order. -/
theorem step_append_gain {P : Program} {ops : Array Oper} {o : Oper} {a : Act} {K : Act → World → Prop} {Q : Exit → Act → World → Prop} {E : Prop} {α : Type} {enc : α → List Value} {sz by_ : Nat} {t e : TypeId} {z : Value}
    (hgd : o.guard = none) (s x : Operand) (ho : o.op = .call { callee := .builtin .append, args := #[s, x], argTypes := #[t, t] })
    (ht : P.underlying t = some (.slice e)) (hi : (P.info? e).map (fun i => (i.zero, i.size, i.bytes)) = some (some z, sz, by_))
    (hz : z.cells.size = sz) (h0 : 0 < sz) (hlen : ∀ x, (enc x).length = sz) (hone : ∀ x, ∀ c ∈ enc x, c.oneCell' = true) (hby : by_ ≤ 4096)
    {W w : World} (hW : ∃ d, w = W.ext d) {base : Nat} (hB : W.heap.size ≤ base) (hbase : base ≤ w.heap.size) {v u : Value} {l m : List α} (hs : a.eval s = v) (hx : a.eval x = u)
    (hown : w.own base e enc sz v l) (hu : w.sl enc sz u m) (hn : l.length + m.length ≤ 2097152)
    (h : ∀ v' d, (W.ext d).own base e enc sz v' (l ++ m) → w.grownBy (W.ext d) v.ownBlock → K (a.put o.dst v') (W.ext d)) :
    if Region.wanted o (yielded ops a.tmps) = true then Oper.wp P o a w K Q else E := by
  have hw : Region.wanted o (yielded ops a.tmps) = true := by simp [Region.wanted, hgd]
  rw [if_pos hw]
  obtain ⟨v', d, hr, h2, h3⟩ := run_append_gain (P := P) o.type ht hi hz h0 hlen hone hby hW hB hbase hown hu hn
  unfold Oper.wp execOp
  simp only [ho, resolve, invoke, builtin, Sem.run_bind, Sem.run_pure, Result.andThen_ok, List.map_toArray, List.map_cons, List.map_nil, hs, hx, hr]
  exact h v' d h2 h3
end Go
/- What is said of a world is said of it grown: slices, rows, cells. No condition. -/
namespace Go
open RowKit
theorem cell_ext {w : World} {a : Addr} {v : Value} (h : w.cell? a = some v) (d : Gain) : (w.ext d).cell? a = some v := by
  rw [World.cell?_ext _ _ _ (World.lt_of_cell (by rw [h]; rfl)), h]
theorem cell_alloc {w : World} {a : Addr} {v : Value} (h : w.cell? a = some v) (o : Obj) : (w.alloc o).cell? a = some v := by
  rw [World.cell?_alloc_oldB _ _ _ (World.lt_of_cell (by rw [h]; rfl)), h]
theorem cell_drew {w : World} {a : Addr} {v : Value} (h : w.cell? a = some v) : w.drew.cell? a = some v := h
theorem sl_up {α : Type} {w w' : World} {enc : α → List Value} {sz : Nat} {v : Value} {l : List α} (hz : ∀ x, (enc x).length = sz) (h : w.sl enc sz v l) (hg : ∃ d, w' = w.ext d) : w'.sl enc sz v l := by
  obtain ⟨d, rfl⟩ := hg
  exact World.sl_ext hz h d
theorem own_up {α : Type} {w w' : World} {base : Nat} {e : TypeId} {enc : α → List Value} {sz : Nat} {v : Value} {l : List α} (h : w.own base e enc sz v l) (hg : ∃ d, w' = w.ext d) : w'.own base e enc sz v l := by
  obtain ⟨d, rfl⟩ := hg
  exact own_ext h d
theorem gain_trans {w W w' : World} (h : ∃ d, W = w.ext d) (h' : ∃ d, w' = W.ext d) : ∃ d, w' = w.ext d := by
  obtain ⟨d, rfl⟩ := h
  obtain ⟨e, rfl⟩ := h'
  exact ⟨_, World.ext_ext _ _ _⟩
theorem only_ext {a w : World} {g : Nat} (h : a.grownBy w (some g)) (d : Gain) : a.grownBy (w.ext d) (some g) :=
  ⟨h.os, h.tape, h.output, Nat.le_trans h.size (World.size_ext w d), fun i hi hne => (World.heap_ext_lt w d (Nat.lt_of_lt_of_le hi h.size)).trans (h.block i hi hne)⟩
/-- A slice of the call's own, or an empty one of no capacity, wherever it lies: an append to it makes a new block. -/
def World.own0 {α : Type} (w : World) (b2 base : Nat) (e : TypeId) (enc : α → List Value) (sz : Nat) (v : Value) (l : List α) : Prop :=
  w.own base e enc sz v l ∨ l = [] ∧ (∃ g, v = .slice (some ⟨g, 0, none⟩) 0 0) ∧ w.own b2 e enc sz v l
theorem own0_empty {α : Type} {w : World} {b2 base : Nat} {e : TypeId} {enc : α → List Value} {sz : Nat} {g : Nat} (h : w.own b2 e enc sz (.slice (some ⟨g, 0, none⟩) 0 0) []) : w.own0 b2 base e enc sz (.slice (some ⟨g, 0, none⟩) 0 0) [] := Or.inr ⟨rfl, ⟨g, rfl⟩, h⟩
theorem own0_end {α : Type} {w : World} {b2 base : Nat} {e : TypeId} {enc : α → List Value} {sz : Nat} {v : Value} {l : List α} (h : w.own0 b2 base e enc sz v l) (hb : b2 ≤ base) : w.own b2 e enc sz v l :=
  h.elim (fun h => own_base h hb) (fun h => h.2.2)
theorem own0_up {α : Type} {w w' : World} {b2 base : Nat} {e : TypeId} {enc : α → List Value} {sz : Nat} {v : Value} {l : List α} (h : w.own0 b2 base e enc sz v l) (hg : ∃ d, w' = w.ext d) : w'.own0 b2 base e enc sz v l :=
  h.elim (fun h => .inl (own_up h hg)) (fun h => .inr ⟨h.1, h.2.1, own_up h.2.2 hg⟩)
theorem run_append_empty {P : Program} {w : World} (t ty e : TypeId) (i : TypeInfo) (z : Value) (ht : P.underlying t = some (.slice e)) (hi : P.info? e = some i) (hz : i.zero = some z) (g : Nat)
    (a : Addr) (m c : Nat) (news : List Value) (hl : news.length = m * i.size) (hnews : ∀ j u, news[j]? = some u → w.cell? (a.add j) = some u) (h0 : 0 < m) (h63 : m ≤ 2097152) (hb : m * i.bytes ≤ 140737488355328) :
    (Builtin.append_ #[t, t] ty #[.slice (some ⟨g, 0, none⟩) 0 0, .slice (some a) m c]).run P w = (Builtin.append_ #[t, t] ty #[.slice none 0 0, .slice (some a) m c]).run P w := by
  have h1 := run_append_grow (P := P) w t ty e i z ht hi hz ⟨g, 0, none⟩ 0 0 [] (by simp) (by simp) a m c news hl hnews (by omega) (by omega) (growslice_fits (by omega) (by rw [Nat.zero_add]; exact hb))
  have h2 := run_append_nil (P := P) w t ty e i z ht hi hz a m c news hl hnews h0 (by omega) (by omega)
  rw [h1, h2]
  simp
theorem run_append_gain0 {P : Program} {α : Type} {enc : α → List Value} {sz by_ : Nat} {t e : TypeId} {z : Value} (ty : TypeId) (ht : P.underlying t = some (.slice e)) (hi : (P.info? e).map (fun i => (i.zero, i.size, i.bytes)) = some (some z, sz, by_))
    (hz : z.cells.size = sz) (h0 : 0 < sz) (hlen : ∀ x, (enc x).length = sz) (hone : ∀ x, ∀ c ∈ enc x, c.oneCell' = true) (hby : by_ ≤ 4096)
    {W w : World} (hW : ∃ d, w = W.ext d) {b2 base : Nat} (hB : W.heap.size ≤ base) (hbase : base ≤ w.heap.size) {v u : Value} {l m : List α} (hown : w.own0 b2 base e enc sz v l) (hu : w.sl enc sz u m) (hm : 0 < m.length) (hn : l.length + m.length ≤ 2097152) :
    ∃ v' d, (Builtin.append_ #[t, t] ty #[v, u]).run P w = .ok v' (W.ext d) ∧ (W.ext d).own base e enc sz v' (l ++ m) ∧ w.grownBy (W.ext d) v.ownBlock := by
  rcases hown with hown | ⟨rfl, ⟨g, rfl⟩, _⟩
  · exact run_append_gain ty ht hi hz h0 hlen hone hby hW hB hbase hown hu hn
  · obtain ⟨v', d, hr, ho, hg⟩ := run_append_gain (P := P) ty ht hi hz h0 hlen hone hby hW hB hbase (own_nil w base e enc sz) hu hn
    refine ⟨v', d, ?_, ho, hg.os, hg.tape, hg.output, hg.size, fun k hk _ => hg.block k hk (by simp [Value.ownBlock])⟩
    obtain ⟨i, h1, h2, h3, h4⟩ := info_parts hi
    obtain ⟨p, c, rfl, hp, hcap⟩ := hu
    obtain ⟨b, o, rfl, hc⟩ := hp hm
    rw [← hr]
    refine run_append_empty t ty e i z ht h1 h2 g _ m.length c (m.flatMap enc) (by rw [flat_length hlen, h3]) (fun j x hj => ?_) hm (by simp at hn; omega) ?_
    · have hlt := (List.getElem?_eq_some_iff.1 hj).1
      rw [flat_length hlen] at hlt
      have hk : j / sz < m.length := Nat.div_lt_of_lt_mul (by rw [Nat.mul_comm]; exact hlt)
      have h5 := hc (j / sz) hk (j % sz) (Nat.mod_lt _ h0)
      rw [← flat_get hlen m (j / sz) hk (j % sz) (Nat.mod_lt _ h0)] at h5
      have e1 : j / sz * sz + j % sz = j := by rw [Nat.mul_comm]; exact Nat.div_add_mod j sz
      rw [Nat.add_assoc, e1, hj] at h5
      rw [Addr.add_lit]
      exact h5
    · rw [h4]
      have h5 : m.length * by_ ≤ 2097152 * 4096 := Nat.mul_le_mul (by simp at hn; omega) hby
      omega
theorem wpList_append_gain0 {P : Program} {ops : Array Oper} {rest : List Oper} {o : Oper} {a : Act} {Q : Exit → Act → World → Prop} {α : Type} {enc : α → List Value} {sz by_ : Nat} {t e : TypeId} {z : Value}
    (hgd : o.guard = none) (s x : Operand) (ho : o.op = .call { callee := .builtin .append, args := #[s, x], argTypes := #[t, t] })
    (ht : P.underlying t = some (.slice e)) (hi : (P.info? e).map (fun i => (i.zero, i.size, i.bytes)) = some (some z, sz, by_))
    (hz : z.cells.size = sz) (h0 : 0 < sz) (hlen : ∀ x, (enc x).length = sz) (hone : ∀ x, ∀ c ∈ enc x, c.oneCell' = true) (hby : by_ ≤ 4096)
    {W w : World} (hW : ∃ d, w = W.ext d) {base : Nat} (hB : W.heap.size ≤ base) (hbase : base ≤ w.heap.size) {b2 : Nat} {v u : Value} {l m : List α} (hs : a.eval s = v) (hx : a.eval x = u)
    (hown : w.own0 b2 base e enc sz v l) (hu : w.sl enc sz u m) (hm : 0 < m.length) (hn : l.length + m.length ≤ 2097152)
    (h : ∀ v' d, (W.ext d).own base e enc sz v' (l ++ m) → w.grownBy (W.ext d) v.ownBlock → wpList P ops Q rest (a.put o.dst v') (W.ext d)) : wpList P ops Q (o :: rest) a w := by
  obtain ⟨v', d, hr, h2, h3⟩ := run_append_gain0 (P := P) o.type ht hi hz h0 hlen hone hby hW hB hbase hown hu hm hn
  refine wpList_plain hgd fun K hK => ?_
  unfold Oper.wp execOp
  simp only [ho, resolve, invoke, builtin, Sem.run_bind, Sem.run_pure, Result.andThen_ok, List.map_toArray, List.map_cons, List.map_nil, hs, hx, hr]
  exact hK _ _ (h v' d h2 h3)
theorem apart_ne {α : Type} {l : List α} {x y o o' n c n' c' : Nat} (h : x ≠ y) : Apart l (.slice (some ⟨x, o, none⟩) n c) (.slice (some ⟨y, o', none⟩) n' c') := by
  intro _ b hb hv
  simp only [Value.ownBlock, Option.some.injEq] at hb hv
  omega
end Go
