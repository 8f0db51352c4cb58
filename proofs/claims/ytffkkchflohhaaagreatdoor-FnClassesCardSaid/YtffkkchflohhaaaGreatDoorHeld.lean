/- What is said of a world is said of it grown: slices, rows, cells. No condition. -/
import Derived.Test.YtffkkchflohhaaaGreatDoorCut
import Derived.Deep.CutRange
import Derived.Deep.RegionHeld
namespace Go
open RowKit
theorem cell_ext {w : World} {a : Addr} {v : Value} (h : w.cell? a = some v) (d : Gain) : (w.ext d).cell? a = some v := by
  rw [World.cell?_ext _ _ _ (World.lt_of_cell (by rw [h]; rfl)), h]
theorem cell_alloc {w : World} {a : Addr} {v : Value} (h : w.cell? a = some v) (o : Obj) : (w.alloc o).cell? a = some v := by
  rw [World.cell?_alloc_oldB _ _ _ (World.lt_of_cell (by rw [h]; rfl)), h]
theorem cell_drew {w : World} {a : Addr} {v : Value} (h : w.cell? a = some v) : w.drew.cell? a = some v := h
theorem sl_up {α : Type} {w w' : World} {enc : α → List Value} {sz : Nat} {v : Value} {l : List α} (hz : ∀ x, (enc x).length = sz) (h : w.sl enc sz v l) (hg : ∃ d, w' = w.ext d) : w'.sl enc sz v l := by
  obtain ⟨d, rfl⟩ := hg
  exact World.sl_ext hz h d
theorem own_up {α : Type} {w w' : World} {base : Nat} {e : TypeId} {enc : α → List Value} {sz : Nat} {v : Value} {l : List α} (h : w.own base e enc sz v l) (hg : ∃ d, w' = w.ext d) : w'.own base e enc sz v l := by
  obtain ⟨d, rfl⟩ := hg
  exact own_ext h d
theorem gain_trans {w W w' : World} (h : ∃ d, W = w.ext d) (h' : ∃ d, w' = W.ext d) : ∃ d, w' = w.ext d := by
  obtain ⟨d, rfl⟩ := h
  obtain ⟨e, rfl⟩ := h'
  exact ⟨_, World.ext_ext _ _ _⟩
theorem only_ext {a w : World} {g : Nat} (h : a.grownBy w (some g)) (d : Gain) : a.grownBy (w.ext d) (some g) :=
  ⟨h.os, h.tape, h.output, Nat.le_trans h.size (World.size_ext w d), fun i hi hne => (World.heap_ext_lt w d (Nat.lt_of_lt_of_le hi h.size)).trans (h.block i hi hne)⟩
/-- A slice of the call's own, or an empty one of no capacity, wherever it lies: an append to it makes a new block. -/
def World.own0 {α : Type} (w : World) (b2 base : Nat) (e : TypeId) (enc : α → List Value) (sz : Nat) (v : Value) (l : List α) : Prop :=
  w.own base e enc sz v l ∨ l = [] ∧ (∃ g, v = .slice (some ⟨g, 0, none⟩) 0 0) ∧ w.own b2 e enc sz v l
theorem own0_empty {α : Type} {w : World} {b2 base : Nat} {e : TypeId} {enc : α → List Value} {sz : Nat} {g : Nat} (h : w.own b2 e enc sz (.slice (some ⟨g, 0, none⟩) 0 0) []) : w.own0 b2 base e enc sz (.slice (some ⟨g, 0, none⟩) 0 0) [] := Or.inr ⟨rfl, ⟨g, rfl⟩, h⟩
theorem own0_end {α : Type} {w : World} {b2 base : Nat} {e : TypeId} {enc : α → List Value} {sz : Nat} {v : Value} {l : List α} (h : w.own0 b2 base e enc sz v l) (hb : b2 ≤ base) : w.own b2 e enc sz v l :=
  h.elim (fun h => own_base h hb) (fun h => h.2.2)
theorem own0_up {α : Type} {w w' : World} {b2 base : Nat} {e : TypeId} {enc : α → List Value} {sz : Nat} {v : Value} {l : List α} (h : w.own0 b2 base e enc sz v l) (hg : ∃ d, w' = w.ext d) : w'.own0 b2 base e enc sz v l :=
  h.elim (fun h => .inl (own_up h hg)) (fun h => .inr ⟨h.1, h.2.1, own_up h.2.2 hg⟩)
theorem run_append_empty {P : Program} {w : World} (t ty e : TypeId) (i : TypeInfo) (z : Value) (ht : P.underlying t = some (.slice e)) (hi : P.info? e = some i) (hz : i.zero = some z) (g : Nat)
    (a : Addr) (m c : Nat) (news : List Value) (hl : news.length = m * i.size) (hnews : ∀ j u, news[j]? = some u → w.cell? (a.add j) = some u) (h0 : 0 < m) (h63 : m ≤ 2097152) (hb : m * i.bytes ≤ 140737488355328) :
    (Builtin.append_ #[t, t] ty #[.slice (some ⟨g, 0, none⟩) 0 0, .slice (some a) m c]).run P w = (Builtin.append_ #[t, t] ty #[.slice none 0 0, .slice (some a) m c]).run P w := by
  have h1 := run_append_grow (P := P) w t ty e i z ht hi hz ⟨g, 0, none⟩ 0 0 [] (by simp) (by simp) a m c news hl hnews (by omega) (by omega) (growslice_fits (by omega) (by rw [Nat.zero_add]; exact hb))
  have h2 := run_append_nil (P := P) w t ty e i z ht hi hz a m c news hl hnews h0 (by omega) (by omega)
  rw [h1, h2]
  simp
theorem run_append_gain0 {P : Program} {α : Type} {enc : α → List Value} {sz by_ : Nat} {t e : TypeId} {z : Value} (ty : TypeId) (ht : P.underlying t = some (.slice e)) (hi : (P.info? e).map (fun i => (i.zero, i.size, i.bytes)) = some (some z, sz, by_))
    (hz : z.cells.size = sz) (h0 : 0 < sz) (hlen : ∀ x, (enc x).length = sz) (hone : ∀ x, ∀ c ∈ enc x, c.oneCell' = true) (hby : by_ ≤ 4096)
    {W w : World} (hW : ∃ d, w = W.ext d) {b2 base : Nat} (hB : W.heap.size ≤ base) (hbase : base ≤ w.heap.size) {v u : Value} {l m : List α} (hown : w.own0 b2 base e enc sz v l) (hu : w.sl enc sz u m) (hm : 0 < m.length) (hn : l.length + m.length ≤ 2097152) :
    ∃ v' d, (Builtin.append_ #[t, t] ty #[v, u]).run P w = .ok v' (W.ext d) ∧ (W.ext d).own base e enc sz v' (l ++ m) ∧ w.grownBy (W.ext d) v.ownBlock := by
  rcases hown with hown | ⟨rfl, ⟨g, rfl⟩, _⟩
  · exact run_append_gain ty ht hi hz h0 hlen hone hby hW hB hbase hown hu hn
  · obtain ⟨v', d, hr, ho, hg⟩ := run_append_gain (P := P) ty ht hi hz h0 hlen hone hby hW hB hbase (own_nil w base e enc sz) hu hn
    refine ⟨v', d, ?_, ho, hg.os, hg.tape, hg.output, hg.size, fun k hk _ => hg.block k hk (by simp [Value.ownBlock])⟩
    obtain ⟨i, h1, h2, h3, h4⟩ := info_parts hi
    obtain ⟨p, c, rfl, hp, hcap⟩ := hu
    obtain ⟨b, o, rfl, hc⟩ := hp hm
    rw [← hr]
    refine run_append_empty t ty e i z ht h1 h2 g _ m.length c (m.flatMap enc) (by rw [flat_length hlen, h3]) (fun j x hj => ?_) hm (by simp at hn; omega) ?_
    · have hlt := (List.getElem?_eq_some_iff.1 hj).1
      rw [flat_length hlen] at hlt
      have hk : j / sz < m.length := Nat.div_lt_of_lt_mul (by rw [Nat.mul_comm]; exact hlt)
      have h5 := hc (j / sz) hk (j % sz) (Nat.mod_lt _ h0)
      rw [← flat_get hlen m (j / sz) hk (j % sz) (Nat.mod_lt _ h0)] at h5
      have e1 : j / sz * sz + j % sz = j := by rw [Nat.mul_comm]; exact Nat.div_add_mod j sz
      rw [Nat.add_assoc, e1, hj] at h5
      rw [Addr.add_lit]
      exact h5
    · rw [h4]
      have h5 : m.length * by_ ≤ 2097152 * 4096 := Nat.mul_le_mul (by simp at hn; omega) hby
      omega
theorem wpList_append_gain0 {P : Program} {ops : Array Oper} {rest : List Oper} {o : Oper} {a : Act} {Q : Exit → Act → World → Prop} {α : Type} {enc : α → List Value} {sz by_ : Nat} {t e : TypeId} {z : Value}
    (hgd : o.guard = none) (s x : Operand) (ho : o.op = .call { callee := .builtin .append, args := #[s, x], argTypes := #[t, t] })
    (ht : P.underlying t = some (.slice e)) (hi : (P.info? e).map (fun i => (i.zero, i.size, i.bytes)) = some (some z, sz, by_))
    (hz : z.cells.size = sz) (h0 : 0 < sz) (hlen : ∀ x, (enc x).length = sz) (hone : ∀ x, ∀ c ∈ enc x, c.oneCell' = true) (hby : by_ ≤ 4096)
    {W w : World} (hW : ∃ d, w = W.ext d) {base : Nat} (hB : W.heap.size ≤ base) (hbase : base ≤ w.heap.size) {b2 : Nat} {v u : Value} {l m : List α} (hs : a.eval s = v) (hx : a.eval x = u)
    (hown : w.own0 b2 base e enc sz v l) (hu : w.sl enc sz u m) (hm : 0 < m.length) (hn : l.length + m.length ≤ 2097152)
    (h : ∀ v' d, (W.ext d).own base e enc sz v' (l ++ m) → w.grownBy (W.ext d) v.ownBlock → wpList P ops Q rest (a.put o.dst v') (W.ext d)) : wpList P ops Q (o :: rest) a w := by
  obtain ⟨v', d, hr, h2, h3⟩ := run_append_gain0 (P := P) o.type ht hi hz h0 hlen hone hby hW hB hbase hown hu hm hn
  refine wpList_plain hgd fun K hK => ?_
  unfold Oper.wp execOp
  simp only [ho, resolve, invoke, builtin, Sem.run_bind, Sem.run_pure, Result.andThen_ok, List.map_toArray, List.map_cons, List.map_nil, hs, hx, hr]
  exact hK _ _ (h v' d h2 h3)
theorem apart_ne {α : Type} {l : List α} {x y o o' n c n' c' : Nat} (h : x ≠ y) : Apart l (.slice (some ⟨x, o, none⟩) n c) (.slice (some ⟨y, o', none⟩) n' c') := by
  intro _ b hb hv
  simp only [Value.ownBlock, Option.some.injEq] at hb hv
  omega
end Go
