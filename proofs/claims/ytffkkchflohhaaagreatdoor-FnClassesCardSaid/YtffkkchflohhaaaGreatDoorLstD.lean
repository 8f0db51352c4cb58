/- A list while it is drawn: the reader, the slice. No condition. -/
import Derived.Test.YtffkkchflohhaaaGreatDoorRowD
import Derived.Test.YtffkkchflohhaaaGreatDoorRows2
namespace Go
open RowKit Go.Ori
structure LSt {α : Type} (T tC : TypeId) (enc : α → List Value) (sz : Nat) (P : α → Prop) (W w wr : World) (g n : Nat) (v : Value) (l : List α) : Prop where
  cur : Cur T W wr g n
  own : wr.own w.heap.size tC enc sz v l
  gr : w.grownBy wr (some g)
  g2 : g < w.heap.size
  wW : W.heap.size ≤ g
  sm : ∀ x ∈ l, P x
section
variable {α : Type} {T tC : TypeId} {enc : α → List Value} {sz : Nat} {P : α → Prop} {W w wr wr' : World} {g n n' : Nat} {v v' u : Value} {l l' : List α}
theorem LSt.up (h : LSt T tC enc sz P W w wr g n v l) (hg : ∃ d, wr' = wr.ext d) : LSt T tC enc sz P W w wr' g n v l :=
  ⟨h.cur.gain hg, own_up h.own hg, only_gain h.gr hg, h.g2, h.wW, h.sm⟩
theorem LSt.le (h : LSt T tC enc sz P W w wr g n v l) (hn : n ≤ n') : LSt T tC enc sz P W w wr g n' v l := ⟨h.cur.le hn, h.own, h.gr, h.g2, h.wW, h.sm⟩
theorem LSt.on (h : LSt T tC enc sz P W w wr g n v l) (hc : Cur T W wr' g n') (hg : wr.grownBy wr' (some g)) : LSt T tC enc sz P W w wr' g n' v l :=
  ⟨hc, own_cur h.own h.g2 hg, only_trans h.gr hg, h.g2, h.wW, h.sm⟩
/-- Another slice has grown. -/
theorem LSt.keep (h : LSt T tC enc sz P W w wr g n v l) (hg : wr.grownBy wr' u.ownBlock) (ha : Apart2 v u) (hu : ∀ q, u.ownBlock = some q → w.heap.size ≤ q) (hW : ∃ d, wr' = W.ext d) : LSt T tC enc sz P W w wr' g n v l :=
  ⟨h.cur.grow hg (fun q e => Nat.lt_of_lt_of_le h.g2 (hu q e)) hW, own_mark h.own hg ha, only_new h.gr hg hu, h.g2, h.wW, h.sm⟩
/-- The slice itself has grown. -/
theorem LSt.app (h : LSt T tC enc sz P W w wr g n v l) (hg : wr.grownBy wr' v.ownBlock) (ho : wr'.own w.heap.size tC enc sz v' l') (hs : ∀ x ∈ l', P x) (hW : ∃ d, wr' = W.ext d) : LSt T tC enc sz P W w wr' g n v' l' :=
  ⟨h.cur.grow hg (fun q e => Nat.lt_of_lt_of_le h.g2 (own_lt h.own q e).1) hW, ho, only_new h.gr hg (fun q e => (own_lt h.own q e).1), h.g2, h.wW, hs⟩
/-- Another slice is taken. -/
theorem LSt.turn (h : LSt T tC enc sz P W w wr g n v l) (ho : wr.own w.heap.size tC enc sz v' l') (hs : ∀ x ∈ l', P x) : LSt T tC enc sz P W w wr g n v' l' := ⟨h.cur, ho, h.gr, h.g2, h.wW, hs⟩
theorem LSt.size (h : LSt T tC enc sz P W w wr g n v l) : w.heap.size ≤ wr.heap.size := only_size h.gr
theorem LSt.wle (h : LSt T tC enc sz P W w wr g n v l) : W.heap.size ≤ w.heap.size := by have := h.g2; have := h.wW; omega
end
end Go
