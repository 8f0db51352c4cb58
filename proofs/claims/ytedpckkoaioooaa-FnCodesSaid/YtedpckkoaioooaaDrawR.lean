/- A map that is at hand while more is drawn: its box, its two slices, the reader. No condition. -/
import Derived.Test.YtedpckkoaioooaaDrawCell
namespace Go
open RowKit Go.Ori
structure RSt (T tM tI : TypeId) (W w wr : World) (g lo gB n : Nat) (m : Mp) (rv cv : Value) : Prop where
  cur : Cur T W wr g n
  box : wr.heap[gB]? = some (.cells #[.int .i64 m.wd, .int .i64 m.ht, rv, cv] tM (0, 0))
  r : wr.own lo tI intC 1 rv m.rise
  c : wr.own lo tI intC 1 cv m.cost
  rlt : ∀ q, rv.ownBlock = some q → q < w.heap.size
  clt : ∀ q, cv.ownBlock = some q → q < w.heap.size
  gr : w.grownBy wr (some g)
  g1 : g < lo
  g2 : g < w.heap.size
  b1 : gB ≠ g
  ne : tI ≠ tM
  wW : W.heap.size ≤ w.heap.size
section
variable {T tM tI : TypeId} {W w wr wr' : World} {g lo gB n n' : Nat} {m : Mp} {rv cv : Value}
theorem RSt.start (h : Cur T W w g n) (hlo : g < lo) (hr : w.own lo tI intC 1 rv m.rise) (hc : w.own lo tI intC 1 cv m.cost) (hne : tI ≠ tM) : RSt T tM tI W w (w.alloc (.cells #[.int .i64 m.wd, .int .i64 m.ht, rv, cv] tM)) g lo w.heap.size n m rv cv :=
  ⟨h.gain (gain_alloc (World.gained_refl _) _), heap_alloc_new w _, own_up hr (gain_alloc (World.gained_refl _) _), own_up hc (gain_alloc (World.gained_refl _) _), fun q e => (own_lt hr q e).2, fun q e => (own_lt hc q e).2, only_gain (only_refl _ _) (gain_alloc (World.gained_refl _) _), hlo, h.lt, fun e => by have := h.lt; omega, hne, Nat.le_trans h.ge (Nat.le_of_lt h.lt)⟩
/-- .. from a box that stands already. -/
theorem RSt.here (h : Cur T W w g n) (hlo : g < lo) (hb : w.heap[gB]? = some (.cells #[.int .i64 m.wd, .int .i64 m.ht, rv, cv] tM (0, 0))) (hgb : gB ≠ g) (hr : w.own lo tI intC 1 rv m.rise) (hc : w.own lo tI intC 1 cv m.cost) (hne : tI ≠ tM) : RSt T tM tI W w w g lo gB n m rv cv :=
  ⟨h, hb, hr, hc, fun q e => (own_lt hr q e).2, fun q e => (own_lt hc q e).2, only_refl _ _, hlo, h.lt, hgb, hne, Nat.le_trans h.ge (Nat.le_of_lt h.lt)⟩
theorem RSt.up (h : RSt T tM tI W w wr g lo gB n m rv cv) (hg : ∃ d, wr' = wr.ext d) : RSt T tM tI W w wr' g lo gB n m rv cv :=
  ⟨h.cur.gain hg, row_up h.box hg, own_up h.r hg, own_up h.c hg, h.rlt, h.clt, only_gain h.gr hg, h.g1, h.g2, h.b1, h.ne, h.wW⟩
theorem RSt.le (h : RSt T tM tI W w wr g lo gB n m rv cv) (hn : n ≤ n') : RSt T tM tI W w wr g lo gB n' m rv cv :=
  ⟨h.cur.le hn, h.box, h.r, h.c, h.rlt, h.clt, h.gr, h.g1, h.g2, h.b1, h.ne, h.wW⟩
theorem RSt.on (h : RSt T tM tI W w wr g lo gB n m rv cv) (hc : Cur T W wr' g n') (hg : wr.grownBy wr' (some g)) : RSt T tM tI W w wr' g lo gB n' m rv cv :=
  ⟨hc, row_keep h.box hg (fun q e => by cases e; exact fun e => h.b1 e.symm), own_cur h.r h.g1 hg, own_cur h.c h.g1 hg, h.rlt, h.clt, only_trans h.gr hg, h.g1, h.g2, h.b1, h.ne, h.wW⟩
theorem RSt.size (h : RSt T tM tI W w wr g lo gB n m rv cv) : w.heap.size ≤ wr.heap.size := only_size h.gr
theorem RSt.mp (h : RSt T tM tI W w wr g lo gB n m rv cv) (hrl : m.rise.length ≤ 1048576) (hcl : m.cost.length ≤ 1048576) : wr.mp rv cv m := ⟨sl_of_own intC_length h.r, sl_of_own intC_length h.c, hrl, hcl⟩
/-- A slice of what was drawn since has grown by an append. -/
theorem RSt.grown {v : Value} {α : Type} {enc : α → List Value} {sz : Nat} {e : TypeId} {l : List α} (h : RSt T tM tI W w wr g lo gB n m rv cv) (hv : wr.own w.heap.size e enc sz v l) (he : e ≠ tM) (hg : wr.grownBy wr' v.ownBlock) (hu : ∃ d, wr' = W.ext d) :
    RSt T tM tI W w wr' g lo gB n m rv cv := by
  refine ⟨h.cur.grow hg (own_newer hv h.g2) hu, row_keep h.box hg (own_ne hv h.box he), own_mark h.r hg (fun q hq e => ?_), own_mark h.c hg (fun q hq e => ?_), h.rlt, h.clt, only_new h.gr hg (fun q e => (own_lt hv q e).1), h.g1, h.g2, h.b1, h.ne, h.wW⟩
  · have := h.rlt q hq; have := (own_lt hv q e).1; omega
  · have := h.clt q hq; have := (own_lt hv q e).1; omega
end
end Go
