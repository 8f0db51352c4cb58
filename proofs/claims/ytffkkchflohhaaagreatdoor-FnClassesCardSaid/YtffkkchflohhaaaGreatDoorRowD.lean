/- A row in memory while its fields are drawn: the reader, the result's row, the row at hand. No condition. -/
import Derived.Test.YtffkkchflohhaaaGreatDoorCurP
import Derived.Test.YtffkkchflohhaaaGreatDoorHeld
namespace Go
open RowKit Go.Ori
theorem rowd_keep {w w' : World} {r : Option Nat} {b : Nat} {C : Array Value} {e : TypeId} {f : Nat × Nat} (h : w.heap[b]? = some (.cells C e f)) (hg : w.grownBy w' r) (hr : ∀ q, r = some q → q ≠ b) : w'.heap[b]? = some (.cells C e f) :=
  (hg.block b (Array.getElem?_eq_some_iff.1 h).1 (fun e => hr _ e.symm rfl)).trans h
theorem rowd_up {w w' : World} {b : Nat} {C : Array Value} {e : TypeId} {f : Nat × Nat} (h : w.heap[b]? = some (.cells C e f)) (hg : ∃ d, w' = w.ext d) : w'.heap[b]? = some (.cells C e f) := by
  obtain ⟨d, rfl⟩ := hg
  exact World.heap_ext_old d h
/-- The reader and the result's row. -/
structure PreSt (T tC : TypeId) (W w wr : World) (g gR n : Nat) (Z : Array Value) : Prop where
  cur : Cur T W wr g n
  res : wr.heap[gR]? = some (.cells Z tC (0, 0))
  gr : w.grownBy wr (some g)
  g2 : g < w.heap.size
  r1 : w.heap.size ≤ gR
  wW : W.heap.size ≤ g
/-- .. and the row at hand. -/
structure RowSt (T tC : TypeId) (W w wr : World) (g gR gB n : Nat) (Z B : Array Value) : Prop where
  pre : PreSt T tC W w wr g gR n Z
  box : wr.heap[gB]? = some (.cells B tC (0, 0))
  rb : gR < gB
section
variable {T tC : TypeId} {W w wr wr' : World} {g gR gB n n' : Nat} {Z B : Array Value}
theorem PreSt.start (h : Cur T W w g n) : PreSt T tC W w (w.alloc (.cells Z tC)) g w.heap.size n Z :=
  ⟨h.gain (gain_alloc (World.gained_refl _) _), heap_alloc_new w _, only_gain (only_refl _ _) (gain_alloc (World.gained_refl _) _), h.lt, Nat.le_refl _, h.ge⟩
theorem PreSt.up (h : PreSt T tC W w wr g gR n Z) (hg : ∃ d, wr' = wr.ext d) : PreSt T tC W w wr' g gR n Z :=
  ⟨h.cur.gain hg, rowd_up h.res hg, only_gain h.gr hg, h.g2, h.r1, h.wW⟩
theorem PreSt.le (h : PreSt T tC W w wr g gR n Z) (hn : n ≤ n') : PreSt T tC W w wr g gR n' Z := ⟨h.cur.le hn, h.res, h.gr, h.g2, h.r1, h.wW⟩
theorem PreSt.on (h : PreSt T tC W w wr g gR n Z) (hc : Cur T W wr' g n') (hg : wr.grownBy wr' (some g)) : PreSt T tC W w wr' g gR n' Z :=
  ⟨hc, rowd_keep h.res hg (fun q e => by have := h.g2; have := h.r1; cases e; omega), only_trans h.gr hg, h.g2, h.r1, h.wW⟩
theorem PreSt.lt (h : PreSt T tC W w wr g gR n Z) : g < wr.heap.size := h.cur.lt
theorem PreSt.box (h : PreSt T tC W w wr g gR n Z) (B : Array Value) : RowSt T tC W w (wr.alloc (.cells B tC)) g gR wr.heap.size n Z B :=
  ⟨h.up (gain_alloc (World.gained_refl _) _), heap_alloc_new wr _, (Array.getElem?_eq_some_iff.1 h.res).1⟩
theorem RowSt.up (h : RowSt T tC W w wr g gR gB n Z B) (hg : ∃ d, wr' = wr.ext d) : RowSt T tC W w wr' g gR gB n Z B := ⟨h.pre.up hg, rowd_up h.box hg, h.rb⟩
theorem RowSt.le (h : RowSt T tC W w wr g gR gB n Z B) (hn : n ≤ n') : RowSt T tC W w wr g gR gB n' Z B := ⟨h.pre.le hn, h.box, h.rb⟩
theorem RowSt.on (h : RowSt T tC W w wr g gR gB n Z B) (hc : Cur T W wr' g n') (hg : wr.grownBy wr' (some g)) : RowSt T tC W w wr' g gR gB n' Z B :=
  ⟨h.pre.on hc hg, rowd_keep h.box hg (fun q e => by have := h.pre.g2; have := h.pre.r1; have := h.rb; cases e; omega), h.rb⟩
theorem RowSt.lt (h : RowSt T tC W w wr g gR gB n Z B) : g < wr.heap.size := h.pre.cur.lt
theorem RowSt.put (h : RowSt T tC W w wr g gR gB n Z B) (i : Nat) (v : Value) : RowSt T tC W w (wr.setCell ⟨gB, i, none⟩ v) g gR gB n Z (B.setIfInBounds i v) := by
  have hg : wr.grownBy (wr.setCell ⟨gB, i, none⟩ v) (some gB) := only_setCell (only_refl _ _) rfl _
  have h1 := h.pre.g2
  have h2 := h.pre.r1
  have h3 := h.rb
  have h4 := h.pre.wW
  have hu := gain_setCell h.pre.cur.up (a := ⟨gB, i, none⟩) (show W.heap.size ≤ gB by omega) v
  exact ⟨⟨h.pre.cur.grow hg (fun q e => by cases e; omega) hu, rowd_keep h.pre.res hg (fun q e => by cases e; omega), only_new h.pre.gr hg (fun q e => by cases e; omega), h.pre.g2, h.pre.r1, h.pre.wW⟩, World.heap_setCell_row h.box i v, h.rb⟩
theorem RowSt.fin (h : RowSt T tC W w wr g gR gB n Z B) (hg : wr.grownBy wr' (some gR)) : Cur T W wr' g n ∧ w.grownBy wr' (some g) := by
  have h1 := h.pre.g2
  have h2 := h.pre.r1
  have h4 := h.pre.wW
  exact ⟨h.pre.cur.grow hg (fun q e => by cases e; omega) (gain_grown h.pre.cur.up hg (fun q e => by cases e; omega)), only_new h.pre.gr hg (fun q e => by cases e; omega)⟩
end
end Go
