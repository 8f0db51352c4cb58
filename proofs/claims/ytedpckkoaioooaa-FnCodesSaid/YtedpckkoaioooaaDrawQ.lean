/- What is at hand while a map, controls and more are drawn. No condition. -/
import Derived.Test.YtedpckkoaioooaaDrawSite2
import Derived.Test.YtedpckkoaioooaaMapS
namespace Go
open RowKit Go.Ori
structure QSt (T tM tI tC : TypeId) (W wr : World) (g gR gM lo n : Nat) (m : Mp) (rv cv v : Value) (l : List Ctl) : Prop where
  cur : Cur T W wr g n
  res : wr.heap[gR]? = some (.cells #[.int .i64 0, .int .i64 0, .slice none 0 0, .slice none 0 0] tM (0, 0))
  box : wr.heap[gM]? = some (.cells #[.int .i64 m.wd, .int .i64 m.ht, rv, cv] tM (0, 0))
  r : wr.own lo tI intC 1 rv m.rise
  c : wr.own lo tI intC 1 cv m.cost
  ls : wr.own lo tC Ctl.cells 2 v l
  g1 : g < lo
  g2 : gR < g
  g3 : lo ≤ gM
section
variable {T tM tI tC : TypeId} {W wr wr' : World} {g gR gM lo n n' : Nat} {m : Mp} {rv cv v : Value} {l : List Ctl}
theorem QSt.up (h : QSt T tM tI tC W wr g gR gM lo n m rv cv v l) (hg : ∃ d, wr' = wr.ext d) : QSt T tM tI tC W wr' g gR gM lo n m rv cv v l :=
  ⟨h.cur.gain hg, row_up h.res hg, row_up h.box hg, own_up h.r hg, own_up h.c hg, own_up h.ls hg, h.g1, h.g2, h.g3⟩
theorem QSt.le (h : QSt T tM tI tC W wr g gR gM lo n m rv cv v l) (hn : n ≤ n') : QSt T tM tI tC W wr g gR gM lo n' m rv cv v l :=
  ⟨h.cur.le hn, h.res, h.box, h.r, h.c, h.ls, h.g1, h.g2, h.g3⟩
theorem QSt.on (h : QSt T tM tI tC W wr g gR gM lo n m rv cv v l) (hc : Cur T W wr' g n') (hg : wr.grownBy wr' (some g)) : QSt T tM tI tC W wr' g gR gM lo n' m rv cv v l := by
  have h1 := h.g1; have h2 := h.g2; have h3 := h.g3
  exact ⟨hc, row_keep h.res hg (fun q e => by cases e; omega), row_keep h.box hg (fun q e => by cases e; omega), own_cur h.r h.g1 hg, own_cur h.c h.g1 hg, own_cur h.ls h.g1 hg, h.g1, h.g2, h.g3⟩
theorem QSt.mp (h : QSt T tM tI tC W wr g gR gM lo n m rv cv v l) (hrl : m.rise.length ≤ 1048576) (hcl : m.cost.length ≤ 1048576) : wr.mp rv cv m := ⟨sl_of_own intC_length h.r, sl_of_own intC_length h.c, hrl, hcl⟩
theorem QSt.size (h : QSt T tM tI tC W wr g gR gM lo n m rv cv v l) : lo < wr.heap.size := by
  have := (Array.getElem?_eq_some_iff.1 h.box).1
  have := h.g3
  omega
/-- The result's own box is written. -/
theorem QSt.fin {wr0 : World} (h : QSt T tM tI tC W wr g gR gM lo n m rv cv v l) (hg : wr.grownBy wr' (some gR)) (hW : ∃ d, W = wr0.ext d) (hR : wr0.heap.size ≤ gR) :
    (∃ d, wr' = wr0.ext d) ∧ wr'.own lo tI intC 1 rv m.rise ∧ wr'.own lo tI intC 1 cv m.cost ∧ wr'.own lo tC Ctl.cells 2 v l ∧ wr'.heap[gM]? = some (.cells #[.int .i64 m.wd, .int .i64 m.ht, rv, cv] tM (0, 0)) := by
  have h1 := h.g1; have h2 := h.g2; have h3 := h.g3
  exact ⟨gain_grown (gain_trans hW h.cur.up) hg (fun q e => by cases e; exact hR), own_not h.r (fun q e => by have := (own_lt h.r q e).1; omega) hg, own_not h.c (fun q e => by have := (own_lt h.c q e).1; omega) hg, own_not h.ls (fun q e => by have := (own_lt h.ls q e).1; omega) hg, row_keep h.box hg (fun q e => by cases e; omega)⟩
end
end Go
