/- A map in memory: a struct of two numbers and two slices. No condition. -/
import Derived.Test.YtepjemfkmnpepaaHeld
import Derived.Test.YtepjemfkmnpepaaPCtl
namespace Go
open RowKit Go.Ori
structure World.mp (w : World) (rv cv : Value) (m : Mp) : Prop where
  r : w.sl intC 1 rv m.rise
  c : w.sl intC 1 cv m.cost
  rl : m.rise.length ≤ 1048576
  cl : m.cost.length ≤ 1048576
theorem mp_up {w w' : World} {rv cv : Value} {m : Mp} (h : w.mp rv cv m) (hg : ∃ d, w' = w.ext d) : w'.mp rv cv m := ⟨sl_up intC_length h.r hg, sl_up intC_length h.c hg, h.rl, h.cl⟩
theorem mp_form {w : World} {rv cv : Value} {m : Mp} (h : w.mp rv cv m) : ∃ p c p' c', rv = .slice p m.rise.length c ∧ cv = .slice p' m.cost.length c' := by
  obtain ⟨p, c, h1, _⟩ := h.r
  obtain ⟨p', c', h2, _⟩ := h.c
  exact ⟨p, c, p', c', h1, h2⟩
structure MpIn (w : World) (m : Mp) (rv cv : Value) (b1 o1 c1 b2 o2 c2 : Nat) : Prop where
  rv : rv = .slice (some ⟨b1, o1, none⟩) m.cost.length c1
  cv : cv = .slice (some ⟨b2, o2, none⟩) m.cost.length c2
  ro : ∀ k, k < m.cost.length → w.cell? ⟨b1, o1 + k, none⟩ = some (.int .i64 (riseAt m k))
  co : ∀ k, k < m.cost.length → w.cell? ⟨b2, o2 + k, none⟩ = some (.int .i64 (costAt m k))
  ob1 : w.oldB b1
  ob2 : w.oldB b2
theorem mp_in {w : World} {rv cv : Value} {m : Mp} {W H : Nat} (h : w.mp rv cv m) (hm : MapOk m W H) : ∃ b1 o1 c1 b2 o2 c2, MpIn w m rv cv b1 o1 c1 b2 o2 c2 := by
  have hn : 0 < W * H := Nat.mul_pos hm.w1 hm.h1
  obtain ⟨p, c1, h1, h3⟩ := h.r
  obtain ⟨p', c2, h2, h4⟩ := h.c
  have hrl := hm.rl
  have hcl := hm.cl
  obtain ⟨b1, o1, rfl, e1⟩ := h3.1 (by omega)
  obtain ⟨b2, o2, rfl, e2⟩ := h4.1 (by omega)
  have q1 : ∀ k, k < m.cost.length → w.cell? ⟨b1, o1 + k, none⟩ = some (.int .i64 (riseAt m k)) := fun k hk => by
    have := e1 k (by omega) 0 (by omega)
    simpa [intC, riseAt, List.getD_eq_getElem?_getD, List.getElem?_eq_getElem (by omega : k < m.rise.length)] using this
  have q2 : ∀ k, k < m.cost.length → w.cell? ⟨b2, o2 + k, none⟩ = some (.int .i64 (costAt m k)) := fun k hk => by
    have := e2 k (by omega) 0 (by omega)
    simpa [intC, costAt, List.getD_eq_getElem?_getD, List.getElem?_eq_getElem hk] using this
  exact ⟨b1, o1, c1, b2, o2, c2, by rw [h1, hrl, hcl], h2, q1, q2, World.oldB_of_cell (q1 0 (by omega)), World.oldB_of_cell (q2 0 (by omega))⟩
end Go
