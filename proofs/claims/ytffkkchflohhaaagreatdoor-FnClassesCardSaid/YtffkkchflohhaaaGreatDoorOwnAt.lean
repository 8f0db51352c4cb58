/- Slices of ints of the call's own: an element, its address, a store. No condition. -/
import Derived.Test.YtffkkchflohhaaaGreatDoorHeld
import Derived.Test.YtffkkchflohhaaaGreatDoorPlain
namespace Go
open RowKit Go.Ori
theorem own_at {w : World} {base g n cap : Nat} {e : TypeId} {l : List Int} (h : w.own base e intC 1 (.slice (some ⟨g, 0, none⟩) n cap) l) {k : Nat} (hk : k < l.length) :
    w.cell? ⟨g, k, none⟩ = some (.int .i64 (l.getD k 0)) ∧ w.frozen? ⟨g, k, none⟩ = false := by
  have hc := sl_int (sl_of_own intC_length h) hk
  rw [Nat.zero_add] at hc
  refine ⟨by rw [hc]; simp [List.getD_eq_getElem?_getD, List.getElem?_eq_getElem hk], ?_⟩
  obtain ⟨_, ⟨hv, _⟩ | ⟨g', cap', cur, hv, hb, hh, hle, hcap, hs, ht⟩⟩ := h
  · cases hv
  · simp only [Value.slice.injEq, Option.some.injEq, Addr.mk.injEq, and_true] at hv
    obtain ⟨rfl, rfl, rfl⟩ := hv
    exact World.free_of_heap hh k
theorem own_set {w : World} {base g n cap : Nat} {e : TypeId} {l : List Int} (h : w.own base e intC 1 (.slice (some ⟨g, 0, none⟩) n cap) l) {k : Nat} (hk : k < l.length) (x : Int) : (w.setCell ⟨g, k, none⟩ (.int .i64 x)).own base e intC 1 (.slice (some ⟨g, 0, none⟩) n cap) (l.set k x) := by
  have := own_put intC_length h hk x
  rw [Nat.mul_one] at this
  exact this
theorem own_addr {α : Type} {w : World} {base : Nat} {e : TypeId} {enc : α → List Value} {sz : Nat} {v : Value} {l : List α} (h : w.own base e enc sz v l) (h0 : 0 < l.length) : ∃ g cap, v = .slice (some ⟨g, 0, none⟩) l.length cap ∧ base ≤ g ∧ g < w.heap.size := by
  obtain ⟨_, ⟨_, hn⟩ | ⟨g, cap, cur, hv, hg, hh, hle, _⟩⟩ := h
  · omega
  · exact ⟨g, cap, hv, hg, World.oldB_of_heap hh⟩
theorem own_off {α : Type} {w : World} {enc : α → List Value} {sz base : Nat} {e : TypeId} {v : Value} {l : List α} (h : w.own base e enc sz v l) {p : Addr} (hp : p.block < base) (u : Value) : (w.setCell p u).own base e enc sz v l := by
  obtain ⟨h1, h2 | ⟨g, cap, cur, hv, hb, hg, h3⟩⟩ := h
  · exact ⟨h1, .inl h2⟩
  · exact ⟨h1, .inr ⟨g, cap, cur, hv, hb, (World.heap_setCell_far u (by omega)).trans hg, h3⟩⟩
end Go
