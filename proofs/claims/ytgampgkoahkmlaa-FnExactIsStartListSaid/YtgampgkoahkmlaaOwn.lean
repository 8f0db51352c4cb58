/- Slices of the call's own; what a write to one of them leaves alone. No condition. -/
import Derived.Test.YtgampgkoahkmlaaExt
namespace Go
open RowKit
/-- A slice of the call's own that reads as a list: its block is from 'base' on. -/
def World.own {α : Type} (w : World) (base : Nat) (e : TypeId) (enc : α → List Value) (sz : Nat) (v : Value) (l : List α) : Prop :=
  w.ownsRow base e sz v l.length (l.flatMap enc)
/-- The first, if it holds anything, lies in another block than the second. -/
def Apart {α : Type} (l : List α) (u v : Value) : Prop := 0 < l.length → ∀ b, u.ownBlock = some b → v.ownBlock ≠ some b
section
variable {α β : Type} {w w' : World} {enc : α → List Value} {enc' : β → List Value} {sz sz' base : Nat} {e : TypeId} {u v : Value} {l : List α} {l' : List β}
theorem sl_of_own (hz : ∀ x, (enc x).length = sz) (h : w.own base e enc sz v l) : w.sl enc sz v l := World.sl_of_owns hz h
theorem own_ext (h : w.own base e enc sz v l) (d : Gain) : (w.ext d).own base e enc sz v l := by
  obtain ⟨h1, h2 | ⟨g, cap, cur, hv, hb, hg, h3⟩⟩ := h
  · exact ⟨h1, .inl h2⟩
  · exact ⟨h1, .inr ⟨g, cap, cur, hv, hb, World.heap_ext_old d hg, h3⟩⟩
theorem own_nil (w : World) (base : Nat) (e : TypeId) (enc : α → List Value) (sz : Nat) : w.own base e enc sz (.slice none 0 0) [] := World.ownsRow_nil w base e sz
theorem sl_nil (w : World) (enc : α → List Value) (sz : Nat) : w.sl enc sz (.slice none 0 0) [] := ⟨none, 0, rfl, fun h => absurd h (by simp), by simp⟩
theorem own_base (h : w.own base e enc sz v l) {b : Nat} (hb : b ≤ base) : w.own b e enc sz v l := by
  obtain ⟨h1, h2 | ⟨g, cap, cur, hv, hg, h3⟩⟩ := h
  · exact ⟨h1, .inl h2⟩
  · exact ⟨h1, .inr ⟨g, cap, cur, hv, Nat.le_trans hb hg, h3⟩⟩
theorem sl_lt (hz : ∀ x, (enc x).length = sz) (h0 : 0 < sz) (h : w.sl enc sz u l) (hl : 0 < l.length) : ∀ b, u.ownBlock = some b → b < w.heap.size := by
  obtain ⟨p, c, rfl, hp, hcap⟩ := h
  obtain ⟨b, o, rfl, hc⟩ := hp hl
  intro b' hb'
  simp only [Value.ownBlock, Option.some.injEq] at hb'
  subst hb'
  have := hc 0 hl 0 h0
  exact World.lt_of_cell (a := ⟨b, _, none⟩) (by rw [this]; simp [hz, h0])
theorem apart_new (hz : ∀ x, (enc x).length = sz) (h0 : 0 < sz) (h : w.sl enc sz u l) (ho : w'.own w.heap.size e enc' sz' v l') : Apart l u v := by
  intro hl b hb hv
  have h1 := sl_lt hz h0 h hl b hb
  have h2 := (World.ownsRow.lt ho b hv).1
  omega
/-- What was made later lies apart from what was there. -/
theorem apart_old (hz : ∀ x, (enc' x).length = sz') (h0 : 0 < sz') (h : w.sl enc' sz' u l') (ho : w'.own w.heap.size e enc sz v l) (hu : 0 < l'.length ∨ u.ownBlock = none) : Apart l v u := by
  intro _ b hb hv
  have h2 := (World.ownsRow.lt ho b hb).1
  rcases hu with hu | hu
  · have h1 := sl_lt hz h0 h hu b hv
    omega
  · rw [hu] at hv; cases hv
theorem sl_mark (hz : ∀ x, (enc x).length = sz) (h : w.sl enc sz u l) (hg : w.grownBy w' v.ownBlock) (ha : Apart l u v) : w'.sl enc sz u l := by
  obtain ⟨p, c, rfl, hp, hcap⟩ := h
  refine ⟨p, c, rfl, fun hl => ?_, hcap⟩
  obtain ⟨b, o, rfl, hc⟩ := hp hl
  refine ⟨b, o, rfl, fun k hk j hj => ?_⟩
  have h1 := hc k hk j hj
  rw [← h1]
  refine World.cell?_of_block (hg.block b ?_ ?_)
  · exact World.lt_of_cell (a := ⟨b, _, none⟩) (by rw [h1]; simp [hz, hj])
  · exact fun hb => ha hl b rfl hb.symm
theorem own_mark (h : w.own base e enc sz u l) (hg : w.grownBy w' v.ownBlock) (ha : ∀ b, u.ownBlock = some b → v.ownBlock ≠ some b) : w'.own base e enc sz u l := by
  obtain ⟨h1, h2 | ⟨g, cap, cur, rfl, hb, hh, h3⟩⟩ := h
  · exact ⟨h1, .inl h2⟩
  · exact ⟨h1, .inr ⟨g, cap, cur, rfl, hb, (hg.block g (Array.getElem?_eq_some_iff.1 hh).1 (fun e => ha g rfl e.symm)).trans hh, h3⟩⟩
theorem gain_size (h : ∃ d, w' = w.ext d) : w.heap.size ≤ w'.heap.size := by
  obtain ⟨d, rfl⟩ := h
  exact World.size_ext w d
end
/-- Two slices of the call's own, in two blocks. -/
def Apart2 (u v : Value) : Prop := ∀ b, u.ownBlock = some b → v.ownBlock ≠ some b
theorem apart2_new {α β : Type} {w w' : World} {enc : α → List Value} {enc' : β → List Value} {sz sz' base : Nat} {e e' : TypeId} {u v : Value} {l : List α} {l' : List β}
    (h : w.own base e enc sz u l) (ho : w'.own w.heap.size e' enc' sz' v l') : Apart2 u v := by
  intro b hb hv
  have h1 := (World.ownsRow.lt h b hb).2
  have h2 := (World.ownsRow.lt ho b hv).1
  omega
theorem Apart2.symm {u v : Value} (h : Apart2 u v) : Apart2 v u := fun b hb hv => h b hv hb
theorem Apart2.apart {α : Type} {u v : Value} (h : Apart2 u v) (l : List α) : Apart l u v := fun _ => h
section
variable {a w : World}
theorem only_setCell {g : Nat} (h : a.grownBy w (some g)) {p : Addr} (hp : p.block = g) (u : Value) : a.grownBy (w.setCell p u) (some g) :=
  ⟨h.os, h.tape, h.output, by simpa [World.setCell] using h.size, fun i hi hne => (Below.heap_setCell w p u i (by rintro rfl; exact hne (by rw [hp]))).trans (h.block i hi hne)⟩
theorem only_refl (w : World) (row : Option Nat) : w.grownBy w row := ⟨rfl, rfl, rfl, Nat.le_refl _, fun _ _ _ => rfl⟩
end
end Go
