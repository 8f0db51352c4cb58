/- Slices of slices that read as lists of lists, and such of the call's own. No condition. -/
import Derived.Test.YtffkkchflohhaaaGreatDoorHeld
import Derived.Test.YtffkkchflohhaaaGreatDoorPlain
namespace Go
open RowKit Go.Ori
def valC (v : Value) : List Value := [v]
theorem valC_length (v : Value) : (valC v).length = 1 := rfl
/-- A slice whose elements are values of which P says what they read as. -/
def World.slOf {α : Type} (P : World → Value → α → Prop) (w : World) (v : Value) (l : List α) : Prop :=
  ∃ vs : List Value, w.sl valC 1 v vs ∧ vs.length = l.length ∧ ∀ (i : Nat) (h : i < l.length) (h' : i < vs.length), P w vs[i] l[i]
def World.sl1 (w : World) (v : Value) (l : List Int) : Prop := w.sl intC 1 v l
def World.sl2 (w : World) (v : Value) (l : List (List Int)) : Prop := w.slOf World.sl1 v l
def World.sl3 (w : World) (v : Value) (l : List (List (List Int))) : Prop := w.slOf World.sl2 v l
section
variable {α : Type} {P : World → Value → α → Prop} {w w' : World} {v : Value} {l : List α}
theorem slOf_up (hP : ∀ {w w' : World} {v : Value} {x : α}, P w v x → (∃ d, w' = w.ext d) → P w' v x) (h : w.slOf P v l) (hg : ∃ d, w' = w.ext d) : w'.slOf P v l := by
  obtain ⟨vs, h1, h2, h3⟩ := h
  exact ⟨vs, sl_up valC_length h1 hg, h2, fun i hi hi' => hP (h3 i hi hi') hg⟩
theorem slOf_form (h : w.slOf P v l) : ∃ p c, v = .slice p l.length c := by
  obtain ⟨vs, ⟨p, c, hv, _⟩, h2, _⟩ := h
  exact ⟨p, c, by rw [hv, h2]⟩
theorem slOf_some {p : Option Addr} {n c : Nat} (h : w.slOf P (.slice p n c) l) (h0 : 0 < l.length) : ∃ b o, p = some ⟨b, o, none⟩ := by
  obtain ⟨vs, h1, h2, _⟩ := h
  exact sl_some h1 (by omega)
theorem slOf_at {b o n c : Nat} (h : w.slOf P (.slice (some ⟨b, o, none⟩) n c) l) {k : Nat} (hk : k < l.length) : ∃ u, w.cell? ⟨b, o + k, none⟩ = some u ∧ P w u l[k] := by
  obtain ⟨vs, h1, h2, h3⟩ := h
  have := sl_cells h1 (k := k) (by omega) (j := 0) (by omega)
  refine ⟨vs[k]'(by omega), ?_, h3 k hk _⟩
  simpa [valC] using this
end
theorem sl1_up {w w' : World} {v : Value} {l : List Int} (h : w.sl1 v l) (hg : ∃ d, w' = w.ext d) : w'.sl1 v l := sl_up intC_length h hg
theorem sl2_up {w w' : World} {v : Value} {l : List (List Int)} (h : w.sl2 v l) (hg : ∃ d, w' = w.ext d) : w'.sl2 v l := slOf_up sl1_up h hg
theorem sl3_up {w w' : World} {v : Value} {l : List (List (List Int))} (h : w.sl3 v l) (hg : ∃ d, w' = w.ext d) : w'.sl3 v l := slOf_up sl2_up h hg
theorem sl1_form {w : World} {v : Value} {l : List Int} (h : w.sl1 v l) : ∃ p c, v = .slice p l.length c := by
  obtain ⟨p, c, hv, _⟩ := h
  exact ⟨p, c, hv⟩
theorem sl2_form {w : World} {v : Value} {l : List (List Int)} (h : w.sl2 v l) : ∃ p c, v = .slice p l.length c := slOf_form h
theorem sl3_form {w : World} {v : Value} {l : List (List (List Int))} (h : w.sl3 v l) : ∃ p c, v = .slice p l.length c := slOf_form h
/-- A slice of the call's own, of values of which P says what they own (from a block on). -/
def World.ownOf {α : Type} (P : World → Nat → Value → α → Prop) (w : World) (lo : Nat) (e : TypeId) (v : Value) (l : List α) : Prop :=
  ∃ vs : List Value, w.own lo e valC 1 v vs ∧ vs.length = l.length ∧ ∀ (i : Nat) (h : i < l.length) (h' : i < vs.length), P w lo vs[i] l[i]
def World.own1 (e : TypeId) (w : World) (lo : Nat) (v : Value) (l : List Int) : Prop := w.own lo e intC 1 v l
def World.own2 (e1 e : TypeId) (w : World) (lo : Nat) (v : Value) (l : List (List Int)) : Prop := w.ownOf (World.own1 e) lo e1 v l
def World.own3 (e2 e1 e : TypeId) (w : World) (lo : Nat) (v : Value) (l : List (List (List Int))) : Prop := w.ownOf (World.own2 e1 e) lo e2 v l
/-- What 'owns' must keep to. -/
structure OwnP {α : Type} (P : World → Nat → Value → α → Prop) : Prop where
  up : ∀ {w w' : World} {lo : Nat} {v : Value} {x : α}, P w lo v x → (∃ d, w' = w.ext d) → P w' lo v x
  low : ∀ {w : World} {lo lo' : Nat} {v : Value} {x : α}, P w lo v x → lo' ≤ lo → P w lo' v x
  far : ∀ {w : World} {lo : Nat} {v : Value} {x : α} {p : Addr} {u : Value}, P w lo v x → p.block < lo → P (w.setCell p u) lo v x
theorem own_far {α : Type} {w : World} {enc : α → List Value} {sz base : Nat} {e : TypeId} {v : Value} {l : List α} (h : w.own base e enc sz v l) {p : Addr} (hp : p.block < base) (u : Value) : (w.setCell p u).own base e enc sz v l := by
  obtain ⟨h1, h2 | ⟨g, cap, cur, hv, hb, hg, h3⟩⟩ := h
  · exact ⟨h1, .inl h2⟩
  · exact ⟨h1, .inr ⟨g, cap, cur, hv, hb, (World.heap_setCell_far u (by omega)).trans hg, h3⟩⟩
theorem ownP1 (e : TypeId) : OwnP (World.own1 e) := ⟨fun h hg => own_up h hg, fun h hl => own_base h hl, fun h hp => own_far h hp _⟩
theorem ownPOf {α : Type} {P : World → Nat → Value → α → Prop} (hP : OwnP P) (e : TypeId) : OwnP (fun w lo v l => w.ownOf P lo e v l) where
  up h hg := by
    obtain ⟨vs, h1, h2, h3⟩ := h
    exact ⟨vs, own_up h1 hg, h2, fun i hi hi' => hP.up (h3 i hi hi') hg⟩
  low h hl := by
    obtain ⟨vs, h1, h2, h3⟩ := h
    exact ⟨vs, own_base h1 hl, h2, fun i hi hi' => hP.low (h3 i hi hi') hl⟩
  far h hp := by
    obtain ⟨vs, h1, h2, h3⟩ := h
    exact ⟨vs, own_far h1 hp _, h2, fun i hi hi' => hP.far (h3 i hi hi') hp⟩
theorem ownP2 (e1 e : TypeId) : OwnP (World.own2 e1 e) := ownPOf (ownP1 e) e1
theorem ownP3 (e2 e1 e : TypeId) : OwnP (World.own3 e2 e1 e) := ownPOf (ownP2 e1 e) e2
theorem sl_of_ownOf {α : Type} {P : World → Nat → Value → α → Prop} {Q : World → Value → α → Prop} (hq : ∀ {w : World} {lo : Nat} {v : Value} {x : α}, P w lo v x → Q w v x) {w : World} {lo : Nat} {e : TypeId} {v : Value} {l : List α} (h : w.ownOf P lo e v l) : w.slOf Q v l := by
  obtain ⟨vs, h1, h2, h3⟩ := h
  exact ⟨vs, sl_of_own valC_length h1, h2, fun i hi hi' => hq (h3 i hi hi')⟩
theorem sl1_of_own {e : TypeId} {w : World} {lo : Nat} {v : Value} {l : List Int} (h : w.own1 e lo v l) : w.sl1 v l := sl_of_own intC_length h
theorem sl2_of_own {e1 e : TypeId} {w : World} {lo : Nat} {v : Value} {l : List (List Int)} (h : w.own2 e1 e lo v l) : w.sl2 v l := sl_of_ownOf (P := World.own1 e) (Q := World.sl1) (fun h => sl1_of_own h) h
theorem sl3_of_own {e2 e1 e : TypeId} {w : World} {lo : Nat} {v : Value} {l : List (List (List Int))} (h : w.own3 e2 e1 e lo v l) : w.sl3 v l := sl_of_ownOf (P := World.own2 e1 e) (Q := World.sl2) (fun h => sl2_of_own h) h
/-- The sum of f over the first k. -/
def psum {α : Type} (f : α → Nat) (l : List α) (k : Nat) : Nat := ((l.take k).map f).sum
theorem psum_zero {α : Type} (f : α → Nat) (l : List α) : psum f l 0 = 0 := by simp [psum]
theorem psum_succ {α : Type} (f : α → Nat) (l : List α) {k : Nat} (h : k < l.length) : psum f l (k + 1) = psum f l k + f l[k] := by
  unfold psum
  rw [List.take_succ_eq_append_getElem h, List.map_append, List.sum_append]
  simp
theorem psum_le {α : Type} (f : α → Nat) (l : List α) {k : Nat} : k ≤ l.length → psum f l k ≤ psum f l l.length := by
  intro h
  induction hn : l.length - k generalizing k with
  | zero => have : k = l.length := by omega
            rw [this]; exact Nat.le_refl _
  | succ n ih =>
    have := ih (k := k + 1) (by omega) (by omega)
    rw [psum_succ f l (by omega)] at this
    omega
theorem psum_at {α : Type} (f : α → Nat) (l : List α) {k : Nat} (h : k < l.length) : f l[k] ≤ psum f l l.length := by
  have := psum_le f l (k := k + 1) (by omega)
  rw [psum_succ f l h] at this
  omega
def tot1 (l : List Int) : Nat := l.length
def tot2 (l : List (List Int)) : Nat := l.length + psum tot1 l l.length
def tot3 (l : List (List (List Int))) : Nat := l.length + psum tot2 l l.length
theorem tot2_len (l : List (List Int)) : l.length ≤ tot2 l := Nat.le_add_right _ _
theorem tot3_len (l : List (List (List Int))) : l.length ≤ tot3 l := Nat.le_add_right _ _
theorem tot2_at {l : List (List Int)} {k : Nat} (h : k < l.length) : tot1 l[k] ≤ tot2 l := Nat.le_trans (psum_at tot1 l h) (Nat.le_add_left _ _)
theorem tot3_at {l : List (List (List Int))} {k : Nat} (h : k < l.length) : tot2 l[k] ≤ tot3 l := Nat.le_trans (psum_at tot2 l h) (Nat.le_add_left _ _)
end Go
