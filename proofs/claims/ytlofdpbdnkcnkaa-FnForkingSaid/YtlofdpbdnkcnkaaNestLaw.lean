/- Slices of slices whose rows lie apart, as an exact law's walk wants them; laws.markIntSSS on them. Conditions: a size of at most 1048576, small numbers. -/
import Derived.Test.YtlofdpbdnkcnkaaNestApp
namespace Go
open RowKit Go.Ori
def World.rows2p (e1 e : TypeId) (w : World) (lo : Nat) (v : Value) (l : List (List Int)) : Prop := ∃ vs, World.rows2 e1 e w lo v vs l ∧ vs.Pairwise Apart2
def World.rows3p (e2 e1 e : TypeId) (w : World) (lo : Nat) (v : Value) (l : List (List (List Int))) : Prop := ∃ us vss, World.rows3 e2 e1 e w lo v us vss l
section
variable {e2 e1 e : TypeId} {w w' : World} {lo : Nat} {v x : Value}
theorem rows2p_up {l : List (List Int)} (h : World.rows2p e1 e w lo v l) (hg : ∃ d, w' = w.ext d) : World.rows2p e1 e w' lo v l := by
  obtain ⟨vs, h1, h2⟩ := h
  exact ⟨vs, rows2_up h1 hg, h2⟩
theorem rows3p_up {l : List (List (List Int))} (h : World.rows3p e2 e1 e w lo v l) (hg : ∃ d, w' = w.ext d) : World.rows3p e2 e1 e w' lo v l := by
  obtain ⟨us, vss, h1⟩ := h
  exact ⟨us, vss, rows3_up h1 hg⟩
theorem sl2_of_rows2p {l : List (List Int)} (h : World.rows2p e1 e w lo v l) : w.sl2 v l := by
  obtain ⟨vs, h1, h2⟩ := h
  exact sl2_of_own (rows2_own h1)
theorem sl3_of_rows3p {l : List (List (List Int))} (h : World.rows3p e2 e1 e w lo v l) : w.sl3 v l := by
  obtain ⟨us, vss, h1⟩ := h
  exact sl3_of_own (rows3_own h1)
theorem rows2_hi {e' : TypeId} {l0 hi : Nat} {vs : List Value} {l : List (List Int)} (h : World.rows2 e1 e w lo v vs l) (hb : hi ≤ lo) (hk : World.rowsKept e' l0 hi w w') : World.rows2 e1 e w' lo v vs l :=
  ⟨own_hi h.out hb hk, h.len, fun i hi hi' => own_hi (h.row i hi hi') hb hk⟩
theorem rows2p_hi {e' : TypeId} {l0 hi : Nat} {l : List (List Int)} (h : World.rows2p e1 e w lo v l) (hb : hi ≤ lo) (hk : World.rowsKept e' l0 hi w w') : World.rows2p e1 e w' lo v l := by
  obtain ⟨vs, h1, h2⟩ := h
  exact ⟨vs, rows2_hi h1 hb hk, h2⟩
theorem rows3p_hi {e' : TypeId} {l0 hi : Nat} {l : List (List (List Int))} (h : World.rows3p e2 e1 e w lo v l) (hb : hi ≤ lo) (hk : World.rowsKept e' l0 hi w w') : World.rows3p e2 e1 e w' lo v l := by
  obtain ⟨us, vss, h1⟩ := h
  exact ⟨us, vss, own_hi h1.out hb hk, h1.len, h1.len2, fun i hi k1 k2 => rows2_hi (h1.row i hi k1 k2) hb hk, h1.ap1, h1.ap2⟩
theorem own_below {α : Type} {enc : α → List Value} {sz : Nat} {l : List α} {u : Value} {e : TypeId} (h : w.own lo e enc sz u l) (hx : ∀ b, x.ownBlock = some b → b < lo) (hg : w.grownBy w' x.ownBlock) : w'.own lo e enc sz u l :=
  own_mark h hg fun b hb hv => by
    have h1 := (own_lt h b hb).1
    have h2 := hx b hv
    omega
theorem rows2_far {vs : List Value} {l : List (List Int)} (h : World.rows2 e1 e w lo v vs l) (hx : ∀ b, x.ownBlock = some b → b < lo) (hg : w.grownBy w' x.ownBlock) : World.rows2 e1 e w' lo v vs l :=
  ⟨own_below h.out hx hg, h.len, fun i hi hi' => own_below (h.row i hi hi') hx hg⟩
theorem rows2p_far {l : List (List Int)} (h : World.rows2p e1 e w lo v l) (hx : ∀ b, x.ownBlock = some b → b < lo) (hg : w.grownBy w' x.ownBlock) : World.rows2p e1 e w' lo v l := by
  obtain ⟨vs, h1, h2⟩ := h
  exact ⟨vs, rows2_far h1 hx hg, h2⟩
theorem rows3p_far {l : List (List (List Int))} (h : World.rows3p e2 e1 e w lo v l) (hx : ∀ b, x.ownBlock = some b → b < lo) (hg : w.grownBy w' x.ownBlock) : World.rows3p e2 e1 e w' lo v l := by
  obtain ⟨us, vss, h1⟩ := h
  exact ⟨us, vss, own_below h1.out hx hg, h1.len, h1.len2, fun i hi k1 k2 => rows2_far (h1.row i hi k1 k2) hx hg, h1.ap1, h1.ap2⟩
end
end Go
namespace Go.Proofs.Ytlofdpbdnkcnkaa
open Go.RowKit Go.Ori
end Go.Proofs.Ytlofdpbdnkcnkaa
