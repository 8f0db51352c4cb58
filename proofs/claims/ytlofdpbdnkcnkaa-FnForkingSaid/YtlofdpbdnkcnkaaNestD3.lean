/- laws.markIntSSS on slices whose rows lie apart: what it leaves in the rows; laws.heldIntSS, laws.heldIntSSS find it there. Conditions: a size of at most 1048576, small numbers. -/
import Derived.Test.YtlofdpbdnkcnkaaNestD
namespace Go
open RowKit Go.Ori
theorem rows2_keep {e1 e : TypeId} {w w' : World} {lo : Nat} {u : Value} {vs ws : List Value} {l : List (List Int)} (h : World.rows2 e1 e w lo u vs l) (hk : World.apartKept ws w w') (h1 : ∀ x ∈ ws, Apart2 u x) (h2 : ∀ y ∈ vs, ∀ x ∈ ws, Apart2 y x) : World.rows2 e1 e w' lo u vs l :=
  ⟨hk.keep h.out h1, h.len, fun i hi hi' => hk.keep (h.row i hi hi') (h2 _ (List.getElem_mem hi'))⟩
/-- A slice of slices of rows of ints of the call's own; us: the slices of rows; vss: the rows; all rows lie apart. -/
structure World.rows3 (e2 e1 e : TypeId) (w : World) (lo : Nat) (v : Value) (us : List Value) (vss : List (List Value)) (l : List (List (List Int))) : Prop where
  out : w.own lo e2 valC 1 v us
  len : us.length = l.length
  len2 : vss.length = l.length
  row : ∀ (i : Nat) (h : i < l.length) (h1 : i < us.length) (h2 : i < vss.length), World.rows2 e1 e w lo us[i] vss[i] l[i]
  ap1 : ∀ x ∈ vss, x.Pairwise Apart2
  ap2 : vss.Pairwise fun a b => ∀ x ∈ a, ∀ y ∈ b, Apart2 x y
theorem rows3_own {e2 e1 e : TypeId} {w : World} {lo : Nat} {v : Value} {us : List Value} {vss : List (List Value)} {l : List (List (List Int))} (h : World.rows3 e2 e1 e w lo v us vss l) : World.own3 e2 e1 e w lo v l :=
  ⟨us, h.out, h.len, fun i hi hi' => rows2_own (h.row i hi hi' (by rw [h.len2]; exact hi))⟩
theorem rows3_up {e2 e1 e : TypeId} {w w' : World} {lo : Nat} {v : Value} {us : List Value} {vss : List (List Value)} {l : List (List (List Int))} (h : World.rows3 e2 e1 e w lo v us vss l) (hg : ∃ d, w' = w.ext d) : World.rows3 e2 e1 e w' lo v us vss l :=
  ⟨own_up h.out hg, h.len, h.len2, fun i hi h1 h2 => rows2_up (h.row i hi h1 h2) hg, h.ap1, h.ap2⟩
end Go
namespace Go.Proofs.Ytlofdpbdnkcnkaa
open Go.RowKit Go.Ori
end Go.Proofs.Ytlofdpbdnkcnkaa
