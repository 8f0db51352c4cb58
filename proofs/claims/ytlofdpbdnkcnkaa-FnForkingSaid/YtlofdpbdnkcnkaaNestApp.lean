/- Appends of one slice to a slice of slices of the call's own; rows that grow. No condition. -/
import Derived.Test.YtlofdpbdnkcnkaaNestD3
namespace Go
open RowKit Go.Ori
section
variable {e2 e1 e : TypeId} {w w' Y : World} {lo : Nat} {v v' u x : Value} {vs us xs : List Value} {vss : List (List Value)}
theorem rows3_nil (h : w.own lo e2 valC 1 v []) : World.rows3 e2 e1 e w lo v [] [] [] := ⟨h, rfl, rfl, fun i hi _ _ => absurd hi (by simp), by simp, by simp⟩
theorem rows3_snoc {l : List (List (List Int))} {m : List (List Int)} (h : World.rows3 e2 e1 e w lo v us vss l) (hr : World.rows2 e1 e w lo x xs m) (n1 : e2 ≠ e1) (n2 : e2 ≠ e) (ho : w'.own lo e2 valC 1 v' (us ++ [x]))
    (hg : w.grownBy w' v.ownBlock) (hp : xs.Pairwise Apart2) (hap : ∀ ys ∈ vss, ∀ y ∈ ys, ∀ z ∈ xs, Apart2 y z) : World.rows3 e2 e1 e w' lo v' (us ++ [x]) (vss ++ [xs]) (l ++ [m]) where
  out := ho
  len := by simp [h.len]
  len2 := by simp [h.len2]
  row i hi h1 h2 := by
    by_cases hlt : i < l.length
    · rw [List.getElem_append_left hlt, List.getElem_append_left (by rw [h.len]; exact hlt), List.getElem_append_left (by rw [h.len2]; exact hlt)]
      exact rows2_mark (h.row i hlt (by rw [h.len]; exact hlt) (by rw [h.len2]; exact hlt)) h.out n1 n2 hg
    · have hi0 := hi
      simp only [List.length_append, List.length_singleton] at hi0
      obtain rfl : i = l.length := by omega
      have hvl := h.len
      have hvl2 := h.len2
      rw [List.getElem_append_right (Nat.le_refl _), List.getElem_append_right (by omega), List.getElem_append_right (by omega)]
      simp only [hvl, hvl2, Nat.sub_self, List.getElem_cons_zero]
      exact rows2_mark hr h.out n1 n2 hg
  ap1 := by
    intro y hy
    rcases List.mem_append.1 hy with hy | hy
    · exact h.ap1 y hy
    · simp only [List.mem_singleton] at hy; subst hy; exact hp
  ap2 := by
    rw [List.pairwise_append]
    refine ⟨h.ap2, by simp, fun a ha b hb => ?_⟩
    simp only [List.mem_singleton] at hb
    subst hb
    exact hap a ha
theorem rows3_apart {l : List (List (List Int))} {m : List (List Int)} (h : World.rows3 e2 e1 e Y lo v us vss l) (hx : World.rows2 e1 e w Y.heap.size x xs m) : ∀ ys ∈ vss, ∀ y ∈ ys, ∀ z ∈ xs, Apart2 y z := by
  intro ys hys y hy z hz
  obtain ⟨i, hi, rfl⟩ := List.getElem_of_mem hys
  obtain ⟨k, hk, rfl⟩ := List.getElem_of_mem hz
  have hr := h.row i (by rw [← h.len2]; exact hi) (by rw [h.len, ← h.len2]; exact hi) hi
  obtain ⟨j, hj, rfl⟩ := List.getElem_of_mem hy
  exact apart2_new (hr.row j (by rw [← hr.len]; exact hj) hj) (hx.row k (by rw [← hx.len]; exact hk) hk)
end
end Go
namespace Go.Proofs.Ytlofdpbdnkcnkaa
open Go.RowKit Go.Ori
theorem info_slc2 : (Try.prog.info? 25).map (fun i => (i.zero, i.size, i.bytes)) = some (some (.slice none 0 0), 1, 24) := by kernel_rfl
end Go.Proofs.Ytlofdpbdnkcnkaa
