/- Slices of slices, read off a row's arguments. No condition. -/
import Derived.Test.YtbghmkjjooiikaaLaw
import Derived.Test.YtbghmkjjooiikaaRows
import Derived.Test.YtbghmkjjooiikaaNest
namespace Go.Ori
open Go.ChangeShapes Go.WideShapes Go.ChangeAt Go.RowKit Go.Deep
section
variable {H : Type} {encH : TypeId × Value → H} {P : Program} {w : World}
/-- A slice that lies in a cell, read. -/
theorem dec_slice {α : Type} {enc : α → List Value} {sz : Nat} {Q : α → Prop} {t e : TypeId}
    (ht : P.underlying t = some (.slice e)) (hC : P.cellsOf e = sz)
    (hdec : ∀ n cs x, DataW.trod encH P w 0 (fun _ => true) true n e cs = some x → cs.length = sz → ∃ a : α, enc a = cs ∧ Q a)
    (hsz : 0 < sz) : ∀ n cs x, DataW.trod encH P w 0 (fun _ => true) true n t cs = some x → cs.length = 1 → ∃ v : Value, valC v = cs ∧ ∃ l : List α, w.sl enc sz v l ∧ (∀ x ∈ l, Q x) ∧ l.length ≤ 9223372036854775807 := by
  intro fuel cs x hf _
  rcases open_slice ht hf with ⟨hcs, _⟩ | ⟨a, len, cap, m, n, D, Pl, hcs, _, hle, hmax, hm, _, hi⟩
  · subst hcs
    exact ⟨.slice none 0 0, rfl, [], ⟨none, 0, rfl, fun h => absurd h (by simp), by simp⟩, by simp, by simp⟩
  · subst hcs
    simp only [if_true] at hm
    subst hm
    rw [hC] at hi
    have key : ∀ i, i < len → ∃ x : α, Q x ∧ ∀ j, j < sz → w.cell? (a.add (i * sz + j)) = (enc x)[j]? := fun i hlt => by
      obtain ⟨cs, h1, h2⟩ := hi i (by omega)
      obtain ⟨_, hlen, hat⟩ := World.cells?_some h1
      obtain ⟨x, hx, hq⟩ := hdec n cs _ h2 hlen
      refine ⟨x, hq, fun j hj => ?_⟩
      rw [← add_add, hat j hj, hx]
    obtain ⟨l, hl, hlc⟩ := list_of_index key
    have hq : ∀ x ∈ l, Q x := fun x hx => by
      obtain ⟨k, hk, rfl⟩ := List.getElem_of_mem hx
      exact (hlc k hk).1
    have hc := fun k hk => (hlc k hk).2
    refine ⟨.slice (some a) len _, rfl, l, ⟨some a, _, by rw [hl], fun h0 => ?_, by rw [hl]; exact hle⟩, hq, by rw [hl]; unfold maxLen at hmax; omega⟩
    by_cases hspot : a.spot = none
    · refine ⟨a.block, a.off, by cases a; simp_all, fun k hk j hj => ?_⟩
      have := hc k hk j hj
      rw [← this]
      congr 1
      cases a
      simp only at hspot
      subst hspot
      rw [Addr.add_lit, Nat.add_assoc]
    · exfalso
      obtain ⟨cs, h1, h2⟩ := hi 0 (by omega)
      obtain ⟨_, hlen, hat⟩ := World.cells?_some h1
      have h3 := hat 0 hsz
      simp only [Nat.zero_mul, Addr.add, if_true] at h3
      have h4 : w.cell? a = none := by
        cases hs : a.spot with
        | none => exact absurd hs hspot
        | some _ =>
          simp only [World.cell?, hs]
          split <;> simp
      rw [h4] at h3
      have := List.getElem?_eq_none_iff.1 h3.symm
      omega
end
theorem slOf_of_vals {α : Type} {P : World → Value → α → Prop} {w : World} {v : Value} {vs : List Value} (h : w.sl valC 1 v vs) (hq : ∀ x ∈ vs, ∃ l : α, P w x l) : ∃ l : List α, w.slOf P v l ∧ l.length = vs.length := by
  have key : ∀ i, i < vs.length → ∃ x : α, ∀ (h : i < vs.length), P w vs[i] x := fun i hi => by
    obtain ⟨x, hx⟩ := hq vs[i] (List.getElem_mem hi)
    exact ⟨x, fun _ => hx⟩
  obtain ⟨l, hl, hlc⟩ := list_of_index key
  exact ⟨l, ⟨vs, h, hl.symm, fun i hi hi' => hlc i hi hi'⟩, hl⟩
end Go.Ori
namespace Go.Proofs.Ytbghmkjjooiikaa
open Go.ChangeShapes Go.WideShapes Go.ChangeAt Go.RowKit Go.Ori
set_option maxRecDepth 100000 in
theorem read_IntSS {H : Type} {encH : TypeId × Value → H} {w : World} {r : Reach} {b0 : Nat} {v : Value} {d : DataW H} {ps : List MemPlace} (hv : Value.okWide Try.prog w r b0 31 v)
    (h : DataW.Trod encH Try.prog w 0 (fun _ => true) true 31 v d ps) : ∃ l : List (List Int), w.sl2 v l ∧ l.length ≤ 9223372036854775807 ∧ ∀ x ∈ l, x.length ≤ 9223372036854775807 := by
  obtain ⟨vs, h1, h2, h3⟩ := read_slice (enc := valC) (Q := fun x : Value => ∃ l : List Int, w.sl1 x l ∧ l.length ≤ 9223372036854775807) Try.underlying31 (by kernel_rfl)
    (fun n cs x hx hl => by
      obtain ⟨a, ha, l, hl1, _, hl2⟩ := dec_slice Try.underlying34 (by kernel_rfl) (dec_int Try.underlying3) (by omega) n cs x hx hl
      exact ⟨a, ha, l, hl1, hl2⟩) (by omega) hv h
  obtain ⟨l, ⟨vs', q1, q2, q3⟩, hl⟩ := slOf_of_vals (P := fun w v l => w.sl1 v l ∧ l.length ≤ 9223372036854775807) h1 h2
  refine ⟨l, ⟨vs', q1, q2, fun i hi hi' => (q3 i hi hi').1⟩, by omega, fun x hx => ?_⟩
  obtain ⟨i, hi, rfl⟩ := List.getElem_of_mem hx
  exact (q3 i hi (by omega)).2
set_option maxRecDepth 100000 in
theorem read_IntSSS {H : Type} {encH : TypeId × Value → H} {w : World} {r : Reach} {b0 : Nat} {v : Value} {d : DataW H} {ps : List MemPlace} (hv : Value.okWide Try.prog w r b0 22 v)
    (h : DataW.Trod encH Try.prog w 0 (fun _ => true) true 22 v d ps) : ∃ l : List (List (List Int)), w.sl3 v l ∧ l.length ≤ 9223372036854775807 ∧ ∀ x ∈ l, x.length ≤ 9223372036854775807 ∧ ∀ y ∈ x, y.length ≤ 9223372036854775807 := by
  obtain ⟨vs, h1, h2, h3⟩ := read_slice (enc := valC) (Q := fun x : Value => ∃ l : List (List Int), w.sl2 x l ∧ (l.length ≤ 9223372036854775807 ∧ ∀ y ∈ l, y.length ≤ 9223372036854775807)) Try.underlying22 (by kernel_rfl)
    (fun n cs x hx hl => by
      obtain ⟨a, ha, ws, hl1, hl2, hl3⟩ := dec_slice (enc := valC) (Q := fun x : Value => ∃ l : List Int, w.sl1 x l ∧ l.length ≤ 9223372036854775807) Try.underlying31 (by kernel_rfl) (fun n cs x hx hl => by
        obtain ⟨a, ha, l, hl1, _, hl2⟩ := dec_slice Try.underlying34 (by kernel_rfl) (dec_int Try.underlying3) (by omega) n cs x hx hl
        exact ⟨a, ha, l, hl1, hl2⟩) (by omega) n cs x hx hl
      obtain ⟨l, ⟨vs', q1, q2, q3⟩, hl⟩ := slOf_of_vals (P := fun w v l => w.sl1 v l ∧ l.length ≤ 9223372036854775807) hl1 hl2
      refine ⟨a, ha, l, ⟨vs', q1, q2, fun i hi hi' => (q3 i hi hi').1⟩, by omega, fun y hy => ?_⟩
      obtain ⟨i, hi, rfl⟩ := List.getElem_of_mem hy
      exact (q3 i hi (by omega)).2) (by omega) hv h
  obtain ⟨l, ⟨vs', q1, q2, q3⟩, hl⟩ := slOf_of_vals (P := fun w v l => World.sl2 w v l ∧ (l.length ≤ 9223372036854775807 ∧ ∀ y ∈ l, y.length ≤ 9223372036854775807)) h1 h2
  refine ⟨l, ⟨vs', q1, q2, fun i hi hi' => (q3 i hi hi').1⟩, by omega, fun x hx => ?_⟩
  obtain ⟨i, hi, rfl⟩ := List.getElem_of_mem hx
  exact (q3 i hi (by omega)).2
end Go.Proofs.Ytbghmkjjooiikaa
