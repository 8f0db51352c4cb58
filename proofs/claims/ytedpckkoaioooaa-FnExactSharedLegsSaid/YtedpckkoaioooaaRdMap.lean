/- A map, read off a row's arguments. No condition. -/
import Derived.Test.YtedpckkoaioooaaLaw
import Derived.Test.YtedpckkoaioooaaRows
import Derived.Test.YtedpckkoaioooaaMapW
namespace Go.Ori
open Go.ChangeShapes Go.WideShapes Go.ChangeAt Go.RowKit Go.Deep
section
variable {H : Type} {encH : TypeId × Value → H} {P : Program} {w : World}
/-- A slice that lies in a cell, read. -/
theorem dec_slice1 {α : Type} {enc : α → List Value} {sz : Nat} {Q : α → Prop} {t e : TypeId}
    (ht : P.underlying t = some (.slice e)) (hC : P.cellsOf e = sz)
    (hdec : ∀ n cs x, DataW.trod encH P w 0 (fun _ => true) true n e cs = some x → cs.length = sz → ∃ a : α, enc a = cs ∧ Q a)
    (hsz : 0 < sz) : ∀ n cs x, DataW.trod encH P w 0 (fun _ => true) true n t cs = some x → cs.length = 1 → ∃ v : Value, [v] = cs ∧ ∃ l : List α, w.sl enc sz v l ∧ (∀ x ∈ l, Q x) ∧ l.length ≤ 9223372036854775807 := by
  intro fuel cs x hf _
  rcases open_slice ht hf with ⟨hcs, _⟩ | ⟨a, len, cap, m, n, D, Pl, hcs, _, hle, hmax, hm, _, hi⟩
  · subst hcs
    exact ⟨.slice none 0 0, rfl, [], ⟨none, 0, rfl, fun h => absurd h (by simp), by simp⟩, by simp, by simp⟩
  · subst hcs
    simp only [if_true] at hm
    subst hm
    rw [hC] at hi
    have key : ∀ i, i < len → ∃ x : α, Q x ∧ ∀ j, j < sz → w.cell? (a.add (i * sz + j)) = (enc x)[j]? := fun i hlt => by
      obtain ⟨cs, h1, h2⟩ := hi i (by omega)
      obtain ⟨_, hlen, hat⟩ := World.cells?_some h1
      obtain ⟨x, hx, hq⟩ := hdec n cs _ h2 hlen
      refine ⟨x, hq, fun j hj => ?_⟩
      rw [← add_add, hat j hj, hx]
    obtain ⟨l, hl, hlc⟩ := list_of_index key
    have hq : ∀ x ∈ l, Q x := fun x hx => by
      obtain ⟨k, hk, rfl⟩ := List.getElem_of_mem hx
      exact (hlc k hk).1
    have hc := fun k hk => (hlc k hk).2
    refine ⟨.slice (some a) len _, rfl, l, ⟨some a, _, by rw [hl], fun h0 => ?_, by rw [hl]; exact hle⟩, hq, by rw [hl]; unfold maxLen at hmax; omega⟩
    by_cases hspot : a.spot = none
    · refine ⟨a.block, a.off, by cases a; simp_all, fun k hk j hj => ?_⟩
      have := hc k hk j hj
      rw [← this]
      congr 1
      cases a
      simp only at hspot
      subst hspot
      rw [Addr.add_lit, Nat.add_assoc]
    · exfalso
      obtain ⟨cs, h1, h2⟩ := hi 0 (by omega)
      obtain ⟨_, hlen, hat⟩ := World.cells?_some h1
      have h3 := hat 0 hsz
      simp only [Nat.zero_mul, Addr.add, if_true] at h3
      have h4 : w.cell? a = none := by
        cases hs : a.spot with
        | none => exact absurd hs hspot
        | some _ =>
          simp only [World.cell?, hs]
          split <;> simp
      rw [h4] at h3
      have := List.getElem?_eq_none_iff.1 h3.symm
      omega
end
end Go.Ori
namespace Go.Proofs.Ytedpckkoaioooaa
open Go.ChangeShapes Go.WideShapes Go.ChangeAt Go.RowKit Go.Ori
set_option maxRecDepth 100000 in
theorem dec_Map {H : Type} {encH : TypeId × Value → H} {w : World} : ∀ n cs x, DataW.trod encH Try.prog w 0 (fun _ => true) true n 64 cs = some x → cs.length = 4 → ∃ (m : Mp) (rv cv : Value), [.int .i64 m.wd, .int .i64 m.ht, rv, cv] = cs ∧ w.sl intC 1 rv m.rise ∧ m.rise.length ≤ 9223372036854775807 ∧ w.sl intC 1 cv m.cost ∧ m.cost.length ≤ 9223372036854775807 := by
  intro n cs x hx hl
  have hf := dec_struct Try.underlying64 (by kernel_rfl) hx
  match cs, hl with
  | [c0, c1, c2, c3], _ =>
    obtain ⟨m0, y0, f0⟩ := hf 0 _ c0 rfl rfl
    obtain ⟨m1, y1, f1⟩ := hf 1 _ c1 rfl rfl
    obtain ⟨m2, y2, f2⟩ := hf 2 _ c2 rfl rfl
    obtain ⟨m3, y3, f3⟩ := hf 3 _ c3 rfl rfl
    obtain ⟨a0, e0, _, _⟩ := DataW.trod_int Try.underlying3 f0
    obtain ⟨a1, e1, _, _⟩ := DataW.trod_int Try.underlying3 f1
    obtain ⟨a2, e2, l2, s2, _, q2⟩ := dec_slice1 Try.underlying24 (by kernel_rfl) (dec_int Try.underlying3) (by omega) _ _ _ f2 rfl
    obtain ⟨a3, e3, l3, s3, _, q3⟩ := dec_slice1 Try.underlying24 (by kernel_rfl) (dec_int Try.underlying3) (by omega) _ _ _ f3 rfl
    simp only [List.cons.injEq, and_true] at e0 e1 e2 e3
    subst e0 e1 e2 e3
    exact ⟨⟨a0, a1, l2, l3⟩, a2, a3, rfl, s2, q2, s3, q3⟩
set_option maxRecDepth 100000 in
set_option maxRecDepth 100000 in
theorem read_Map {H : Type} {encH : TypeId × Value → H} {w : World} {r : Reach} {b0 : Nat} {v : Value} {d : DataW H} {ps : List MemPlace} (hv : Value.okWide Try.prog w r b0 64 v)
    (h : DataW.Trod encH Try.prog w 0 (fun _ => true) true 64 v d ps) : ∃ (m : Mp) (rv cv : Value), v = .agg #[.int .i64 m.wd, .int .i64 m.ht, rv, cv] ∧ w.sl intC 1 rv m.rise ∧ m.rise.length ≤ 9223372036854775807 ∧ w.sl intC 1 cv m.cost ∧ m.cost.length ≤ 9223372036854775807 := by
  obtain ⟨cs, rfl, hlen, n, x, hx⟩ := open_struct Try.underlying64 hv h
  obtain ⟨m, rv, cv, rfl, h1, h2, h3, h4⟩ := dec_Map n cs x hx (hlen.trans (by kernel_rfl))
  exact ⟨m, rv, cv, rfl, h1, h2, h3, h4⟩
end Go.Proofs.Ytedpckkoaioooaa
