/- Entries and slices of entries, read off a row's arguments. No condition. -/
import Derived.Test.YtnpfghpjlbjpnaaLaw
import Derived.Test.YtnpfghpjlbjpnaaRows
import Derived.Test.YtnpfghpjlbjpnaaPlain
namespace Go.Proofs.Ytnpfghpjlbjpnaa
open Go.ChangeShapes Go.WideShapes Go.ChangeAt Go.RowKit Go.Ori
theorem dec_Ent {H : Type} {encH : TypeId × Value → H} {w : World} : ∀ n cs x, DataW.trod encH Try.prog w 0 (fun _ => true) true n 24 cs = some x → cs.length = 5 → ∃ a : Ent, a.cells = cs ∧ True := by
  intro n cs x hx hl
  have hf := dec_struct Try.underlying24 (by kernel_rfl) hx
  match cs, hl with
  | [c0, c1, c2, c3, c4], _ =>
    obtain ⟨m0, y0, f0⟩ := hf 0 _ c0 rfl rfl
    obtain ⟨m1, y1, f1⟩ := hf 1 _ c1 rfl rfl
    obtain ⟨m2, y2, f2⟩ := hf 2 _ c2 rfl rfl
    obtain ⟨m3, y3, f3⟩ := hf 3 _ c3 rfl rfl
    obtain ⟨m4, y4, f4⟩ := hf 4 _ c4 rfl rfl
    obtain ⟨a0, e0, _, _⟩ := DataW.trod_int Try.underlying3 f0
    obtain ⟨a1, e1, _, _⟩ := DataW.trod_int Try.underlying3 f1
    obtain ⟨a2, e2, _, _⟩ := DataW.trod_int Try.underlying3 f2
    obtain ⟨a3, e3, _⟩ := DataW.trod_bool Try.underlying4 f3
    obtain ⟨a4, e4, _, _⟩ := DataW.trod_int Try.underlying3 f4
    simp only [List.cons.injEq, and_true] at e0 e1 e2 e3 e4
    subst e0 e1 e2 e3 e4
    exact ⟨⟨a0, a1, a2, a3, a4⟩, rfl, trivial⟩
set_option maxRecDepth 100000 in
theorem read_Ent {H : Type} {encH : TypeId × Value → H} {w : World} {r : Reach} {b0 : Nat} {v : Value} {d : DataW H} {ps : List MemPlace} (hv : Value.okWide Try.prog w r b0 24 v)
    (h : DataW.Trod encH Try.prog w 0 (fun _ => true) true 24 v d ps) : ∃ a : Ent, v = .agg #[.int .i64 a.runner, .int .i64 a.cls, .int .i64 a.day, .bool a.rent, .int .i64 a.paid] := by
  obtain ⟨cs, rfl, hlen, n, x, hx⟩ := open_struct Try.underlying24 hv h
  obtain ⟨a, rfl, hok⟩ := dec_Ent n cs x hx (hlen.trans (by kernel_rfl))
  exact ⟨a, rfl⟩
set_option maxRecDepth 100000 in
theorem read_Ents {H : Type} {encH : TypeId × Value → H} {w : World} {r : Reach} {b0 : Nat} {v : Value} {d : DataW H} {ps : List MemPlace} (hv : Value.okWide Try.prog w r b0 22 v)
    (h : DataW.Trod encH Try.prog w 0 (fun _ => true) true 22 v d ps) : ∃ l : List Ent, w.sl Ent.cells 5 v l ∧ l.length ≤ 9223372036854775807 := by
  obtain ⟨l, h1, _, h2⟩ := read_slice Try.underlying22 (by kernel_rfl) dec_Ent (by omega) hv h
  exact ⟨l, h1, h2⟩
end Go.Proofs.Ytnpfghpjlbjpnaa
