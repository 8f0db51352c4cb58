/- Fees, read off a row's arguments. No condition. -/
import Derived.Test.YtohmefblkfophaaLaw
import Derived.Test.YtohmefblkfophaaRows
import Derived.Test.YtohmefblkfophaaPlain
namespace Go.Proofs.Ytohmefblkfophaa
open Go.ChangeShapes Go.WideShapes Go.ChangeAt Go.RowKit Go.Ori
theorem dec_Fees {H : Type} {encH : TypeId × Value → H} {w : World} : ∀ n cs x, DataW.trod encH Try.prog w 0 (fun _ => true) true n 45 cs = some x → cs.length = 4 → ∃ a : Fees, a.cells = cs ∧ True := by
  intro n cs x hx hl
  have hf := dec_struct Try.underlying45 (by kernel_rfl) hx
  match cs, hl with
  | [c0, c1, c2, c3], _ =>
    obtain ⟨m0, y0, f0⟩ := hf 0 _ c0 rfl rfl
    obtain ⟨m1, y1, f1⟩ := hf 1 _ c1 rfl rfl
    obtain ⟨m2, y2, f2⟩ := hf 2 _ c2 rfl rfl
    obtain ⟨m3, y3, f3⟩ := hf 3 _ c3 rfl rfl
    obtain ⟨a0, e0, _, _⟩ := DataW.trod_int Try.underlying3 f0
    obtain ⟨a1, e1, _, _⟩ := DataW.trod_int Try.underlying3 f1
    obtain ⟨a2, e2, _, _⟩ := DataW.trod_int Try.underlying3 f2
    obtain ⟨a3, e3, _, _⟩ := DataW.trod_int Try.underlying3 f3
    simp only [List.cons.injEq, and_true] at e0 e1 e2 e3
    subst e0 e1 e2 e3
    exact ⟨⟨a0, a1, a2, a3⟩, rfl, trivial⟩
theorem read_Fees {H : Type} {encH : TypeId × Value → H} {w : World} {r : Reach} {b0 : Nat} {v : Value} {d : DataW H} {ps : List MemPlace} (hv : Value.okWide Try.prog w r b0 45 v)
    (h : DataW.Trod encH Try.prog w 0 (fun _ => true) true 45 v d ps) : ∃ a : Fees, v = .agg #[.int .i64 a.adult, .int .i64 a.child, .int .i64 a.rent, .int .i64 a.late] := by
  obtain ⟨cs, rfl, hlen, n, x, hx⟩ := open_struct Try.underlying45 hv h
  obtain ⟨a, rfl, hok⟩ := dec_Fees n cs x hx (hlen.trans (by kernel_rfl))
  exact ⟨a, rfl⟩
end Go.Proofs.Ytohmefblkfophaa
