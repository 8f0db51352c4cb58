/- Classs and slices of them, read off a row's arguments. No condition. -/
import Derived.Test.YtoodomaecgankaaDoorLaw
import Derived.Test.YtoodomaecgankaaDoorRows
import Derived.Test.YtoodomaecgankaaDoorPWord
namespace Go.Proofs.YtoodomaecgankaaDoor
open Go.ChangeShapes Go.WideShapes Go.ChangeAt Go.RowKit Go.Ori
set_option maxRecDepth 100000
theorem dec_Cls {H : Type} {encH : TypeId × Value → H} {w : World} : ∀ n cs x, DataW.trod encH Tryd.prog w 0 (fun _ => true) true n 23 cs = some x → cs.length = 8 → ∃ a : Cls, a.cells = cs ∧ Cls.ok a := by
  intro n cs x hx hl
  have hf := dec_struct Tryd.underlying23 (by kernel_rfl) hx
  match cs, hl with
  | [c0, c1, c2, c3, c4, c5, c6, c7], _ =>
    obtain ⟨m0, y0, f0⟩ := hf 0 _ c0 rfl rfl
    obtain ⟨m1, y1, f1⟩ := hf 1 _ c1 rfl rfl
    obtain ⟨m2, y2, f2⟩ := hf 2 _ c2 rfl rfl
    obtain ⟨m3, y3, f3⟩ := hf 3 _ c3 rfl rfl
    obtain ⟨m4, y4, f4⟩ := hf 4 _ c4 rfl rfl
    obtain ⟨m5, y5, f5⟩ := hf 5 _ c5 rfl rfl
    obtain ⟨m6, y6, f6⟩ := hf 6 _ c6 rfl rfl
    obtain ⟨m7, y7, f7⟩ := hf 7 _ c7 rfl rfl
    obtain ⟨a0, e0, _, _⟩ := DataW.trod_int Tryd.underlying3 f0
    obtain ⟨a1, e1, _, s1⟩ := DataW.trod_string Tryd.underlying9 f1
    obtain ⟨a2, e2, _, _⟩ := DataW.trod_int Tryd.underlying3 f2
    obtain ⟨a3, e3, _, _⟩ := DataW.trod_int Tryd.underlying3 f3
    obtain ⟨a4, e4, _⟩ := DataW.trod_bool Tryd.underlying4 f4
    obtain ⟨a5, e5, _⟩ := DataW.trod_bool Tryd.underlying4 f5
    obtain ⟨a6, e6, _, _⟩ := DataW.trod_int Tryd.underlying3 f6
    obtain ⟨a7, e7, _, _⟩ := DataW.trod_int Tryd.underlying3 f7
    simp only [List.cons.injEq, and_true] at e0 e1 e2 e3 e4 e5 e6 e7
    subst e0 e1 e2 e3 e4 e5 e6 e7
    exact ⟨⟨a0, a1, a2, a3, a4, a5, a6, a7⟩, rfl, s1⟩
set_option maxRecDepth 100000 in
theorem read_Cls {H : Type} {encH : TypeId × Value → H} {w : World} {r : Reach} {b0 : Nat} {v : Value} {d : DataW H} {ps : List MemPlace} (hv : Value.okWide Tryd.prog w r b0 23 v)
    (h : DataW.Trod encH Tryd.prog w 0 (fun _ => true) true 23 v d ps) : ∃ a : Cls, v = .agg #[.int .i64 a.id, .string a.name, .int .i64 a.low, .int .i64 a.high, .bool a.women, .bool a.men, .int .i64 a.course, .int .i64 a.most] ∧ Cls.ok a := by
  obtain ⟨cs, rfl, hlen, n, x, hx⟩ := open_struct Tryd.underlying23 hv h
  obtain ⟨a, rfl, hok⟩ := dec_Cls n cs x hx (hlen.trans (by kernel_rfl))
  exact ⟨a, rfl, hok⟩
end Go.Proofs.YtoodomaecgankaaDoor
