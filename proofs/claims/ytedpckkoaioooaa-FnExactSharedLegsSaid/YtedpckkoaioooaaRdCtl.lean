/- Controls, slices of controls, maps, read off a row's arguments. No condition. -/
import Derived.Test.YtedpckkoaioooaaRdInts
import Derived.Test.YtedpckkoaioooaaPMap
namespace Go.Proofs.Ytedpckkoaioooaa
open Go.ChangeShapes Go.WideShapes Go.ChangeAt Go.RowKit Go.Ori
set_option maxRecDepth 100000
theorem dec_Ctl {H : Type} {encH : TypeId × Value → H} {w : World} : ∀ n cs x, DataW.trod encH Try.prog w 0 (fun _ => true) true n 108 cs = some x → cs.length = 2 → ∃ a : Ctl, a.cells = cs ∧ True := by
  intro n cs x hx hl
  have hf := dec_struct Try.underlying108 (by kernel_rfl) hx
  match cs, hl with
  | [c0, c1], _ =>
    obtain ⟨m0, y0, f0⟩ := hf 0 _ c0 rfl rfl
    obtain ⟨m1, y1, f1⟩ := hf 1 _ c1 rfl rfl
    obtain ⟨a0, e0, _, _⟩ := DataW.trod_int Try.underlying3 f0
    obtain ⟨a1, e1, _, _⟩ := DataW.trod_int Try.underlying3 f1
    simp only [List.cons.injEq, and_true] at e0 e1
    subst e0 e1
    exact ⟨⟨a0, a1⟩, rfl, trivial⟩
set_option maxRecDepth 100000 in
theorem read_Ctl {H : Type} {encH : TypeId × Value → H} {w : World} {r : Reach} {b0 : Nat} {v : Value} {d : DataW H} {ps : List MemPlace} (hv : Value.okWide Try.prog w r b0 108 v)
    (h : DataW.Trod encH Try.prog w 0 (fun _ => true) true 108 v d ps) : ∃ a : Ctl, v = .agg #[.int .i64 a.code, .int .i64 a.cell] := by
  obtain ⟨cs, rfl, hlen, n, x, hx⟩ := open_struct Try.underlying108 hv h
  obtain ⟨a, rfl, hok⟩ := dec_Ctl n cs x hx (hlen.trans (by kernel_rfl))
  exact ⟨a, rfl⟩
set_option maxRecDepth 100000 in
theorem read_Ctls {H : Type} {encH : TypeId × Value → H} {w : World} {r : Reach} {b0 : Nat} {v : Value} {d : DataW H} {ps : List MemPlace} (hv : Value.okWide Try.prog w r b0 65 v)
    (h : DataW.Trod encH Try.prog w 0 (fun _ => true) true 65 v d ps) : ∃ l : List Ctl, w.sl Ctl.cells 2 v l ∧ l.length ≤ 9223372036854775807 := by
  obtain ⟨l, h1, _, h2⟩ := read_slice Try.underlying65 (by kernel_rfl) dec_Ctl (by omega) hv h
  exact ⟨l, h1, h2⟩
end Go.Proofs.Ytedpckkoaioooaa
