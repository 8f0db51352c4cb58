/- Slices of Runners, read off a row's arguments. No condition. -/
import Derived.Test.YtcldcainmipjcaaRdRunner
namespace Go.Proofs.Ytcldcainmipjcaa
open Go.ChangeShapes Go.WideShapes Go.ChangeAt Go.RowKit Go.Ori
set_option maxRecDepth 100000 in
theorem read_Runners {H : Type} {encH : TypeId × Value → H} {w : World} {r : Reach} {b0 : Nat} {v : Value} {d : DataW H} {ps : List MemPlace} (hv : Value.okWide Try.prog w r b0 61 v)
    (h : DataW.Trod encH Try.prog w 0 (fun _ => true) true 61 v d ps) : ∃ l : List Runner, w.sl Runner.cells 6 v l ∧ l.length ≤ 9223372036854775807 ∧ ∀ x ∈ l, Runner.ok x := by
  obtain ⟨l, h1, h3, h2⟩ := read_slice Try.underlying61 (by kernel_rfl) dec_Runner (by omega) hv h
  exact ⟨l, h1, h2, h3⟩
end Go.Proofs.Ytcldcainmipjcaa
