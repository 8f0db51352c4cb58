/- Slices of Classs, read off a row's arguments. No condition. -/
import Derived.Test.YtoodomaecgankaaRdCls
namespace Go.Proofs.Ytoodomaecgankaa
open Go.ChangeShapes Go.WideShapes Go.ChangeAt Go.RowKit Go.Ori
set_option maxRecDepth 100000 in
theorem read_Clss {H : Type} {encH : TypeId × Value → H} {w : World} {r : Reach} {b0 : Nat} {v : Value} {d : DataW H} {ps : List MemPlace} (hv : Value.okWide Try.prog w r b0 22 v)
    (h : DataW.Trod encH Try.prog w 0 (fun _ => true) true 22 v d ps) : ∃ l : List Cls, w.sl Cls.cells 8 v l ∧ l.length ≤ 9223372036854775807 ∧ ∀ x ∈ l, Cls.ok x := by
  obtain ⟨l, h1, h3, h2⟩ := read_slice Try.underlying22 (by kernel_rfl) dec_Cls (by omega) hv h
  exact ⟨l, h1, h2, h3⟩
end Go.Proofs.Ytoodomaecgankaa
