/- Slices of ints, read off a row's arguments. No condition. -/
import Derived.Test.YtedpckkoaioooaaLaw
import Derived.Test.YtedpckkoaioooaaRows
import Derived.Test.YtedpckkoaioooaaPlain
namespace Go.Proofs.Ytedpckkoaioooaa
open Go.ChangeShapes Go.WideShapes Go.ChangeAt Go.RowKit Go.Ori
set_option maxRecDepth 100000 in
theorem read_Ints {H : Type} {encH : TypeId × Value → H} {w : World} {r : Reach} {b0 : Nat} {v : Value} {d : DataW H} {ps : List MemPlace} (hv : Value.okWide Try.prog w r b0 24 v)
    (h : DataW.Trod encH Try.prog w 0 (fun _ => true) true 24 v d ps) : ∃ l : List Int, w.sl intC 1 v l ∧ l.length ≤ 9223372036854775807 := by
  obtain ⟨l, h1, _, h2⟩ := read_slice Try.underlying24 (by kernel_rfl) (dec_int Try.underlying3) (by omega) hv h
  exact ⟨l, h1, h2⟩
end Go.Proofs.Ytedpckkoaioooaa
