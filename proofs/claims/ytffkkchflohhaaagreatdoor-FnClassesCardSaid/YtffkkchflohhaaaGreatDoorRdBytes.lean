/- Slices of bytes, read off a row's arguments. No condition. -/
import Derived.Test.YtffkkchflohhaaaGreatDoorLaw
import Derived.Test.YtffkkchflohhaaaGreatDoorRows
import Derived.Test.YtffkkchflohhaaaGreatDoorCur
namespace Go.Proofs.YtffkkchflohhaaaGreatDoor
open Go.ChangeShapes Go.WideShapes Go.ChangeAt Go.RowKit Go.Ori
theorem dec_byte {H : Type} {encH : TypeId × Value → H} {w : World} {P : Program} {e : TypeId} (he : P.underlying e = some (.int .u8)) : ∀ n cs x, DataW.trod encH P w 0 (fun _ => true) true n e cs = some x → cs.length = 1 → ∃ a : Int, byteC a = cs ∧ 0 ≤ a ∧ a ≤ 255 := by
  intro n cs x h _
  obtain ⟨a, hcs, _, hw⟩ := DataW.trod_int he h
  refine ⟨a, hcs.symm, ?_⟩
  simp [Lit.wf, IntKind.min, IntKind.max, IntKind.bits, IntKind.signed] at hw
  omega
set_option maxRecDepth 100000 in
theorem read_Bytes {H : Type} {encH : TypeId × Value → H} {w : World} {r : Reach} {b0 : Nat} {v : Value} {d : DataW H} {ps : List MemPlace} (hv : Value.okWide Tryz.prog w r b0 22 v)
    (h : DataW.Trod encH Tryz.prog w 0 (fun _ => true) true 22 v d ps) : ∃ l : List Int, w.sl byteC 1 v l ∧ (∀ x ∈ l, 0 ≤ x ∧ x ≤ 255) ∧ l.length ≤ 9223372036854775807 :=
  read_slice Tryz.underlying22 (by kernel_rfl) (dec_byte Tryz.underlying5) (by omega) hv h
end Go.Proofs.YtffkkchflohhaaaGreatDoor
