/- Slices of strings. No condition. -/
import Derived.Test.YtffkkchflohhaaaGreatDoorHeld
import Derived.Test.YtffkkchflohhaaaGreatDoorPlain
namespace Go.Ori
def strC (s : ByteArray) : List Value := [.string s]
theorem strC_length (s : ByteArray) : (strC s).length = 1 := rfl
theorem strC_one (s : ByteArray) : ∀ c ∈ strC s, c.oneCell' = true := by simp [strC, Value.oneCell']
theorem sl_str {w : World} {b o n c : Nat} {l : List ByteArray} (h : w.sl strC 1 (.slice (some ⟨b, o, none⟩) n c) l) {k : Nat} (hk : k < l.length) : w.cell? ⟨b, o + k, none⟩ = some (.string l[k]) := by
  have := sl_cells h hk (j := 0) (by omega)
  simpa [strC] using this
end Go.Ori
