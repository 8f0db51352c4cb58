/- The type int, in the program's table. No condition. -/
import Derived.Test.YtffkkchflohhaaaGreatDoorRows
namespace Go.Proofs.YtffkkchflohhaaaGreatDoor
theorem info_int : (Tryz.prog.info? 3).map (fun i => (i.zero, i.size, i.bytes)) = some (some (.int .i64 0), 1, 8) := by kernel_rfl
end Go.Proofs.YtffkkchflohhaaaGreatDoor
