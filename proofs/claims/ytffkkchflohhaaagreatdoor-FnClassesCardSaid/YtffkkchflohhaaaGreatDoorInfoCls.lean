/- The type impl.Class, in the program's table. No condition. -/
import Derived.Test.YtffkkchflohhaaaGreatDoorRows
namespace Go.Proofs.YtffkkchflohhaaaGreatDoor
theorem info_Cls : (Tryz.prog.info? 25).map (fun i => (i.zero, i.size, i.bytes)) = some (some (.agg #[.int .i64 0, .string ByteArray.empty, .int .i64 0, .int .i64 0, .bool false, .bool false, .int .i64 0, .int .i64 0]), 8, 64) := by kernel_rfl
end Go.Proofs.YtffkkchflohhaaaGreatDoor
