/- The type int, in the program's table. No condition. -/
import Derived.Test.YtffkkchflohhaaaDoorRows
namespace Go.Proofs.YtffkkchflohhaaaDoor
theorem info_int : (Tryd.prog.info? 3).map (fun i => (i.zero, i.size, i.bytes)) = some (some (.int .i64 0), 1, 8) := by kernel_rfl
end Go.Proofs.YtffkkchflohhaaaDoor
