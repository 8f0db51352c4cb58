/- The type impl.Control, in the program's table. No condition. -/
import Derived.Test.YtedpckkoaioooaaRows
namespace Go.Proofs.Ytedpckkoaioooaa
theorem info_Ctl : (Try.prog.info? 46).map (fun i => (i.zero, i.size, i.bytes)) = some (some (.agg #[.int .i64 0, .int .i64 0]), 2, 16) := by kernel_rfl
end Go.Proofs.Ytedpckkoaioooaa
