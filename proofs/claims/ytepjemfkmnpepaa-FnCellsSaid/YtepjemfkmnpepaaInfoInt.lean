/- The type int, in the program's table. No condition. -/
import Derived.Test.YtepjemfkmnpepaaRows
namespace Go.Proofs.Ytepjemfkmnpepaa
theorem info_int : (Try.prog.info? 3).map (fun i => (i.zero, i.size, i.bytes)) = some (some (.int .i64 0), 1, 8) := by kernel_rfl
end Go.Proofs.Ytepjemfkmnpepaa
