/- The type impl.Entry, in the program's table. No condition. -/
import Derived.Test.YtnpfghpjlbjpnaaRows
namespace Go.Proofs.Ytnpfghpjlbjpnaa
theorem info_Ent : (Try.prog.info? 30).map (fun i => (i.zero, i.size, i.bytes)) = some (some (.agg #[.int .i64 0, .int .i64 0, .int .i64 0, .bool false, .int .i64 0]), 5, 40) := by kernel_rfl
end Go.Proofs.Ytnpfghpjlbjpnaa
