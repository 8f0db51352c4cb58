/- Slices of slices of the call's own whose rows lie apart: what they are, what is said of them grown. No condition. -/
import Derived.Test.YtlofdpbdnkcnkaaNestMark
import Derived.Test.YtlofdpbdnkcnkaaRows2
namespace Go
open RowKit Go.Ori
end Go
namespace Go.Proofs.Ytlofdpbdnkcnkaa
open Go.RowKit Go.Ori
end Go.Proofs.Ytlofdpbdnkcnkaa
