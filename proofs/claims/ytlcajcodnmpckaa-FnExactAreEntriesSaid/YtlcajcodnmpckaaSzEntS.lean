/- laws.szEntryS: what is left of a size. No condition. -/
import Derived.Test.YtlcajcodnmpckaaRows
import Derived.Test.YtlcajcodnmpckaaPlain
namespace Go.Proofs.Ytlcajcodnmpckaa
open Go.RowKit Go.Ori
theorem szEntryS_yes (p : Option Addr) (n c : Nat) (left : Int) (w : World) (hn : n ≤ 9223372036854775807) (h0 : 0 ≤ left) (h1 : left ≤ 1048576) (h : (n : Int) ≤ left) :
    Calls Try.prog 20 #[.slice p n c, .int .i64 left] w fun x w' => x = .returned (.int .i64 (left - n)) ∧ w = w' := by
  go_enter Try.func20, Try.ntmps20
  go_wp2
  go_ret
  exact ⟨rfl, rfl⟩
theorem szEntryS_no (p : Option Addr) (n c : Nat) (left : Int) (w : World) (hn : n ≤ 9223372036854775807) (h0 : 0 ≤ left) (h1 : left ≤ 1048576) (h : ¬ (n : Int) ≤ left) :
    Calls Try.prog 20 #[.slice p n c, .int .i64 left] w fun x w' => x = .returned (.int .i64 (-1)) ∧ w = w' := by
  go_enter Try.func20, Try.ntmps20
  go_wp2
  go_ret
  exact ⟨rfl, rfl⟩
end Go.Proofs.Ytlcajcodnmpckaa
