/- laws.szIntS: what is left of a size. No condition. -/
import Derived.Test.YtedpckkoaioooaaRows
import Derived.Test.YtedpckkoaioooaaPlain
namespace Go.Proofs.Ytedpckkoaioooaa
open Go.RowKit Go.Ori
theorem szIntS_yes (p : Option Addr) (n c : Nat) (left : Int) (w : World) (hn : n ≤ 9223372036854775807) (h0 : 0 ≤ left) (h1 : left ≤ 1048576) (h : (n : Int) ≤ left) :
    Calls Try.prog 110 #[.slice p n c, .int .i64 left] w fun x w' => x = .returned (.int .i64 (left - n)) ∧ w = w' := by
  go_enter Try.func110, Try.ntmps110
  go_wp2
  go_ret
  exact ⟨rfl, rfl⟩
theorem szIntS_no (p : Option Addr) (n c : Nat) (left : Int) (w : World) (hn : n ≤ 9223372036854775807) (h0 : 0 ≤ left) (h1 : left ≤ 1048576) (h : ¬ (n : Int) ≤ left) :
    Calls Try.prog 110 #[.slice p n c, .int .i64 left] w fun x w' => x = .returned (.int .i64 (-1)) ∧ w = w' := by
  go_enter Try.func110, Try.ntmps110
  go_wp2
  go_ret
  exact ⟨rfl, rfl⟩
theorem szIntS_any (p : Option Addr) (n c : Nat) (left : Int) (w : World) (hn : n ≤ 9223372036854775807) (h0 : 0 ≤ left) (h1 : left ≤ 1048576) :
    Calls Try.prog 110 #[.slice p n c, .int .i64 left] w fun x w' => ∃ r, x = .returned (.int .i64 r) ∧ w = w' ∧ r ≤ left ∧ (0 ≤ r → (n : Int) ≤ left) := by
  by_cases h : (n : Int) ≤ left
  · exact (szIntS_yes p n c left w hn h0 h1 h).mono fun _ _ ⟨e1, e2⟩ => ⟨_, e1, e2, by omega, fun _ => h⟩
  · exact (szIntS_no p n c left w hn h0 h1 h).mono fun _ _ ⟨e1, e2⟩ => ⟨_, e1, e2, by omega, fun h3 => by omega⟩
end Go.Proofs.Ytedpckkoaioooaa
