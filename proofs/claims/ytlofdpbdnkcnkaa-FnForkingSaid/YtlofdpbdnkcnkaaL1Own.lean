/- spec.l1Own: a copy in new memory. Condition: at most 1048576 elements. -/
import Derived.Test.YtlofdpbdnkcnkaaInfoInt
import Derived.Test.YtlofdpbdnkcnkaaPlain
import Derived.Test.YtlofdpbdnkcnkaaOwn
namespace Go.Proofs.Ytlofdpbdnkcnkaa
open Go.RowKit Go.Ori
theorem l1Own_any (v : Value) (l : List Int) (w : World) (h : w.sl intC 1 v l) (hl : l.length ≤ 1048576) :
    Calls Try.prog 62 #[v] w fun x w' => ∃ v', x = .returned v' ∧ (∃ d, w' = w.ext d) ∧ w'.own w.heap.size 3 intC 1 v' l := by
  go_enter Try.func62, Try.ntmps62
  go_wp2_with (at_builtin; refine wpList_append_gain rfl (.tmp 3) (.tmp 4) rfl Try.underlying28 info_int (by rfl) (by omega) intC_length intC_one (by omega) (gain_alloc w.gained_refl _) (Nat.le_refl _) (by simp) rfl rfl (own_lit (l := ([] : List Int)) intC_length rfl (by simp)) (sl_alloc intC_length h _) (by simpa using (by omega : l.length ≤ 2097152)) ?_; intro v' d ho hg)
  go_ret
  exact ⟨_, rfl, ⟨_, rfl⟩, ho⟩
end Go.Proofs.Ytlofdpbdnkcnkaa
