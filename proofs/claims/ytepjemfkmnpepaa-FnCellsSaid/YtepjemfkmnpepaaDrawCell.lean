/- spec.l1Cur's cellOf, openCell. Condition: the reader has been asked less than ten thousand times. -/
import Derived.Test.YtepjemfkmnpepaaDrawMapW
import Derived.Test.YtepjemfkmnpepaaMapN
import Derived.Test.YtepjemfkmnpepaaMapS
namespace Go.Proofs.Ytepjemfkmnpepaa
open Go.RowKit Go.Ori
set_option maxHeartbeats 1000000 in
theorem cellOfD_any (W w : World) (g n : Nat) (m : Mp) (pr pc : Option Addr) (kr kc : Nat) (h : Cur 46 W w g n) (hn : n ≤ 10000) (hl : m.cost.length ≤ 1048576) :
    Calls Try.prog 21 #[.pointer (some ⟨g, 0, none⟩), .agg #[.int .i64 m.wd, .int .i64 m.ht, .slice pr m.rise.length kr, .slice pc m.cost.length kc]] w fun x w' => ∃ r : Int, x = .returned (.int .i64 r) ∧ -1 ≤ r ∧ r ≤ 1048576 ∧ Cur 46 W w' g (n + 4) ∧ w.grownBy w' (some g) := by
  have HC := Lib.hid h
  have hmx : IntKind.i64.wrap (max 1 (m.cost.length : Int) + 1) = max 1 (m.cost.length : Int) + 1 := IntWalk.i64_in _ (by omega)
  go_enter Try.func21, Try.ntmps21
  go_wp2_with (go_at_call 40; refine (l1Most_any _ _ _).mono ?_; rintro e w1 ⟨rfl, rfl⟩)
  refine (pick_any W _ g n _ (HC.out.gain (by repeat (first | with_reducible (first | exact World.gained_refl _ | exact ⟨_, rfl⟩ | apply gain_ext | apply gain_alloc | apply gain_drewN | apply gain_drew) | (refine gain_setCell ?_ (by first | exact Nat.le_refl _ | exact World.size_ext _ _ | (simp; done) | (simp; omega)) _)))) (by omega)).mono ?_
  rintro e w1 ⟨r1, rfl, a1, a2, hc1, hg1⟩
  have HC1 := Lib.hid hc1
  have HG1 := Lib.hid (only_trans (only_gain (only_refl w (some g)) (by repeat (first | with_reducible (first | exact World.gained_refl _ | exact ⟨_, rfl⟩ | apply gain_ext | apply gain_alloc | apply gain_drewN | apply gain_drew) | (refine gain_setCell ?_ (by first | exact Nat.le_refl _ | exact World.size_ext _ _ | (simp; done) | (simp; omega)) _)))) hg1)
  clear hc1 hg1
  go_wp2_with fail
  refine (pick_any W _ g _ _ HC1.out (by omega)).mono ?_
  rintro e w2 ⟨r2, rfl, b1, b2, hc2, hg2⟩
  have HC2 := Lib.hid hc2
  have HG2 := Lib.hid (only_trans HG1.out hg2)
  clear hc2 hg2
  go_wp2
  go_ret
  refine ⟨_, rfl, ?_, ?_, HC2.out.le (by omega), HG2.out⟩
  · omega
  · omega
end Go.Proofs.Ytepjemfkmnpepaa
