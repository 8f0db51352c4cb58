/- laws.markMap writes numbers into a map's slices. Conditions: slices of the caller's own, in two blocks; at most 1048576 numbers. -/
import Derived.Test.YtedpckkoaioooaaLawMap
import Derived.Test.YtedpckkoaioooaaMarkIntS
namespace Go
open RowKit
theorem grown_after {w w1 w2 : World} {r : Option Nat} (h1 : ∃ d, w1 = w.ext d) (h2 : w1.grownBy w2 r) : w.grownBy w2 r := by
  obtain ⟨d, rfl⟩ := h1
  exact ⟨h2.os, h2.tape, h2.output, Nat.le_trans (World.size_ext w d) h2.size, fun i hi hne => (h2.block i (Nat.lt_of_lt_of_le hi (World.size_ext w d)) hne).trans (World.heap_ext_lt w d hi)⟩
end Go
namespace Go.Proofs.Ytedpckkoaioooaa
open Go.RowKit Go.Ori
set_option maxHeartbeats 1000000 in
theorem markMap_any (W : World) (m : Mp) (a b : Value) (w : World) (B : Nat) (k0 : Int) (h0 : 0 ≤ k0) (h1 : k0 ≤ 8388608) (n1 : m.rise.length ≤ 1048576) (n2 : m.cost.length ≤ 1048576)
    (ha : w.own B 3 intC 1 a m.rise) (hb : w.own B 3 intC 1 b m.cost) (hap : Apart2 a b) (hW : ∃ d, w = W.ext d) (hB : W.heap.size ≤ B) :
    Calls Try.prog 62 #[.agg #[.int .i64 m.wd, .int .i64 m.ht, a, b], .int .i64 k0] w fun x w' => x = .returned (.int .i64 (k0 + m.rise.length + m.cost.length)) ∧ (∃ V, w.grownBy V a.ownBlock ∧ V.grownBy w' b.ownBlock) ∧ ∃ d, w' = W.ext d := by
  obtain ⟨pa, ca, rfl, _⟩ := id (sl_of_own intC_length ha)
  obtain ⟨pb, cb, rfl, _⟩ := id (sl_of_own intC_length hb)
  have HLA := Lib.hid (own_lt ha)
  have HA := Lib.hid ha
  have HB := Lib.hid hb
  have HAP := Lib.hid hap
  have HW := Lib.hid hW
  clear ha hb hap hW
  go_enter Try.func62, Try.ntmps62
  go_wp2_with fail
  refine (markIntS_any W _ _ m.rise _ B k0 h0 (by omega) n1 rfl (own_up HA.out (by repeat (first | with_reducible (first | exact World.gained_refl _ | exact ⟨_, rfl⟩ | apply gain_ext | apply gain_alloc | apply gain_drewN | apply gain_drew) | (refine gain_setCell ?_ (by first | exact Nat.le_refl _ | exact World.size_ext _ _ | (simp; done) | (simp; omega)) _)))) (gain_alloc HW.out _) hB).mono ?_
  rintro e w1 ⟨rfl, -, hg1, d1, rfl⟩
  have hg1' := grown_after (gain_alloc w.gained_refl _) hg1
  have hb1 := own_mark HB.out hg1' HAP.out.symm
  have c3 : (W.ext d1).cell? ⟨w.heap.size, 3, none⟩ = some (.slice pb m.cost.length cb) := (World.cell?_of_block (a := ⟨w.heap.size, 3, none⟩) (hg1.block w.heap.size (by rw [World.size_alloc]; omega) (fun e => by have := (HLA.out _ e.symm).2; omega))).trans (by rw [World.cell?_alloc_new]; rfl)
  have obx := World.oldB_of_cell c3
  have HG1 := Lib.hid hg1'
  have HB1 := Lib.hid hb1
  clear hg1 hg1' hb1
  go_wp2_with fail
  refine (markIntS_any W _ _ m.cost _ B (k0 + m.rise.length) (by omega) (by omega) n2 rfl HB1.out ⟨_, rfl⟩ hB).mono ?_
  rintro e w2 ⟨rfl, -, hg2, d2, rfl⟩
  have HG2 := Lib.hid hg2
  clear hg2
  go_wp2
  go_ret
  exact ⟨rfl, ⟨_, HG1.out, HG2.out⟩, ⟨_, rfl⟩⟩
end Go.Proofs.Ytedpckkoaioooaa
