/- laws.vTable, vPlan: of two that read alike they say true; laws.vSum. Condition: a size of at most 1048576. -/
import Derived.Test.YtepjemfkmnpepaaVLaws
import Derived.Test.YtepjemfkmnpepaaNest
namespace Go.Proofs.Ytepjemfkmnpepaa
open Go.RowKit Go.Ori
theorem vInts1_same (v v2 : Value) (l : List Int) (w : World) (h : w.sl1 v l) (h2 : w.sl1 v2 l) (hT : tot1 l ≤ 1048576) :
    Calls Try.prog 8 #[v, v2] w fun x w' => x = .returned (.bool true) ∧ ∃ d, w' = w.ext d := vInts_same v v2 l w h h2 hT
set_option maxHeartbeats 1000000 in
theorem vTable_same (v v2 : Value) (l : List (List Int)) (w : World) (h : w.sl2 v l) (h2 : w.sl2 v2 l) (hT : tot2 l ≤ 1048576) :
    Calls Try.prog 13 #[v, v2] w fun x w' => x = .returned (.bool true) ∧ ∃ d, w' = w.ext d := by
  have hs := Lib.hid h
  have hs2 := Lib.hid h2
  have hl : l.length ≤ 1048576 := by unfold tot2 at hT; omega
  have HT := Lib.hid (fun (k : Nat) (hk : k < l.length) => Nat.le_trans (tot2_at hk) hT)
  obtain ⟨p, c, rfl⟩ := sl2_form h
  obtain ⟨p2, c2, rfl⟩ := sl2_form h2
  clear h h2 hT
  go_enter Try.func13, Try.ntmps13
  go_wp2
  go_loopw [5] (fun i wr => ∃ k : Nat, k ≤ l.length ∧ i = .int .i64 k ∧ ∃ d, wr = w.ext d) (fun i _ => l.length - (intOf i).toNat)
  case atStart => exact ⟨0, by omega, rfl, w.gained_refl⟩
  case round =>
    obtain ⟨k, hk, rfl, d, rfl⟩ := hrel
    by_cases hlt : k < l.length
    · obtain ⟨b, o, rfl⟩ := slOf_some hs.out (by omega)
      obtain ⟨b2, o2, rfl⟩ := slOf_some hs2.out (by omega)
      obtain ⟨u, c0, hu⟩ := slOf_at hs.out hlt
      obtain ⟨u2, e0, hu2⟩ := slOf_at hs2.out hlt
      have hu := Lib.hid hu
      have hu2 := Lib.hid hu2
      have ob := World.oldB_of_cell c0
      have ob2 := World.oldB_of_cell e0
      have hTk := Lib.hid (HT.out k hlt)
      go_wp2
      refine wp_region_gain (by kernel_rfl) (by kernel_rfl) ?_
      repeat (first | go_big_quiet_skip | (go_big_quiet_want; go_big_quiet_op; first | go_big_quiet_on | ((apply Exists.intro); (refine ⟨fun _ => ?_, ?_⟩); (· (go_at_call 8; exact Calls.gain (vInts1_same u u2 l[k] _ (sl1_up hu.out (by repeat (first | with_reducible (first | exact World.gained_refl _ | exact ⟨_, rfl⟩ | apply gain_ext | apply gain_alloc | apply gain_drewN | apply gain_drew) | (refine gain_setCell ?_ (by first | exact Nat.le_refl _ | exact World.size_ext _ _ | (simp; done) | (simp; omega)) _)))) (sl1_up hu2.out (by repeat (first | with_reducible (first | exact World.gained_refl _ | exact ⟨_, rfl⟩ | apply gain_ext | apply gain_alloc | apply gain_drewN | apply gain_drew) | (refine gain_setCell ?_ (by first | exact Nat.le_refl _ | exact World.size_ext _ _ | (simp; done) | (simp; omega)) _)))) hTk.out))); (go_big_quiet_on))))
      refine wpQuiet_nil ?_
      rintro _ ⟨d', rfl⟩
      go_wp2
      go_roundw
      case rel => exact ⟨k + 1, by omega, by go_num, gain_ext ⟨_, rfl⟩ _⟩
      case measure => simp [intOf]; omega
    · go_wp2
      go_ret
      exact ⟨rfl, _, rfl⟩
end Go.Proofs.Ytepjemfkmnpepaa
