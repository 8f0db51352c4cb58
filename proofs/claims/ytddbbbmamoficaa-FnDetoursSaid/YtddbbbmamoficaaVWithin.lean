/- laws.vWithin, where all elements of the one are in the other. Condition: at most 1048576 numbers. -/
import Derived.Test.YtddbbbmamoficaaVLaws
namespace Go.Proofs.Ytddbbbmamoficaa
open Go.RowKit Go.Ori
set_option maxHeartbeats 1000000 in
theorem vWithin_yes (v v2 : Value) (l l2 : List Int) (w : World) (h : w.sl intC 1 v l) (h2 : w.sl intC 1 v2 l2) (hl : l.length ≤ 1048576) (hl2 : l2.length ≤ 1048576) (hin : ∀ x ∈ l, x ∈ l2) :
    Calls Try.prog 47 #[v, v2] w fun x w' => x = .returned (.bool true) ∧ ∃ d, w' = w.ext d := by
  have hs := Lib.hid h
  have hs2 := Lib.hid h2
  have HI := Lib.hid hin
  obtain ⟨p, c, rfl, _⟩ := h
  clear hin
  go_enter Try.func47, Try.ntmps47
  go_wp2
  go_loopw [5] (fun i wr => ∃ k : Nat, k ≤ l.length ∧ i = .int .i64 k ∧ ∃ d, wr = w.ext d) (fun i _ => l.length - (intOf i).toNat)
  case atStart => exact ⟨0, by omega, rfl, w.gained_refl⟩
  case round =>
    obtain ⟨k, hk, rfl, d, rfl⟩ := hrel
    by_cases hlt : k < l.length
    · obtain ⟨b, o, rfl⟩ := sl_some hs.out (by omega)
      have c0 := sl_int hs.out hlt
      have HX := Lib.hid (hasB_iff.2 (HI.out _ (List.getElem_mem hlt)))
      generalize l[k] = x at c0 HX
      have ob := World.oldB_of_cell c0
      go_wp2_with (go_at_call 21; refine (vHas_any _ l2 x _ (by with_reducible (repeat (first | exact hs2.out | refine World.sl_ext intC_length ?_ _ | refine sl_alloc intC_length ?_ _ | refine sl_drew ?_))) hl2).mono ?_; rw [HX.out]; rintro e w1 ⟨rfl, d1, rfl⟩)
      go_roundw
      case rel => exact ⟨k + 1, by omega, by go_num, (by repeat (first | with_reducible (first | exact World.gained_refl _ | exact ⟨_, rfl⟩ | apply gain_ext | apply gain_alloc | apply gain_drewN | apply gain_drew) | (refine gain_setCell ?_ (by first | exact Nat.le_refl _ | exact World.size_ext _ _ | (simp; done) | (simp; omega)) _)))⟩
      case measure => simp [intOf]; omega
    · go_wp2
      go_ret
      exact ⟨rfl, _, rfl⟩
end Go.Proofs.Ytddbbbmamoficaa
