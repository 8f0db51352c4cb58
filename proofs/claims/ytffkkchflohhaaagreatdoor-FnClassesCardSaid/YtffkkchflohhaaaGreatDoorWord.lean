/- impl.isWord, spec.l2Word. Condition: at most 1048576 bytes. -/
import Derived.Test.YtffkkchflohhaaaGreatDoorInside
import Derived.Test.YtffkkchflohhaaaGreatDoorL1In
import Derived.Test.YtffkkchflohhaaaGreatDoorPWord
namespace Go.Proofs.YtffkkchflohhaaaGreatDoor
open Go.RowKit Go.Ori
set_option maxHeartbeats 1000000 in
theorem isWord_any (s : ByteArray) (w : World) (hs : s.size ≤ 1048576) :
    Calls Tryz.prog 27 #[.string s] w fun x w' => x = .returned (.bool (wordB s)) ∧ w = w' := by
  go_enter Tryz.func27, Tryz.ntmps27
  go_wp2
  go_loop [3] (fun i => ∃ k : Nat, k ≤ s.size ∧ i = .int .i64 k ∧ (∀ j, j < k → lowAt s j = true)) (fun i => s.size - (intOf i).toNat)
  case atStart => exact ⟨0, by omega, rfl, by simp⟩
  case round =>
    obtain ⟨k, hk, rfl, hok⟩ := hrel
    have HO := Lib.hid hok
    clear hok
    by_cases hlt : k < s.size
    · have HL := Lib.hid (lowAt_eq hlt)
      by_cases h1 : s[k].toNat < 97
      · have HE := Lib.hid (show wordB s = false by rw [wordB, allB_no hlt (by rw [HL.out]; simp; omega)]; rfl)
        go_wp2
        go_ret
        rw [HE.out]
        exact ⟨rfl, rfl⟩
      by_cases h2 : 122 < s[k].toNat
      · have HE := Lib.hid (show wordB s = false by rw [wordB, allB_no hlt (by rw [HL.out]; simp; omega)]; rfl)
        go_wp2
        go_ret
        rw [HE.out]
        exact ⟨rfl, rfl⟩
      · have HS := Lib.hid (step_all HO.out (by rw [HL.out]; simp; omega))
        go_wp2
        go_round
        case rel => exact ⟨k + 1, by omega, by go_num, HS.out⟩
        case measure => simp [intOf]; omega
    · have HE := Lib.hid (show wordB s = insB s.size 1 10 by rw [wordB, allB_yes (fun j hj => HO.out j (by omega))]; rfl)
      go_wp2_with (go_at_call 26; refine (inside_any _ _ _ _).mono ?_; rintro e w1 ⟨rfl, rfl⟩)
      go_ret
      rw [HE.out]
      exact ⟨rfl, rfl⟩
set_option maxHeartbeats 1000000 in
theorem l2Word_any (s : ByteArray) (w : World) (hs : s.size ≤ 1048576) :
    Calls Tryz.prog 57 #[.string s] w fun x w' => x = .returned (.bool (wordB s)) ∧ w = w' := by
  go_enter Tryz.func57, Tryz.ntmps57
  go_wp2
  go_loop [3] (fun i => ∃ k : Nat, k ≤ s.size ∧ i = .int .i64 k ∧ (∀ j, j < k → lowAt s j = true)) (fun i => s.size - (intOf i).toNat)
  case atStart => exact ⟨0, by omega, rfl, by simp⟩
  case round =>
    obtain ⟨k, hk, rfl, hok⟩ := hrel
    have HO := Lib.hid hok
    clear hok
    by_cases hlt : k < s.size
    · have HL := Lib.hid (lowAt_eq hlt)
      by_cases h1 : s[k].toNat < 97
      · have HE := Lib.hid (show wordB s = false by rw [wordB, allB_no hlt (by rw [HL.out]; simp; omega)]; rfl)
        go_wp2
        go_ret
        rw [HE.out]
        exact ⟨rfl, rfl⟩
      by_cases h2 : 122 < s[k].toNat
      · have HE := Lib.hid (show wordB s = false by rw [wordB, allB_no hlt (by rw [HL.out]; simp; omega)]; rfl)
        go_wp2
        go_ret
        rw [HE.out]
        exact ⟨rfl, rfl⟩
      · have HS := Lib.hid (step_all HO.out (by rw [HL.out]; simp; omega))
        go_wp2
        go_round
        case rel => exact ⟨k + 1, by omega, by go_num, HS.out⟩
        case measure => simp [intOf]; omega
    · have HE := Lib.hid (show wordB s = insB s.size 1 10 by rw [wordB, allB_yes (fun j hj => HO.out j (by omega))]; rfl)
      go_wp2_with (go_at_call 56; refine (l1In_any _ _ _ _).mono ?_; rintro e w1 ⟨rfl, rfl⟩)
      go_ret
      rw [HE.out]
      exact ⟨rfl, rfl⟩
end Go.Proofs.YtffkkchflohhaaaGreatDoor
