/- spec.l10Largest, spec.l1Most. Condition: at most 1048576 clubs. -/
import Derived.Test.YtbghmkjjooiikaaRows
import Derived.Test.YtbghmkjjooiikaaP10
namespace Go.Proofs.Ytbghmkjjooiikaa
open Go.RowKit Go.Ori
set_option maxHeartbeats 1000000 in
theorem l10Largest_any (v : Value) (l : List Int) (w : World) (h : w.sl intC 1 v l) (hl : l.length ≤ 1048576) :
    Calls Try.prog 125 #[v] w fun x w' => x = .returned (.tuple #[.int .i64 (bestI l), .int .i64 (mostI l)]) ∧ ∃ d, w' = w.ext d := by
  have hs := Lib.hid h
  obtain ⟨p, c, rfl, _⟩ := h
  go_enter Try.func125, Try.ntmps125
  go_wp2
  go_loopw [4, 5, 6] (fun s t i wr => ∃ k : Nat, k ≤ 6 ∧ i = .int .i64 k ∧ s = .int .i64 (largeN l k).1 ∧ t = .int .i64 (largeN l k).2 ∧ ∃ d, wr = w.ext d) (fun _ _ i _ => 6 - (intOf i).toNat)
  case atStart => exact ⟨0, by omega, rfl, rfl, rfl, w.gained_refl⟩
  case round =>
    obtain ⟨k, hk, rfl, rfl, rfl, d, rfl⟩ := hrel
    have HS := Lib.hid (largeN_succ l k)
    generalize hq : largeN l k = q at HS
    obtain ⟨q1, q2⟩ := q
    have HQ := Lib.hid hq
    clear hq
    simp only [] at HS ⊢
    by_cases hk6 : k < 6
    · go_wp2
      go_loopw [7, 8] (fun t i wr => ∃ j : Nat, j ≤ l.length ∧ i = .int .i64 j ∧ t = .int .i64 (cntI (l.take j) k) ∧ ∃ d, wr = w.ext d) (fun _ i _ => l.length - (intOf i).toNat)
      case atStart => exact ⟨0, by omega, rfl, by simp [cntI], _, rfl⟩
      case round =>
        obtain ⟨j, hj, rfl, rfl, d2, rfl⟩ := hrel
        have hb := cntI_bd (l.take j) k
        have hbl : (l.take j).length ≤ 1048576 := by rw [List.length_take]; omega
        have hb0 := hb.1
        have hb1 : cntI (l.take j) k ≤ 1048576 := by omega
        clear hb hbl
        by_cases hlt : j < l.length
        · obtain ⟨b, o, rfl⟩ := sl_some hs.out (by omega)
          have c1 := sl_int hs.out hlt
          have HT := Lib.hid (cntI_take hlt k)
          generalize l[j] = y at c1 HT
          generalize cntI (l.take j) k = cn at HT hb0 hb1
          have ob := World.oldB_of_cell c1
          cases hy : (y == (k : Int)) with
          | true =>
            have HT' := Lib.hid (HT.out.trans (by rw [hy]; rfl : _ = cn + 1))
            go_wp2
            go_roundw
            case rel => exact ⟨j + 1, by omega, by go_num, by rw [HT'.out], _, rfl⟩
            case measure => simp [intOf]; omega
          | false =>
            have HT' := Lib.hid (HT.out.trans (by rw [hy]; simp : _ = cn))
            go_wp2
            go_roundw
            case rel => exact ⟨j + 1, by omega, by go_num, by rw [HT'.out], _, rfl⟩
            case measure => simp [intOf]; omega
        · obtain rfl : j = l.length := by omega
          rw [List.take_length] at hb0 hb1 ⊢
          generalize cntI l k = cn at hb0 hb1 HS
          by_cases hcmp : q2 < cn
          · have HS' := Lib.hid (HS.out.trans (if_pos hcmp))
            go_wp2
            go_roundw
            case rel => exact ⟨k + 1, by omega, by go_num, by rw [HS'.out], by rw [HS'.out], _, rfl⟩
            case measure => simp [intOf]; omega
          · have HS' := Lib.hid (HS.out.trans (if_neg hcmp))
            go_wp2
            go_roundw
            case rel => exact ⟨k + 1, by omega, by go_num, by rw [HS'.out], by rw [HS'.out], _, rfl⟩
            case measure => simp [intOf]; omega
    · go_wp2
      go_ret2
      obtain rfl : k = 6 := by omega
      exact ⟨by rw [bestI, mostI, HQ.out]; rfl, _, rfl⟩
theorem l1Most_any (a b : Int) (w : World) :
    Calls Try.prog 126 #[.int .i64 a, .int .i64 b] w fun x w' => x = .returned (.int .i64 (if b < a then a else b)) ∧ w = w' := by
  by_cases h : b < a
  · rw [if_pos h]
    go_enter Try.func126, Try.ntmps126
    go_wp2
    go_ret
    exact ⟨rfl, rfl⟩
  · rw [if_neg h]
    go_enter Try.func126, Try.ntmps126
    go_wp2
    go_ret
    exact ⟨rfl, rfl⟩
end Go.Proofs.Ytbghmkjjooiikaa
