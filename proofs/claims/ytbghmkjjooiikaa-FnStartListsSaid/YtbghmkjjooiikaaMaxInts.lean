/- slices.Max over ints. Conditions: at least one and at most 1048576 elements. -/
import Derived.Test.YtbghmkjjooiikaaRows
import Derived.Test.YtbghmkjjooiikaaP10
namespace Go.Proofs.Ytbghmkjjooiikaa
open Go.RowKit Go.Ori
theorem max_ints (v : Value) (l : List Int) (w : World) (h : w.sl intC 1 v l) (h0 : 0 < l.length) (hl : l.length ≤ 1048576) :
    Calls Try.prog 123 #[v] w fun x w' => x = .returned (.int .i64 (maxN l (l.length - 1))) ∧ ∃ d, w' = w.ext d := by
  have hs := Lib.hid h
  obtain ⟨p, c, rfl, _⟩ := h
  obtain ⟨b, o, rfl⟩ := sl_some hs.out h0
  have hcell := fun k (hk : k < l.length) => sl_int hs.out hk
  have HCELL := Lib.hid hcell
  have c0 := hcell 0 h0
  have HZ := Lib.hid (show maxN l 0 = l[0] by rw [maxN, List.getD_eq_getElem?_getD, List.getElem?_eq_getElem h0]; rfl)
  generalize l[0] = y0 at c0 HZ
  clear hcell
  simp only [Nat.add_zero] at c0
  have ob := World.oldB_of_cell c0
  go_enter Try.func123, Try.ntmps123
  go_wp2
  clear c0
  go_loopw [3, 4] (fun t i wr => ∃ k : Nat, k + 1 ≤ l.length ∧ i = .int .i64 ((k : Int) + 1) ∧ t = .int .i64 (maxN l k) ∧ ∃ d, wr = w.ext d) (fun _ i _ => l.length - (intOf i).toNat)
  case atStart => exact ⟨0, by omega, rfl, by rw [HZ.out], w.gained_refl⟩
  case round =>
    obtain ⟨k, hk, rfl, rfl, d, rfl⟩ := hrel
    by_cases hlt : k + 1 < l.length
    · have c1 := HCELL.out (k + 1) hlt
      have HS := Lib.hid (show maxN l (k + 1) = if maxN l k < l[k + 1] then l[k + 1] else maxN l k by rw [maxN, List.getD_eq_getElem?_getD, List.getElem?_eq_getElem hlt]; rfl)
      generalize l[k + 1] = y at c1 HS
      generalize hm : maxN l k = m at HS
      clear hm
      by_cases hcmp : m < y
      · have HS' := Lib.hid (HS.out.trans (if_pos hcmp))
        go_wp2
        go_roundw
        case rel => exact ⟨k + 1, by omega, by go_num, by rw [HS'.out], _, rfl⟩
        case measure => simp [intOf]; omega
      · have HS' := Lib.hid (HS.out.trans (if_neg hcmp))
        go_wp2
        go_roundw
        case rel => exact ⟨k + 1, by omega, by go_num, by rw [HS'.out], _, rfl⟩
        case measure => simp [intOf]; omega
    · go_wp2
      go_ret
      obtain rfl : k = l.length - 1 := by omega
      exact ⟨rfl, _, rfl⟩
end Go.Proofs.Ytbghmkjjooiikaa
