/- impl.hasTwice: a number stands in a list twice. Condition: at most 1048576 elements. -/
import Derived.Test.YtlofdpbdnkcnkaaContainsInts
namespace Go.Proofs.Ytlofdpbdnkcnkaa
open Go.RowKit Go.Ori
theorem hasTwice_any (v : Value) (l : List Int) (w : World) (h : w.sl intC 1 v l) (hl : l.length ≤ 1048576) :
    Calls Try.prog 79 #[v] w fun x w' => x = .returned (.bool (twiceB l)) ∧ ∃ d, w' = w.ext d := by
  have hs := Lib.hid h
  obtain ⟨p, c, rfl, hp, hcap⟩ := h
  go_enter Try.func79, Try.ntmps79
  go_wp2
  go_loopw [7] (fun i wr => ∃ k : Nat, k ≤ l.length ∧ i = .int .i64 k ∧ (∀ j, j < k → freshAt l j = true) ∧ ∃ d, wr = w.ext d) (fun i _ => l.length - (intOf i).toNat)
  case atStart => exact ⟨0, by omega, rfl, by simp, w.gained_refl⟩
  case round =>
    obtain ⟨k, hk, rfl, hno, d, rfl⟩ := hrel
    have HN := Lib.hid hno
    clear hno
    by_cases hlt : k < l.length
    · obtain ⟨b, o, rfl, hc⟩ := hp (by omega)
      have c0 := hc k hlt 0 (by omega)
      have H1 : Hid (freshAt l k = !hasB (l.take k) l[k]) := Lib.hid (freshAt_eq hlt)
      generalize l[k] = y at c0 H1
      have hck : k ≤ c := by omega
      clear hc hp
      simp only [intC, List.getElem?_cons_zero, Nat.add_zero, Nat.mul_one] at c0
      have ob := World.oldB_of_cell c0
      go_wp2_with fail
      refine (contains_ints _ (l.take k) y _ (World.sl_ext intC_length (sl_take hs.out hk) d) (by rw [List.length_take]; omega)).mono ?_
      rintro e w1 ⟨rfl, d1, rfl⟩
      cases hf : hasB (l.take k) y with
      | true =>
        have H1' := Lib.hid (allB_no (f := freshAt l) hlt (by rw [H1.out, hf]; rfl))
        go_wp2
        go_ret
        exact ⟨ret_bool (by rw [twiceB, H1'.out]; rfl), gain_ext ⟨_, rfl⟩ _⟩
      | false =>
        have H2 := Lib.hid (step_all (f := freshAt l) HN.out (by rw [H1.out, hf]; rfl))
        go_wp2
        go_roundw
        case rel => exact ⟨k + 1, by omega, by go_num, H2.out, gain_ext ⟨_, rfl⟩ _⟩
        case measure => simp [intOf]; omega
    · have HE := Lib.hid (allB_yes (n := l.length) (f := freshAt l) (fun j hj => HN.out j (by omega)))
      go_wp2
      go_ret
      exact ⟨ret_bool (by rw [twiceB, HE.out]; rfl), _, rfl⟩
end Go.Proofs.Ytlofdpbdnkcnkaa
