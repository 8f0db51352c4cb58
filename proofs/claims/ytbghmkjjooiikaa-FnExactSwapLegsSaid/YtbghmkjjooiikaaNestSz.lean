/- laws.szIntSS, laws.szIntSSS: what is left of a size. Condition: Go's lengths. -/
import Derived.Test.YtbghmkjjooiikaaSzIntS
import Derived.Test.YtbghmkjjooiikaaNest
namespace Go.Proofs.Ytbghmkjjooiikaa
open Go.RowKit Go.Ori
theorem szIntS1_any (v : Value) (l : List Int) (left : Int) (w : World) (h : w.sl1 v l) (hm : l.length ≤ 9223372036854775807) (h0 : 0 ≤ left) (h1 : left ≤ 1048576) :
    Calls Try.prog 134 #[v, .int .i64 left] w fun x w' => ∃ r, x = .returned (.int .i64 r) ∧ w = w' ∧ (r = left - tot1 l ∧ (tot1 l : Int) ≤ left ∨ r = -1) := by
  obtain ⟨p, c, rfl⟩ := sl1_form h
  by_cases hc : (l.length : Int) ≤ left
  · exact (szIntS_yes p l.length c left w hm h0 h1 hc).mono fun _ _ ⟨e1, e2⟩ => ⟨_, e1, e2, .inl ⟨rfl, hc⟩⟩
  · exact (szIntS_no p l.length c left w hm h0 h1 hc).mono fun _ _ ⟨e1, e2⟩ => ⟨_, e1, e2, .inr rfl⟩
set_option maxHeartbeats 1000000 in
theorem szIntSS_any (v : Value) (l : List (List Int)) (left : Int) (w : World) (h : w.sl2 v l) (hm : l.length ≤ 9223372036854775807) (hq : ∀ x ∈ l, x.length ≤ 9223372036854775807) (h0 : 0 ≤ left) (h1 : left ≤ 1048576) :
    Calls Try.prog 82 #[v, .int .i64 left] w fun x w' => ∃ r, x = .returned (.int .i64 r) ∧ w = w' ∧ (r = left - tot2 l ∧ (tot2 l : Int) ≤ left ∨ r = -1) := by
  have hs := Lib.hid h
  have HQ := Lib.hid hq
  have HT : Hid (tot2 l = l.length + psum tot1 l l.length) := Lib.hid rfl
  obtain ⟨p, c, rfl⟩ := sl2_form h
  clear h hq
  by_cases hc : (l.length : Int) ≤ left
  · go_enter Try.func82, Try.ntmps82
    go_wp2
    go_loopw [1, 5] (fun q i wr => ∃ k : Nat, k ≤ l.length ∧ i = .int .i64 k ∧ q = .int .i64 (left - (l.length + psum tot1 l k : Nat)) ∧ ((l.length + psum tot1 l k : Nat) : Int) ≤ left ∧ w = wr) (fun _ i _ => l.length - (intOf i).toNat)
    case atStart => exact ⟨0, by omega, rfl, by simp [psum_zero], by simp [psum_zero]; omega, rfl⟩
    case round =>
      obtain ⟨k, hk, rfl, rfl, hle, rfl⟩ := hrel
      by_cases hlt : k < l.length
      · obtain ⟨b, o, rfl⟩ := slOf_some hs.out (by omega)
        obtain ⟨u, c0, hu⟩ := slOf_at hs.out hlt
        have hu := Lib.hid hu
        have ob := World.oldB_of_cell c0
        have hqk := HQ.out _ (List.getElem_mem hlt)
        have HS := Lib.hid (psum_succ tot1 l hlt)
        have HL := Lib.hid (psum_le tot1 l (k := k + 1) (by omega))
        generalize hP : psum tot1 l k = S at HS hle
        go_wp2_with fail
        refine (szIntS1_any u l[k] _ _ hu.out hqk (by omega) (by omega)).mono ?_
        rintro e w1 ⟨r, rfl, rfl, ⟨hr, hr2⟩ | rfl⟩
        · have HR := Lib.hid hr
          have hrr : 0 ≤ r := by omega
          go_wp2
          go_roundw
          case rel => exact ⟨k + 1, by omega, by go_num, by rw [HS.out]; first | (apply congrArg; omega) | (rw [HR.out]; apply congrArg; omega), by rw [HS.out]; omega, by first | rfl | trivial⟩
          case measure => simp [intOf]; omega
        · go_wp2
          go_ret
          exact ⟨_, rfl, rfl, .inr rfl⟩
      · obtain rfl : k = l.length := by omega
        go_wp2
        go_ret
        exact ⟨_, rfl, rfl, .inl ⟨by rw [HT.out], by rw [HT.out]; exact hle⟩⟩
  · go_enter Try.func82, Try.ntmps82
    go_wp2
    go_ret
    exact ⟨_, rfl, rfl, .inr rfl⟩
set_option maxHeartbeats 1000000 in
theorem szIntSSS_any (v : Value) (l : List (List (List Int))) (left : Int) (w : World) (h : w.sl3 v l) (hm : l.length ≤ 9223372036854775807) (hq : ∀ x ∈ l, x.length ≤ 9223372036854775807 ∧ ∀ y ∈ x, y.length ≤ 9223372036854775807) (h0 : 0 ≤ left) (h1 : left ≤ 1048576) :
    Calls Try.prog 10 #[v, .int .i64 left] w fun x w' => ∃ r, x = .returned (.int .i64 r) ∧ w = w' ∧ (r = left - tot3 l ∧ (tot3 l : Int) ≤ left ∨ r = -1) := by
  have hs := Lib.hid h
  have HQ := Lib.hid hq
  have HT : Hid (tot3 l = l.length + psum tot2 l l.length) := Lib.hid rfl
  obtain ⟨p, c, rfl⟩ := sl3_form h
  clear h hq
  by_cases hc : (l.length : Int) ≤ left
  · go_enter Try.func10, Try.ntmps10
    go_wp2
    go_loopw [1, 5] (fun q i wr => ∃ k : Nat, k ≤ l.length ∧ i = .int .i64 k ∧ q = .int .i64 (left - (l.length + psum tot2 l k : Nat)) ∧ ((l.length + psum tot2 l k : Nat) : Int) ≤ left ∧ w = wr) (fun _ i _ => l.length - (intOf i).toNat)
    case atStart => exact ⟨0, by omega, rfl, by simp [psum_zero], by simp [psum_zero]; omega, rfl⟩
    case round =>
      obtain ⟨k, hk, rfl, rfl, hle, rfl⟩ := hrel
      by_cases hlt : k < l.length
      · obtain ⟨b, o, rfl⟩ := slOf_some hs.out (by omega)
        obtain ⟨u, c0, hu⟩ := slOf_at hs.out hlt
        have hu := Lib.hid hu
        have ob := World.oldB_of_cell c0
        have hqk := HQ.out _ (List.getElem_mem hlt)
        have HS := Lib.hid (psum_succ tot2 l hlt)
        have HL := Lib.hid (psum_le tot2 l (k := k + 1) (by omega))
        generalize hP : psum tot2 l k = S at HS hle
        go_wp2_with fail
        refine (szIntSS_any u l[k] _ _ hu.out hqk.1 hqk.2 (by omega) (by omega)).mono ?_
        rintro e w1 ⟨r, rfl, rfl, ⟨hr, hr2⟩ | rfl⟩
        · have HR := Lib.hid hr
          have hrr : 0 ≤ r := by omega
          go_wp2
          go_roundw
          case rel => exact ⟨k + 1, by omega, by go_num, by rw [HS.out]; first | (apply congrArg; omega) | (rw [HR.out]; apply congrArg; omega), by rw [HS.out]; omega, by first | rfl | trivial⟩
          case measure => simp [intOf]; omega
        · go_wp2
          go_ret
          exact ⟨_, rfl, rfl, .inr rfl⟩
      · obtain rfl : k = l.length := by omega
        go_wp2
        go_ret
        exact ⟨_, rfl, rfl, .inl ⟨by rw [HT.out], by rw [HT.out]; exact hle⟩⟩
  · go_enter Try.func10, Try.ntmps10
    go_wp2
    go_ret
    exact ⟨_, rfl, rfl, .inr rfl⟩
end Go.Proofs.Ytbghmkjjooiikaa
