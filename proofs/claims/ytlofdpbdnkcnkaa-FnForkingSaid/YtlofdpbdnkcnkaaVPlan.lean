/- laws.vTable, vPlan: of two that read alike they say true; laws.vSum. Condition: a size of at most 1048576. -/
import Derived.Test.YtlofdpbdnkcnkaaVLaws
import Derived.Test.YtlofdpbdnkcnkaaNest
import Derived.Test.YtlofdpbdnkcnkaaPForkL
namespace Go.Ori
theorem sumI_take {l : List Int} {k : Nat} (h : k < l.length) : sumI (l.take (k + 1)) = sumI (l.take k) + l[k] := by
  rw [List.take_succ_eq_append_getElem h, sumI_append]
  simp [sumI]
end Go.Ori
namespace Go.Proofs.Ytlofdpbdnkcnkaa
open Go.RowKit Go.Ori
theorem vInts1_same (v v2 : Value) (l : List Int) (w : World) (h : w.sl1 v l) (h2 : w.sl1 v2 l) (hT : tot1 l ≤ 1048576) :
    Calls Try.prog 10 #[v, v2] w fun x w' => x = .returned (.bool true) ∧ ∃ d, w' = w.ext d := vInts_same v v2 l w h h2 hT
set_option maxHeartbeats 1000000 in
theorem vTable_same (v v2 : Value) (l : List (List Int)) (w : World) (h : w.sl2 v l) (h2 : w.sl2 v2 l) (hT : tot2 l ≤ 1048576) :
    Calls Try.prog 58 #[v, v2] w fun x w' => x = .returned (.bool true) ∧ ∃ d, w' = w.ext d := by
  have hs := Lib.hid h
  have hs2 := Lib.hid h2
  have hl : l.length ≤ 1048576 := by unfold tot2 at hT; omega
  have HT := Lib.hid (fun (k : Nat) (hk : k < l.length) => Nat.le_trans (tot2_at hk) hT)
  obtain ⟨p, c, rfl⟩ := sl2_form h
  obtain ⟨p2, c2, rfl⟩ := sl2_form h2
  clear h h2 hT
  go_enter Try.func58, Try.ntmps58
  go_wp2
  go_loopw [5] (fun i wr => ∃ k : Nat, k ≤ l.length ∧ i = .int .i64 k ∧ ∃ d, wr = w.ext d) (fun i _ => l.length - (intOf i).toNat)
  case atStart => exact ⟨0, by omega, rfl, w.gained_refl⟩
  case round =>
    obtain ⟨k, hk, rfl, d, rfl⟩ := hrel
    by_cases hlt : k < l.length
    · obtain ⟨b, o, rfl⟩ := slOf_some hs.out (by omega)
      obtain ⟨b2, o2, rfl⟩ := slOf_some hs2.out (by omega)
      obtain ⟨u, c0, hu⟩ := slOf_at hs.out hlt
      obtain ⟨u2, e0, hu2⟩ := slOf_at hs2.out hlt
      have hu := Lib.hid hu
      have hu2 := Lib.hid hu2
      have ob := World.oldB_of_cell c0
      have ob2 := World.oldB_of_cell e0
      have hTk := Lib.hid (HT.out k hlt)
      go_wp2
      refine wp_region_gain (by kernel_rfl) (by kernel_rfl) ?_
      repeat (first | go_big_quiet_skip | (go_big_quiet_want; go_big_quiet_op; first | go_big_quiet_on | ((apply Exists.intro); (refine ⟨fun _ => ?_, ?_⟩); (· (go_at_call 10; exact Calls.gain (vInts1_same u u2 l[k] _ (sl1_up hu.out (by repeat (first | with_reducible (first | exact World.gained_refl _ | exact ⟨_, rfl⟩ | apply gain_ext | apply gain_alloc | apply gain_drewN | apply gain_drew) | (refine gain_setCell ?_ (by first | exact Nat.le_refl _ | exact World.size_ext _ _ | (simp; done) | (simp; omega)) _)))) (sl1_up hu2.out (by repeat (first | with_reducible (first | exact World.gained_refl _ | exact ⟨_, rfl⟩ | apply gain_ext | apply gain_alloc | apply gain_drewN | apply gain_drew) | (refine gain_setCell ?_ (by first | exact Nat.le_refl _ | exact World.size_ext _ _ | (simp; done) | (simp; omega)) _)))) hTk.out))); (go_big_quiet_on))))
      refine wpQuiet_nil ?_
      rintro _ ⟨d', rfl⟩
      go_wp2
      go_roundw
      case rel => exact ⟨k + 1, by omega, by go_num, gain_ext ⟨_, rfl⟩ _⟩
      case measure => simp [intOf]; omega
    · go_wp2
      go_ret
      exact ⟨rfl, _, rfl⟩
set_option maxHeartbeats 1000000 in
theorem vPlan_same (v v2 : Value) (l : List (List (List Int))) (w : World) (h : w.sl3 v l) (h2 : w.sl3 v2 l) (hT : tot3 l ≤ 1048576) :
    Calls Try.prog 20 #[v, v2] w fun x w' => x = .returned (.bool true) ∧ ∃ d, w' = w.ext d := by
  have hs := Lib.hid h
  have hs2 := Lib.hid h2
  have hl : l.length ≤ 1048576 := by unfold tot3 at hT; omega
  have HT := Lib.hid (fun (k : Nat) (hk : k < l.length) => Nat.le_trans (tot3_at hk) hT)
  obtain ⟨p, c, rfl⟩ := sl3_form h
  obtain ⟨p2, c2, rfl⟩ := sl3_form h2
  clear h h2 hT
  go_enter Try.func20, Try.ntmps20
  go_wp2
  go_loopw [5] (fun i wr => ∃ k : Nat, k ≤ l.length ∧ i = .int .i64 k ∧ ∃ d, wr = w.ext d) (fun i _ => l.length - (intOf i).toNat)
  case atStart => exact ⟨0, by omega, rfl, w.gained_refl⟩
  case round =>
    obtain ⟨k, hk, rfl, d, rfl⟩ := hrel
    by_cases hlt : k < l.length
    · obtain ⟨b, o, rfl⟩ := slOf_some hs.out (by omega)
      obtain ⟨b2, o2, rfl⟩ := slOf_some hs2.out (by omega)
      obtain ⟨u, c0, hu⟩ := slOf_at hs.out hlt
      obtain ⟨u2, e0, hu2⟩ := slOf_at hs2.out hlt
      have hu := Lib.hid hu
      have hu2 := Lib.hid hu2
      have ob := World.oldB_of_cell c0
      have ob2 := World.oldB_of_cell e0
      have hTk := Lib.hid (HT.out k hlt)
      go_wp2
      refine wp_region_gain (by kernel_rfl) (by kernel_rfl) ?_
      repeat (first | go_big_quiet_skip | (go_big_quiet_want; go_big_quiet_op; first | go_big_quiet_on | ((apply Exists.intro); (refine ⟨fun _ => ?_, ?_⟩); (· (go_at_call 58; exact Calls.gain (vTable_same u u2 l[k] _ (sl2_up hu.out (by repeat (first | with_reducible (first | exact World.gained_refl _ | exact ⟨_, rfl⟩ | apply gain_ext | apply gain_alloc | apply gain_drewN | apply gain_drew) | (refine gain_setCell ?_ (by first | exact Nat.le_refl _ | exact World.size_ext _ _ | (simp; done) | (simp; omega)) _)))) (sl2_up hu2.out (by repeat (first | with_reducible (first | exact World.gained_refl _ | exact ⟨_, rfl⟩ | apply gain_ext | apply gain_alloc | apply gain_drewN | apply gain_drew) | (refine gain_setCell ?_ (by first | exact Nat.le_refl _ | exact World.size_ext _ _ | (simp; done) | (simp; omega)) _)))) hTk.out))); (go_big_quiet_on))))
      refine wpQuiet_nil ?_
      rintro _ ⟨d', rfl⟩
      go_wp2
      go_roundw
      case rel => exact ⟨k + 1, by omega, by go_num, gain_ext ⟨_, rfl⟩ _⟩
      case measure => simp [intOf]; omega
    · go_wp2
      go_ret
      exact ⟨rfl, _, rfl⟩
theorem vSum_any (v : Value) (l : List Int) (w : World) (h : w.sl intC 1 v l) (hl : l.length ≤ 1048576) (hb : ∀ x ∈ l, 0 ≤ x ∧ x ≤ 1048576) :
    Calls Try.prog 27 #[v] w fun x w' => x = .returned (.int .i64 (sumI l)) ∧ ∃ d, w' = w.ext d := by
  have hs := Lib.hid h
  have HB := Lib.hid hb
  obtain ⟨p, c, rfl, _⟩ := h
  clear hb
  go_enter Try.func27, Try.ntmps27
  go_wp2
  go_loopw [3, 4] (fun s i wr => ∃ k : Nat, k ≤ l.length ∧ i = .int .i64 k ∧ s = .int .i64 (sumI (l.take k)) ∧ 0 ≤ sumI (l.take k) ∧ sumI (l.take k) ≤ 1048576 * (k : Int) ∧ ∃ d, wr = w.ext d) (fun _ i _ => l.length - (intOf i).toNat)
  case atStart => exact ⟨0, by omega, rfl, rfl, by simp [sumI], by simp [sumI], w.gained_refl⟩
  case round =>
    obtain ⟨k, hk, rfl, rfl, h0, h1, d, rfl⟩ := hrel
    by_cases hlt : k < l.length
    · obtain ⟨b, o, rfl⟩ := sl_some hs.out (by omega)
      have c0 := sl_int hs.out hlt
      have HS := Lib.hid (sumI_take hlt)
      have hx := HB.out _ (List.getElem_mem hlt)
      generalize l[k] = x at c0 HS hx
      generalize sumI (l.take k) = S at HS h0 h1 ⊢
      have ob := World.oldB_of_cell c0
      go_wp2
      go_roundw
      case rel => exact ⟨k + 1, by omega, by go_num, by rw [HS.out], by rw [HS.out]; omega, by rw [HS.out]; push_cast; omega, (by repeat (first | with_reducible (first | exact World.gained_refl _ | exact ⟨_, rfl⟩ | apply gain_ext | apply gain_alloc | apply gain_drewN | apply gain_drew) | (refine gain_setCell ?_ (by first | exact Nat.le_refl _ | exact World.size_ext _ _ | (simp; done) | (simp; omega)) _)))⟩
      case measure => simp [intOf]; omega
    · have HE := Lib.hid (show l.take k = l from List.take_of_length_le (by omega))
      rw [HE.out]
      go_wp2
      go_ret
      exact ⟨rfl, _, rfl⟩
end Go.Proofs.Ytlofdpbdnkcnkaa
