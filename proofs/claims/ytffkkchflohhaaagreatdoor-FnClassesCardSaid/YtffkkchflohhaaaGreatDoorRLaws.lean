/- laws.rBig, vInts, vHas. Conditions: at most 1048576 numbers. -/
import Derived.Test.YtffkkchflohhaaaGreatDoorInfoInt
import Derived.Test.YtffkkchflohhaaaGreatDoorHeld
import Derived.Test.YtffkkchflohhaaaGreatDoorPlain
namespace Go.Proofs.YtffkkchflohhaaaGreatDoor
open Go.RowKit Go.Ori
theorem rBig_any (p : Option Addr) (n c : Nat) (w : World) (hn : n ≤ 9223372036854775807) :
    Calls Tryz.prog 4 #[.slice p n c] w fun x w' => x = .returned (.bool (decide (65536 < n))) ∧ w = w' := by
  by_cases h : 65536 < n
  · have hb : decide (65536 < n) = true := decide_eq_true h
    have hb2 : decide (65536 < (n : Int)) = true := decide_eq_true (by omega)
    go_enter Tryz.func4, Tryz.ntmps4
    go_wp2
    go_ret
    rw [hb]
    exact ⟨rfl, rfl⟩
  · have hb : decide (65536 < n) = false := decide_eq_false h
    have hb2 : decide (65536 < (n : Int)) = false := decide_eq_false (by omega)
    go_enter Tryz.func4, Tryz.ntmps4
    go_wp2
    go_ret
    rw [hb]
    exact ⟨rfl, rfl⟩
set_option maxHeartbeats 1000000 in
theorem rInts_same (v v2 : Value) (l : List Int) (w : World) (h : w.sl intC 1 v l) (h2 : w.sl intC 1 v2 l) (hl : l.length ≤ 1048576) :
    Calls Tryz.prog 17 #[v, v2] w fun x w' => x = .returned (.bool true) ∧ ∃ d, w' = w.ext d := by
  have hs := Lib.hid h
  have hs2 := Lib.hid h2
  obtain ⟨p, c, rfl, _⟩ := h
  obtain ⟨p2, c2, rfl, _⟩ := h2
  go_enter Tryz.func17, Tryz.ntmps17
  go_wp2
  go_loopw [5] (fun i wr => ∃ k : Nat, k ≤ l.length ∧ i = .int .i64 k ∧ ∃ d, wr = w.ext d) (fun i _ => l.length - (intOf i).toNat)
  case atStart => exact ⟨0, by omega, rfl, w.gained_refl⟩
  case round =>
    obtain ⟨k, hk, rfl, d, rfl⟩ := hrel
    by_cases hlt : k < l.length
    · obtain ⟨b, o, rfl⟩ := sl_some hs.out (by omega)
      obtain ⟨b2, o2, rfl⟩ := sl_some hs2.out (by omega)
      have c0 := sl_int hs.out hlt
      have e0 := sl_int hs2.out hlt
      generalize l[k] = x at c0 e0
      have ob := World.oldB_of_cell c0
      have ob2 := World.oldB_of_cell e0
      go_wp2
      refine wp_region_gain (by kernel_rfl) (by kernel_rfl) ?_
      repeat (first | go_big_quiet_skip | (go_big_quiet_want; go_big_quiet_op; first | go_big_quiet_on))
      refine wpQuiet_nil ?_
      rintro _ ⟨d', rfl⟩
      go_wp2
      go_roundw
      case rel => exact ⟨k + 1, by omega, by go_num, (by repeat (first | with_reducible (first | exact World.gained_refl _ | exact ⟨_, rfl⟩ | apply gain_ext | apply gain_alloc | apply gain_drewN | apply gain_drew) | (refine gain_setCell ?_ (by first | exact Nat.le_refl _ | exact World.size_ext _ _ | (simp; done) | (simp; omega)) _)))⟩
      case measure => simp [intOf]; omega
    · go_wp2
      go_ret
      exact ⟨rfl, _, rfl⟩
set_option maxHeartbeats 1000000 in
theorem rHas_any (v : Value) (l : List Int) (n : Int) (w : World) (h : w.sl intC 1 v l) (hl : l.length ≤ 1048576) :
    Calls Tryz.prog 18 #[v, .int .i64 n] w fun x w' => x = .returned (.bool (hasB l n)) ∧ ∃ d, w' = w.ext d := by
  have hs := Lib.hid h
  obtain ⟨p, c, rfl, _⟩ := h
  go_enter Tryz.func18, Tryz.ntmps18
  go_wp2
  go_loopw [5] (fun i wr => ∃ k : Nat, k ≤ l.length ∧ i = .int .i64 k ∧ (∀ (j : Nat) (hj : j < l.length), j < k → (n == l[j]) = false) ∧ ∃ d, wr = w.ext d) (fun i _ => l.length - (intOf i).toNat)
  case atStart => exact ⟨0, by omega, rfl, by simp, w.gained_refl⟩
  case round =>
    obtain ⟨k, hk, rfl, hno, d, rfl⟩ := hrel
    have HN := Lib.hid hno
    clear hno
    by_cases hlt : k < l.length
    · obtain ⟨b, o, rfl⟩ := sl_some hs.out (by omega)
      have c0 := sl_int hs.out hlt
      have HY := Lib.hid (fun (hx : (n == l[k]) = true) => hasB_yes hlt hx)
      have HZ := Lib.hid (fun (hx : (n == l[k]) = false) => (show ∀ (j : Nat) (hj : j < l.length), j < k + 1 → (n == l[j]) = false from fun j hj hjk => by
        by_cases e : j = k
        · subst e; exact hx
        · exact HN.out j hj (by omega)))
      generalize l[k] = x at c0 HY HZ
      have ob := World.oldB_of_cell c0
      cases hx : n == x with
      | true =>
        have hx2 : (x == n) = true := by rw [beq_iff_eq] at hx ⊢; exact hx.symm
        have HR := Lib.hid (HY.out hx)
        clear HZ HY
        go_wp2
        go_ret
        rw [HR.out]
        exact ⟨rfl, _, rfl⟩
      | false =>
        have hx2 : (x == n) = false := by
          rw [beq_eq_false_iff_ne] at hx ⊢
          exact fun e => hx e.symm
        have HR := Lib.hid (HZ.out hx)
        clear HZ HY
        go_wp2
        go_roundw
        case rel => exact ⟨k + 1, by omega, by go_num, HR.out, _, rfl⟩
        case measure => simp [intOf]; omega
    · have HR := Lib.hid (hasB_no (n := n) (l := l) (fun j hj => HN.out j hj (by omega)))
      go_wp2
      go_ret
      rw [HR.out]
      exact ⟨rfl, _, rfl⟩
end Go.Proofs.YtffkkchflohhaaaGreatDoor
