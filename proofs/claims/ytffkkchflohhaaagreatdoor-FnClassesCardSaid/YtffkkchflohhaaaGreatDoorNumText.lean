/- spec.l1Num below 1000. -/
import Derived.Test.YtffkkchflohhaaaGreatDoorRows
import Derived.Test.YtffkkchflohhaaaGreatDoorPWord
import Derived.Test.YtffkkchflohhaaaGreatDoorExt
import Derived.Lib.ItoaNum
namespace Go.Ori
theorem digits_big {n : Nat} (h : 10 ≤ n) : Lib.decDigits n = Lib.decDigits (n / 10) ++ [UInt8.ofNat (48 + n % 10)] := by
  rw [Lib.decDigits, dif_neg (by omega)]
def decB (n : Nat) : ByteArray := ⟨(Lib.decDigits n).toArray⟩
theorem decB_one {n : Nat} (h : n < 10) : decB n = ⟨#[UInt8.ofNat (48 + n)]⟩ := by rw [decB, Lib.decDigits_one h]
theorem decB_big {n : Nat} (h : 10 ≤ n) : decB n = decB (n / 10) ++ ⟨#[UInt8.ofNat (48 + n % 10)]⟩ := by
  apply ByteArray.ext
  rw [ByteArray.data_append, decB, digits_big h]
  simp [decB]
theorem decB_size3 {n : Nat} (h : n < 1000) : (decB n).size ≤ 3 := by
  by_cases h1 : n < 10
  · rw [decB_one h1]; exact Nat.le_add_left 1 2
  · rw [decB_big (by omega), ByteArray.size_append]
    have h2 : (decB (n / 10)).size ≤ 2 := by
      by_cases h3 : n / 10 < 10
      · rw [decB_one h3]; exact Nat.le_succ 1
      · rw [decB, Lib.decDigits_two h3 (by omega)]; exact Nat.le_refl 2
    have h4 : (⟨#[UInt8.ofNat (48 + n % 10)]⟩ : ByteArray).size = 1 := rfl
    omega
theorem decB_sizeK : ∀ (k n : Nat), n < 10 ^ (k + 1) → (decB n).size ≤ k + 1
  | 0, n, h => by
    rw [decB_one (by omega)]
    exact Nat.le_refl 1
  | k + 1, n, h => by
    by_cases h1 : n < 10
    · rw [decB_one h1]
      show 1 ≤ _
      omega
    · rw [decB_big (by omega), ByteArray.size_append]
      have h2 := decB_sizeK k (n / 10) (by rw [Nat.pow_succ] at h; omega)
      have h4 : (⟨#[UInt8.ofNat (48 + n % 10)]⟩ : ByteArray).size = 1 := rfl
      omega
theorem decB_size {n : Nat} (h : n < 100) : (decB n).size ≤ 2 := by
  by_cases h1 : n < 10
  · rw [decB_one h1]; exact Nat.le_succ 1
  · rw [decB, Lib.decDigits_two h1 h]; exact Nat.le_refl 2
end Go.Ori
namespace Go.Proofs.YtffkkchflohhaaaGreatDoor
open Go.RowKit Go.Ori
theorem l1Num1_any (n : Nat) (hn : n < 10) (w : World) : Calls Tryz.prog 58 #[.int .i64 n] w fun x w' => x = .returned (.string (decB n)) ∧ ∃ d, w' = w.ext d := by
  have HE := Lib.hid (decB_one hn)
  rcases (by omega : n = 0 ∨ n = 1 ∨ n = 2 ∨ n = 3 ∨ n = 4 ∨ n = 5 ∨ n = 6 ∨ n = 7 ∨ n = 8 ∨ n = 9) with rfl | rfl | rfl | rfl | rfl | rfl | rfl | rfl | rfl | rfl
  all_goals (
    rw [HE.out]
    go_enter Tryz.func58, Tryz.ntmps58
    go_wp2
    go_ret
    exact ⟨rfl, w.gained_refl⟩)
set_option maxHeartbeats 1000000 in
theorem l1NumN_any (n : Nat) (h : 10 ≤ n) (hn : n < 10000000) (ih : ∀ W, Calls Tryz.prog 58 #[.int .i64 ((n / 10 : Nat) : Int)] W fun x w' => x = .returned (.string (decB (n / 10))) ∧ ∃ d, w' = W.ext d) (w : World) : Calls Tryz.prog 58 #[.int .i64 n] w fun x w' => x = .returned (.string (decB n)) ∧ ∃ d, w' = w.ext d := by
  have HE := Lib.hid (decB_big h)
  have HI := Lib.hid ih
  have q1 : Int.tdiv (n : Int) 10 = ((n / 10 : Nat) : Int) := Int.tdiv_eq_ediv_of_nonneg (by omega)
  have q2 : Int.tmod (n : Int) 10 = ((n % 10 : Nat) : Int) := Int.tmod_eq_emod_of_nonneg (by omega)
  have hq : n / 10 < 1000000 := by omega
  have hr : n % 10 < 10 := Nat.mod_lt _ (by decide)
  have hd : decide ((n : Int) < 10) = false := decide_eq_false (by omega)
  have hsz : (decB (n / 10)).size ≤ 7 := decB_sizeK 6 _ (by omega)
  rw [HE.out]
  clear ih
  have x0 : (⟨#[48, 49, 50, 51, 52, 53, 54, 55, 56, 57]⟩ : ByteArray).extract 0 1 = ⟨#[48]⟩ := rfl
  have x1 : (⟨#[48, 49, 50, 51, 52, 53, 54, 55, 56, 57]⟩ : ByteArray).extract 1 2 = ⟨#[49]⟩ := rfl
  have x2 : (⟨#[48, 49, 50, 51, 52, 53, 54, 55, 56, 57]⟩ : ByteArray).extract 2 3 = ⟨#[50]⟩ := rfl
  have x3 : (⟨#[48, 49, 50, 51, 52, 53, 54, 55, 56, 57]⟩ : ByteArray).extract 3 4 = ⟨#[51]⟩ := rfl
  have x4 : (⟨#[48, 49, 50, 51, 52, 53, 54, 55, 56, 57]⟩ : ByteArray).extract 4 5 = ⟨#[52]⟩ := rfl
  have x5 : (⟨#[48, 49, 50, 51, 52, 53, 54, 55, 56, 57]⟩ : ByteArray).extract 5 6 = ⟨#[53]⟩ := rfl
  have x6 : (⟨#[48, 49, 50, 51, 52, 53, 54, 55, 56, 57]⟩ : ByteArray).extract 6 7 = ⟨#[54]⟩ := rfl
  have x7 : (⟨#[48, 49, 50, 51, 52, 53, 54, 55, 56, 57]⟩ : ByteArray).extract 7 8 = ⟨#[55]⟩ := rfl
  have x8 : (⟨#[48, 49, 50, 51, 52, 53, 54, 55, 56, 57]⟩ : ByteArray).extract 8 9 = ⟨#[56]⟩ := rfl
  have x9 : (⟨#[48, 49, 50, 51, 52, 53, 54, 55, 56, 57]⟩ : ByteArray).extract 9 10 = ⟨#[57]⟩ := rfl
  generalize decB (n / 10) = s at HI hsz ⊢
  generalize n / 10 = q at q1 HI hq
  generalize n % 10 = r at q2 hr ⊢
  rcases (by omega : r = 0 ∨ r = 1 ∨ r = 2 ∨ r = 3 ∨ r = 4 ∨ r = 5 ∨ r = 6 ∨ r = 7 ∨ r = 8 ∨ r = 9) with rfl | rfl | rfl | rfl | rfl | rfl | rfl | rfl | rfl | rfl
  all_goals (
    go_enter Tryz.func58, Tryz.ntmps58
    go_wp2
    refine wp_region_gain (by kernel_rfl) (by kernel_rfl) ?_
    repeat (first | go_big_quiet_skip | (go_big_quiet_want; go_big_quiet_op; first | go_big_quiet_on | ((apply Exists.intro); (refine ⟨fun _ => ?_, ?_⟩); (· (go_at_call 58; exact Calls.gain (HI.out _))); (go_big_quiet_on))))
    refine wpQuiet_nil ?_
    rintro _ ⟨d', rfl⟩
    go_wp2
    go_ret
    exact ⟨by first | rfl | simp, (by repeat (first | with_reducible (first | exact World.gained_refl _ | exact ⟨_, rfl⟩ | apply gain_ext | apply gain_alloc | apply gain_drewN | apply gain_drew) | (refine gain_setCell ?_ (by first | exact Nat.le_refl _ | exact World.size_ext _ _ | (simp; done) | (simp; omega)) _)))⟩)
theorem l1Num_any (n : Nat) (hn : n < 1000) (w : World) : Calls Tryz.prog 58 #[.int .i64 n] w fun x w' => x = .returned (.string (decB n)) ∧ ∃ d, w' = w.ext d := by
  have h2 : ∀ n : Nat, n < 100 → ∀ w : World, Calls Tryz.prog 58 #[.int .i64 n] w fun x w' => x = .returned (.string (decB n)) ∧ ∃ d, w' = w.ext d := fun n hn w => by
    by_cases h : n < 10
    · exact l1Num1_any n h w
    · exact l1NumN_any n (by omega) (by omega) (fun W => l1Num1_any (n / 10) (by omega) W) w
  by_cases h : n < 100
  · exact h2 n h w
  · exact l1NumN_any n (by omega) (by omega) (fun W => h2 (n / 10) (by omega) W) w
/-- .. of any number below ten million. -/
theorem l1NumM_any : ∀ (n : Nat), n < 10000000 → ∀ w : World, Calls Tryz.prog 58 #[.int .i64 n] w fun x w' => x = .returned (.string (decB n)) ∧ ∃ d, w' = w.ext d := by
  intro n
  induction n using Nat.strongRecOn with
  | ind n ih =>
    intro hn w
    by_cases h : n < 10
    · exact l1Num1_any n h w
    · exact l1NumN_any n (by omega) hn (fun W => ih (n / 10) (by omega) (by omega) W) w
end Go.Proofs.YtffkkchflohhaaaGreatDoor
