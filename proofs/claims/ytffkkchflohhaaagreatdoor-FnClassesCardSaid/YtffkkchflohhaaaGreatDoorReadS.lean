/- spec.l1Read: the number of a text, and whether there is one. Condition: at most 1048576 bytes. -/
import Derived.Test.YtffkkchflohhaaaGreatDoorSplitS
import Derived.Test.YtffkkchflohhaaaGreatDoorL1In
import Derived.Test.YtffkkchflohhaaaGreatDoorOneClass
namespace Go.Ori
/-- The first i bytes of a text of digits, as a number. -/
def valN (l : List UInt8) : Nat := l.foldl (fun n b => 10 * n + (b.toNat - 48)) 0
theorem valN_snoc (l : List UInt8) (b : UInt8) : valN (l ++ [b]) = 10 * valN l + (b.toNat - 48) := by simp [valN]
theorem valN_digs : ∀ n : Nat, valN (Lib.decDigits n) = n := by
  intro n
  induction n using Nat.strongRecOn with
  | ind n ih =>
    by_cases h : n < 10
    · rw [Lib.decDigits_one h]
      simp only [valN, List.foldl_cons, List.foldl_nil, u8_nat (show 48 + n < 256 by omega)]
      omega
    · rw [digits_big (by omega), valN_snoc, ih (n / 10) (by omega), u8_nat (show 48 + n % 10 < 256 by omega)]
      omega
/-- Two texts are one. -/
def SameT (a b : ByteArray) : Prop := a = b
theorem dec_at {t : ByteArray} {k i : Nat} (h : t = decB k) (hi : i < t.size) : 48 ≤ t[i].toNat ∧ t[i].toNat ≤ 57 := by
  subst h
  have h2 := digs_ok k (toL (decB k))[i] (by rw [← toL_dec]; exact List.getElem_mem hi)
  exact h2
theorem decB_pos (n : Nat) : 1 ≤ (decB n).size := by
  have := digs_ne n
  show 1 ≤ (Lib.decDigits n).toArray.size
  rw [List.size_toArray]
  exact List.length_pos_iff.2 this
theorem decB_at {n i : Nat} (h : i < (decB n).size) : 48 ≤ (decB n)[i].toNat ∧ (decB n)[i].toNat ≤ 57 := by
  have h1 : i < (toL (decB n)).length := h
  have h2 := digs_ok n (toL (decB n))[i] (by rw [← toL_dec]; exact List.getElem_mem h1)
  exact h2
end Go.Ori
namespace Go.Proofs.YtffkkchflohhaaaGreatDoor
open Go.RowKit Go.Ori
theorem l1NumZ_any (n : Int) (h1 : -999999 ≤ n) (h2 : n ≤ 999999) (w : World) : Calls Tryz.prog 58 #[.int .i64 n] w fun x w' => ∃ t, x = .returned (.string t) ∧ (∀ k : Nat, n = k → t = decB k) ∧ ∃ d, w' = w.ext d := by
  by_cases h : 0 ≤ n
  · obtain ⟨k, rfl⟩ : ∃ k : Nat, n = k := ⟨n.toNat, by omega⟩
    refine (l1NumM_any k (by omega) w).mono ?_
    rintro e w1 ⟨rfl, d, rfl⟩
    exact ⟨_, rfl, fun j hj => by rw [show k = j by omega], _, rfl⟩
  · obtain ⟨k, rfl⟩ : ∃ k : Nat, n = -(k : Int) := ⟨n.natAbs, by omega⟩
    have hk : 0 < k := by omega
    have hd : decide (-(k : Int) < 0) = true := decide_eq_true (by omega)
    have hw : IntKind.i64.wrap (-(-(k : Int))) = (k : Int) := by rw [Int.neg_neg]; exact IntWalk.i64_in _ (by omega)
    have hw2 : IntKind.i64.wrap (k : Int) = (k : Int) := IntWalk.i64_in _ (by omega)
    have hsz : (decB k).size ≤ 7 := decB_sizeK 6 _ (by omega)
    have HK := Lib.hid (fun W => l1NumM_any k (by omega) W)
    generalize decB k = t at HK hsz
    go_enter Tryz.func58, Tryz.ntmps58
    go_wp2_with (go_at_call 58; refine (HK.out _).mono ?_; rintro e w1 ⟨rfl, d1, rfl⟩)
    go_ret
    exact ⟨_, rfl, fun j hj => by omega, (by repeat (first | with_reducible (first | exact World.gained_refl _ | exact ⟨_, rfl⟩ | apply gain_ext | apply gain_alloc | apply gain_drewN | apply gain_drew) | (refine gain_setCell ?_ (by first | exact Nat.le_refl _ | exact World.size_ext _ _ | (simp; done) | (simp; omega)) _)))⟩
set_option maxHeartbeats 4000000 in
theorem l1Read_any (s : ByteArray) (w : World) (hs : s.size ≤ 1048576) :
    Calls Tryz.prog 38 #[.string s] w fun x w' => ∃ (n : Int) (ok : Bool), x = .returned (.tuple #[.int .i64 n, .bool ok]) ∧ -999999 ≤ n ∧ n ≤ 999999 ∧ (∀ k : Nat, k < 1000 → s = decB k → n = k) ∧ ∃ d, w' = w.ext d := by
  have HNZ := Lib.hid (fun n h1 h2 W => l1NumZ_any n h1 h2 W)
  by_cases h1 : 1 < s.size
  · have hd1 : decide ((1 : Int) < (s.size : Int)) = true := decide_eq_true (by omega)
    by_cases hc : s[0].toNat = 45
    · have hd2 : (((s[0].toNat : Nat) : Int) == 45) = true := by rw [hc]; rfl
      have HNO : Hid (∀ k : Nat, k < 1000 → s = decB k → SameT (s.extract 1 s.size) s) := Lib.hid (fun k hk e => by
        exfalso
        subst e
        have := decB_at (n := k) (i := 0) (by omega)
        omega)
      have hsz : (s.extract 1 s.size).size = s.size - 1 := by rw [ByteArray.size_extract]; omega
      have hq : (1 : Int) ≤ (s.size : Int) := by omega
      clear hc
      go_enter Tryz.func38, Tryz.ntmps38
      go_upto_region 4 with fail
      generalize s.extract 1 s.size = t at HNO hsz ⊢
      have hd3 : decide ((t.size : Int) < (s.size : Int)) = true := decide_eq_true (by omega)
      have hd4 : decide (t.size < s.size) = true := decide_eq_true (by omega)
      have HSZ := Lib.hid hsz
      clear hsz
      cases hI : insB (t.size : Int) 1 6 with
      | false =>
        go_wp2_with (go_at_call 56; refine (l1In_any _ _ _ _).mono ?_; rw [hI]; rintro e w1 ⟨rfl, rfl⟩)
        go_ret2
        exact ⟨0, false, rfl, by omega, by omega, fun k hk e => by
          exfalso
          have h1 := decB_pos k
          have h2 := decB_size3 hk
          have h3 : t.size = (decB k).size := by rw [show t = s from HNO.out k hk e, e]
          rw [insB_false] at hI
          omega, (by repeat (first | with_reducible (first | exact World.gained_refl _ | exact ⟨_, rfl⟩ | apply gain_ext | apply gain_alloc | apply gain_drewN | apply gain_drew) | (refine gain_setCell ?_ (by first | exact Nat.le_refl _ | exact World.size_ext _ _ | (simp; done) | (simp; omega)) _)))⟩
      | true =>
      go_wp2_with (go_at_call 56; refine (l1In_any _ _ _ _).mono ?_; rw [hI]; rintro e w1 ⟨rfl, rfl⟩)
      have hI2 := insB_true.1 hI
      have hT6 : t.size ≤ 6 := by omega
      clear hI hI2
      go_loopw [5, 6] (fun n_ i_ wr => ∃ (i : Nat), i ≤ t.size ∧ i_ = .int .i64 i ∧ n_ = .int .i64 (valN ((toL t).take i)) ∧ valN ((toL t).take i) < 10 ^ i ∧ wr = w) (fun _ i_ _ => t.size - (intOf i_).toNat)
      case atStart => exact ⟨0, by omega, rfl, rfl, by simp [valN], rfl⟩
      case round =>
        obtain ⟨i, hi, rfl, rfl, hv, rfl⟩ := hrel
        have h10 : 10 ^ i ≤ 10 ^ 6 := Nat.pow_le_pow_right (by decide) (by omega)
        by_cases hlt : i < t.size
        · have hd : decide ((i : Int) < (t.size : Int)) = true := decide_eq_true (by omega)
          have h10' : 10 ^ i ≤ 10 ^ 5 := Nat.pow_le_pow_right (by decide) (by omega)
          have htk : (toL t).take (i + 1) = (toL t).take i ++ [t[i]] := List.take_succ_eq_append_getElem hlt
          by_cases hc : 48 ≤ t[i].toNat ∧ t[i].toNat ≤ 57
          · have hv' : valN ((toL t).take (i + 1)) = 10 * valN ((toL t).take i) + (t[i].toNat - 48) := by rw [htk, valN_snoc]
            have hlt' : valN ((toL t).take (i + 1)) < 10 ^ (i + 1) := by rw [hv', Nat.pow_succ]; omega
            have HV := Lib.hid hv'
            have HL := Lib.hid hlt'
            have c1 : decide (((t[i].toNat : Nat) : Int) < 48) = false := decide_eq_false (by omega)
            have c2 : decide ((57 : Int) < ((t[i].toNat : Nat) : Int)) = false := decide_eq_false (by omega)
            have c3 : IntKind.u8.wrap (((t[i].toNat : Nat) : Int) - 48) = ((t[i].toNat - 48 : Nat) : Int) := by rw [IntWalk.u8_in _ (by omega)]; omega
            have c4 : IntKind.i64.wrap (10 * (valN ((toL t).take i) : Int)) = 10 * (valN ((toL t).take i) : Int) := IntWalk.i64_in _ (by omega)
            have c5 : IntKind.i64.wrap ((t[i].toNat - 48 : Nat) : Int) = ((t[i].toNat - 48 : Nat) : Int) := IntWalk.i64_in _ (by omega)
            have c6 : IntKind.i64.wrap (10 * (valN ((toL t).take i) : Int) + ((t[i].toNat - 48 : Nat) : Int)) = 10 * (valN ((toL t).take i) : Int) + ((t[i].toNat - 48 : Nat) : Int) := IntWalk.i64_in _ (by omega)
            clear hv' hlt' htk hc
            go_wp2_with fail
            go_roundw
            case rel => exact ⟨i + 1, by omega, by go_num, by rw [HV.out]; simp, HL.out, by trivial⟩
            case measure => simp [intOf]; omega
          · have HX : Hid (∀ k : Nat, k < 1000 → s = decB k → (0 : Int) = k) := Lib.hid (fun k hk e => by
              exfalso
              exact hc (dec_at ((show t = s from HNO.out k hk e).trans e) hlt))
            by_cases hc1 : t[i].toNat < 48
            · have c1 : decide (((t[i].toNat : Nat) : Int) < 48) = true := decide_eq_true (by omega)
              clear hc htk
              go_wp2_with fail
              go_ret2
              exact ⟨0, false, rfl, by omega, by omega, HX.out, (by repeat (first | with_reducible (first | exact World.gained_refl _ | exact ⟨_, rfl⟩ | apply gain_ext | apply gain_alloc | apply gain_drewN | apply gain_drew) | (refine gain_setCell ?_ (by first | exact Nat.le_refl _ | exact World.size_ext _ _ | (simp; done) | (simp; omega)) _)))⟩
            · have c1 : decide (((t[i].toNat : Nat) : Int) < 48) = false := decide_eq_false (by omega)
              have c2 : decide ((57 : Int) < ((t[i].toNat : Nat) : Int)) = true := decide_eq_true (by omega)
              clear hc htk
              go_wp2_with fail
              go_ret2
              exact ⟨0, false, rfl, by omega, by omega, HX.out, (by repeat (first | with_reducible (first | exact World.gained_refl _ | exact ⟨_, rfl⟩ | apply gain_ext | apply gain_alloc | apply gain_drewN | apply gain_drew) | (refine gain_setCell ?_ (by first | exact Nat.le_refl _ | exact World.size_ext _ _ | (simp; done) | (simp; omega)) _)))⟩
        · obtain rfl : i = t.size := by omega
          have htk : (toL t).take t.size = toL t := List.take_length
          rw [htk] at hv ⊢
          have hd : decide (((t.size : Nat) : Int) < (t.size : Int)) = false := decide_eq_false (by omega)
          have HVK : Hid (∀ k : Nat, k < 1000 → s = decB k → valN (toL t) = k) := Lib.hid (fun k hk e => by rw [(show t = s from HNO.out k hk e).trans e, toL_dec, valN_digs])
          have hvb : valN (toL t) < 1000000 := by omega
          clear htk hv h10
          generalize valN (toL t) = z at hvb HVK ⊢
          have hwz : IntKind.i64.wrap (-(z : Int)) = -(z : Int) := IntWalk.i64_in _ (by omega)
          have HZ := Lib.hid (HNZ.out (-(z : Int)) (by omega) (by omega))
          go_wp2_with fail
          refine (HZ.out _).mono ?_
          rintro e w1 ⟨tx, rfl, htx, d1, rfl⟩
          by_cases he : tx = s
          · have hne : (tx.toList == s.toList) = true := by rw [str_eq]; exact decide_eq_true he
            go_wp2_with fail
            go_ret2
            exact ⟨(-(z : Int)), true, rfl, by omega, by omega, (fun k hk e => by have h5 : t = s := HNO.out k hk e; have hsz := HSZ.out; rw [h5] at hsz; omega), (by repeat (first | with_reducible (first | exact World.gained_refl _ | exact ⟨_, rfl⟩ | apply gain_ext | apply gain_alloc | apply gain_drewN | apply gain_drew) | (refine gain_setCell ?_ (by first | exact Nat.le_refl _ | exact World.size_ext _ _ | (simp; done) | (simp; omega)) _)))⟩
          · have hne : (tx.toList == s.toList) = false := by rw [str_eq]; exact decide_eq_false he
            go_wp2_with fail
            go_ret2
            exact ⟨0, false, rfl, by omega, by omega, (fun k hk e => by have h5 : t = s := HNO.out k hk e; have hsz := HSZ.out; rw [h5] at hsz; omega), (by repeat (first | with_reducible (first | exact World.gained_refl _ | exact ⟨_, rfl⟩ | apply gain_ext | apply gain_alloc | apply gain_drewN | apply gain_drew) | (refine gain_setCell ?_ (by first | exact Nat.le_refl _ | exact World.size_ext _ _ | (simp; done) | (simp; omega)) _)))⟩
    · have hd2 : (((s[0].toNat : Nat) : Int) == 45) = false := by rw [beq_eq_false_iff_ne]; omega
      clear hc
      have HNO : Hid (∀ k : Nat, k < 1000 → s = decB k → SameT s s) := Lib.hid (fun _ _ _ => rfl)
      have hd3 : decide ((s.size : Int) < (s.size : Int)) = false := decide_eq_false (by omega)
      go_enter Tryz.func38, Tryz.ntmps38
      go_upto_region 4 with fail
      cases hI : insB (s.size : Int) 1 6 with
      | false =>
        go_wp2_with (go_at_call 56; refine (l1In_any _ _ _ _).mono ?_; rw [hI]; rintro e w1 ⟨rfl, rfl⟩)
        go_ret2
        exact ⟨0, false, rfl, by omega, by omega, fun k hk e => by
          exfalso
          have h1 := decB_pos k
          have h2 := decB_size3 hk
          have h3 : s.size = (decB k).size := by rw [show s = s from HNO.out k hk e, e]
          rw [insB_false] at hI
          omega, (by repeat (first | with_reducible (first | exact World.gained_refl _ | exact ⟨_, rfl⟩ | apply gain_ext | apply gain_alloc | apply gain_drewN | apply gain_drew) | (refine gain_setCell ?_ (by first | exact Nat.le_refl _ | exact World.size_ext _ _ | (simp; done) | (simp; omega)) _)))⟩
      | true =>
      go_wp2_with (go_at_call 56; refine (l1In_any _ _ _ _).mono ?_; rw [hI]; rintro e w1 ⟨rfl, rfl⟩)
      have hI2 := insB_true.1 hI
      have hT6 : s.size ≤ 6 := by omega
      clear hI hI2
      go_loopw [5, 6] (fun n_ i_ wr => ∃ (i : Nat), i ≤ s.size ∧ i_ = .int .i64 i ∧ n_ = .int .i64 (valN ((toL s).take i)) ∧ valN ((toL s).take i) < 10 ^ i ∧ wr = w) (fun _ i_ _ => s.size - (intOf i_).toNat)
      case atStart => exact ⟨0, by omega, rfl, rfl, by simp [valN], rfl⟩
      case round =>
        obtain ⟨i, hi, rfl, rfl, hv, rfl⟩ := hrel
        have h10 : 10 ^ i ≤ 10 ^ 6 := Nat.pow_le_pow_right (by decide) (by omega)
        by_cases hlt : i < s.size
        · have hd : decide ((i : Int) < (s.size : Int)) = true := decide_eq_true (by omega)
          have h10' : 10 ^ i ≤ 10 ^ 5 := Nat.pow_le_pow_right (by decide) (by omega)
          have htk : (toL s).take (i + 1) = (toL s).take i ++ [s[i]] := List.take_succ_eq_append_getElem hlt
          by_cases hc : 48 ≤ s[i].toNat ∧ s[i].toNat ≤ 57
          · have hv' : valN ((toL s).take (i + 1)) = 10 * valN ((toL s).take i) + (s[i].toNat - 48) := by rw [htk, valN_snoc]
            have hlt' : valN ((toL s).take (i + 1)) < 10 ^ (i + 1) := by rw [hv', Nat.pow_succ]; omega
            have HV := Lib.hid hv'
            have HL := Lib.hid hlt'
            have c1 : decide (((s[i].toNat : Nat) : Int) < 48) = false := decide_eq_false (by omega)
            have c2 : decide ((57 : Int) < ((s[i].toNat : Nat) : Int)) = false := decide_eq_false (by omega)
            have c3 : IntKind.u8.wrap (((s[i].toNat : Nat) : Int) - 48) = ((s[i].toNat - 48 : Nat) : Int) := by rw [IntWalk.u8_in _ (by omega)]; omega
            have c4 : IntKind.i64.wrap (10 * (valN ((toL s).take i) : Int)) = 10 * (valN ((toL s).take i) : Int) := IntWalk.i64_in _ (by omega)
            have c5 : IntKind.i64.wrap ((s[i].toNat - 48 : Nat) : Int) = ((s[i].toNat - 48 : Nat) : Int) := IntWalk.i64_in _ (by omega)
            have c6 : IntKind.i64.wrap (10 * (valN ((toL s).take i) : Int) + ((s[i].toNat - 48 : Nat) : Int)) = 10 * (valN ((toL s).take i) : Int) + ((s[i].toNat - 48 : Nat) : Int) := IntWalk.i64_in _ (by omega)
            clear hv' hlt' htk hc
            go_wp2_with fail
            go_roundw
            case rel => exact ⟨i + 1, by omega, by go_num, by rw [HV.out]; simp, HL.out, by trivial⟩
            case measure => simp [intOf]; omega
          · have HX : Hid (∀ k : Nat, k < 1000 → s = decB k → (0 : Int) = k) := Lib.hid (fun k hk e => by
              exfalso
              exact hc (dec_at ((show s = s from HNO.out k hk e).trans e) hlt))
            by_cases hc1 : s[i].toNat < 48
            · have c1 : decide (((s[i].toNat : Nat) : Int) < 48) = true := decide_eq_true (by omega)
              clear hc htk
              go_wp2_with fail
              go_ret2
              exact ⟨0, false, rfl, by omega, by omega, HX.out, (by repeat (first | with_reducible (first | exact World.gained_refl _ | exact ⟨_, rfl⟩ | apply gain_ext | apply gain_alloc | apply gain_drewN | apply gain_drew) | (refine gain_setCell ?_ (by first | exact Nat.le_refl _ | exact World.size_ext _ _ | (simp; done) | (simp; omega)) _)))⟩
            · have c1 : decide (((s[i].toNat : Nat) : Int) < 48) = false := decide_eq_false (by omega)
              have c2 : decide ((57 : Int) < ((s[i].toNat : Nat) : Int)) = true := decide_eq_true (by omega)
              clear hc htk
              go_wp2_with fail
              go_ret2
              exact ⟨0, false, rfl, by omega, by omega, HX.out, (by repeat (first | with_reducible (first | exact World.gained_refl _ | exact ⟨_, rfl⟩ | apply gain_ext | apply gain_alloc | apply gain_drewN | apply gain_drew) | (refine gain_setCell ?_ (by first | exact Nat.le_refl _ | exact World.size_ext _ _ | (simp; done) | (simp; omega)) _)))⟩
        · obtain rfl : i = s.size := by omega
          have htk : (toL s).take s.size = toL s := List.take_length
          rw [htk] at hv ⊢
          have hd : decide (((s.size : Nat) : Int) < (s.size : Int)) = false := decide_eq_false (by omega)
          have HVK : Hid (∀ k : Nat, k < 1000 → s = decB k → valN (toL s) = k) := Lib.hid (fun k hk e => by rw [(show s = s from HNO.out k hk e).trans e, toL_dec, valN_digs])
          have hvb : valN (toL s) < 1000000 := by omega
          clear htk hv h10
          generalize valN (toL s) = z at hvb HVK ⊢
          skip
          have HZ := Lib.hid (HNZ.out (z : Int) (by omega) (by omega))
          go_wp2_with fail
          refine (HZ.out _).mono ?_
          rintro e w1 ⟨tx, rfl, htx, d1, rfl⟩
          by_cases he : tx = s
          · have hne : (tx.toList == s.toList) = true := by rw [str_eq]; exact decide_eq_true he
            go_wp2_with fail
            go_ret2
            exact ⟨(z : Int), true, rfl, by omega, by omega, (fun k hk e => by have := HVK.out k hk e; omega), (by repeat (first | with_reducible (first | exact World.gained_refl _ | exact ⟨_, rfl⟩ | apply gain_ext | apply gain_alloc | apply gain_drewN | apply gain_drew) | (refine gain_setCell ?_ (by first | exact Nat.le_refl _ | exact World.size_ext _ _ | (simp; done) | (simp; omega)) _)))⟩
          · have hne : (tx.toList == s.toList) = false := by rw [str_eq]; exact decide_eq_false he
            go_wp2_with fail
            go_ret2
            exact ⟨0, false, rfl, by omega, by omega, (fun k hk e => by have h6 := HVK.out k hk e; exact absurd ((htx k (by omega)).trans e.symm) he), (by repeat (first | with_reducible (first | exact World.gained_refl _ | exact ⟨_, rfl⟩ | apply gain_ext | apply gain_alloc | apply gain_drewN | apply gain_drew) | (refine gain_setCell ?_ (by first | exact Nat.le_refl _ | exact World.size_ext _ _ | (simp; done) | (simp; omega)) _)))⟩
  · have hd1 : decide ((1 : Int) < (s.size : Int)) = false := decide_eq_false (by omega)
    have HNO : Hid (∀ k : Nat, k < 1000 → s = decB k → SameT s s) := Lib.hid (fun _ _ _ => rfl)
    have hd3 : decide ((s.size : Int) < (s.size : Int)) = false := decide_eq_false (by omega)
    go_enter Tryz.func38, Tryz.ntmps38
    go_upto_region 4 with fail
    cases hI : insB (s.size : Int) 1 6 with
    | false =>
      go_wp2_with (go_at_call 56; refine (l1In_any _ _ _ _).mono ?_; rw [hI]; rintro e w1 ⟨rfl, rfl⟩)
      go_ret2
      exact ⟨0, false, rfl, by omega, by omega, fun k hk e => by
        exfalso
        have h1 := decB_pos k
        have h2 := decB_size3 hk
        have h3 : s.size = (decB k).size := by rw [show s = s from HNO.out k hk e, e]
        rw [insB_false] at hI
        omega, (by repeat (first | with_reducible (first | exact World.gained_refl _ | exact ⟨_, rfl⟩ | apply gain_ext | apply gain_alloc | apply gain_drewN | apply gain_drew) | (refine gain_setCell ?_ (by first | exact Nat.le_refl _ | exact World.size_ext _ _ | (simp; done) | (simp; omega)) _)))⟩
    | true =>
    go_wp2_with (go_at_call 56; refine (l1In_any _ _ _ _).mono ?_; rw [hI]; rintro e w1 ⟨rfl, rfl⟩)
    have hI2 := insB_true.1 hI
    have hT6 : s.size ≤ 6 := by omega
    clear hI hI2
    go_loopw [5, 6] (fun n_ i_ wr => ∃ (i : Nat), i ≤ s.size ∧ i_ = .int .i64 i ∧ n_ = .int .i64 (valN ((toL s).take i)) ∧ valN ((toL s).take i) < 10 ^ i ∧ wr = w) (fun _ i_ _ => s.size - (intOf i_).toNat)
    case atStart => exact ⟨0, by omega, rfl, rfl, by simp [valN], rfl⟩
    case round =>
      obtain ⟨i, hi, rfl, rfl, hv, rfl⟩ := hrel
      have h10 : 10 ^ i ≤ 10 ^ 6 := Nat.pow_le_pow_right (by decide) (by omega)
      by_cases hlt : i < s.size
      · have hd : decide ((i : Int) < (s.size : Int)) = true := decide_eq_true (by omega)
        have h10' : 10 ^ i ≤ 10 ^ 5 := Nat.pow_le_pow_right (by decide) (by omega)
        have htk : (toL s).take (i + 1) = (toL s).take i ++ [s[i]] := List.take_succ_eq_append_getElem hlt
        by_cases hc : 48 ≤ s[i].toNat ∧ s[i].toNat ≤ 57
        · have hv' : valN ((toL s).take (i + 1)) = 10 * valN ((toL s).take i) + (s[i].toNat - 48) := by rw [htk, valN_snoc]
          have hlt' : valN ((toL s).take (i + 1)) < 10 ^ (i + 1) := by rw [hv', Nat.pow_succ]; omega
          have HV := Lib.hid hv'
          have HL := Lib.hid hlt'
          have c1 : decide (((s[i].toNat : Nat) : Int) < 48) = false := decide_eq_false (by omega)
          have c2 : decide ((57 : Int) < ((s[i].toNat : Nat) : Int)) = false := decide_eq_false (by omega)
          have c3 : IntKind.u8.wrap (((s[i].toNat : Nat) : Int) - 48) = ((s[i].toNat - 48 : Nat) : Int) := by rw [IntWalk.u8_in _ (by omega)]; omega
          have c4 : IntKind.i64.wrap (10 * (valN ((toL s).take i) : Int)) = 10 * (valN ((toL s).take i) : Int) := IntWalk.i64_in _ (by omega)
          have c5 : IntKind.i64.wrap ((s[i].toNat - 48 : Nat) : Int) = ((s[i].toNat - 48 : Nat) : Int) := IntWalk.i64_in _ (by omega)
          have c6 : IntKind.i64.wrap (10 * (valN ((toL s).take i) : Int) + ((s[i].toNat - 48 : Nat) : Int)) = 10 * (valN ((toL s).take i) : Int) + ((s[i].toNat - 48 : Nat) : Int) := IntWalk.i64_in _ (by omega)
          clear hv' hlt' htk hc
          go_wp2_with fail
          go_roundw
          case rel => exact ⟨i + 1, by omega, by go_num, by rw [HV.out]; simp, HL.out, by trivial⟩
          case measure => simp [intOf]; omega
        · have HX : Hid (∀ k : Nat, k < 1000 → s = decB k → (0 : Int) = k) := Lib.hid (fun k hk e => by
            exfalso
            exact hc (dec_at ((show s = s from HNO.out k hk e).trans e) hlt))
          by_cases hc1 : s[i].toNat < 48
          · have c1 : decide (((s[i].toNat : Nat) : Int) < 48) = true := decide_eq_true (by omega)
            clear hc htk
            go_wp2_with fail
            go_ret2
            exact ⟨0, false, rfl, by omega, by omega, HX.out, (by repeat (first | with_reducible (first | exact World.gained_refl _ | exact ⟨_, rfl⟩ | apply gain_ext | apply gain_alloc | apply gain_drewN | apply gain_drew) | (refine gain_setCell ?_ (by first | exact Nat.le_refl _ | exact World.size_ext _ _ | (simp; done) | (simp; omega)) _)))⟩
          · have c1 : decide (((s[i].toNat : Nat) : Int) < 48) = false := decide_eq_false (by omega)
            have c2 : decide ((57 : Int) < ((s[i].toNat : Nat) : Int)) = true := decide_eq_true (by omega)
            clear hc htk
            go_wp2_with fail
            go_ret2
            exact ⟨0, false, rfl, by omega, by omega, HX.out, (by repeat (first | with_reducible (first | exact World.gained_refl _ | exact ⟨_, rfl⟩ | apply gain_ext | apply gain_alloc | apply gain_drewN | apply gain_drew) | (refine gain_setCell ?_ (by first | exact Nat.le_refl _ | exact World.size_ext _ _ | (simp; done) | (simp; omega)) _)))⟩
      · obtain rfl : i = s.size := by omega
        have htk : (toL s).take s.size = toL s := List.take_length
        rw [htk] at hv ⊢
        have hd : decide (((s.size : Nat) : Int) < (s.size : Int)) = false := decide_eq_false (by omega)
        have HVK : Hid (∀ k : Nat, k < 1000 → s = decB k → valN (toL s) = k) := Lib.hid (fun k hk e => by rw [(show s = s from HNO.out k hk e).trans e, toL_dec, valN_digs])
        have hvb : valN (toL s) < 1000000 := by omega
        clear htk hv h10
        generalize valN (toL s) = z at hvb HVK ⊢
        skip
        have HZ := Lib.hid (HNZ.out (z : Int) (by omega) (by omega))
        go_wp2_with fail
        refine (HZ.out _).mono ?_
        rintro e w1 ⟨tx, rfl, htx, d1, rfl⟩
        by_cases he : tx = s
        · have hne : (tx.toList == s.toList) = true := by rw [str_eq]; exact decide_eq_true he
          go_wp2_with fail
          go_ret2
          exact ⟨(z : Int), true, rfl, by omega, by omega, (fun k hk e => by have := HVK.out k hk e; omega), (by repeat (first | with_reducible (first | exact World.gained_refl _ | exact ⟨_, rfl⟩ | apply gain_ext | apply gain_alloc | apply gain_drewN | apply gain_drew) | (refine gain_setCell ?_ (by first | exact Nat.le_refl _ | exact World.size_ext _ _ | (simp; done) | (simp; omega)) _)))⟩
        · have hne : (tx.toList == s.toList) = false := by rw [str_eq]; exact decide_eq_false he
          go_wp2_with fail
          go_ret2
          exact ⟨0, false, rfl, by omega, by omega, (fun k hk e => by have h6 := HVK.out k hk e; exact absurd ((htx k (by omega)).trans e.symm) he), (by repeat (first | with_reducible (first | exact World.gained_refl _ | exact ⟨_, rfl⟩ | apply gain_ext | apply gain_alloc | apply gain_drewN | apply gain_drew) | (refine gain_setCell ?_ (by first | exact Nat.le_refl _ | exact World.size_ext _ _ | (simp; done) | (simp; omega)) _)))⟩
end Go.Proofs.YtffkkchflohhaaaGreatDoor
