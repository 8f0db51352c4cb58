/- StepTime, CellsNextTo: the program's and the specification's. No condition. -/
import Derived.Test.YtepjemfkmnpepaaPCtl
import Derived.Test.YtepjemfkmnpepaaMapT
import Derived.Test.YtepjemfkmnpepaaMapX
import Derived.Test.YtepjemfkmnpepaaMapY
import Derived.Test.YtepjemfkmnpepaaMapS
import Derived.Test.YtepjemfkmnpepaaHas
namespace Go.Ori
def sttB (m : Mp) (a b : Int) : Bool := openB m a && openB m b && decide (gapN m.wd.toNat a.toNat b.toNat = 1)
def sttI (m : Mp) (a b : Int) : Int := if sttB m a b then stepZ m a.toNat b.toNat else 0
theorem sttI_no {m : Mp} {a b : Int} (h : sttB m a b = false) : sttI m a b = 0 := by simp [sttI, h]
theorem sttI_yes {m : Mp} {a b : Int} (h : sttB m a b = true) : sttI m a b = stepZ m a.toNat b.toNat := by simp [sttI, h]
theorem openB_map {m : Mp} {c : Int} (h : openB m c = true) : mapB m = true := by
  simp only [openB, cellB, Bool.and_eq_true] at h
  exact h.1.1
theorem has_next {m : Mp} {a b : Nat} (hb : b < m.cost.length) (h0 : 0 < costAt m b) : hasB (natL (nextL m a)) (b : Int) = decide (gapN m.wd.toNat a b = 1) := by
  rw [Bool.eq_iff_iff, hasB_iff, decide_eq_true_eq, natL, List.mem_map]
  constructor
  · rintro ⟨k, hk, e⟩
    obtain rfl : k = b := by omega
    exact (next_mem.1 hk).2.2
  · intro h
    exact ⟨b, next_mem.2 ⟨hb, h0, h⟩, rfl⟩
theorem next_len (m : Mp) (c : Nat) : (natL (nextL m c)).length ≤ m.cost.length := by
  rw [natL_length, nextL]
  exact Nat.le_trans (List.length_filter_le _ _) (by simp)
def cntB (m : Mp) (c : Int) : Bool := cellB m c
def cntL (m : Mp) (c : Int) : List Int := if cntB m c then natL (nextL m c.toNat) else []
theorem cntL_no {m : Mp} {c : Int} (h : cntB m c = false) : cntL m c = [] := by simp [cntL, h]
theorem cellB_at {m : Mp} {c : Int} (h : cellB m c = true) : mapB m = true ∧ ∃ k : Nat, c = k ∧ k < m.cost.length := by
  simp only [cellB, Bool.and_eq_true, insB_true] at h
  exact ⟨h.1, c.toNat, by omega, by omega⟩
end Go.Ori
namespace Go.Proofs.Ytepjemfkmnpepaa
open Go.RowKit Go.Ori
set_option maxHeartbeats 2000000 in
theorem impStepTime_any (m : Mp) (rv cv : Value) (a b : Int) (w : World) (h : w.mp rv cv m) :
    Calls Try.prog 16 #[.agg #[.int .i64 m.wd, .int .i64 m.ht, rv, cv], .int .i64 a, .int .i64 b] w fun x w' => x = .returned (.tuple #[.int .i64 (sttI m a b), .bool (sttB m a b)]) ∧ ∃ d, w' = w.ext d := by
  have hm := Lib.hid h
  have HA := Lib.hid (fun W hW => isOpen_any m rv cv a W hW)
  have HB := Lib.hid (fun W hW => isOpen_any m rv cv b W hW)
  cases hA : openB m a with
  | false =>
    rw [hA] at HA
    have h0 : sttB m a b = false := by simp [sttB, *]
    rw [sttI_no h0, h0]
    clear h0
    go_enter Try.func16, Try.ntmps16
    go_wp2_with (first | (with_reducible (go_at_call 34; refine (HA.out _ (mp_up (hm.out) (by repeat (first | with_reducible (first | exact World.gained_refl _ | exact ⟨_, rfl⟩ | apply gain_ext | apply gain_alloc | apply gain_drewN | apply gain_drew) | (refine gain_setCell ?_ (by first | exact Nat.le_refl _ | exact World.size_ext _ _ | (simp; done) | (simp; omega)) _))))).mono ?_; rintro e w1 ⟨rfl, d1, rfl⟩)) | (go_at_call 34; with_reducible refine (HB.out _ (mp_up (hm.out) (by repeat (first | with_reducible (first | exact World.gained_refl _ | exact ⟨_, rfl⟩ | apply gain_ext | apply gain_alloc | apply gain_drewN | apply gain_drew) | (refine gain_setCell ?_ (by first | exact Nat.le_refl _ | exact World.size_ext _ _ | (simp; done) | (simp; omega)) _))))).mono ?_; rintro e w1 ⟨rfl, d2, rfl⟩))
    go_ret2
    exact ⟨rfl, (by repeat (first | with_reducible (first | exact World.gained_refl _ | exact ⟨_, rfl⟩ | apply gain_ext | apply gain_alloc | apply gain_drewN | apply gain_drew) | (refine gain_setCell ?_ (by first | exact Nat.le_refl _ | exact World.size_ext _ _ | (simp; done) | (simp; omega)) _)))⟩
  | true =>
  rw [hA] at HA
  cases hB : openB m b with
  | false =>
    rw [hB] at HB
    have h0 : sttB m a b = false := by simp [sttB, *]
    rw [sttI_no h0, h0]
    clear h0
    go_enter Try.func16, Try.ntmps16
    go_wp2_with (first | (with_reducible (go_at_call 34; refine (HA.out _ (mp_up (hm.out) (by repeat (first | with_reducible (first | exact World.gained_refl _ | exact ⟨_, rfl⟩ | apply gain_ext | apply gain_alloc | apply gain_drewN | apply gain_drew) | (refine gain_setCell ?_ (by first | exact Nat.le_refl _ | exact World.size_ext _ _ | (simp; done) | (simp; omega)) _))))).mono ?_; rintro e w1 ⟨rfl, d1, rfl⟩)) | (go_at_call 34; with_reducible refine (HB.out _ (mp_up (hm.out) (by repeat (first | with_reducible (first | exact World.gained_refl _ | exact ⟨_, rfl⟩ | apply gain_ext | apply gain_alloc | apply gain_drewN | apply gain_drew) | (refine gain_setCell ?_ (by first | exact Nat.le_refl _ | exact World.size_ext _ _ | (simp; done) | (simp; omega)) _))))).mono ?_; rintro e w1 ⟨rfl, d2, rfl⟩))
    go_ret2
    exact ⟨rfl, (by repeat (first | with_reducible (first | exact World.gained_refl _ | exact ⟨_, rfl⟩ | apply gain_ext | apply gain_alloc | apply gain_drewN | apply gain_drew) | (refine gain_setCell ?_ (by first | exact Nat.le_refl _ | exact World.size_ext _ _ | (simp; done) | (simp; omega)) _)))⟩
  | true =>
  rw [hB] at HB
  obtain ⟨x, rfl, hx, hx0⟩ := openB_true hA
  obtain ⟨y, rfl, hy, hy0⟩ := openB_true hB
  obtain ⟨W, H, hok⟩ := mapB_ok (openB_map hA)
  have HGP := Lib.hid (fun W' => gapOf_any m rv cv W H x y W' hok hx hy)
  have HST := Lib.hid (fun W' hW => stepTime_any m rv cv W H x y W' hok hW hx hy)
  by_cases hg : gapN m.wd.toNat x y = 1
  · have h0 : sttB m x y = true := by simp [sttB, hA, hB, hg]
    rw [sttI_yes h0, h0]
    simp only [Int.toNat_natCast]
    rw [hg] at HGP
    clear h0 hA hB hx hy hx0 hy0 hok h hg
    generalize stepZ m x y = z at HST ⊢
    generalize (x : Int) = x at *
    generalize (y : Int) = y at *
    go_enter Try.func16, Try.ntmps16
    go_wp2_with (first | (go_at_call 34; with_reducible refine (HA.out _ (mp_up (hm.out) (by repeat (first | with_reducible (first | exact World.gained_refl _ | exact ⟨_, rfl⟩ | apply gain_ext | apply gain_alloc | apply gain_drewN | apply gain_drew) | (refine gain_setCell ?_ (by first | exact Nat.le_refl _ | exact World.size_ext _ _ | (simp; done) | (simp; omega)) _))))).mono ?_; rintro e w1 ⟨rfl, d1, rfl⟩) | (go_at_call 34; with_reducible refine (HB.out _ (mp_up (hm.out) (by repeat (first | with_reducible (first | exact World.gained_refl _ | exact ⟨_, rfl⟩ | apply gain_ext | apply gain_alloc | apply gain_drewN | apply gain_drew) | (refine gain_setCell ?_ (by first | exact Nat.le_refl _ | exact World.size_ext _ _ | (simp; done) | (simp; omega)) _))))).mono ?_; rintro e w1 ⟨rfl, d2, rfl⟩) | (go_at_call 35; refine (HGP.out _).mono ?_; rintro e w1 ⟨rfl, d3, rfl⟩) | (go_at_call 36; refine (HST.out _ (mp_up (hm.out) (by repeat (first | with_reducible (first | exact World.gained_refl _ | exact ⟨_, rfl⟩ | apply gain_ext | apply gain_alloc | apply gain_drewN | apply gain_drew) | (refine gain_setCell ?_ (by first | exact Nat.le_refl _ | exact World.size_ext _ _ | (simp; done) | (simp; omega)) _))))).mono ?_; rintro e w1 ⟨rfl, d4, rfl⟩))
    go_ret2
    exact ⟨rfl, (by repeat (first | with_reducible (first | exact World.gained_refl _ | exact ⟨_, rfl⟩ | apply gain_ext | apply gain_alloc | apply gain_drewN | apply gain_drew) | (refine gain_setCell ?_ (by first | exact Nat.le_refl _ | exact World.size_ext _ _ | (simp; done) | (simp; omega)) _)))⟩
  · have h0 : sttB m x y = false := by simp [sttB, hg]
    have hne : (gapN m.wd.toNat x y != 1) = true := by simp [hg]
    rw [sttI_no h0, h0]
    clear h0 hA hB hx hy hx0 hy0 hok h hg
    generalize gapN m.wd.toNat x y = z at HGP hne
    generalize (x : Int) = x at *
    generalize (y : Int) = y at *
    go_enter Try.func16, Try.ntmps16
    go_wp2_with (first | (go_at_call 34; with_reducible refine (HA.out _ (mp_up (hm.out) (by repeat (first | with_reducible (first | exact World.gained_refl _ | exact ⟨_, rfl⟩ | apply gain_ext | apply gain_alloc | apply gain_drewN | apply gain_drew) | (refine gain_setCell ?_ (by first | exact Nat.le_refl _ | exact World.size_ext _ _ | (simp; done) | (simp; omega)) _))))).mono ?_; rintro e w1 ⟨rfl, d1, rfl⟩) | (go_at_call 34; with_reducible refine (HB.out _ (mp_up (hm.out) (by repeat (first | with_reducible (first | exact World.gained_refl _ | exact ⟨_, rfl⟩ | apply gain_ext | apply gain_alloc | apply gain_drewN | apply gain_drew) | (refine gain_setCell ?_ (by first | exact Nat.le_refl _ | exact World.size_ext _ _ | (simp; done) | (simp; omega)) _))))).mono ?_; rintro e w1 ⟨rfl, d2, rfl⟩) | (go_at_call 35; refine (HGP.out _).mono ?_; rintro e w1 ⟨rfl, d3, rfl⟩))
    go_ret2
    exact ⟨rfl, (by repeat (first | with_reducible (first | exact World.gained_refl _ | exact ⟨_, rfl⟩ | apply gain_ext | apply gain_alloc | apply gain_drewN | apply gain_drew) | (refine gain_setCell ?_ (by first | exact Nat.le_refl _ | exact World.size_ext _ _ | (simp; done) | (simp; omega)) _)))⟩
set_option maxHeartbeats 2000000 in
theorem specStepTime_any (m : Mp) (rv cv : Value) (a b : Int) (w : World) (h : w.mp rv cv m) :
    Calls Try.prog 17 #[.agg #[.int .i64 m.wd, .int .i64 m.ht, rv, cv], .int .i64 a, .int .i64 b] w fun x w' => x = .returned (.tuple #[.int .i64 (sttI m a b), .bool (sttB m a b)]) ∧ ∃ d, w' = w.ext d := by
  have hm := Lib.hid h
  have HM := Lib.hid (fun W hW => l2Map_any m rv cv W hW)
  cases hM : mapB m with
  | false =>
    have hA : openB m a = false := by simp [openB, cellB, hM]
    have HA : Hid True := Lib.hid trivial
    have HB : Hid True := Lib.hid trivial
    rw [hM] at HM
    have h0 : sttB m a b = false := by simp [sttB, hA]
    rw [sttI_no h0, h0]
    clear h0
    go_enter Try.func17, Try.ntmps17
    go_wp2_with (go_at_call 24; refine (HM.out _ (mp_up (hm.out) (by repeat (first | with_reducible (first | exact World.gained_refl _ | exact ⟨_, rfl⟩ | apply gain_ext | apply gain_alloc | apply gain_drewN | apply gain_drew) | (refine gain_setCell ?_ (by first | exact Nat.le_refl _ | exact World.size_ext _ _ | (simp; done) | (simp; omega)) _))))).mono ?_; rintro e w1 ⟨rfl, d0, rfl⟩)
    go_ret2
    exact ⟨rfl, (by repeat (first | with_reducible (first | exact World.gained_refl _ | exact ⟨_, rfl⟩ | apply gain_ext | apply gain_alloc | apply gain_drewN | apply gain_drew) | (refine gain_setCell ?_ (by first | exact Nat.le_refl _ | exact World.size_ext _ _ | (simp; done) | (simp; omega)) _)))⟩
  | true =>
  rw [hM] at HM
  have HA := Lib.hid (fun W hW => l2Open_any m rv cv a W hW hM)
  have HB := Lib.hid (fun W hW => l2Open_any m rv cv b W hW hM)
  clear hM
  cases hA : openB m a with
  | false =>
    rw [hA] at HA
    have h0 : sttB m a b = false := by simp [sttB, *]
    rw [sttI_no h0, h0]
    clear h0
    go_enter Try.func17, Try.ntmps17
    go_wp2_with (first | (go_at_call 24; refine (HM.out _ (mp_up (hm.out) (by repeat (first | with_reducible (first | exact World.gained_refl _ | exact ⟨_, rfl⟩ | apply gain_ext | apply gain_alloc | apply gain_drewN | apply gain_drew) | (refine gain_setCell ?_ (by first | exact Nat.le_refl _ | exact World.size_ext _ _ | (simp; done) | (simp; omega)) _))))).mono ?_; rintro e w1 ⟨rfl, d0, rfl⟩) | (go_at_call 31; with_reducible refine (HA.out _ (mp_up (hm.out) (by repeat (first | with_reducible (first | exact World.gained_refl _ | exact ⟨_, rfl⟩ | apply gain_ext | apply gain_alloc | apply gain_drewN | apply gain_drew) | (refine gain_setCell ?_ (by first | exact Nat.le_refl _ | exact World.size_ext _ _ | (simp; done) | (simp; omega)) _))))).mono ?_; rintro e w1 ⟨rfl, d1, rfl⟩) | (go_at_call 31; with_reducible refine (HB.out _ (mp_up (hm.out) (by repeat (first | with_reducible (first | exact World.gained_refl _ | exact ⟨_, rfl⟩ | apply gain_ext | apply gain_alloc | apply gain_drewN | apply gain_drew) | (refine gain_setCell ?_ (by first | exact Nat.le_refl _ | exact World.size_ext _ _ | (simp; done) | (simp; omega)) _))))).mono ?_; rintro e w1 ⟨rfl, d2, rfl⟩))
    go_ret2
    exact ⟨rfl, (by repeat (first | with_reducible (first | exact World.gained_refl _ | exact ⟨_, rfl⟩ | apply gain_ext | apply gain_alloc | apply gain_drewN | apply gain_drew) | (refine gain_setCell ?_ (by first | exact Nat.le_refl _ | exact World.size_ext _ _ | (simp; done) | (simp; omega)) _)))⟩
  | true =>
  rw [hA] at HA
  cases hB : openB m b with
  | false =>
    rw [hB] at HB
    have h0 : sttB m a b = false := by simp [sttB, *]
    rw [sttI_no h0, h0]
    clear h0
    go_enter Try.func17, Try.ntmps17
    go_wp2_with (first | (go_at_call 24; refine (HM.out _ (mp_up (hm.out) (by repeat (first | with_reducible (first | exact World.gained_refl _ | exact ⟨_, rfl⟩ | apply gain_ext | apply gain_alloc | apply gain_drewN | apply gain_drew) | (refine gain_setCell ?_ (by first | exact Nat.le_refl _ | exact World.size_ext _ _ | (simp; done) | (simp; omega)) _))))).mono ?_; rintro e w1 ⟨rfl, d0, rfl⟩) | (go_at_call 31; with_reducible refine (HA.out _ (mp_up (hm.out) (by repeat (first | with_reducible (first | exact World.gained_refl _ | exact ⟨_, rfl⟩ | apply gain_ext | apply gain_alloc | apply gain_drewN | apply gain_drew) | (refine gain_setCell ?_ (by first | exact Nat.le_refl _ | exact World.size_ext _ _ | (simp; done) | (simp; omega)) _))))).mono ?_; rintro e w1 ⟨rfl, d1, rfl⟩) | (go_at_call 31; with_reducible refine (HB.out _ (mp_up (hm.out) (by repeat (first | with_reducible (first | exact World.gained_refl _ | exact ⟨_, rfl⟩ | apply gain_ext | apply gain_alloc | apply gain_drewN | apply gain_drew) | (refine gain_setCell ?_ (by first | exact Nat.le_refl _ | exact World.size_ext _ _ | (simp; done) | (simp; omega)) _))))).mono ?_; rintro e w1 ⟨rfl, d2, rfl⟩))
    go_ret2
    exact ⟨rfl, (by repeat (first | with_reducible (first | exact World.gained_refl _ | exact ⟨_, rfl⟩ | apply gain_ext | apply gain_alloc | apply gain_drewN | apply gain_drew) | (refine gain_setCell ?_ (by first | exact Nat.le_refl _ | exact World.size_ext _ _ | (simp; done) | (simp; omega)) _)))⟩
  | true =>
  rw [hB] at HB
  obtain ⟨x, rfl, hx, hx0⟩ := openB_true hA
  obtain ⟨y, rfl, hy, hy0⟩ := openB_true hB
  obtain ⟨W, H, hok⟩ := mapB_ok (openB_map hA)
  have HNX := Lib.hid (fun W' hW => l2Next_any m rv cv W H x W' hok hW hx)
  have HST := Lib.hid (fun W' hW => l2Step_any m rv cv W H x y W' hok hW hx hy)
  have HHS := Lib.hid (has_next (a := x) hy hy0)
  have HLN : Hid ((natL (nextL m x)).length ≤ 1048576) := Lib.hid (by have := next_len m x; have := hok.n36; omega)
  have HV : Hid (sttB m x y = decide (gapN m.wd.toNat x y = 1) ∧ sttI m x y = if gapN m.wd.toNat x y = 1 then stepZ m x y else 0) := Lib.hid (by
    have h1 : sttB m x y = decide (gapN m.wd.toNat x y = 1) := by simp [sttB, hA, hB]
    refine ⟨h1, ?_⟩
    rw [sttI, h1]
    simp)
  rw [HV.out.1, HV.out.2]
  clear HV
  generalize hz : natL (nextL m x) = L at HNX HHS HLN
  generalize stepZ m x y = z at HST ⊢
  clear hA hB hx hy hx0 hy0 hok h hz
  by_cases hg : gapN m.wd.toNat x y = 1
  · rw [if_pos hg, decide_eq_true hg]
    rw [decide_eq_true hg] at HHS
    clear hg
    generalize (x : Int) = x at *
    generalize (y : Int) = y at *
    go_enter Try.func17, Try.ntmps17
    go_wp2_with (first | (go_at_call 24; refine (HM.out _ (mp_up (hm.out) (by repeat (first | with_reducible (first | exact World.gained_refl _ | exact ⟨_, rfl⟩ | apply gain_ext | apply gain_alloc | apply gain_drewN | apply gain_drew) | (refine gain_setCell ?_ (by first | exact Nat.le_refl _ | exact World.size_ext _ _ | (simp; done) | (simp; omega)) _))))).mono ?_; rintro e w1 ⟨rfl, d0, rfl⟩) | (go_at_call 31; with_reducible refine (HA.out _ (mp_up (hm.out) (by repeat (first | with_reducible (first | exact World.gained_refl _ | exact ⟨_, rfl⟩ | apply gain_ext | apply gain_alloc | apply gain_drewN | apply gain_drew) | (refine gain_setCell ?_ (by first | exact Nat.le_refl _ | exact World.size_ext _ _ | (simp; done) | (simp; omega)) _))))).mono ?_; rintro e w1 ⟨rfl, d1, rfl⟩) | (go_at_call 31; with_reducible refine (HB.out _ (mp_up (hm.out) (by repeat (first | with_reducible (first | exact World.gained_refl _ | exact ⟨_, rfl⟩ | apply gain_ext | apply gain_alloc | apply gain_drewN | apply gain_drew) | (refine gain_setCell ?_ (by first | exact Nat.le_refl _ | exact World.size_ext _ _ | (simp; done) | (simp; omega)) _))))).mono ?_; rintro e w1 ⟨rfl, d2, rfl⟩))
    refine (HNX.out _ (mp_up (hm.out) (by repeat (first | with_reducible (first | exact World.gained_refl _ | exact ⟨_, rfl⟩ | apply gain_ext | apply gain_alloc | apply gain_drewN | apply gain_drew) | (refine gain_setCell ?_ (by first | exact Nat.le_refl _ | exact World.size_ext _ _ | (simp; done) | (simp; omega)) _))))).mono ?_
    rintro e w1 ⟨v', rfl, ⟨d3, rfl⟩, ho⟩
    have HO := Lib.hid (sl_of_own intC_length ho)
    clear ho
    go_wp2_with fail
    refine (l1Has_any _ L y _ (by with_reducible (repeat (first | exact HO.out | refine World.sl_ext intC_length ?_ _ | refine sl_alloc intC_length ?_ _ | refine sl_drew ?_))) HLN.out).mono ?_
    rw [HHS.out]
    rintro e w1 ⟨rfl, d4, rfl⟩
    go_wp2_with (go_at_call 38; refine (HST.out _ (mp_up (hm.out) (by repeat (first | with_reducible (first | exact World.gained_refl _ | exact ⟨_, rfl⟩ | apply gain_ext | apply gain_alloc | apply gain_drewN | apply gain_drew) | (refine gain_setCell ?_ (by first | exact Nat.le_refl _ | exact World.size_ext _ _ | (simp; done) | (simp; omega)) _))))).mono ?_; rintro e w1 ⟨rfl, d5, rfl⟩)
    go_ret2
    exact ⟨rfl, (by repeat (first | with_reducible (first | exact World.gained_refl _ | exact ⟨_, rfl⟩ | apply gain_ext | apply gain_alloc | apply gain_drewN | apply gain_drew) | (refine gain_setCell ?_ (by first | exact Nat.le_refl _ | exact World.size_ext _ _ | (simp; done) | (simp; omega)) _)))⟩
  · rw [if_neg hg, decide_eq_false hg]
    rw [decide_eq_false hg] at HHS
    clear hg HST
    generalize (x : Int) = x at *
    generalize (y : Int) = y at *
    go_enter Try.func17, Try.ntmps17
    go_wp2_with (first | (go_at_call 24; refine (HM.out _ (mp_up (hm.out) (by repeat (first | with_reducible (first | exact World.gained_refl _ | exact ⟨_, rfl⟩ | apply gain_ext | apply gain_alloc | apply gain_drewN | apply gain_drew) | (refine gain_setCell ?_ (by first | exact Nat.le_refl _ | exact World.size_ext _ _ | (simp; done) | (simp; omega)) _))))).mono ?_; rintro e w1 ⟨rfl, d0, rfl⟩) | (go_at_call 31; with_reducible refine (HA.out _ (mp_up (hm.out) (by repeat (first | with_reducible (first | exact World.gained_refl _ | exact ⟨_, rfl⟩ | apply gain_ext | apply gain_alloc | apply gain_drewN | apply gain_drew) | (refine gain_setCell ?_ (by first | exact Nat.le_refl _ | exact World.size_ext _ _ | (simp; done) | (simp; omega)) _))))).mono ?_; rintro e w1 ⟨rfl, d1, rfl⟩) | (go_at_call 31; with_reducible refine (HB.out _ (mp_up (hm.out) (by repeat (first | with_reducible (first | exact World.gained_refl _ | exact ⟨_, rfl⟩ | apply gain_ext | apply gain_alloc | apply gain_drewN | apply gain_drew) | (refine gain_setCell ?_ (by first | exact Nat.le_refl _ | exact World.size_ext _ _ | (simp; done) | (simp; omega)) _))))).mono ?_; rintro e w1 ⟨rfl, d2, rfl⟩))
    refine (HNX.out _ (mp_up (hm.out) (by repeat (first | with_reducible (first | exact World.gained_refl _ | exact ⟨_, rfl⟩ | apply gain_ext | apply gain_alloc | apply gain_drewN | apply gain_drew) | (refine gain_setCell ?_ (by first | exact Nat.le_refl _ | exact World.size_ext _ _ | (simp; done) | (simp; omega)) _))))).mono ?_
    rintro e w1 ⟨v', rfl, ⟨d3, rfl⟩, ho⟩
    have HO := Lib.hid (sl_of_own intC_length ho)
    clear ho
    go_wp2_with fail
    refine (l1Has_any _ L y _ (by with_reducible (repeat (first | exact HO.out | refine World.sl_ext intC_length ?_ _ | refine sl_alloc intC_length ?_ _ | refine sl_drew ?_))) HLN.out).mono ?_
    rw [HHS.out]
    rintro e w1 ⟨rfl, d4, rfl⟩
    go_wp2
    go_ret2
    exact ⟨rfl, (by repeat (first | with_reducible (first | exact World.gained_refl _ | exact ⟨_, rfl⟩ | apply gain_ext | apply gain_alloc | apply gain_drewN | apply gain_drew) | (refine gain_setCell ?_ (by first | exact Nat.le_refl _ | exact World.size_ext _ _ | (simp; done) | (simp; omega)) _)))⟩
set_option maxHeartbeats 1000000 in
theorem impCellsNextTo_any (m : Mp) (rv cv : Value) (c : Int) (w : World) (h : w.mp rv cv m) :
    Calls Try.prog 6 #[.agg #[.int .i64 m.wd, .int .i64 m.ht, rv, cv], .int .i64 c] w fun x w' => ∃ r, x = .returned (.tuple #[r, .bool (cntB m c)]) ∧ (∃ d, w' = w.ext d) ∧ w'.own w.heap.size 3 intC 1 r (cntL m c) := by
  have hm := Lib.hid h
  have HA := Lib.hid (fun W hW => isCell_any m rv cv c W hW)
  cases hA : cellB m c with
  | false =>
    have h0 : cntB m c = false := hA
    rw [cntL_no h0, h0]
    rw [hA] at HA
    clear h0 hA
    go_enter Try.func6, Try.ntmps6
    go_wp2_with (go_at_call 22; refine (HA.out _ (mp_up (hm.out) (by repeat (first | with_reducible (first | exact World.gained_refl _ | exact ⟨_, rfl⟩ | apply gain_ext | apply gain_alloc | apply gain_drewN | apply gain_drew) | (refine gain_setCell ?_ (by first | exact Nat.le_refl _ | exact World.size_ext _ _ | (simp; done) | (simp; omega)) _))))).mono ?_; rintro e w1 ⟨rfl, d1, rfl⟩)
    go_ret2
    exact ⟨_, rfl, (by repeat (first | with_reducible (first | exact World.gained_refl _ | exact ⟨_, rfl⟩ | apply gain_ext | apply gain_alloc | apply gain_drewN | apply gain_drew) | (refine gain_setCell ?_ (by first | exact Nat.le_refl _ | exact World.size_ext _ _ | (simp; done) | (simp; omega)) _))), own_nil _ _ _ _ _⟩
  | true =>
    have h0 : cntB m c = true := hA
    obtain ⟨hB, k, rfl, hk⟩ := cellB_at hA
    obtain ⟨W, H, hok⟩ := mapB_ok hB
    have HN := Lib.hid (fun W' hW => cellsNextTo_any m rv cv W H k W' hok hW hk)
    rw [cntL, if_pos h0, h0]
    rw [hA] at HA
    simp only [Int.toNat_natCast]
    clear h0 hA hB hok hk h
    generalize natL (nextL m k) = L at HN ⊢
    go_enter Try.func6, Try.ntmps6
    go_wp2_with (go_at_call 22; refine (HA.out _ (mp_up (hm.out) (by repeat (first | with_reducible (first | exact World.gained_refl _ | exact ⟨_, rfl⟩ | apply gain_ext | apply gain_alloc | apply gain_drewN | apply gain_drew) | (refine gain_setCell ?_ (by first | exact Nat.le_refl _ | exact World.size_ext _ _ | (simp; done) | (simp; omega)) _))))).mono ?_; rintro e w1 ⟨rfl, d1, rfl⟩)
    refine (HN.out _ (mp_up (hm.out) (by repeat (first | with_reducible (first | exact World.gained_refl _ | exact ⟨_, rfl⟩ | apply gain_ext | apply gain_alloc | apply gain_drewN | apply gain_drew) | (refine gain_setCell ?_ (by first | exact Nat.le_refl _ | exact World.size_ext _ _ | (simp; done) | (simp; omega)) _))))).mono ?_
    rintro e w1 ⟨v', rfl, ⟨d3, rfl⟩, ho⟩
    have HO := Lib.hid ho
    clear ho
    go_wp2_with fail
    go_ret2
    exact ⟨_, rfl, (by repeat (first | with_reducible (first | exact World.gained_refl _ | exact ⟨_, rfl⟩ | apply gain_ext | apply gain_alloc | apply gain_drewN | apply gain_drew) | (refine gain_setCell ?_ (by first | exact Nat.le_refl _ | exact World.size_ext _ _ | (simp; done) | (simp; omega)) _))), own_base HO.out (gain_size (by repeat (first | with_reducible (first | exact World.gained_refl _ | exact ⟨_, rfl⟩ | apply gain_ext | apply gain_alloc | apply gain_drewN | apply gain_drew) | (refine gain_setCell ?_ (by first | exact Nat.le_refl _ | exact World.size_ext _ _ | (simp; done) | (simp; omega)) _))))⟩
set_option maxHeartbeats 1000000 in
theorem specCellsNextTo_any (m : Mp) (rv cv : Value) (c : Int) (w : World) (h : w.mp rv cv m) :
    Calls Try.prog 7 #[.agg #[.int .i64 m.wd, .int .i64 m.ht, rv, cv], .int .i64 c] w fun x w' => ∃ r, x = .returned (.tuple #[r, .bool (cntB m c)]) ∧ (∃ d, w' = w.ext d) ∧ w'.own w.heap.size 3 intC 1 r (cntL m c) := by
  have hm := Lib.hid h
  have HM := Lib.hid (fun W hW => l2Map_any m rv cv W hW)
  cases hM : mapB m with
  | false =>
    have h0 : cntB m c = false := by simp [cntB, cellB, hM]
    rw [cntL_no h0, h0]
    rw [hM] at HM
    clear h0 hM
    go_enter Try.func7, Try.ntmps7
    go_wp2_with (go_at_call 24; refine (HM.out _ (mp_up (hm.out) (by repeat (first | with_reducible (first | exact World.gained_refl _ | exact ⟨_, rfl⟩ | apply gain_ext | apply gain_alloc | apply gain_drewN | apply gain_drew) | (refine gain_setCell ?_ (by first | exact Nat.le_refl _ | exact World.size_ext _ _ | (simp; done) | (simp; omega)) _))))).mono ?_; rintro e w1 ⟨rfl, d1, rfl⟩)
    go_ret2
    exact ⟨_, rfl, (by repeat (first | with_reducible (first | exact World.gained_refl _ | exact ⟨_, rfl⟩ | apply gain_ext | apply gain_alloc | apply gain_drewN | apply gain_drew) | (refine gain_setCell ?_ (by first | exact Nat.le_refl _ | exact World.size_ext _ _ | (simp; done) | (simp; omega)) _))), own_lit' (l := ([] : List Int)) (C := #[]) intC_length rfl rfl (gain_size (by repeat (first | with_reducible (first | exact World.gained_refl _ | exact ⟨_, rfl⟩ | apply gain_ext | apply gain_alloc | apply gain_drewN | apply gain_drew) | (refine gain_setCell ?_ (by first | exact Nat.le_refl _ | exact World.size_ext _ _ | (simp; done) | (simp; omega)) _))))⟩
  | true =>
  have HA := Lib.hid (fun W => l2Cell_any m rv cv c W hM)
  rw [hM] at HM
  cases hA : cellB m c with
  | false =>
    have h0 : cntB m c = false := hA
    rw [cntL_no h0, h0]
    rw [hA] at HA
    clear h0 hA hM
    go_enter Try.func7, Try.ntmps7
    go_wp2_with (first | (go_at_call 24; refine (HM.out _ (mp_up (hm.out) (by repeat (first | with_reducible (first | exact World.gained_refl _ | exact ⟨_, rfl⟩ | apply gain_ext | apply gain_alloc | apply gain_drewN | apply gain_drew) | (refine gain_setCell ?_ (by first | exact Nat.le_refl _ | exact World.size_ext _ _ | (simp; done) | (simp; omega)) _))))).mono ?_; rintro e w1 ⟨rfl, d1, rfl⟩) | (go_at_call 25; refine (HA.out _).mono ?_; rintro e w1 ⟨rfl, d2, rfl⟩))
    go_ret2
    exact ⟨_, rfl, (by repeat (first | with_reducible (first | exact World.gained_refl _ | exact ⟨_, rfl⟩ | apply gain_ext | apply gain_alloc | apply gain_drewN | apply gain_drew) | (refine gain_setCell ?_ (by first | exact Nat.le_refl _ | exact World.size_ext _ _ | (simp; done) | (simp; omega)) _))), own_lit' (l := ([] : List Int)) (C := #[]) intC_length rfl rfl (gain_size (by repeat (first | with_reducible (first | exact World.gained_refl _ | exact ⟨_, rfl⟩ | apply gain_ext | apply gain_alloc | apply gain_drewN | apply gain_drew) | (refine gain_setCell ?_ (by first | exact Nat.le_refl _ | exact World.size_ext _ _ | (simp; done) | (simp; omega)) _))))⟩
  | true =>
    have h0 : cntB m c = true := hA
    obtain ⟨hB, k, rfl, hk⟩ := cellB_at hA
    obtain ⟨W, H, hok⟩ := mapB_ok hB
    have HN := Lib.hid (fun W' hW => l2Next_any m rv cv W H k W' hok hW hk)
    rw [cntL, if_pos h0, h0]
    rw [hA] at HA
    simp only [Int.toNat_natCast]
    clear h0 hA hB hok hk h hM
    generalize natL (nextL m k) = L at HN ⊢
    go_enter Try.func7, Try.ntmps7
    go_wp2_with (first | (go_at_call 24; refine (HM.out _ (mp_up (hm.out) (by repeat (first | with_reducible (first | exact World.gained_refl _ | exact ⟨_, rfl⟩ | apply gain_ext | apply gain_alloc | apply gain_drewN | apply gain_drew) | (refine gain_setCell ?_ (by first | exact Nat.le_refl _ | exact World.size_ext _ _ | (simp; done) | (simp; omega)) _))))).mono ?_; rintro e w1 ⟨rfl, d1, rfl⟩) | (go_at_call 25; refine (HA.out _).mono ?_; rintro e w1 ⟨rfl, d2, rfl⟩))
    refine (HN.out _ (mp_up (hm.out) (by repeat (first | with_reducible (first | exact World.gained_refl _ | exact ⟨_, rfl⟩ | apply gain_ext | apply gain_alloc | apply gain_drewN | apply gain_drew) | (refine gain_setCell ?_ (by first | exact Nat.le_refl _ | exact World.size_ext _ _ | (simp; done) | (simp; omega)) _))))).mono ?_
    rintro e w1 ⟨v', rfl, ⟨d3, rfl⟩, ho⟩
    have HO := Lib.hid ho
    clear ho
    go_wp2_with fail
    go_ret2
    exact ⟨_, rfl, (by repeat (first | with_reducible (first | exact World.gained_refl _ | exact ⟨_, rfl⟩ | apply gain_ext | apply gain_alloc | apply gain_drewN | apply gain_drew) | (refine gain_setCell ?_ (by first | exact Nat.le_refl _ | exact World.size_ext _ _ | (simp; done) | (simp; omega)) _))), own_base HO.out (gain_size (by repeat (first | with_reducible (first | exact World.gained_refl _ | exact ⟨_, rfl⟩ | apply gain_ext | apply gain_alloc | apply gain_drewN | apply gain_drew) | (refine gain_setCell ?_ (by first | exact Nat.le_refl _ | exact World.size_ext _ _ | (simp; done) | (simp; omega)) _))))⟩
end Go.Proofs.Ytepjemfkmnpepaa
