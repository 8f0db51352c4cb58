/- impl.canRoute, LeastTime; spec.l4Asked, LeastTime. Condition: a map in memory. -/
import Derived.Test.YtfpobghllfoijaaPDet
import Derived.Test.YtfpobghllfoijaaTimes
import Derived.Test.YtfpobghllfoijaaTimesS
import Derived.Test.YtfpobghllfoijaaLeastT
import Derived.Test.YtfpobghllfoijaaIdxInts
namespace Go.Ori
theorem can1 (m : Mp) (a : Int) : (!([a].any fun n => !openB m n)) = openB m a := by cases h : openB m a <;> simp [h]
theorem can2 (m : Mp) (a b : Int) : (!([a, b].any fun n => !openB m n)) = (openB m a && openB m b) := by cases h : openB m a <;> cases h2 : openB m b <;> simp [h, h2]
theorem can3 (m : Mp) (a b c : Int) : (!([a, b, c].any fun n => !openB m n)) = ((openB m a && openB m b) && openB m c) := by cases h : openB m a <;> cases h2 : openB m b <;> cases h3 : openB m c <;> simp [h, h2, h3]
/-- A least time as the specification holds it. -/
def tZ (m : Mp) (a b : Nat) : Int := if timeB m a b = 1073741824 then -1 else timeB m a b
theorem tZ_yes {m : Mp} {a b : Nat} (h : timeB m a b < 1073741824) : tZ m a b = timeB m a b := by rw [tZ, if_neg (by omega)]
theorem tZ_no {m : Mp} {a b : Nat} {W H : Nat} (hm : MapOk m W H) (hb : b < m.cost.length) (h : ¬ timeB m a b < 1073741824) : tZ m a b = -1 := by
  have := (time_hi hm hb a).2
  rw [tZ, if_pos (by omega)]
theorem two_open {m : Mp} {a b : Int} (h : (openB m a && openB m b) = true) : ∃ A B : Nat, a = A ∧ b = B ∧ A < m.cost.length ∧ B < m.cost.length ∧ ∃ W H, MapOk m W H := by
  rw [Bool.and_eq_true] at h
  obtain ⟨W, H, hm⟩ := mapB_ok (openB_map h.1)
  obtain ⟨A, rfl, a1, _⟩ := openB_true h.1
  obtain ⟨B, rfl, b1, _⟩ := openB_true h.2
  exact ⟨A, B, rfl, rfl, a1, b1, W, H, hm⟩
theorem goB_eq {m : Mp} {a b : Nat} (h : (openB m a && openB m b) = true) : goB m a b = decide (timeB m a b < 1073741824) := by simp [goB, h]
theorem goB_no {m : Mp} {a b : Int} (h : (openB m a && openB m b) = false) : goB m a b = false ∧ leastI m a b = 0 ∧ bestL m a b = [] := by
  have : goB m a b = false := by simp [goB, h]
  simp [leastI, bestL, this]
end Go.Ori
namespace Go.Proofs.Ytfpobghllfoijaa
open Go.RowKit Go.Ori
set_option maxHeartbeats 1000000 in
theorem canRoute1_any (m : Mp) (rv cv : Value) (c : Int) (B : Nat) (w : World) (h : w.mp rv cv m) (b0 : w.cell? ⟨B, 0, none⟩ = some (.int .i64 m.wd)) (b1 : w.cell? ⟨B, 1, none⟩ = some (.int .i64 m.ht)) (b2 : w.cell? ⟨B, 2, none⟩ = some rv) (b3 : w.cell? ⟨B, 3, none⟩ = some cv) :
    Calls Try.prog 40 #[.int .i64 c, .pointer (some ⟨B, 0, none⟩)] w fun x w1 => x = .returned (.bool (!openB m c)) ∧ ∃ d, w1 = w.ext d := by
  have hm := Lib.hid h
  have ob := World.oldB_of_cell b0
  obtain ⟨p1, c1, p2, c2, rfl, rfl⟩ := mp_form h
  go_enter Try.func40, Try.ntmps40
  go_wp2_with (go_at_call 41; refine (isOpen_any m _ _ c _ (mp_up (hm.out) (by repeat (first | with_reducible (first | exact World.gained_refl _ | exact ⟨_, rfl⟩ | apply gain_ext | apply gain_alloc | apply gain_drewN | apply gain_drew) | (refine gain_setCell ?_ (by first | exact Nat.le_refl _ | exact World.size_ext _ _ | (simp; done) | (simp; omega)) _))))).mono ?_; rintro e w1 ⟨rfl, d1, rfl⟩)
  go_ret
  exact ⟨rfl, (by repeat (first | with_reducible (first | exact World.gained_refl _ | exact ⟨_, rfl⟩ | apply gain_ext | apply gain_alloc | apply gain_drewN | apply gain_drew) | (refine gain_setCell ?_ (by first | exact Nat.le_refl _ | exact World.size_ext _ _ | (simp; done) | (simp; omega)) _)))⟩
set_option maxHeartbeats 1000000 in
theorem canRoute_any (m : Mp) (rv cv v : Value) (l : List Int) (w : World) (hmp : w.mp rv cv m) (h : w.sl intC 1 v l) (hl : l.length ≤ 1048576) :
    Calls Try.prog 22 #[.agg #[.int .i64 m.wd, .int .i64 m.ht, rv, cv], v] w fun x w' => x = .returned (.bool (!(l.any fun n => !openB m n))) ∧ ∃ d, w' = w.ext d := by
  have hm := Lib.hid hmp
  have hs := Lib.hid h
  obtain ⟨p1, c1, p2, c2, rfl, rfl⟩ := mp_form hmp
  have hbx : MBox w (w.alloc (.cells #[.int .i64 m.wd, .int .i64 m.ht, .slice p1 m.rise.length c1, .slice p2 m.cost.length c2] 26)) w.heap.size m (.slice p1 m.rise.length c1) (.slice p2 m.cost.length c2) := mbox
  clear hmp h
  go_enter Try.func22, Try.ntmps22
  go_wp2_with fail
  refine (containsFunc_ints 40 #[.pointer (some ⟨w.heap.size, 0, none⟩)] (fun n => !openB m n) v l _ (by with_reducible (repeat (first | exact hs.out | refine World.sl_ext intC_length ?_ _ | refine sl_alloc intC_length ?_ _ | refine sl_drew ?_))) hl (fun _ _ => by kernel_rfl) (fun n d => canRoute1_any m _ _ n w.heap.size _ (mp_up (hm.out) (by repeat (first | with_reducible (first | exact World.gained_refl _ | exact ⟨_, rfl⟩ | apply gain_ext | apply gain_alloc | apply gain_drewN | apply gain_drew) | (refine gain_setCell ?_ (by first | exact Nat.le_refl _ | exact World.size_ext _ _ | (simp; done) | (simp; omega)) _)))) (cell_ext hbx.c0 _) (cell_ext hbx.c1 _) (cell_ext hbx.c2 _) (cell_ext hbx.c3 _))).mono ?_
  rintro e w1 ⟨rfl, d1, rfl⟩
  go_wp2
  go_ret
  exact ⟨rfl, (by repeat (first | with_reducible (first | exact World.gained_refl _ | exact ⟨_, rfl⟩ | apply gain_ext | apply gain_alloc | apply gain_drewN | apply gain_drew) | (refine gain_setCell ?_ (by first | exact Nat.le_refl _ | exact World.size_ext _ _ | (simp; done) | (simp; omega)) _)))⟩
theorem l4ToAt (m : Mp) (rv cv : Value) (W H a b : Nat) (w : World) (hok : MapOk m W H) (h : w.mp rv cv m) (ha : a < m.cost.length) (hb : b < m.cost.length) :
    Calls Try.prog 26 #[.agg #[.int .i64 m.wd, .int .i64 m.ht, rv, cv], .int .i64 b] w fun x w' => ∃ g cap, x = .returned (.slice (some ⟨g, 0, none⟩) m.cost.length cap) ∧ (∃ d, w' = w.ext d) ∧ w'.cell? ⟨g, a, none⟩ = some (.int .i64 (tZ m a b)) := by
  refine (l4To_any m rv cv W H b w hok h hb).mono fun x w' ⟨v, h1, h2, hv⟩ => ?_
  have hlen := (times_inv hok hb).len
  obtain ⟨g, cap, rfl, _, _⟩ := own_addr hv (by rw [sE_length, hlen]; omega)
  rw [sE_length, hlen] at hv h1
  obtain ⟨t0, _⟩ := own_at hv (k := a) (by rw [sE_length, hlen]; exact ha)
  refine ⟨g, cap, h1, h2, t0.trans ?_⟩
  rw [List.getD_eq_getElem?_getD, List.getElem?_eq_getElem (by rw [sE_length, hlen]; exact ha), Option.getD_some, sE_get _ (by rw [hlen]; exact ha)]
  rfl
set_option maxHeartbeats 1000000 in
theorem l4Asked_any (m : Mp) (rv cv : Value) (a b : Int) (w : World) (hmp : w.mp rv cv m) :
    Calls Try.prog 25 #[.agg #[.int .i64 m.wd, .int .i64 m.ht, rv, cv], .int .i64 a, .int .i64 b] w fun x w' => x = .returned (.bool (openB m a && openB m b)) ∧ ∃ d, w' = w.ext d := by
  have hm := Lib.hid hmp
  obtain ⟨p1, c1, p2, c2, rfl, rfl⟩ := mp_form hmp
  have HMP := Lib.hid (fun W hW => l2Map_any m (.slice p1 m.rise.length c1) (.slice p2 m.cost.length c2) W hW)
  cases hB : mapB m with
  | false =>
    have hA : openB m a = false := by simp [openB, cellB, hB]
    rw [hB] at HMP
    rw [hA, Bool.false_and]
    clear hB hA
    go_enter Try.func25, Try.ntmps25
    go_wp2_with (go_at_call 32; refine (HMP.out _ (mp_up (hm.out) (by repeat (first | with_reducible (first | exact World.gained_refl _ | exact ⟨_, rfl⟩ | apply gain_ext | apply gain_alloc | apply gain_drewN | apply gain_drew) | (refine gain_setCell ?_ (by first | exact Nat.le_refl _ | exact World.size_ext _ _ | (simp; done) | (simp; omega)) _))))).mono ?_; rintro e w1 ⟨rfl, d1, rfl⟩)
    go_ret
    exact ⟨rfl, (by repeat (first | with_reducible (first | exact World.gained_refl _ | exact ⟨_, rfl⟩ | apply gain_ext | apply gain_alloc | apply gain_drewN | apply gain_drew) | (refine gain_setCell ?_ (by first | exact Nat.le_refl _ | exact World.size_ext _ _ | (simp; done) | (simp; omega)) _)))⟩
  | true =>
    have HOP := Lib.hid (fun c W hW => l2Open_any m (.slice p1 m.rise.length c1) (.slice p2 m.cost.length c2) c W hW hB)
    rw [hB] at HMP
    have HOA := Lib.hid (HOP.out a)
    have HOB := Lib.hid (HOP.out b)
    clear HOP
    generalize openB m a = A at HOA ⊢
    generalize openB m b = B at HOB ⊢
    cases A <;> cases B <;>
    · go_enter Try.func25, Try.ntmps25
      go_wp2_with (first | (go_at_call 32; refine (HMP.out _ (mp_up (hm.out) (by repeat (first | with_reducible (first | exact World.gained_refl _ | exact ⟨_, rfl⟩ | apply gain_ext | apply gain_alloc | apply gain_drewN | apply gain_drew) | (refine gain_setCell ?_ (by first | exact Nat.le_refl _ | exact World.size_ext _ _ | (simp; done) | (simp; omega)) _))))).mono ?_; rintro e w1 ⟨rfl, d1, rfl⟩) | (go_at_call 45; first | ((with_reducible refine (HOA.out _ (mp_up (hm.out) (by repeat (first | with_reducible (first | exact World.gained_refl _ | exact ⟨_, rfl⟩ | apply gain_ext | apply gain_alloc | apply gain_drewN | apply gain_drew) | (refine gain_setCell ?_ (by first | exact Nat.le_refl _ | exact World.size_ext _ _ | (simp; done) | (simp; omega)) _))))).mono ?_); rintro e w1 ⟨rfl, d1, rfl⟩) | ((with_reducible refine (HOB.out _ (mp_up (hm.out) (by repeat (first | with_reducible (first | exact World.gained_refl _ | exact ⟨_, rfl⟩ | apply gain_ext | apply gain_alloc | apply gain_drewN | apply gain_drew) | (refine gain_setCell ?_ (by first | exact Nat.le_refl _ | exact World.size_ext _ _ | (simp; done) | (simp; omega)) _))))).mono ?_); rintro e w1 ⟨rfl, d1, rfl⟩)))
      go_ret
      exact ⟨rfl, (by repeat (first | with_reducible (first | exact World.gained_refl _ | exact ⟨_, rfl⟩ | apply gain_ext | apply gain_alloc | apply gain_drewN | apply gain_drew) | (refine gain_setCell ?_ (by first | exact Nat.le_refl _ | exact World.size_ext _ _ | (simp; done) | (simp; omega)) _)))⟩
set_option maxHeartbeats 2000000 in
theorem leastTimeF_any (m : Mp) (rv cv : Value) (a b : Int) (w : World) (hmp : w.mp rv cv m) :
    Calls Try.prog 9 #[.agg #[.int .i64 m.wd, .int .i64 m.ht, rv, cv], .int .i64 a, .int .i64 b] w fun x w' => x = .returned (.tuple #[.int .i64 (leastI m a b), .bool (goB m a b)]) ∧ ∃ d, w' = w.ext d := by
  have hm := Lib.hid hmp
  obtain ⟨p1, c1, p2, c2, rfl, rfl⟩ := mp_form hmp
  have HCN := Lib.hid (fun W v hW hv => by have := canRoute_any m (.slice p1 m.rise.length c1) (.slice p2 m.cost.length c2) v [a, b] W hW hv (by simp); rw [can2] at this; exact this)
  clear hmp
  cases hO : (openB m a && openB m b) with
  | false =>
    obtain ⟨e1, e2, _⟩ := goB_no hO
    rw [hO] at HCN
    rw [e1, e2]
    clear e1 e2 hO
    go_enter Try.func9, Try.ntmps9
    go_wp2_with (go_at_call 22; refine (HCN.out _ _ (mp_up (hm.out) (by repeat (first | with_reducible (first | exact World.gained_refl _ | exact ⟨_, rfl⟩ | apply gain_ext | apply gain_alloc | apply gain_drewN | apply gain_drew) | (refine gain_setCell ?_ (by first | exact Nat.le_refl _ | exact World.size_ext _ _ | (simp; done) | (simp; omega)) _)))) (sl_lit (l := [a, b]) intC_length rfl (by simp))).mono ?_; rintro e w1 ⟨rfl, d1, rfl⟩)
    go_ret2
    exact ⟨rfl, (by repeat (first | with_reducible (first | exact World.gained_refl _ | exact ⟨_, rfl⟩ | apply gain_ext | apply gain_alloc | apply gain_drewN | apply gain_drew) | (refine gain_setCell ?_ (by first | exact Nat.le_refl _ | exact World.size_ext _ _ | (simp; done) | (simp; omega)) _)))⟩
  | true =>
    obtain ⟨A, B, rfl, rfl, hA, hB, WW, HH, hok⟩ := two_open hO
    have HE := Lib.hid (goB_eq hO)
    have HI : Hid (leastI m A B = if goB m A B then timeB m A B else 0) := Lib.hid rfl
    have HLT := Lib.hid (fun W hW => leastTime_any m (.slice p1 m.rise.length c1) (.slice p2 m.cost.length c2) WW HH A B W hok hW hA hB)
    have hi := (time_hi hok hB A).2
    rw [hO] at HCN
    rw [HI.out, HE.out]
    generalize timeB m A B = z at HLT hi ⊢
    clear hO hok HE HI
    by_cases hz : z < 1073741824
    · have hz1 : (z == 1073741824) = false := by simp; omega
      have hz2 : decide (z < 1073741824) = true := decide_eq_true hz
      rw [hz2]
      go_enter Try.func9, Try.ntmps9
      go_wp2_with (first | (go_at_call 22; refine (HCN.out _ _ (mp_up (hm.out) (by repeat (first | with_reducible (first | exact World.gained_refl _ | exact ⟨_, rfl⟩ | apply gain_ext | apply gain_alloc | apply gain_drewN | apply gain_drew) | (refine gain_setCell ?_ (by first | exact Nat.le_refl _ | exact World.size_ext _ _ | (simp; done) | (simp; omega)) _)))) (sl_lit (l := [(A : Int), (B : Int)]) intC_length rfl (by simp))).mono ?_; rintro e w1 ⟨rfl, d1, rfl⟩) | (go_at_call 23; refine (HLT.out _ (mp_up (hm.out) (by repeat (first | with_reducible (first | exact World.gained_refl _ | exact ⟨_, rfl⟩ | apply gain_ext | apply gain_alloc | apply gain_drewN | apply gain_drew) | (refine gain_setCell ?_ (by first | exact Nat.le_refl _ | exact World.size_ext _ _ | (simp; done) | (simp; omega)) _))))).mono ?_; rintro e w1 ⟨rfl, d1, rfl⟩))
      go_ret2
      exact ⟨by simp, (by repeat (first | with_reducible (first | exact World.gained_refl _ | exact ⟨_, rfl⟩ | apply gain_ext | apply gain_alloc | apply gain_drewN | apply gain_drew) | (refine gain_setCell ?_ (by first | exact Nat.le_refl _ | exact World.size_ext _ _ | (simp; done) | (simp; omega)) _)))⟩
    · have hz1 : (z == 1073741824) = true := by simp; omega
      have hz2 : decide (z < 1073741824) = false := decide_eq_false hz
      rw [hz2]
      go_enter Try.func9, Try.ntmps9
      go_wp2_with (first | (go_at_call 22; refine (HCN.out _ _ (mp_up (hm.out) (by repeat (first | with_reducible (first | exact World.gained_refl _ | exact ⟨_, rfl⟩ | apply gain_ext | apply gain_alloc | apply gain_drewN | apply gain_drew) | (refine gain_setCell ?_ (by first | exact Nat.le_refl _ | exact World.size_ext _ _ | (simp; done) | (simp; omega)) _)))) (sl_lit (l := [(A : Int), (B : Int)]) intC_length rfl (by simp))).mono ?_; rintro e w1 ⟨rfl, d1, rfl⟩) | (go_at_call 23; refine (HLT.out _ (mp_up (hm.out) (by repeat (first | with_reducible (first | exact World.gained_refl _ | exact ⟨_, rfl⟩ | apply gain_ext | apply gain_alloc | apply gain_drewN | apply gain_drew) | (refine gain_setCell ?_ (by first | exact Nat.le_refl _ | exact World.size_ext _ _ | (simp; done) | (simp; omega)) _))))).mono ?_; rintro e w1 ⟨rfl, d1, rfl⟩))
      go_ret2
      exact ⟨by simp, (by repeat (first | with_reducible (first | exact World.gained_refl _ | exact ⟨_, rfl⟩ | apply gain_ext | apply gain_alloc | apply gain_drewN | apply gain_drew) | (refine gain_setCell ?_ (by first | exact Nat.le_refl _ | exact World.size_ext _ _ | (simp; done) | (simp; omega)) _)))⟩
set_option maxHeartbeats 2000000 in
theorem specLeastTime_any (m : Mp) (rv cv : Value) (a b : Int) (w : World) (hmp : w.mp rv cv m) :
    Calls Try.prog 10 #[.agg #[.int .i64 m.wd, .int .i64 m.ht, rv, cv], .int .i64 a, .int .i64 b] w fun x w' => x = .returned (.tuple #[.int .i64 (leastI m a b), .bool (goB m a b)]) ∧ ∃ d, w' = w.ext d := by
  have hm := Lib.hid hmp
  obtain ⟨p1, c1, p2, c2, rfl, rfl⟩ := mp_form hmp
  have HCN := Lib.hid (fun W hW => l4Asked_any m (.slice p1 m.rise.length c1) (.slice p2 m.cost.length c2) a b W hW)
  clear hmp
  cases hO : (openB m a && openB m b) with
  | false =>
    obtain ⟨e1, e2, _⟩ := goB_no hO
    rw [hO] at HCN
    rw [e1, e2]
    clear e1 e2 hO
    go_enter Try.func10, Try.ntmps10
    go_wp2_with (go_at_call 25; refine (HCN.out _ (mp_up (hm.out) (by repeat (first | with_reducible (first | exact World.gained_refl _ | exact ⟨_, rfl⟩ | apply gain_ext | apply gain_alloc | apply gain_drewN | apply gain_drew) | (refine gain_setCell ?_ (by first | exact Nat.le_refl _ | exact World.size_ext _ _ | (simp; done) | (simp; omega)) _))))).mono ?_; rintro e w1 ⟨rfl, d1, rfl⟩)
    go_ret2
    exact ⟨rfl, (by repeat (first | with_reducible (first | exact World.gained_refl _ | exact ⟨_, rfl⟩ | apply gain_ext | apply gain_alloc | apply gain_drewN | apply gain_drew) | (refine gain_setCell ?_ (by first | exact Nat.le_refl _ | exact World.size_ext _ _ | (simp; done) | (simp; omega)) _)))⟩
  | true =>
    obtain ⟨A, B, rfl, rfl, hA, hB, WW, HH, hok⟩ := two_open hO
    have HE := Lib.hid (goB_eq hO)
    have HI : Hid (leastI m A B = if goB m A B then timeB m A B else 0) := Lib.hid rfl
    have HLT := Lib.hid (fun W hW => l4ToAt m (.slice p1 m.rise.length c1) (.slice p2 m.cost.length c2) WW HH A B W hok hW hA hB)
    have HZY := Lib.hid (fun h => tZ_yes (m := m) (a := A) (b := B) h)
    have HZN := Lib.hid (fun h => tZ_no (a := A) hok hB h)
    have hlo := (time_hi hok hB A).1
    rw [hO] at HCN
    rw [HI.out, HE.out]
    generalize timeB m A B = z at HZY HZN hlo ⊢
    clear hO hok HE HI
    by_cases hz : z < 1073741824
    · have hz2 : decide (z < 1073741824) = true := decide_eq_true hz
      have hz1 : decide (z < 0) = false := decide_eq_false (by omega)
      rw [HZY.out hz] at HLT
      rw [hz2]
      clear HZY HZN
      go_enter Try.func10, Try.ntmps10
      go_wp2_with (first | (go_at_call 25; refine (HCN.out _ (mp_up (hm.out) (by repeat (first | with_reducible (first | exact World.gained_refl _ | exact ⟨_, rfl⟩ | apply gain_ext | apply gain_alloc | apply gain_drewN | apply gain_drew) | (refine gain_setCell ?_ (by first | exact Nat.le_refl _ | exact World.size_ext _ _ | (simp; done) | (simp; omega)) _))))).mono ?_; rintro e w1 ⟨rfl, d1, rfl⟩) | (go_at_call 26; refine (HLT.out _ (mp_up (hm.out) (by repeat (first | with_reducible (first | exact World.gained_refl _ | exact ⟨_, rfl⟩ | apply gain_ext | apply gain_alloc | apply gain_drewN | apply gain_drew) | (refine gain_setCell ?_ (by first | exact Nat.le_refl _ | exact World.size_ext _ _ | (simp; done) | (simp; omega)) _))))).mono ?_; rintro e w1 ⟨g, cap, rfl, ⟨d1, rfl⟩, tc⟩; have obg := World.oldB_of_cell tc))
      go_ret2
      exact ⟨by simp, (by repeat (first | with_reducible (first | exact World.gained_refl _ | exact ⟨_, rfl⟩ | apply gain_ext | apply gain_alloc | apply gain_drewN | apply gain_drew) | (refine gain_setCell ?_ (by first | exact Nat.le_refl _ | exact World.size_ext _ _ | (simp; done) | (simp; omega)) _)))⟩
    · have hz2 : decide (z < 1073741824) = false := decide_eq_false hz
      rw [HZN.out hz] at HLT
      rw [hz2]
      clear HZY HZN
      go_enter Try.func10, Try.ntmps10
      go_wp2_with (first | (go_at_call 25; refine (HCN.out _ (mp_up (hm.out) (by repeat (first | with_reducible (first | exact World.gained_refl _ | exact ⟨_, rfl⟩ | apply gain_ext | apply gain_alloc | apply gain_drewN | apply gain_drew) | (refine gain_setCell ?_ (by first | exact Nat.le_refl _ | exact World.size_ext _ _ | (simp; done) | (simp; omega)) _))))).mono ?_; rintro e w1 ⟨rfl, d1, rfl⟩) | (go_at_call 26; refine (HLT.out _ (mp_up (hm.out) (by repeat (first | with_reducible (first | exact World.gained_refl _ | exact ⟨_, rfl⟩ | apply gain_ext | apply gain_alloc | apply gain_drewN | apply gain_drew) | (refine gain_setCell ?_ (by first | exact Nat.le_refl _ | exact World.size_ext _ _ | (simp; done) | (simp; omega)) _))))).mono ?_; rintro e w1 ⟨g, cap, rfl, ⟨d1, rfl⟩, tc⟩; have obg := World.oldB_of_cell tc))
      go_ret2
      exact ⟨by simp, (by repeat (first | with_reducible (first | exact World.gained_refl _ | exact ⟨_, rfl⟩ | apply gain_ext | apply gain_alloc | apply gain_drewN | apply gain_drew) | (refine gain_setCell ?_ (by first | exact Nat.le_refl _ | exact World.size_ext _ _ | (simp; done) | (simp; omega)) _)))⟩
end Go.Proofs.Ytfpobghllfoijaa
