/- impl.SameForks, spec.SameForks. Condition: a size of at most 1048576. -/
import Derived.Test.YtlofdpbdnkcnkaaL9Good
namespace Go.Ori
theorem getR {α : Type} {l : List α} {k : Nat} (h : k < l.length) : l[k]? = some l[k] := List.getElem?_eq_getElem h
/-- In how many of the first k places two rows are alike. -/
def sameN (x y : List Int) : Nat → Nat
  | 0 => 0
  | k + 1 => sameN x y k + if x.getD k 0 = y.getD k 0 then 1 else 0
theorem sameN_le (x y : List Int) (k : Nat) : sameN x y k ≤ k := by
  induction k with
  | zero => exact Nat.le_refl _
  | succ k ih => unfold sameN; split <;> omega
def legB (l : List (List (List Int))) (legs forks a b leg : Int) : Bool := planB l legs forks && insB a 0 ((l.length : Int) - 1) && insB b 0 ((l.length : Int) - 1) && insB leg 0 (legs - 1)
def sameI (l : List (List (List Int))) (legs forks a b leg : Int) : Int :=
  if legB l legs forks a b leg then ((sameN ((l.getD a.toNat []).getD leg.toNat []) ((l.getD b.toNat []).getD leg.toNat []) forks.toNat : Nat) : Int) else 0
theorem same_no {l : List (List (List Int))} {legs forks a b leg : Int} (h : legB l legs forks a b leg = false) : sameI l legs forks a b leg = 0 ∧ legB l legs forks a b leg = false := by simp [sameI, h]
end Go.Ori
namespace Go.Proofs.Ytlofdpbdnkcnkaa
open Go.RowKit Go.Ori
set_option maxHeartbeats 2000000 in
theorem sameForks_any (v : Value) (l : List (List (List Int))) (legs forks a b leg : Int) (w : World) (h : w.sl3 v l) (hT : tot3 l ≤ 1048576) :
    Calls Try.prog 29 #[v, .int .i64 legs, .int .i64 forks, .int .i64 a, .int .i64 b, .int .i64 leg] w fun x w' => x = .returned (.tuple #[.int .i64 (sameI l legs forks a b leg), .bool (legB l legs forks a b leg)]) ∧ ∃ d, w' = w.ext d := by
  have hs := Lib.hid h
  have hl : l.length ≤ 1048576 := by have := tot3_len l; omega
  obtain ⟨p, c, rfl⟩ := sl3_form h
  clear h
  cases hP : planB l legs forks with
  | false =>
    have HE := Lib.hid (same_no (l := l) (legs := legs) (forks := forks) (a := a) (b := b) (leg := leg) (by simp [legB, hP]))
    go_enter Try.func29, Try.ntmps29
    go_wp2_with (first | (go_at_call 14; refine (isPlanOf_any _ l _ _ _ (sl3_up hs.out (by repeat (first | with_reducible (first | exact World.gained_refl _ | exact ⟨_, rfl⟩ | apply gain_ext | apply gain_alloc | apply gain_drewN | apply gain_drew) | (refine gain_setCell ?_ (by first | exact Nat.le_refl _ | exact World.size_ext _ _ | (simp; done) | (simp; omega)) _)))) hT).mono ?_; rintro e w1 ⟨rfl, d1, rfl⟩) | (go_at_call 51; refine (inside_any _ _ _ _).mono ?_; rintro e w1 ⟨rfl, rfl⟩))
    go_ret2
    rw [HE.out.1, HE.out.2]
    exact ⟨rfl, (by repeat (first | with_reducible (first | exact World.gained_refl _ | exact ⟨_, rfl⟩ | apply gain_ext | apply gain_alloc | apply gain_drewN | apply gain_drew) | (refine gain_setCell ?_ (by first | exact Nat.le_refl _ | exact World.size_ext _ _ | (simp; done) | (simp; omega)) _)))⟩
  | true =>
  obtain ⟨L, F, rfl, rfl, a1, a2, a3, a4, a5, hall⟩ := planB_true hP
  have HALL := Lib.hid hall
  clear hall
  cases hA : insB a 0 ((l.length : Int) - 1) with
  | false =>
    have HE := Lib.hid (same_no (l := l) (legs := L) (forks := F) (a := a) (b := b) (leg := leg) (by simp [legB, hA]))
    go_enter Try.func29, Try.ntmps29
    go_wp2_with (first | (go_at_call 14; refine (isPlanOf_any _ l _ _ _ (sl3_up hs.out (by repeat (first | with_reducible (first | exact World.gained_refl _ | exact ⟨_, rfl⟩ | apply gain_ext | apply gain_alloc | apply gain_drewN | apply gain_drew) | (refine gain_setCell ?_ (by first | exact Nat.le_refl _ | exact World.size_ext _ _ | (simp; done) | (simp; omega)) _)))) hT).mono ?_; rintro e w1 ⟨rfl, d1, rfl⟩) | (go_at_call 51; refine (inside_any _ _ _ _).mono ?_; rintro e w1 ⟨rfl, rfl⟩))
    go_ret2
    rw [HE.out.1, HE.out.2]
    exact ⟨rfl, (by repeat (first | with_reducible (first | exact World.gained_refl _ | exact ⟨_, rfl⟩ | apply gain_ext | apply gain_alloc | apply gain_drewN | apply gain_drew) | (refine gain_setCell ?_ (by first | exact Nat.le_refl _ | exact World.size_ext _ _ | (simp; done) | (simp; omega)) _)))⟩
  | true =>
  cases hB : insB b 0 ((l.length : Int) - 1) with
  | false =>
    have HE := Lib.hid (same_no (l := l) (legs := L) (forks := F) (a := a) (b := b) (leg := leg) (by simp [legB, hB]))
    go_enter Try.func29, Try.ntmps29
    go_wp2_with (first | (go_at_call 14; refine (isPlanOf_any _ l _ _ _ (sl3_up hs.out (by repeat (first | with_reducible (first | exact World.gained_refl _ | exact ⟨_, rfl⟩ | apply gain_ext | apply gain_alloc | apply gain_drewN | apply gain_drew) | (refine gain_setCell ?_ (by first | exact Nat.le_refl _ | exact World.size_ext _ _ | (simp; done) | (simp; omega)) _)))) hT).mono ?_; rintro e w1 ⟨rfl, d1, rfl⟩) | (go_at_call 51; refine (inside_any _ _ _ _).mono ?_; rintro e w1 ⟨rfl, rfl⟩))
    go_ret2
    rw [HE.out.1, HE.out.2]
    exact ⟨rfl, (by repeat (first | with_reducible (first | exact World.gained_refl _ | exact ⟨_, rfl⟩ | apply gain_ext | apply gain_alloc | apply gain_drewN | apply gain_drew) | (refine gain_setCell ?_ (by first | exact Nat.le_refl _ | exact World.size_ext _ _ | (simp; done) | (simp; omega)) _)))⟩
  | true =>
  cases hG : insB leg 0 ((L : Int) - 1) with
  | false =>
    have HE := Lib.hid (same_no (l := l) (legs := L) (forks := F) (a := a) (b := b) (leg := leg) (by simp [legB, hG]))
    go_enter Try.func29, Try.ntmps29
    go_wp2_with (first | (go_at_call 14; refine (isPlanOf_any _ l _ _ _ (sl3_up hs.out (by repeat (first | with_reducible (first | exact World.gained_refl _ | exact ⟨_, rfl⟩ | apply gain_ext | apply gain_alloc | apply gain_drewN | apply gain_drew) | (refine gain_setCell ?_ (by first | exact Nat.le_refl _ | exact World.size_ext _ _ | (simp; done) | (simp; omega)) _)))) hT).mono ?_; rintro e w1 ⟨rfl, d1, rfl⟩) | (go_at_call 51; refine (inside_any _ _ _ _).mono ?_; rintro e w1 ⟨rfl, rfl⟩))
    go_ret2
    rw [HE.out.1, HE.out.2]
    exact ⟨rfl, (by repeat (first | with_reducible (first | exact World.gained_refl _ | exact ⟨_, rfl⟩ | apply gain_ext | apply gain_alloc | apply gain_drewN | apply gain_drew) | (refine gain_setCell ?_ (by first | exact Nat.le_refl _ | exact World.size_ext _ _ | (simp; done) | (simp; omega)) _)))⟩
  | true =>
    have hLB : legB l L F a b leg = true := by simp [legB, hP, hA, hB, hG]
    have hA' := insB_true.1 hA
    have hB' := insB_true.1 hB
    have hG' := insB_true.1 hG
    obtain ⟨A, rfl⟩ : ∃ n : Nat, a = n := ⟨a.toNat, by omega⟩
    obtain ⟨B, rfl⟩ : ∃ n : Nat, b = n := ⟨b.toNat, by omega⟩
    obtain ⟨G, rfl⟩ : ∃ n : Nat, leg = n := ⟨leg.toNat, by omega⟩
    have hAl : A < l.length := by omega
    have hBl : B < l.length := by omega
    have hGl : G < L := by omega
    clear hA' hB' hG'
    obtain ⟨b0, o0, rfl⟩ := slOf_some hs.out (by omega)
    obtain ⟨u, c0, hu⟩ := slOf_at hs.out hAl
    obtain ⟨u', c0', hu'⟩ := slOf_at hs.out hBl
    have hra := HALL.out A hAl
    have hrb := HALL.out B hBl
    have HI : Hid (sameI l L F A B G = ((sameN (l[A].getD G []) (l[B].getD G []) F : Nat) : Int)) := Lib.hid (by rw [sameI, if_pos hLB]; simp [List.getD_eq_getElem?_getD, List.getElem?_eq_getElem hAl, List.getElem?_eq_getElem hBl])
    generalize l[A] = ra at hu hra HI
    generalize l[B] = rb at hu' hrb HI
    obtain ⟨pa, ca, rfl⟩ := sl2_form hu
    obtain ⟨pb, cb, rfl⟩ := sl2_form hu'
    have hal := hra.1
    have hbl := hrb.1
    obtain ⟨b1, o1, rfl⟩ := slOf_some hu (by omega)
    obtain ⟨b2, o2, rfl⟩ := slOf_some hu' (by omega)
    obtain ⟨v1, c1, hv1⟩ := slOf_at hu (k := G) (by omega)
    obtain ⟨v2, c2, hv2⟩ := slOf_at hu' (k := G) (by omega)
    have hxa := (hra.2 G (by omega)).1
    have hxb := (hrb.2 G (by omega)).1
    rw [List.getD_eq_getElem?_getD, List.getD_eq_getElem?_getD, List.getElem?_eq_getElem (by omega : G < ra.length), List.getElem?_eq_getElem (by omega : G < rb.length)] at HI
    simp only [Option.getD_some] at HI
    generalize ra[G]'(by omega) = x at hv1 hxa HI
    generalize rb[G]'(by omega) = y at hv2 hxb HI
    obtain ⟨px, cx, rfl⟩ := sl1_form hv1
    obtain ⟨py, cy, rfl⟩ := sl1_form hv2
    have HX := Lib.hid hv1
    have HY := Lib.hid hv2
    have ob0 := World.oldB_of_cell c0
    have ob1 := World.oldB_of_cell c1
    have ob2 := World.oldB_of_cell c2
    have HLB := Lib.hid hLB
    clear hu hu' hra hrb hv1 hv2 hLB
    go_enter Try.func29, Try.ntmps29
    go_wp2_with (first | (go_at_call 14; refine (isPlanOf_any _ l _ _ _ (sl3_up hs.out (by repeat (first | with_reducible (first | exact World.gained_refl _ | exact ⟨_, rfl⟩ | apply gain_ext | apply gain_alloc | apply gain_drewN | apply gain_drew) | (refine gain_setCell ?_ (by first | exact Nat.le_refl _ | exact World.size_ext _ _ | (simp; done) | (simp; omega)) _)))) hT).mono ?_; rintro e w1 ⟨rfl, d1, rfl⟩) | (go_at_call 51; refine (inside_any _ _ _ _).mono ?_; rintro e w1 ⟨rfl, rfl⟩))
    clear hP hA hB hG
    go_loopw [14, 53] (fun s i wr => ∃ k : Nat, k ≤ x.length ∧ i = .int .i64 k ∧ s = .int .i64 (sameN x y k : Nat) ∧ ∃ d, wr = w.ext d) (fun _ i _ => x.length - (intOf i).toNat)
    case atStart => exact ⟨0, by omega, rfl, rfl, (by repeat (first | with_reducible (first | exact World.gained_refl _ | exact ⟨_, rfl⟩ | apply gain_ext | apply gain_alloc | apply gain_drewN | apply gain_drew) | (refine gain_setCell ?_ (by first | exact Nat.le_refl _ | exact World.size_ext _ _ | (simp; done) | (simp; omega)) _)))⟩
    case round =>
      obtain ⟨k, hk, rfl, rfl, d, rfl⟩ := hrel
      by_cases hlt : k < x.length
      · skip
        obtain ⟨b3, o3, rfl⟩ := sl_some HX.out (by omega)
        obtain ⟨b4, o4, rfl⟩ := sl_some HY.out (by omega)
        have c3 := sl_int HX.out (k := k) (by omega)
        have c4 := sl_int HY.out (k := k) (by omega)
        have ob3 := World.oldB_of_cell c3
        have ob4 := World.oldB_of_cell c4
        have HS : Hid (sameN x y (k + 1) = sameN x y k + if (x[k]'(by omega)) = (y[k]'(by omega)) then 1 else 0) := Lib.hid (by rw [sameN, List.getD_eq_getElem?_getD, List.getD_eq_getElem?_getD, List.getElem?_eq_getElem (by omega : k < x.length), List.getElem?_eq_getElem (by omega : k < y.length)]; rfl)
        generalize x[k]'(by omega) = m at c3 HS
        generalize y[k]'(by omega) = n at c4 HS
        have hle := sameN_le x y k
        by_cases he : m = n
        · subst he
          have HS' : Hid (sameN x y (k + 1) = sameN x y k + 1) := Lib.hid (by rw [HS.out, if_pos rfl])
          go_wp2
          go_roundw
          case rel => exact ⟨k + 1, by omega, by go_num, by rw [HS'.out]; simp, _, rfl⟩
          case measure => simp [intOf]; omega
        · have HS' : Hid (sameN x y (k + 1) = sameN x y k) := Lib.hid (by rw [HS.out, if_neg he]; rfl)
          go_wp2
          go_roundw
          case rel => exact ⟨k + 1, by omega, by go_num, by rw [HS'.out], _, rfl⟩
          case measure => simp [intOf]; omega
      · go_wp2
        go_ret2
        have hkk : k = F := by omega
        rw [HI.out, HLB.out, hkk]
        exact ⟨rfl, _, rfl⟩
set_option maxHeartbeats 2000000 in
theorem specSameForks_any (v : Value) (l : List (List (List Int))) (legs forks a b leg : Int) (w : World) (h : w.sl3 v l) (hT : tot3 l ≤ 1048576) :
    Calls Try.prog 30 #[v, .int .i64 legs, .int .i64 forks, .int .i64 a, .int .i64 b, .int .i64 leg] w fun x w' => x = .returned (.tuple #[.int .i64 (sameI l legs forks a b leg), .bool (legB l legs forks a b leg)]) ∧ ∃ d, w' = w.ext d := by
  have hs := Lib.hid h
  have hl : l.length ≤ 1048576 := by have := tot3_len l; omega
  obtain ⟨p, c, rfl⟩ := sl3_form h
  clear h
  cases hP : planB l legs forks with
  | false =>
    have HE := Lib.hid (same_no (l := l) (legs := legs) (forks := forks) (a := a) (b := b) (leg := leg) (by simp [legB, hP]))
    go_enter Try.func30, Try.ntmps30
    go_wp2_with (first | (go_at_call 45; refine (l9Good_any _ l _ _ _ (sl3_up hs.out (by repeat (first | with_reducible (first | exact World.gained_refl _ | exact ⟨_, rfl⟩ | apply gain_ext | apply gain_alloc | apply gain_drewN | apply gain_drew) | (refine gain_setCell ?_ (by first | exact Nat.le_refl _ | exact World.size_ext _ _ | (simp; done) | (simp; omega)) _)))) hT).mono ?_; rintro e w1 ⟨rfl, d1, rfl⟩) | (go_at_call 57; refine (l1In_any _ _ _ _).mono ?_; rintro e w1 ⟨rfl, rfl⟩))
    go_ret2
    rw [HE.out.1, HE.out.2]
    exact ⟨rfl, (by repeat (first | with_reducible (first | exact World.gained_refl _ | exact ⟨_, rfl⟩ | apply gain_ext | apply gain_alloc | apply gain_drewN | apply gain_drew) | (refine gain_setCell ?_ (by first | exact Nat.le_refl _ | exact World.size_ext _ _ | (simp; done) | (simp; omega)) _)))⟩
  | true =>
  obtain ⟨L, F, rfl, rfl, a1, a2, a3, a4, a5, hall⟩ := planB_true hP
  have HALL := Lib.hid hall
  clear hall
  cases hA : insB a 0 ((l.length : Int) - 1) with
  | false =>
    have HE := Lib.hid (same_no (l := l) (legs := L) (forks := F) (a := a) (b := b) (leg := leg) (by simp [legB, hA]))
    go_enter Try.func30, Try.ntmps30
    go_wp2_with (first | (go_at_call 45; refine (l9Good_any _ l _ _ _ (sl3_up hs.out (by repeat (first | with_reducible (first | exact World.gained_refl _ | exact ⟨_, rfl⟩ | apply gain_ext | apply gain_alloc | apply gain_drewN | apply gain_drew) | (refine gain_setCell ?_ (by first | exact Nat.le_refl _ | exact World.size_ext _ _ | (simp; done) | (simp; omega)) _)))) hT).mono ?_; rintro e w1 ⟨rfl, d1, rfl⟩) | (go_at_call 57; refine (l1In_any _ _ _ _).mono ?_; rintro e w1 ⟨rfl, rfl⟩))
    go_ret2
    rw [HE.out.1, HE.out.2]
    exact ⟨rfl, (by repeat (first | with_reducible (first | exact World.gained_refl _ | exact ⟨_, rfl⟩ | apply gain_ext | apply gain_alloc | apply gain_drewN | apply gain_drew) | (refine gain_setCell ?_ (by first | exact Nat.le_refl _ | exact World.size_ext _ _ | (simp; done) | (simp; omega)) _)))⟩
  | true =>
  cases hB : insB b 0 ((l.length : Int) - 1) with
  | false =>
    have HE := Lib.hid (same_no (l := l) (legs := L) (forks := F) (a := a) (b := b) (leg := leg) (by simp [legB, hB]))
    go_enter Try.func30, Try.ntmps30
    go_wp2_with (first | (go_at_call 45; refine (l9Good_any _ l _ _ _ (sl3_up hs.out (by repeat (first | with_reducible (first | exact World.gained_refl _ | exact ⟨_, rfl⟩ | apply gain_ext | apply gain_alloc | apply gain_drewN | apply gain_drew) | (refine gain_setCell ?_ (by first | exact Nat.le_refl _ | exact World.size_ext _ _ | (simp; done) | (simp; omega)) _)))) hT).mono ?_; rintro e w1 ⟨rfl, d1, rfl⟩) | (go_at_call 57; refine (l1In_any _ _ _ _).mono ?_; rintro e w1 ⟨rfl, rfl⟩))
    go_ret2
    rw [HE.out.1, HE.out.2]
    exact ⟨rfl, (by repeat (first | with_reducible (first | exact World.gained_refl _ | exact ⟨_, rfl⟩ | apply gain_ext | apply gain_alloc | apply gain_drewN | apply gain_drew) | (refine gain_setCell ?_ (by first | exact Nat.le_refl _ | exact World.size_ext _ _ | (simp; done) | (simp; omega)) _)))⟩
  | true =>
  cases hG : insB leg 0 ((L : Int) - 1) with
  | false =>
    have HE := Lib.hid (same_no (l := l) (legs := L) (forks := F) (a := a) (b := b) (leg := leg) (by simp [legB, hG]))
    go_enter Try.func30, Try.ntmps30
    go_wp2_with (first | (go_at_call 45; refine (l9Good_any _ l _ _ _ (sl3_up hs.out (by repeat (first | with_reducible (first | exact World.gained_refl _ | exact ⟨_, rfl⟩ | apply gain_ext | apply gain_alloc | apply gain_drewN | apply gain_drew) | (refine gain_setCell ?_ (by first | exact Nat.le_refl _ | exact World.size_ext _ _ | (simp; done) | (simp; omega)) _)))) hT).mono ?_; rintro e w1 ⟨rfl, d1, rfl⟩) | (go_at_call 57; refine (l1In_any _ _ _ _).mono ?_; rintro e w1 ⟨rfl, rfl⟩))
    go_ret2
    rw [HE.out.1, HE.out.2]
    exact ⟨rfl, (by repeat (first | with_reducible (first | exact World.gained_refl _ | exact ⟨_, rfl⟩ | apply gain_ext | apply gain_alloc | apply gain_drewN | apply gain_drew) | (refine gain_setCell ?_ (by first | exact Nat.le_refl _ | exact World.size_ext _ _ | (simp; done) | (simp; omega)) _)))⟩
  | true =>
    have hLB : legB l L F a b leg = true := by simp [legB, hP, hA, hB, hG]
    have hA' := insB_true.1 hA
    have hB' := insB_true.1 hB
    have hG' := insB_true.1 hG
    obtain ⟨A, rfl⟩ : ∃ n : Nat, a = n := ⟨a.toNat, by omega⟩
    obtain ⟨B, rfl⟩ : ∃ n : Nat, b = n := ⟨b.toNat, by omega⟩
    obtain ⟨G, rfl⟩ : ∃ n : Nat, leg = n := ⟨leg.toNat, by omega⟩
    have hAl : A < l.length := by omega
    have hBl : B < l.length := by omega
    have hGl : G < L := by omega
    clear hA' hB' hG'
    obtain ⟨b0, o0, rfl⟩ := slOf_some hs.out (by omega)
    obtain ⟨u, c0, hu⟩ := slOf_at hs.out hAl
    obtain ⟨u', c0', hu'⟩ := slOf_at hs.out hBl
    have hra := HALL.out A hAl
    have hrb := HALL.out B hBl
    have HI : Hid (sameI l L F A B G = ((sameN (l[A].getD G []) (l[B].getD G []) F : Nat) : Int)) := Lib.hid (by rw [sameI, if_pos hLB]; simp [List.getD_eq_getElem?_getD, List.getElem?_eq_getElem hAl, List.getElem?_eq_getElem hBl])
    generalize l[A] = ra at hu hra HI
    generalize l[B] = rb at hu' hrb HI
    obtain ⟨pa, ca, rfl⟩ := sl2_form hu
    obtain ⟨pb, cb, rfl⟩ := sl2_form hu'
    have hal := hra.1
    have hbl := hrb.1
    obtain ⟨b1, o1, rfl⟩ := slOf_some hu (by omega)
    obtain ⟨b2, o2, rfl⟩ := slOf_some hu' (by omega)
    obtain ⟨v1, c1, hv1⟩ := slOf_at hu (k := G) (by omega)
    obtain ⟨v2, c2, hv2⟩ := slOf_at hu' (k := G) (by omega)
    have hxa := (hra.2 G (by omega)).1
    have hxb := (hrb.2 G (by omega)).1
    rw [List.getD_eq_getElem?_getD, List.getD_eq_getElem?_getD, List.getElem?_eq_getElem (by omega : G < ra.length), List.getElem?_eq_getElem (by omega : G < rb.length)] at HI
    simp only [Option.getD_some] at HI
    generalize ra[G]'(by omega) = x at hv1 hxa HI
    generalize rb[G]'(by omega) = y at hv2 hxb HI
    obtain ⟨px, cx, rfl⟩ := sl1_form hv1
    obtain ⟨py, cy, rfl⟩ := sl1_form hv2
    have HX := Lib.hid hv1
    have HY := Lib.hid hv2
    have ob0 := World.oldB_of_cell c0
    have ob1 := World.oldB_of_cell c1
    have ob2 := World.oldB_of_cell c2
    have HLB := Lib.hid hLB
    clear hu hu' hra hrb hv1 hv2 hLB
    go_enter Try.func30, Try.ntmps30
    go_wp2_with (first | (go_at_call 45; refine (l9Good_any _ l _ _ _ (sl3_up hs.out (by repeat (first | with_reducible (first | exact World.gained_refl _ | exact ⟨_, rfl⟩ | apply gain_ext | apply gain_alloc | apply gain_drewN | apply gain_drew) | (refine gain_setCell ?_ (by first | exact Nat.le_refl _ | exact World.size_ext _ _ | (simp; done) | (simp; omega)) _)))) hT).mono ?_; rintro e w1 ⟨rfl, d1, rfl⟩) | (go_at_call 57; refine (l1In_any _ _ _ _).mono ?_; rintro e w1 ⟨rfl, rfl⟩))
    clear hP hA hB hG
    go_loopw [14, 15] (fun s i wr => ∃ k : Nat, k ≤ F ∧ i = .int .i64 k ∧ s = .int .i64 (sameN x y k : Nat) ∧ ∃ d, wr = w.ext d) (fun _ i _ => F - (intOf i).toNat)
    case atStart => exact ⟨0, by omega, rfl, rfl, (by repeat (first | with_reducible (first | exact World.gained_refl _ | exact ⟨_, rfl⟩ | apply gain_ext | apply gain_alloc | apply gain_drewN | apply gain_drew) | (refine gain_setCell ?_ (by first | exact Nat.le_refl _ | exact World.size_ext _ _ | (simp; done) | (simp; omega)) _)))⟩
    case round =>
      obtain ⟨k, hk, rfl, rfl, d, rfl⟩ := hrel
      by_cases hlt : k < F
      · skip
        obtain ⟨b3, o3, rfl⟩ := sl_some HX.out (by omega)
        obtain ⟨b4, o4, rfl⟩ := sl_some HY.out (by omega)
        have c3 := sl_int HX.out (k := k) (by omega)
        have c4 := sl_int HY.out (k := k) (by omega)
        have ob3 := World.oldB_of_cell c3
        have ob4 := World.oldB_of_cell c4
        have HS : Hid (sameN x y (k + 1) = sameN x y k + if (x[k]'(by omega)) = (y[k]'(by omega)) then 1 else 0) := Lib.hid (by rw [sameN, List.getD_eq_getElem?_getD, List.getD_eq_getElem?_getD, List.getElem?_eq_getElem (by omega : k < x.length), List.getElem?_eq_getElem (by omega : k < y.length)]; rfl)
        generalize x[k]'(by omega) = m at c3 HS
        generalize y[k]'(by omega) = n at c4 HS
        have hle := sameN_le x y k
        by_cases he : m = n
        · subst he
          have HS' : Hid (sameN x y (k + 1) = sameN x y k + 1) := Lib.hid (by rw [HS.out, if_pos rfl])
          go_wp2
          refine wp_region_gain (by kernel_rfl) (by kernel_rfl) ?_
          repeat (first | go_big_quiet_skip | (go_big_quiet_want; go_big_quiet_op; first | go_big_quiet_on))
          refine wpQuiet_nil ?_
          rintro _ ⟨d', rfl⟩
          go_wp2
          go_roundw
          case rel => exact ⟨k + 1, by omega, by go_num, by rw [HS'.out]; simp, (by repeat (first | with_reducible (first | exact World.gained_refl _ | exact ⟨_, rfl⟩ | apply gain_ext | apply gain_alloc | apply gain_drewN | apply gain_drew) | (refine gain_setCell ?_ (by first | exact Nat.le_refl _ | exact World.size_ext _ _ | (simp; done) | (simp; omega)) _)))⟩
          case measure => simp [intOf]; omega
        · have HS' : Hid (sameN x y (k + 1) = sameN x y k) := Lib.hid (by rw [HS.out, if_neg he]; rfl)
          go_wp2
          refine wp_region_gain (by kernel_rfl) (by kernel_rfl) ?_
          repeat (first | go_big_quiet_skip | (go_big_quiet_want; go_big_quiet_op; first | go_big_quiet_on))
          refine wpQuiet_nil ?_
          rintro _ ⟨d', rfl⟩
          go_wp2
          go_roundw
          case rel => exact ⟨k + 1, by omega, by go_num, by rw [HS'.out], (by repeat (first | with_reducible (first | exact World.gained_refl _ | exact ⟨_, rfl⟩ | apply gain_ext | apply gain_alloc | apply gain_drewN | apply gain_drew) | (refine gain_setCell ?_ (by first | exact Nat.le_refl _ | exact World.size_ext _ _ | (simp; done) | (simp; omega)) _)))⟩
          case measure => simp [intOf]; omega
      · go_wp2
        go_ret2
        have hkk : k = F := by omega
        rw [HI.out, HLB.out, hkk]
        exact ⟨rfl, _, rfl⟩
end Go.Proofs.Ytlofdpbdnkcnkaa
