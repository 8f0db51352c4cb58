/- impl.VariantCount, spec.VariantCount. Condition: a size of at most 1048576. -/
import Derived.Test.YtlofdpbdnkcnkaaL9Good
import Derived.Test.YtlofdpbdnkcnkaaInfoInt
namespace Go.Ori
def at3 (l : List (List (List Int))) (t G K : Nat) : Int := ((l.getD t []).getD G []).getD K 0
theorem at3_eq {l : List (List (List Int))} {t G K : Nat} (h1 : t < l.length) (h2 : G < l[t].length) (h3 : K < l[t][G].length) : at3 l t G K = l[t][G][K] := by
  unfold at3
  simp [List.getElem?_eq_getElem h1, List.getElem?_eq_getElem h2, List.getElem?_eq_getElem h3]
/-- How often each of L variants was run by the first k teams. -/
def vcN (l : List (List (List Int))) (L G K : Nat) : Nat → List Int
  | 0 => List.replicate L 0
  | k + 1 => (vcN l L G K k).set (at3 l k G K).toNat ((vcN l L G K k).getD (at3 l k G K).toNat 0 + 1)
theorem vcN_length (l : List (List (List Int))) (L G K k : Nat) : (vcN l L G K k).length = L := by
  induction k with
  | zero => simp [vcN]
  | succ k ih => rw [vcN, List.length_set, ih]
theorem vcN_bd (l : List (List (List Int))) (L G K k i : Nat) : 0 ≤ (vcN l L G K k).getD i 0 ∧ (vcN l L G K k).getD i 0 ≤ k := by
  induction k generalizing i with
  | zero =>
    rw [vcN, List.getD_eq_getElem?_getD, List.getElem?_replicate]
    split <;> simp
  | succ k ih =>
    rw [vcN, List.getD_eq_getElem?_getD, List.getElem?_set]
    have h1 := ih i
    have h2 := ih (at3 l k G K).toNat
    rw [List.getD_eq_getElem?_getD] at h1
    split
    · split
      · simp only [Option.getD_some]; omega
      · simp; omega
    · omega
def vcB (l : List (List (List Int))) (legs forks leg fork : Int) : Bool := planB l legs forks && insB leg 0 (legs - 1) && insB fork 0 (forks - 1)
def vcL (l : List (List (List Int))) (legs forks leg fork : Int) : List Int := if vcB l legs forks leg fork then vcN l legs.toNat leg.toNat fork.toNat l.length else []
theorem vcL_length (l : List (List (List Int))) (legs forks leg fork : Int) : (vcL l legs forks leg fork).length ≤ 1048576 := by
  unfold vcL
  split
  · rename_i h
    simp only [vcB, Bool.and_eq_true] at h
    obtain ⟨L, F, rfl, rfl, a1, a2, _⟩ := planB_true h.1.1
    rw [vcN_length]
    simp only [Int.toNat_natCast]
    omega
  · simp
theorem vc_no {l : List (List (List Int))} {legs forks leg fork : Int} (h : vcB l legs forks leg fork = false) : vcL l legs forks leg fork = [] ∧ vcB l legs forks leg fork = false := by simp [vcL, h]
end Go.Ori
namespace Go.Proofs.Ytlofdpbdnkcnkaa
open Go.RowKit Go.Ori
set_option maxHeartbeats 2000000 in
theorem variantCount_any (v : Value) (l : List (List (List Int))) (legs forks leg fork : Int) (w : World) (h : w.sl3 v l) (hT : tot3 l ≤ 1048576) :
    Calls Try.prog 25 #[v, .int .i64 legs, .int .i64 forks, .int .i64 leg, .int .i64 fork] w fun x w' => ∃ r, x = .returned (.tuple #[r, .bool (vcB l legs forks leg fork)]) ∧ (∃ d, w' = w.ext d) ∧ w'.own w.heap.size 3 intC 1 r (vcL l legs forks leg fork) := by
  have hs := Lib.hid h
  have hl : l.length ≤ 1048576 := by have := tot3_len l; omega
  obtain ⟨p, c, rfl⟩ := sl3_form h
  clear h
  have HG := Lib.hid (fun W hW => isPlanOf_any (.slice p l.length c) l legs forks W hW hT)
  cases hP : planB l legs forks with
  | false =>
    have HE := Lib.hid (vc_no (l := l) (legs := legs) (forks := forks) (leg := leg) (fork := fork) (by simp [vcB, hP]))
    go_enter Try.func25, Try.ntmps25
    go_wp2_with (first | (go_at_call 14; refine (HG.out _ (sl3_up hs.out (by repeat (first | with_reducible (first | exact World.gained_refl _ | exact ⟨_, rfl⟩ | apply gain_ext | apply gain_alloc | apply gain_drewN | apply gain_drew) | (refine gain_setCell ?_ (by first | exact Nat.le_refl _ | exact World.size_ext _ _ | (simp; done) | (simp; omega)) _))))).mono ?_; rintro e w1 ⟨rfl, d1, rfl⟩) | (go_at_call 51; refine (inside_any _ _ _ _).mono ?_; rintro e w1 ⟨rfl, rfl⟩))
    go_ret2
    rw [HE.out.1, HE.out.2]
    exact ⟨_, rfl, (by repeat (first | with_reducible (first | exact World.gained_refl _ | exact ⟨_, rfl⟩ | apply gain_ext | apply gain_alloc | apply gain_drewN | apply gain_drew) | (refine gain_setCell ?_ (by first | exact Nat.le_refl _ | exact World.size_ext _ _ | (simp; done) | (simp; omega)) _))), own_nil _ _ _ _ _⟩
  | true =>
  obtain ⟨L, F, rfl, rfl, a1, a2, a3, a4, a5, hall⟩ := planB_true hP
  have HALL := Lib.hid hall
  clear hall
  cases hA : insB leg 0 ((L : Int) - 1) with
  | false =>
    have HE := Lib.hid (vc_no (l := l) (legs := L) (forks := F) (leg := leg) (fork := fork) (by simp [vcB, hA]))
    go_enter Try.func25, Try.ntmps25
    go_wp2_with (first | (go_at_call 14; refine (HG.out _ (sl3_up hs.out (by repeat (first | with_reducible (first | exact World.gained_refl _ | exact ⟨_, rfl⟩ | apply gain_ext | apply gain_alloc | apply gain_drewN | apply gain_drew) | (refine gain_setCell ?_ (by first | exact Nat.le_refl _ | exact World.size_ext _ _ | (simp; done) | (simp; omega)) _))))).mono ?_; rintro e w1 ⟨rfl, d1, rfl⟩) | (go_at_call 51; refine (inside_any _ _ _ _).mono ?_; rintro e w1 ⟨rfl, rfl⟩))
    go_ret2
    rw [HE.out.1, HE.out.2]
    exact ⟨_, rfl, (by repeat (first | with_reducible (first | exact World.gained_refl _ | exact ⟨_, rfl⟩ | apply gain_ext | apply gain_alloc | apply gain_drewN | apply gain_drew) | (refine gain_setCell ?_ (by first | exact Nat.le_refl _ | exact World.size_ext _ _ | (simp; done) | (simp; omega)) _))), own_nil _ _ _ _ _⟩
  | true =>
  cases hB : insB fork 0 ((F : Int) - 1) with
  | false =>
    have HE := Lib.hid (vc_no (l := l) (legs := L) (forks := F) (leg := leg) (fork := fork) (by simp [vcB, hB]))
    go_enter Try.func25, Try.ntmps25
    go_wp2_with (first | (go_at_call 14; refine (HG.out _ (sl3_up hs.out (by repeat (first | with_reducible (first | exact World.gained_refl _ | exact ⟨_, rfl⟩ | apply gain_ext | apply gain_alloc | apply gain_drewN | apply gain_drew) | (refine gain_setCell ?_ (by first | exact Nat.le_refl _ | exact World.size_ext _ _ | (simp; done) | (simp; omega)) _))))).mono ?_; rintro e w1 ⟨rfl, d1, rfl⟩) | (go_at_call 51; refine (inside_any _ _ _ _).mono ?_; rintro e w1 ⟨rfl, rfl⟩))
    go_ret2
    rw [HE.out.1, HE.out.2]
    exact ⟨_, rfl, (by repeat (first | with_reducible (first | exact World.gained_refl _ | exact ⟨_, rfl⟩ | apply gain_ext | apply gain_alloc | apply gain_drewN | apply gain_drew) | (refine gain_setCell ?_ (by first | exact Nat.le_refl _ | exact World.size_ext _ _ | (simp; done) | (simp; omega)) _))), own_nil _ _ _ _ _⟩
  | true =>
    have hLB : vcB l L F leg fork = true := by simp [vcB, hP, hA, hB]
    have hA' := insB_true.1 hA
    have hB' := insB_true.1 hB
    obtain ⟨G, rfl⟩ : ∃ n : Nat, leg = n := ⟨leg.toNat, by omega⟩
    obtain ⟨K, rfl⟩ : ∃ n : Nat, fork = n := ⟨fork.toNat, by omega⟩
    have hGl : G < L := by omega
    have hKl : K < F := by omega
    clear hA' hB'
    have HE : Hid (vcL l L F G K = vcN l L G K l.length ∧ vcB l L F G K = true) := Lib.hid ⟨by rw [vcL, if_pos hLB]; simp, hLB⟩
    have hmk := fun w => run_make_rows (P := Try.prog) Try.underlying28 info_int L (by omega) (by omega) w
    clear hLB
    go_enter Try.func25, Try.ntmps25
    go_wp2_with (first | (go_at_call 14; refine (HG.out _ (sl3_up hs.out (by repeat (first | with_reducible (first | exact World.gained_refl _ | exact ⟨_, rfl⟩ | apply gain_ext | apply gain_alloc | apply gain_drewN | apply gain_drew) | (refine gain_setCell ?_ (by first | exact Nat.le_refl _ | exact World.size_ext _ _ | (simp; done) | (simp; omega)) _))))).mono ?_; rintro e w1 ⟨rfl, d1, rfl⟩) | (go_at_call 51; refine (inside_any _ _ _ _).mono ?_; rintro e w1 ⟨rfl, rfl⟩))
    clear hmk hP hA hB
    go_loopw [38] (fun i wr => ∃ k : Nat, k ≤ l.length ∧ i = .int .i64 k ∧ (∃ d, wr = w.ext d) ∧ wr.heap[(w.ext d1).heap.size]? = some (.cells ((vcN l L G K k).map (Value.int .i64)).toArray 3 (0, 0))) (fun i _ => l.length - (intOf i).toNat)
    case atStart => exact ⟨0, by omega, rfl, gain_alloc ⟨_, rfl⟩ _, by rw [heap_alloc_new, made_ints]; simp [vcN]⟩
    case round =>
      obtain ⟨k, hk, rfl, ⟨d, rfl⟩, hC⟩ := hrel
      have hnew := World.newB_of_heap hC
      have HCC := Lib.hid hC
      by_cases hlt : k < l.length
      · have hak := HALL.out k hlt
        obtain ⟨b0, o0, rfl⟩ := slOf_some hs.out (by omega)
        obtain ⟨u, c0, hu⟩ := slOf_at hs.out hlt
        have hG2 : G < l[k].length := by omega
        have hK2 : K < l[k][G].length := by rw [(hak.2 G hG2).1]; exact hKl
        have hbd := (hak.2 G hG2).2 K hK2
        have HA := at3_eq hlt hG2 hK2
        obtain ⟨p1, c1, rfl⟩ := sl2_form hu
        obtain ⟨b1, o1, rfl⟩ := slOf_some hu (by omega)
        obtain ⟨u1, e1, hu1⟩ := slOf_at hu hG2
        obtain ⟨p2, c2, rfl⟩ := sl1_form hu1
        obtain ⟨b2, o2, rfl⟩ := sl_some hu1 (by omega)
        have e2 := sl_int hu1 hK2
        generalize l[k][G][K] = n at hbd HA e2
        clear hak hu hu1
        generalize l[k][G].length = n2 at hK2 e1
        generalize l[k].length = n1 at hG2 c0
        obtain ⟨V, rfl⟩ : ∃ m : Nat, n = m := ⟨n.toNat, by omega⟩
        have hVl : V < L := by omega
        have HS : Hid (vcN l L G K (k + 1) = (vcN l L G K k).set V ((vcN l L G K k).getD V 0 + 1)) := Lib.hid (by rw [vcN, HA]; rfl)
        have hmb := vcN_bd l L G K k V
        have t0 : (w.ext d).cell? ⟨(w.ext d1).heap.size, V, none⟩ = some (.int .i64 ((vcN l L G K k).getD V 0)) := by
          rw [World.cell_of_heap hC]
          have : V < (vcN l L G K k).length := by rw [vcN_length]; exact hVl
          simp [List.getD_eq_getElem?_getD, List.getElem?_eq_getElem this]
        have z0 : (w.ext d).frozen? ⟨(w.ext d1).heap.size, V, none⟩ = false := World.free_of_heap hC V
        have ob0 := World.oldB_of_cell c0
        have ob1 := World.oldB_of_cell e1
        have ob2 := World.oldB_of_cell e2
        obtain ⟨hm1, hm2⟩ := hmb
        generalize (vcN l L G K k).getD V 0 = m at t0 hm1 hm2 HS
        clear hC HA hbd
        go_wp2
        go_roundw
        case rel =>
          refine ⟨k + 1, by omega, by go_num, gain_setCell ⟨_, rfl⟩ (World.size_ext w d1) _, ?_⟩
          rw [World.heap_setCell_row HCC.out, setInts, HS.out]
        case measure => simp [intOf]; omega
      · clear hC
        go_wp2
        go_ret2
        obtain rfl : k = l.length := by omega
        rw [HE.out.1, HE.out.2]
        have hlen := vcN_length l L G K l.length
        have ho := own_ints (base := w.heap.size) HCC.out (World.size_ext w d1) (by rw [hlen]; omega)
        rw [hlen] at ho
        exact ⟨_, rfl, ⟨_, rfl⟩, ho⟩
set_option maxHeartbeats 2000000 in
theorem specVariantCount_any (v : Value) (l : List (List (List Int))) (legs forks leg fork : Int) (w : World) (h : w.sl3 v l) (hT : tot3 l ≤ 1048576) :
    Calls Try.prog 26 #[v, .int .i64 legs, .int .i64 forks, .int .i64 leg, .int .i64 fork] w fun x w' => ∃ r, x = .returned (.tuple #[r, .bool (vcB l legs forks leg fork)]) ∧ (∃ d, w' = w.ext d) ∧ w'.own w.heap.size 3 intC 1 r (vcL l legs forks leg fork) := by
  have hs := Lib.hid h
  have hl : l.length ≤ 1048576 := by have := tot3_len l; omega
  obtain ⟨p, c, rfl⟩ := sl3_form h
  clear h
  have HG := Lib.hid (fun W hW => l9Good_any (.slice p l.length c) l legs forks W hW hT)
  cases hP : planB l legs forks with
  | false =>
    have HE := Lib.hid (vc_no (l := l) (legs := legs) (forks := forks) (leg := leg) (fork := fork) (by simp [vcB, hP]))
    go_enter Try.func26, Try.ntmps26
    go_wp2_with (first | (go_at_call 45; refine (HG.out _ (sl3_up hs.out (by repeat (first | with_reducible (first | exact World.gained_refl _ | exact ⟨_, rfl⟩ | apply gain_ext | apply gain_alloc | apply gain_drewN | apply gain_drew) | (refine gain_setCell ?_ (by first | exact Nat.le_refl _ | exact World.size_ext _ _ | (simp; done) | (simp; omega)) _))))).mono ?_; rintro e w1 ⟨rfl, d1, rfl⟩) | (go_at_call 57; refine (l1In_any _ _ _ _).mono ?_; rintro e w1 ⟨rfl, rfl⟩))
    go_ret2
    rw [HE.out.1, HE.out.2]
    exact ⟨_, rfl, (by repeat (first | with_reducible (first | exact World.gained_refl _ | exact ⟨_, rfl⟩ | apply gain_ext | apply gain_alloc | apply gain_drewN | apply gain_drew) | (refine gain_setCell ?_ (by first | exact Nat.le_refl _ | exact World.size_ext _ _ | (simp; done) | (simp; omega)) _))), own_lit' (l := ([] : List Int)) intC_length rfl rfl (gain_size (by repeat (first | with_reducible (first | exact World.gained_refl _ | exact ⟨_, rfl⟩ | apply gain_ext | apply gain_alloc | apply gain_drewN | apply gain_drew) | (refine gain_setCell ?_ (by first | exact Nat.le_refl _ | exact World.size_ext _ _ | (simp; done) | (simp; omega)) _))))⟩
  | true =>
  obtain ⟨L, F, rfl, rfl, a1, a2, a3, a4, a5, hall⟩ := planB_true hP
  have HALL := Lib.hid hall
  clear hall
  cases hA : insB leg 0 ((L : Int) - 1) with
  | false =>
    have HE := Lib.hid (vc_no (l := l) (legs := L) (forks := F) (leg := leg) (fork := fork) (by simp [vcB, hA]))
    go_enter Try.func26, Try.ntmps26
    go_wp2_with (first | (go_at_call 45; refine (HG.out _ (sl3_up hs.out (by repeat (first | with_reducible (first | exact World.gained_refl _ | exact ⟨_, rfl⟩ | apply gain_ext | apply gain_alloc | apply gain_drewN | apply gain_drew) | (refine gain_setCell ?_ (by first | exact Nat.le_refl _ | exact World.size_ext _ _ | (simp; done) | (simp; omega)) _))))).mono ?_; rintro e w1 ⟨rfl, d1, rfl⟩) | (go_at_call 57; refine (l1In_any _ _ _ _).mono ?_; rintro e w1 ⟨rfl, rfl⟩))
    go_ret2
    rw [HE.out.1, HE.out.2]
    exact ⟨_, rfl, (by repeat (first | with_reducible (first | exact World.gained_refl _ | exact ⟨_, rfl⟩ | apply gain_ext | apply gain_alloc | apply gain_drewN | apply gain_drew) | (refine gain_setCell ?_ (by first | exact Nat.le_refl _ | exact World.size_ext _ _ | (simp; done) | (simp; omega)) _))), own_lit' (l := ([] : List Int)) intC_length rfl rfl (gain_size (by repeat (first | with_reducible (first | exact World.gained_refl _ | exact ⟨_, rfl⟩ | apply gain_ext | apply gain_alloc | apply gain_drewN | apply gain_drew) | (refine gain_setCell ?_ (by first | exact Nat.le_refl _ | exact World.size_ext _ _ | (simp; done) | (simp; omega)) _))))⟩
  | true =>
  cases hB : insB fork 0 ((F : Int) - 1) with
  | false =>
    have HE := Lib.hid (vc_no (l := l) (legs := L) (forks := F) (leg := leg) (fork := fork) (by simp [vcB, hB]))
    go_enter Try.func26, Try.ntmps26
    go_wp2_with (first | (go_at_call 45; refine (HG.out _ (sl3_up hs.out (by repeat (first | with_reducible (first | exact World.gained_refl _ | exact ⟨_, rfl⟩ | apply gain_ext | apply gain_alloc | apply gain_drewN | apply gain_drew) | (refine gain_setCell ?_ (by first | exact Nat.le_refl _ | exact World.size_ext _ _ | (simp; done) | (simp; omega)) _))))).mono ?_; rintro e w1 ⟨rfl, d1, rfl⟩) | (go_at_call 57; refine (l1In_any _ _ _ _).mono ?_; rintro e w1 ⟨rfl, rfl⟩))
    go_ret2
    rw [HE.out.1, HE.out.2]
    exact ⟨_, rfl, (by repeat (first | with_reducible (first | exact World.gained_refl _ | exact ⟨_, rfl⟩ | apply gain_ext | apply gain_alloc | apply gain_drewN | apply gain_drew) | (refine gain_setCell ?_ (by first | exact Nat.le_refl _ | exact World.size_ext _ _ | (simp; done) | (simp; omega)) _))), own_lit' (l := ([] : List Int)) intC_length rfl rfl (gain_size (by repeat (first | with_reducible (first | exact World.gained_refl _ | exact ⟨_, rfl⟩ | apply gain_ext | apply gain_alloc | apply gain_drewN | apply gain_drew) | (refine gain_setCell ?_ (by first | exact Nat.le_refl _ | exact World.size_ext _ _ | (simp; done) | (simp; omega)) _))))⟩
  | true =>
    have hLB : vcB l L F leg fork = true := by simp [vcB, hP, hA, hB]
    have hA' := insB_true.1 hA
    have hB' := insB_true.1 hB
    obtain ⟨G, rfl⟩ : ∃ n : Nat, leg = n := ⟨leg.toNat, by omega⟩
    obtain ⟨K, rfl⟩ : ∃ n : Nat, fork = n := ⟨fork.toNat, by omega⟩
    have hGl : G < L := by omega
    have hKl : K < F := by omega
    clear hA' hB'
    have HE : Hid (vcL l L F G K = vcN l L G K l.length ∧ vcB l L F G K = true) := Lib.hid ⟨by rw [vcL, if_pos hLB]; simp, hLB⟩
    have hmk := fun w => run_make_rows (P := Try.prog) Try.underlying28 info_int L (by omega) (by omega) w
    clear hLB
    go_enter Try.func26, Try.ntmps26
    go_wp2_with (first | (go_at_call 45; refine (HG.out _ (sl3_up hs.out (by repeat (first | with_reducible (first | exact World.gained_refl _ | exact ⟨_, rfl⟩ | apply gain_ext | apply gain_alloc | apply gain_drewN | apply gain_drew) | (refine gain_setCell ?_ (by first | exact Nat.le_refl _ | exact World.size_ext _ _ | (simp; done) | (simp; omega)) _))))).mono ?_; rintro e w1 ⟨rfl, d1, rfl⟩) | (go_at_call 57; refine (l1In_any _ _ _ _).mono ?_; rintro e w1 ⟨rfl, rfl⟩))
    clear hmk hP hA hB
    go_loopw [13] (fun i wr => ∃ k : Nat, k ≤ l.length ∧ i = .int .i64 k ∧ (∃ d, wr = w.ext d) ∧ wr.heap[(w.ext d1).heap.size]? = some (.cells ((vcN l L G K k).map (Value.int .i64)).toArray 3 (0, 0))) (fun i _ => l.length - (intOf i).toNat)
    case atStart => exact ⟨0, by omega, rfl, gain_alloc ⟨_, rfl⟩ _, by rw [heap_alloc_new, made_ints]; simp [vcN]⟩
    case round =>
      obtain ⟨k, hk, rfl, ⟨d, rfl⟩, hC⟩ := hrel
      have hnew := World.newB_of_heap hC
      have HCC := Lib.hid hC
      by_cases hlt : k < l.length
      · have hak := HALL.out k hlt
        obtain ⟨b0, o0, rfl⟩ := slOf_some hs.out (by omega)
        obtain ⟨u, c0, hu⟩ := slOf_at hs.out hlt
        have hG2 : G < l[k].length := by omega
        have hK2 : K < l[k][G].length := by rw [(hak.2 G hG2).1]; exact hKl
        have hbd := (hak.2 G hG2).2 K hK2
        have HA := at3_eq hlt hG2 hK2
        obtain ⟨p1, c1, rfl⟩ := sl2_form hu
        obtain ⟨b1, o1, rfl⟩ := slOf_some hu (by omega)
        obtain ⟨u1, e1, hu1⟩ := slOf_at hu hG2
        obtain ⟨p2, c2, rfl⟩ := sl1_form hu1
        obtain ⟨b2, o2, rfl⟩ := sl_some hu1 (by omega)
        have e2 := sl_int hu1 hK2
        generalize l[k][G][K] = n at hbd HA e2
        clear hak hu hu1
        generalize l[k][G].length = n2 at hK2 e1
        generalize l[k].length = n1 at hG2 c0
        obtain ⟨V, rfl⟩ : ∃ m : Nat, n = m := ⟨n.toNat, by omega⟩
        have hVl : V < L := by omega
        have HS : Hid (vcN l L G K (k + 1) = (vcN l L G K k).set V ((vcN l L G K k).getD V 0 + 1)) := Lib.hid (by rw [vcN, HA]; rfl)
        have hmb := vcN_bd l L G K k V
        have t0 : (w.ext d).cell? ⟨(w.ext d1).heap.size, V, none⟩ = some (.int .i64 ((vcN l L G K k).getD V 0)) := by
          rw [World.cell_of_heap hC]
          have : V < (vcN l L G K k).length := by rw [vcN_length]; exact hVl
          simp [List.getD_eq_getElem?_getD, List.getElem?_eq_getElem this]
        have z0 : (w.ext d).frozen? ⟨(w.ext d1).heap.size, V, none⟩ = false := World.free_of_heap hC V
        have ob0 := World.oldB_of_cell c0
        have ob1 := World.oldB_of_cell e1
        have ob2 := World.oldB_of_cell e2
        obtain ⟨hm1, hm2⟩ := hmb
        generalize (vcN l L G K k).getD V 0 = m at t0 hm1 hm2 HS
        clear hC HA hbd
        go_wp2
        go_roundw
        case rel =>
          refine ⟨k + 1, by omega, by go_num, gain_setCell ⟨_, rfl⟩ (World.size_ext w d1) _, ?_⟩
          rw [World.heap_setCell_row HCC.out, setInts, HS.out]
        case measure => simp [intOf]; omega
      · clear hC
        go_wp2
        go_ret2
        obtain rfl : k = l.length := by omega
        rw [HE.out.1, HE.out.2]
        have hlen := vcN_length l L G K l.length
        have ho := own_ints (base := w.heap.size) HCC.out (World.size_ext w d1) (by rw [hlen]; omega)
        rw [hlen] at ho
        exact ⟨_, rfl, ⟨_, rfl⟩, ho⟩
end Go.Proofs.Ytlofdpbdnkcnkaa
