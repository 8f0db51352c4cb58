/- impl.ClassSizes, spec.ClassSizes. Condition: at most 1048576 entries. -/
import Derived.Test.YtbghmkjjooiikaaL11
import Derived.Test.YtbghmkjjooiikaaL1Put
import Derived.Test.YtbghmkjjooiikaaHas
import Derived.Test.YtbghmkjjooiikaaAppWhere
import Derived.Test.YtbghmkjjooiikaaOwnAt
namespace Go
open RowKit Go.Ori
theorem apart_where {α : Type} {X : World} {enc : α → List Value} {sz base : Nat} {e : TypeId} {u v v' : Value} {l : List α} (hap : Apart2 v u) (hw : v'.ownBlock = v.ownBlock ∨ v'.ownBlock = some X.heap.size) (hu : X.own base e enc sz u l) : Apart2 v' u := by
  intro b hb hb2
  rcases hw with h | h
  · exact hap b (h ▸ hb) hb2
  · rw [h] at hb
    injection hb with hb
    have := (own_lt hu b hb2).2
    omega
theorem apart_lits {w : World} : Apart2 (.slice (some ⟨w.heap.size, 0, none⟩) 0 0) (.slice (some ⟨w.heap.size + 1, 0, none⟩) 0 0) := by
  intro b h1 h2
  simp only [Value.ownBlock, Option.some.injEq] at h1 h2
  omega
theorem apart_nil (v : Value) (c : Nat) : Apart2 (.slice none 0 c) v := by
  intro b h1
  cases h1
end Go
namespace Go.Proofs.Ytbghmkjjooiikaa
open Go.RowKit Go.Ori
set_option maxHeartbeats 2000000 in
theorem classSizes_any (v : Value) (l : List Ent) (w : World) (h : w.sl Ent.cells 5 v l) (hl : l.length ≤ 1048576) :
    Calls Try.prog 72 #[v] w fun x w' => ∃ r1 r2, x = .returned (.tuple #[r1, r2, .bool (entsB l)]) ∧ (∃ d, w' = w.ext d) ∧ w'.own w.heap.size 3 intC 1 r1 (szCL l) ∧ w'.own w.heap.size 3 intC 1 r2 (szNL l) ∧ Apart2 r1 r2 := by
  have HG := Lib.hid (areEntries_any _ l _ h hl)
  have hs := Lib.hid h
  obtain ⟨p, c, rfl, _⟩ := h
  cases hc : entsB l with
  | false =>
    have e1 := Lib.hid (show szCL l = [] by simp [szCL, hc])
    have e2 := Lib.hid (show szNL l = [] by simp [szNL, hc])
    rw [hc] at HG
    clear hc
    go_enter Try.func72, Try.ntmps72
    go_wp2_with (go_at_call 131; refine HG.out.mono ?_; rintro e w1 ⟨rfl, d1, rfl⟩)
    go_ret3
    rw [e1.out, e2.out]
    exact ⟨_, _, rfl, ⟨_, rfl⟩, own_nil _ _ _ _ _, own_nil _ _ _ _ _, apart_nil _ _⟩
  | true =>
    have e1 := Lib.hid (show szCL l = szC l 99 by simp [szCL, hc])
    have e2 := Lib.hid (show szNL l = szN l 99 by simp [szNL, hc])
    rw [hc] at HG
    have hn := entsB_len hc
    clear hc
    go_enter Try.func72, Try.ntmps72
    go_wp2_with (go_at_call 131; refine HG.out.mono ?_; rintro e w1 ⟨rfl, d1, rfl⟩)
    go_loopw [5, 6, 7] (fun cv sv i wr => ∃ k : Nat, k ≤ 99 ∧ i = .int .i64 ((k : Int) + 1) ∧ (∃ d, wr = w.ext d) ∧ wr.own w.heap.size 3 intC 1 cv (szC l k) ∧ wr.own w.heap.size 3 intC 1 sv (szN l k) ∧ Apart2 cv sv) (fun _ _ i _ => 100 - (intOf i).toNat)
    case atStart => exact ⟨0, by omega, rfl, (by repeat (first | with_reducible (first | exact World.gained_refl _ | exact ⟨_, rfl⟩ | apply gain_ext | apply gain_alloc | apply gain_drewN | apply gain_drew) | (refine gain_setCell ?_ (by first | exact Nat.le_refl _ | exact World.size_ext _ _ | (simp; done) | (simp; omega)) _))), own_alloc (own_lit' (l := ([] : List Int)) intC_length rfl rfl (gain_size (by repeat (first | with_reducible (first | exact World.gained_refl _ | exact ⟨_, rfl⟩ | apply gain_ext | apply gain_alloc | apply gain_drewN | apply gain_drew) | (refine gain_setCell ?_ (by first | exact Nat.le_refl _ | exact World.size_ext _ _ | (simp; done) | (simp; omega)) _))))) _, own_lit' (l := ([] : List Int)) intC_length rfl (by simp [World.size_alloc]) (gain_size (by repeat (first | with_reducible (first | exact World.gained_refl _ | exact ⟨_, rfl⟩ | apply gain_ext | apply gain_alloc | apply gain_drewN | apply gain_drew) | (refine gain_setCell ?_ (by first | exact Nat.le_refl _ | exact World.size_ext _ _ | (simp; done) | (simp; omega)) _)))), apart_lits⟩
    case round =>
      obtain ⟨k, hk, rfl, ⟨d, rfl⟩, hcv, hsv, hap⟩ := hrel
      have HC := Lib.hid hcv
      have HSV := Lib.hid hsv
      have HAP := Lib.hid hap
      clear hcv hsv hap
      by_cases hlk : k < 99
      · have hkw : decide (((k : Int) + 1) ≤ 99) = true := decide_eq_true (by omega)
        obtain ⟨K, hK⟩ : ∃ K : Int, K = (k : Int) + 1 := ⟨_, rfl⟩
        have hK0 : 1 ≤ K := by omega
        have hK1 : K ≤ 99 := by omega
        have HKE := Lib.hid hK
        have HYC := Lib.hid (fun h => szC_yes (l := l) (k := k) h)
        have HYN := Lib.hid (fun h => szN_yes (l := l) (k := k) h)
        have HNC := Lib.hid (fun h => szC_no (l := l) (k := k) h)
        have HNN := Lib.hid (fun h => szN_no (l := l) (k := k) h)
        rw [← hK] at HYC HYN HNC HNN hkw ⊢
        clear hK
        go_wp2
        go_loopw [8, 22] (fun q i wr => ∃ j : Nat, j ≤ l.length ∧ i = .int .i64 j ∧ q = .int .i64 (cntK l K j : Nat) ∧ ∃ d', wr = (w.ext d).ext d') (fun _ i _ => l.length - (intOf i).toNat)
        case atStart => exact ⟨0, by omega, rfl, by rw [cntK_zero]; rfl, (by repeat (first | with_reducible (first | exact World.gained_refl _ | exact ⟨_, rfl⟩ | apply gain_ext | apply gain_alloc | apply gain_drewN | apply gain_drew) | (refine gain_setCell ?_ (by first | exact Nat.le_refl _ | exact World.size_ext _ _ | (simp; done) | (simp; omega)) _)))⟩
        case round =>
          obtain ⟨j, hj, rfl, rfl, d2, rfl⟩ := hrel
          have hcl := cntK_le l K j
          by_cases hlt : j < l.length
          · obtain ⟨b, o, rfl⟩ := sl_some hs.out (by omega)
            have hck := fun j' (hj' : j' < 5) => sl_cells hs.out hlt hj'
            have HS := Lib.hid (cntK_succ l K hlt)
            have c0 := hck 0 (by omega)
            have c1 := hck 1 (by omega)
            have c2 := hck 2 (by omega)
            have c3 := hck 3 (by omega)
            have c4 := hck 4 (by omega)
            generalize l[j] = e at c0 c1 c2 c3 c4 hck HS
            clear hck
            simp only [Ent.cells, List.getElem?_cons_zero, List.getElem?_cons_succ, Nat.add_zero] at c0 c1 c2 c3 c4
            have ob := World.oldB_of_cell c0
            cases hd : e.cls == K with
            | true =>
              rw [hd, if_pos rfl] at HS
              generalize cntK l K j = n at hcl HS
              go_wp2
              go_roundw
              case rel => exact ⟨j + 1, by omega, by go_num, by rw [HS.out]; go_num, (by repeat (first | with_reducible (first | exact World.gained_refl _ | exact ⟨_, rfl⟩ | apply gain_ext | apply gain_alloc | apply gain_drewN | apply gain_drew) | (refine gain_setCell ?_ (by first | exact Nat.le_refl _ | exact World.size_ext _ _ | (simp; done) | (simp; omega)) _)))⟩
              case measure => simp [intOf]; omega
            | false =>
              rw [hd, if_neg (by simp)] at HS
              generalize cntK l K j = n at hcl HS
              go_wp2
              go_roundw
              case rel => exact ⟨j + 1, by omega, by go_num, by rw [HS.out]; rfl, (by repeat (first | with_reducible (first | exact World.gained_refl _ | exact ⟨_, rfl⟩ | apply gain_ext | apply gain_alloc | apply gain_drewN | apply gain_drew) | (refine gain_setCell ?_ (by first | exact Nat.le_refl _ | exact World.size_ext _ _ | (simp; done) | (simp; omega)) _)))⟩
              case measure => simp [intOf]; omega
          · obtain rfl : j = l.length := by omega
            have HCC : Hid (cntK l K l.length = cntC l K) := Lib.hid rfl
            rw [HCC.out] at hcl ⊢
            clear HCC
            generalize cntC l K = n at hcl HYC HYN HNC HNN
            by_cases h0 : 0 < n
            · have hz : decide (0 < (n : Int)) = true := decide_eq_true (by omega)
              go_wp2_with (at_builtin; first | (refine wpList_append_where (W := w) (base := w.heap.size) (m := [K]) rfl (.tmp 35) (.tmp 37) rfl Try.underlying34 info_int (by rfl) (by omega) intC_length intC_one (by omega) (by repeat (first | with_reducible (first | exact World.gained_refl _ | exact ⟨_, rfl⟩ | apply gain_ext | apply gain_alloc | apply gain_drewN | apply gain_drew) | (refine gain_setCell ?_ (by first | exact Nat.le_refl _ | exact World.size_ext _ _ | (simp; done) | (simp; omega)) _))) (Nat.le_refl _) (gain_size (by repeat (first | with_reducible (first | exact World.gained_refl _ | exact ⟨_, rfl⟩ | apply gain_ext | apply gain_alloc | apply gain_drewN | apply gain_drew) | (refine gain_setCell ?_ (by first | exact Nat.le_refl _ | exact World.size_ext _ _ | (simp; done) | (simp; omega)) _)))) rfl rfl (own_up (HC.out) (by repeat (first | with_reducible (first | exact World.gained_refl _ | exact ⟨_, rfl⟩ | apply gain_ext | apply gain_alloc | apply gain_drewN | apply gain_drew) | (refine gain_setCell ?_ (by first | exact Nat.le_refl _ | exact World.size_ext _ _ | (simp; done) | (simp; omega)) _)))) (sl_lit (l := [K]) intC_length rfl (by rfl)) (by simp) (by have := szC_length l k; simp; omega) ?_; intro v1 d3 ho1 hg1 hw1) | (refine wpList_append_where (W := w) (base := w.heap.size) (m := [(n : Int)]) rfl (.tmp 39) (.tmp 41) rfl Try.underlying34 info_int (by rfl) (by omega) intC_length intC_one (by omega) (by repeat (first | with_reducible (first | exact World.gained_refl _ | exact ⟨_, rfl⟩ | apply gain_ext | apply gain_alloc | apply gain_drewN | apply gain_drew) | (refine gain_setCell ?_ (by first | exact Nat.le_refl _ | exact World.size_ext _ _ | (simp; done) | (simp; omega)) _))) (Nat.le_refl _) (gain_size (by repeat (first | with_reducible (first | exact World.gained_refl _ | exact ⟨_, rfl⟩ | apply gain_ext | apply gain_alloc | apply gain_drewN | apply gain_drew) | (refine gain_setCell ?_ (by first | exact Nat.le_refl _ | exact World.size_ext _ _ | (simp; done) | (simp; omega)) _)))) rfl rfl (own_up (own_mark (own_up HSV.out (by repeat (first | with_reducible (first | exact World.gained_refl _ | exact ⟨_, rfl⟩ | apply gain_ext | apply gain_alloc | apply gain_drewN | apply gain_drew)))) hg1 HAP.out.symm) (by repeat (first | with_reducible (first | exact World.gained_refl _ | exact ⟨_, rfl⟩ | apply gain_ext | apply gain_alloc | apply gain_drewN | apply gain_drew)))) (sl_lit (l := [(n : Int)]) intC_length rfl (by rfl)) (by simp) (by have := szN_length l k; simp; omega) ?_; intro v2 d4 ho2 hg2 hw2))
              have HS1 := Lib.hid (own_mark (own_up HSV.out (by repeat (first | with_reducible (first | exact World.gained_refl _ | exact ⟨_, rfl⟩ | apply gain_ext | apply gain_alloc | apply gain_drewN | apply gain_drew) | (refine gain_setCell ?_ (by first | exact Nat.le_refl _ | exact World.size_ext _ _ | (simp; done) | (simp; omega)) _)))) hg1 HAP.out.symm)
              have HP1 := Lib.hid (apart_where HAP.out hw1 (own_up HSV.out (by repeat (first | with_reducible (first | exact World.gained_refl _ | exact ⟨_, rfl⟩ | apply gain_ext | apply gain_alloc | apply gain_drewN | apply gain_drew) | (refine gain_setCell ?_ (by first | exact Nat.le_refl _ | exact World.size_ext _ _ | (simp; done) | (simp; omega)) _)))))
              have HC1 := Lib.hid ho1
              clear ho1 hg1 hw1
              have HC2 := Lib.hid (own_mark (own_up HC1.out (by repeat (first | with_reducible (first | exact World.gained_refl _ | exact ⟨_, rfl⟩ | apply gain_ext | apply gain_alloc | apply gain_drewN | apply gain_drew) | (refine gain_setCell ?_ (by first | exact Nat.le_refl _ | exact World.size_ext _ _ | (simp; done) | (simp; omega)) _)))) hg2 HP1.out)
              have HP2 := Lib.hid (apart_where HP1.out.symm hw2 (own_up HC1.out (by repeat (first | with_reducible (first | exact World.gained_refl _ | exact ⟨_, rfl⟩ | apply gain_ext | apply gain_alloc | apply gain_drewN | apply gain_drew) | (refine gain_setCell ?_ (by first | exact Nat.le_refl _ | exact World.size_ext _ _ | (simp; done) | (simp; omega)) _))))).symm
              go_roundw
              case rel => exact ⟨k + 1, by omega, by rw [HKE.out]; go_num, ⟨_, rfl⟩, by rw [HYC.out h0]; exact HC2.out, by rw [HYN.out h0]; exact ho2, HP2.out⟩
              case measure => have := HKE.out; simp [intOf]; omega
            · have hz : decide (0 < (n : Int)) = false := decide_eq_false (by omega)
              go_wp2
              go_roundw
              case rel => exact ⟨k + 1, by omega, by rw [HKE.out]; go_num, (by repeat (first | with_reducible (first | exact World.gained_refl _ | exact ⟨_, rfl⟩ | apply gain_ext | apply gain_alloc | apply gain_drewN | apply gain_drew) | (refine gain_setCell ?_ (by first | exact Nat.le_refl _ | exact World.size_ext _ _ | (simp; done) | (simp; omega)) _))), by rw [HNC.out h0]; exact (own_up (HC.out) (by repeat (first | with_reducible (first | exact World.gained_refl _ | exact ⟨_, rfl⟩ | apply gain_ext | apply gain_alloc | apply gain_drewN | apply gain_drew) | (refine gain_setCell ?_ (by first | exact Nat.le_refl _ | exact World.size_ext _ _ | (simp; done) | (simp; omega)) _)))), by rw [HNN.out h0]; exact (own_up (HSV.out) (by repeat (first | with_reducible (first | exact World.gained_refl _ | exact ⟨_, rfl⟩ | apply gain_ext | apply gain_alloc | apply gain_drewN | apply gain_drew) | (refine gain_setCell ?_ (by first | exact Nat.le_refl _ | exact World.size_ext _ _ | (simp; done) | (simp; omega)) _)))), HAP.out⟩
              case measure => have := HKE.out; simp [intOf]; omega
      · have hkw : decide (((k : Int) + 1) ≤ 99) = false := decide_eq_false (by omega)
        obtain rfl : k = 99 := by omega
        go_wp2
        go_ret3
        rw [e1.out, e2.out]
        exact ⟨_, _, rfl, ⟨_, rfl⟩, HC.out, HSV.out, HAP.out⟩
set_option maxHeartbeats 2000000 in
theorem specClassSizes_any (v : Value) (l : List Ent) (w : World) (h : w.sl Ent.cells 5 v l) (hl : l.length ≤ 1048576) :
    Calls Try.prog 70 #[v] w fun x w' => ∃ r1 r2, x = .returned (.tuple #[r1, r2, .bool (entsB l)]) ∧ (∃ d, w' = w.ext d) ∧ w'.own w.heap.size 3 intC 1 r1 (szCL l) ∧ w'.own w.heap.size 3 intC 1 r2 (szNL l) ∧ Apart2 r1 r2 := by
  have HG := Lib.hid (fun W hW => l11Good_any v l W hW hl)
  have hs := Lib.hid h
  obtain ⟨p, c, rfl, _⟩ := h
  cases hc : entsB l with
  | false =>
    have e1 := Lib.hid (show szCL l = [] by simp [szCL, hc])
    have e2 := Lib.hid (show szNL l = [] by simp [szNL, hc])
    rw [hc] at HG
    clear hc
    go_enter Try.func70, Try.ntmps70
    go_wp2_with (go_at_call 128; refine (HG.out _ (by with_reducible (repeat (first | exact hs.out | refine World.sl_ext Ent.cells_length ?_ _ | refine sl_alloc Ent.cells_length ?_ _ | refine sl_drew ?_)))).mono ?_; rintro e w1 ⟨rfl, d1, rfl⟩)
    go_ret3
    rw [e1.out, e2.out]
    exact ⟨_, _, rfl, (by repeat (first | with_reducible (first | exact World.gained_refl _ | exact ⟨_, rfl⟩ | apply gain_ext | apply gain_alloc | apply gain_drewN | apply gain_drew) | (refine gain_setCell ?_ (by first | exact Nat.le_refl _ | exact World.size_ext _ _ | (simp; done) | (simp; omega)) _))), own_up (own_alloc (own_lit' (w := w) (l := ([] : List Int)) intC_length rfl rfl (Nat.le_refl _)) _) (by repeat (first | with_reducible (first | exact World.gained_refl _ | exact ⟨_, rfl⟩ | apply gain_ext | apply gain_alloc | apply gain_drewN | apply gain_drew) | (refine gain_setCell ?_ (by first | exact Nat.le_refl _ | exact World.size_ext _ _ | (simp; done) | (simp; omega)) _))), own_up (own_lit' (w := w.alloc (.cells #[] 3)) (l := ([] : List Int)) intC_length rfl (by simp [World.size_alloc]) (by simp [World.size_alloc])) (by repeat (first | with_reducible (first | exact World.gained_refl _ | exact ⟨_, rfl⟩ | apply gain_ext | apply gain_alloc | apply gain_drewN | apply gain_drew) | (refine gain_setCell ?_ (by first | exact Nat.le_refl _ | exact World.size_ext _ _ | (simp; done) | (simp; omega)) _))), apart_lits⟩
  | true =>
    have e1 := Lib.hid (show szCL l = szC l 99 by simp [szCL, hc])
    have e2 := Lib.hid (show szNL l = szN l 99 by simp [szNL, hc])
    have HPA := Lib.hid (putK_all (entsB_cls hc))
    have HPK := Lib.hid (putK_spec l)
    rw [hc] at HG
    have hn := entsB_len hc
    clear hc
    go_enter Try.func70, Try.ntmps70
    go_wp2_with (go_at_call 128; refine (HG.out _ (by with_reducible (repeat (first | exact hs.out | refine World.sl_ext Ent.cells_length ?_ _ | refine sl_alloc Ent.cells_length ?_ _ | refine sl_drew ?_)))).mono ?_; rintro e w1 ⟨rfl, d1, rfl⟩)
    go_loopw [5, 7] (fun cv i wr => ∃ k g cap : Nat, k ≤ l.length ∧ i = .int .i64 k ∧ cv = .slice (some ⟨g, 0, none⟩) (putK l k).length cap ∧ (∃ d, wr = w.ext d) ∧ wr.own w.heap.size 3 intC 1 cv (putK l k) ∧ wr.own w.heap.size 3 intC 1 (.slice (some ⟨w.heap.size + 1, 0, none⟩) 0 0) [] ∧ Apart2 cv (.slice (some ⟨w.heap.size + 1, 0, none⟩) 0 0)) (fun _ i _ => l.length - (intOf i).toNat)
    case atStart => exact ⟨0, _, _, by omega, rfl, rfl, (by repeat (first | with_reducible (first | exact World.gained_refl _ | exact ⟨_, rfl⟩ | apply gain_ext | apply gain_alloc | apply gain_drewN | apply gain_drew) | (refine gain_setCell ?_ (by first | exact Nat.le_refl _ | exact World.size_ext _ _ | (simp; done) | (simp; omega)) _))), own_up (own_alloc (own_lit' (w := w) (l := ([] : List Int)) intC_length rfl rfl (Nat.le_refl _)) _) (by repeat (first | with_reducible (first | exact World.gained_refl _ | exact ⟨_, rfl⟩ | apply gain_ext | apply gain_alloc | apply gain_drewN | apply gain_drew) | (refine gain_setCell ?_ (by first | exact Nat.le_refl _ | exact World.size_ext _ _ | (simp; done) | (simp; omega)) _))), own_up (own_lit' (w := w.alloc (.cells #[] 3)) (l := ([] : List Int)) intC_length rfl (by simp [World.size_alloc]) (by simp [World.size_alloc])) (by repeat (first | with_reducible (first | exact World.gained_refl _ | exact ⟨_, rfl⟩ | apply gain_ext | apply gain_alloc | apply gain_drewN | apply gain_drew) | (refine gain_setCell ?_ (by first | exact Nat.le_refl _ | exact World.size_ext _ _ | (simp; done) | (simp; omega)) _))), apart_lits⟩
    case round =>
      obtain ⟨k, g, cap, hk, rfl, rfl, ⟨d, rfl⟩, hcv, hsv, hap⟩ := hrel
      have HC := Lib.hid hcv
      have HSV := Lib.hid hsv
      have HAP := Lib.hid hap
      clear hcv hsv hap
      by_cases hlt : k < l.length
      · obtain ⟨b, o, rfl⟩ := sl_some hs.out (by omega)
        have c1 := sl_cells hs.out hlt (j := 1) (by omega)
        have HS : Hid (putK l (k + 1) = if hasB (putK l k) l[k].cls then putK l k else putL (putK l k) l[k].cls) := Lib.hid (by rw [putK, List.getD_eq_getElem?_getD, List.getElem?_eq_getElem hlt]; rfl)
        have hpl := (HPK.out k hk).2.1
        generalize l[k] = e at c1 HS
        simp only [Ent.cells, List.getElem?_cons_zero, List.getElem?_cons_succ, Nat.add_zero] at c1
        have ob := World.oldB_of_cell c1
        generalize putK l k = L at HC HS hpl ⊢
        have HH := Lib.hid (fun W hW => l1Has_any (.slice (some ⟨g, 0, none⟩) L.length cap) L e.cls W hW (by omega))
        cases hb : hasB L e.cls with
        | true =>
          rw [hb] at HH
          rw [hb, if_pos rfl] at HS
          clear hb
          go_wp2_with (go_at_call 129; refine (HH.out _ (by with_reducible (repeat (first | exact sl_of_own intC_length HC.out | refine World.sl_ext intC_length ?_ _ | refine sl_alloc intC_length ?_ _ | refine sl_drew ?_)))).mono ?_; rintro e w1 ⟨rfl, d2, rfl⟩)
          go_roundw
          case rel => exact ⟨k + 1, g, cap, by omega, by go_num, by rw [HS.out], (by repeat (first | with_reducible (first | exact World.gained_refl _ | exact ⟨_, rfl⟩ | apply gain_ext | apply gain_alloc | apply gain_drewN | apply gain_drew) | (refine gain_setCell ?_ (by first | exact Nat.le_refl _ | exact World.size_ext _ _ | (simp; done) | (simp; omega)) _))), by rw [HS.out]; exact (own_up (HC.out) (by repeat (first | with_reducible (first | exact World.gained_refl _ | exact ⟨_, rfl⟩ | apply gain_ext | apply gain_alloc | apply gain_drewN | apply gain_drew) | (refine gain_setCell ?_ (by first | exact Nat.le_refl _ | exact World.size_ext _ _ | (simp; done) | (simp; omega)) _)))), (own_up (HSV.out) (by repeat (first | with_reducible (first | exact World.gained_refl _ | exact ⟨_, rfl⟩ | apply gain_ext | apply gain_alloc | apply gain_drewN | apply gain_drew) | (refine gain_setCell ?_ (by first | exact Nat.le_refl _ | exact World.size_ext _ _ | (simp; done) | (simp; omega)) _)))), HAP.out⟩
          case measure => simp [intOf]; omega
        | false =>
          rw [hb] at HH
          rw [hb, if_neg (by simp)] at HS
          have HB := Lib.hid hb
          clear hb
          go_wp2_with (go_at_call 129; refine (HH.out _ (by with_reducible (repeat (first | exact sl_of_own intC_length HC.out | refine World.sl_ext intC_length ?_ _ | refine sl_alloc intC_length ?_ _ | refine sl_drew ?_)))).mono ?_; rintro e w1 ⟨rfl, d2, rfl⟩)
          refine (l1Put_any g 0 cap L e.cls _ (by with_reducible (repeat (first | exact sl_of_own intC_length HC.out | refine World.sl_ext intC_length ?_ _ | refine sl_alloc intC_length ?_ _ | refine sl_drew ?_))) (by omega) HB.out).mono ?_
          rintro e w1 ⟨r, rfl, ⟨d3, rfl⟩, hr⟩
          obtain ⟨g2, cap2, rfl, _, _⟩ := own_addr hr (by rw [putL, putG_length]; omega)
          have HR := Lib.hid hr
          have HAP2 := Lib.hid (apart2_new (own_up HSV.out ⟨_, rfl⟩) hr).symm
          clear hr
          go_wp2
          go_roundw
          case rel => exact ⟨k + 1, g2, cap2, by omega, by go_num, by rw [HS.out], (by repeat (first | with_reducible (first | exact World.gained_refl _ | exact ⟨_, rfl⟩ | apply gain_ext | apply gain_alloc | apply gain_drewN | apply gain_drew) | (refine gain_setCell ?_ (by first | exact Nat.le_refl _ | exact World.size_ext _ _ | (simp; done) | (simp; omega)) _))), by rw [HS.out]; exact own_base (own_up (HR.out) (by repeat (first | with_reducible (first | exact World.gained_refl _ | exact ⟨_, rfl⟩ | apply gain_ext | apply gain_alloc | apply gain_drewN | apply gain_drew) | (refine gain_setCell ?_ (by first | exact Nat.le_refl _ | exact World.size_ext _ _ | (simp; done) | (simp; omega)) _)))) (gain_size (by repeat (first | with_reducible (first | exact World.gained_refl _ | exact ⟨_, rfl⟩ | apply gain_ext | apply gain_alloc | apply gain_drewN | apply gain_drew) | (refine gain_setCell ?_ (by first | exact Nat.le_refl _ | exact World.size_ext _ _ | (simp; done) | (simp; omega)) _)))), (own_up (HSV.out) (by repeat (first | with_reducible (first | exact World.gained_refl _ | exact ⟨_, rfl⟩ | apply gain_ext | apply gain_alloc | apply gain_drewN | apply gain_drew) | (refine gain_setCell ?_ (by first | exact Nat.le_refl _ | exact World.size_ext _ _ | (simp; done) | (simp; omega)) _)))), HAP2.out⟩
          case measure => simp [intOf]; omega
      · obtain rfl : k = l.length := by omega
        rw [HPA.out] at HC ⊢
        have hcl := szC_length l 99
        have HST := Lib.hid (fun k (hk : k < (szC l 99).length) => szT_succ l hk)
        have HSF := Lib.hid (szT_full l)
        have HS0 : Hid (szT l 0 = []) := Lib.hid (by simp [szT])
        clear HPA HPK
        go_wp2
        go_loopw [6, 8] (fun sv i wr => ∃ q : Nat, q ≤ (szC l 99).length ∧ i = .int .i64 q ∧ (∃ d, wr = w.ext d) ∧ wr.own w.heap.size 3 intC 1 (.slice (some ⟨g, 0, none⟩) (szC l 99).length cap) (szC l 99) ∧ wr.own w.heap.size 3 intC 1 sv (szT l q) ∧ Apart2 (.slice (some ⟨g, 0, none⟩) (szC l 99).length cap) sv) (fun _ i _ => (szC l 99).length - (intOf i).toNat)
        case atStart => exact ⟨0, by omega, rfl, ⟨_, rfl⟩, HC.out, by rw [HS0.out]; exact HSV.out, HAP.out⟩
        case round =>
          obtain ⟨q, hq, rfl, ⟨dq, rfl⟩, hcv, hsv, hap⟩ := hrel
          have HC1 := Lib.hid hcv
          have HSV1 := Lib.hid hsv
          have HAP1 := Lib.hid hap
          clear hcv hsv hap
          by_cases hlq : q < (szC l 99).length
          · have e0 := sl_int (sl_of_own intC_length HC1.out) hlq
            have HS := Lib.hid (HST.out q hlq)
            rw [Nat.zero_add] at e0
            have obg := World.oldB_of_cell e0
            have htl := szT_length l q
            generalize (szC l 99)[q] = K at e0 HS
            go_wp2
            go_loopw [9, 10] (fun n i wr => ∃ j : Nat, j ≤ l.length ∧ i = .int .i64 j ∧ n = .int .i64 (cntK l K j : Nat) ∧ ∃ d', wr = (w.ext dq).ext d') (fun _ i _ => l.length - (intOf i).toNat)
            case atStart => exact ⟨0, by omega, rfl, by rw [cntK_zero]; rfl, (by repeat (first | with_reducible (first | exact World.gained_refl _ | exact ⟨_, rfl⟩ | apply gain_ext | apply gain_alloc | apply gain_drewN | apply gain_drew) | (refine gain_setCell ?_ (by first | exact Nat.le_refl _ | exact World.size_ext _ _ | (simp; done) | (simp; omega)) _)))⟩
            case round =>
              obtain ⟨j, hj, rfl, rfl, d2, rfl⟩ := hrel
              have hcl2 := cntK_le l K j
              by_cases hlt : j < l.length
              · obtain ⟨b, o, rfl⟩ := sl_some hs.out (by omega)
                have c1 := sl_cells hs.out hlt (j := 1) (by omega)
                have HSS := Lib.hid (cntK_succ l K hlt)
                generalize l[j] = e at c1 HSS
                simp only [Ent.cells, List.getElem?_cons_zero, List.getElem?_cons_succ, Nat.add_zero] at c1
                have ob := World.oldB_of_cell c1
                cases hd : e.cls == K with
                | true =>
                  rw [hd, if_pos rfl] at HSS
                  generalize cntK l K j = n at hcl2 HSS
                  go_wp2
                  refine wp_region_gain (by kernel_rfl) (by kernel_rfl) ?_
                  repeat (first | go_big_quiet_skip | (go_big_quiet_want; go_big_quiet_op; first | go_big_quiet_on))
                  refine wpQuiet_nil ?_
                  rintro _ ⟨d', rfl⟩
                  go_wp2
                  go_roundw
                  case rel => exact ⟨j + 1, by omega, by go_num, by rw [HSS.out]; go_num, (by repeat (first | with_reducible (first | exact World.gained_refl _ | exact ⟨_, rfl⟩ | apply gain_ext | apply gain_alloc | apply gain_drewN | apply gain_drew) | (refine gain_setCell ?_ (by first | exact Nat.le_refl _ | exact World.size_ext _ _ | (simp; done) | (simp; omega)) _)))⟩
                  case measure => simp [intOf]; omega
                | false =>
                  rw [hd, if_neg (by simp)] at HSS
                  generalize cntK l K j = n at hcl2 HSS
                  go_wp2
                  refine wp_region_gain (by kernel_rfl) (by kernel_rfl) ?_
                  repeat (first | go_big_quiet_skip | (go_big_quiet_want; go_big_quiet_op; first | go_big_quiet_on))
                  refine wpQuiet_nil ?_
                  rintro _ ⟨d', rfl⟩
                  go_wp2
                  go_roundw
                  case rel => exact ⟨j + 1, by omega, by go_num, by rw [HSS.out]; rfl, (by repeat (first | with_reducible (first | exact World.gained_refl _ | exact ⟨_, rfl⟩ | apply gain_ext | apply gain_alloc | apply gain_drewN | apply gain_drew) | (refine gain_setCell ?_ (by first | exact Nat.le_refl _ | exact World.size_ext _ _ | (simp; done) | (simp; omega)) _)))⟩
                  case measure => simp [intOf]; omega
              · obtain rfl : j = l.length := by omega
                have HCC : Hid (cntK l K l.length = cntC l K) := Lib.hid rfl
                rw [HCC.out] at hcl2 ⊢
                clear HCC
                generalize cntC l K = n at hcl2 HS
                go_wp2_with (at_builtin; go_must (refine wpList_append_where (W := w) (base := w.heap.size) (m := [(n : Int)]) rfl (.tmp 63) (.tmp 65) rfl Try.underlying34 info_int (by rfl) (by omega) intC_length intC_one (by omega) (by repeat (first | with_reducible (first | exact World.gained_refl _ | exact ⟨_, rfl⟩ | apply gain_ext | apply gain_alloc | apply gain_drewN | apply gain_drew) | (refine gain_setCell ?_ (by first | exact Nat.le_refl _ | exact World.size_ext _ _ | (simp; done) | (simp; omega)) _))) (Nat.le_refl _) (gain_size (by repeat (first | with_reducible (first | exact World.gained_refl _ | exact ⟨_, rfl⟩ | apply gain_ext | apply gain_alloc | apply gain_drewN | apply gain_drew) | (refine gain_setCell ?_ (by first | exact Nat.le_refl _ | exact World.size_ext _ _ | (simp; done) | (simp; omega)) _)))) rfl rfl (own_up (HSV1.out) (by repeat (first | with_reducible (first | exact World.gained_refl _ | exact ⟨_, rfl⟩ | apply gain_ext | apply gain_alloc | apply gain_drewN | apply gain_drew) | (refine gain_setCell ?_ (by first | exact Nat.le_refl _ | exact World.size_ext _ _ | (simp; done) | (simp; omega)) _)))) (sl_lit (l := [(n : Int)]) intC_length rfl (by rfl)) (by simp) (by simp; omega) ?_); intro v2 d4 ho2 hg2 hw2)
                have HC2 := Lib.hid (own_mark (own_up HC1.out (by repeat (first | with_reducible (first | exact World.gained_refl _ | exact ⟨_, rfl⟩ | apply gain_ext | apply gain_alloc | apply gain_drewN | apply gain_drew) | (refine gain_setCell ?_ (by first | exact Nat.le_refl _ | exact World.size_ext _ _ | (simp; done) | (simp; omega)) _)))) hg2 HAP1.out)
                have HP2 := Lib.hid (apart_where HAP1.out.symm hw2 (own_up HC1.out (by repeat (first | with_reducible (first | exact World.gained_refl _ | exact ⟨_, rfl⟩ | apply gain_ext | apply gain_alloc | apply gain_drewN | apply gain_drew) | (refine gain_setCell ?_ (by first | exact Nat.le_refl _ | exact World.size_ext _ _ | (simp; done) | (simp; omega)) _))))).symm
                go_roundw
                case rel => exact ⟨q + 1, by omega, by go_num, ⟨_, rfl⟩, HC2.out, by rw [HS.out]; exact ho2, HP2.out⟩
                case measure => simp [intOf]; omega
          · obtain rfl : q = (szC l 99).length := by omega
            rw [HSF.out] at HSV1
            go_wp2
            go_ret3
            rw [e1.out, e2.out]
            exact ⟨_, _, rfl, ⟨_, rfl⟩, HC1.out, HSV1.out, HAP1.out⟩
end Go.Proofs.Ytbghmkjjooiikaa
