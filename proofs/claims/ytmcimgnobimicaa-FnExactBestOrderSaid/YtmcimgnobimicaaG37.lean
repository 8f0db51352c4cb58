/- Texts laid together: laws.toMap, szMap, eqMap. Condition: at most 1048576 numbers.; laws.markIntS writes numbers into a slice, laws.heldIntS finds them there. Conditions: a slice of the caller's own, at most 1048576 elements, small numbers.; laws.markMap writes numbers into a map's slices. Conditions: slices of the caller's own, in two blocks; at most 1048576 numbers. -/
import Derived.Test.YtmcimgnobimicaaG14
import Derived.Test.YtmcimgnobimicaaG36
import Derived.Test.YtmcimgnobimicaaRows
import Derived.Test.YtmcimgnobimicaaG2
import Derived.Test.YtmcimgnobimicaaG1
/- laws.toMap, szMap, eqMap. Condition: at most 1048576 numbers. -/
namespace Go.Proofs.Ytmcimgnobimicaa
open Go.RowKit Go.Ori
set_option maxHeartbeats 1000000 in
theorem toMap_any (m : Mp) (rv cv : Value) (w : World) (h : w.mp rv cv m) :
    Calls Try.prog 7 #[.agg #[.int .i64 m.wd, .int .i64 m.ht, rv, cv]] w fun x w' => ∃ a b, x = .returned (.agg #[.int .i64 m.wd, .int .i64 m.ht, a, b]) ∧ (∃ d, w' = w.ext d) ∧ w'.own w.heap.size 3 intC 1 a m.rise ∧ w'.own w.heap.size 3 intC 1 b m.cost ∧ Apart2 a b := by
  have hm := Lib.hid h
  obtain ⟨p1, c1, p2, c2, rfl, rfl⟩ := mp_form h
  have hl1 := h.rl
  have hl2 := h.cl
  clear h
  go_enter Try.func7, Try.ntmps7
  go_wp2_with fail
  refine (toIntS_any _ m.rise _ (mp_up (hm.out) (by repeat (first | with_reducible (first | exact World.gained_refl _ | exact ⟨_, rfl⟩ | apply gain_ext | apply gain_alloc | apply gain_drewN | apply gain_drew) | (refine gain_setCell ?_ (by first | exact Nat.le_refl _ | exact World.size_ext _ _ | (simp; done) | (simp; omega)) _)))).r hl1).mono ?_
  rintro e w1 ⟨a, rfl, ⟨d1, rfl⟩, ha⟩
  obtain ⟨pa, ca, rfl, _⟩ := id (sl_of_own intC_length ha)
  have HA := Lib.hid ha
  clear ha
  go_wp2_with fail
  refine (toIntS_any _ m.cost _ (mp_up (hm.out) (by repeat (first | with_reducible (first | exact World.gained_refl _ | exact ⟨_, rfl⟩ | apply gain_ext | apply gain_alloc | apply gain_drewN | apply gain_drew) | (refine gain_setCell ?_ (by first | exact Nat.le_refl _ | exact World.size_ext _ _ | (simp; done) | (simp; omega)) _)))).c hl2).mono ?_
  rintro e w1 ⟨b, rfl, ⟨d2, rfl⟩, hb⟩
  obtain ⟨pb, cb, rfl, _⟩ := id (sl_of_own intC_length hb)
  have HB := Lib.hid hb
  clear hb
  go_wp2
  refine bodyPost_ret (v := (.agg #[.int .i64 m.wd, .int .i64 m.ht, .slice pa m.rise.length ca, .slice pb m.cost.length cb])) (by simp [results, Try.results7, go_sem]) rfl ?_
  have HVG : Hid (∃ d, ((w.alloc (.cells #[.int .i64 m.wd, .int .i64 m.ht, .slice p1 m.rise.length c1, .slice p2 m.cost.length c2] 24)).alloc (.cells #[.int .i64 0, .int .i64 0, .slice none 0 0, .slice none 0 0] 30)).alloc (.cells #[.int .i64 m.wd, .int .i64 m.ht, .slice none 0 0, .slice none 0 0] 30) = w.ext d) := Lib.hid (by repeat (first | with_reducible (first | exact World.gained_refl _ | exact ⟨_, rfl⟩ | apply gain_ext | apply gain_alloc | apply gain_drewN | apply gain_drew) | (refine gain_setCell ?_ (by first | exact Nat.le_refl _ | exact World.size_ext _ _ | (simp; done) | (simp; omega)) _)))
  have HVS : Hid ((((w.alloc (.cells #[.int .i64 m.wd, .int .i64 m.ht, .slice p1 m.rise.length c1, .slice p2 m.cost.length c2] 24)).alloc (.cells #[.int .i64 0, .int .i64 0, .slice none 0 0, .slice none 0 0] 30)).alloc (.cells #[.int .i64 m.wd, .int .i64 m.ht, .slice none 0 0, .slice none 0 0] 30)).heap.size = w.heap.size + 3) := Lib.hid (by rw [World.size_alloc, World.size_alloc, World.size_alloc])
  generalize ((w.alloc (.cells #[.int .i64 m.wd, .int .i64 m.ht, .slice p1 m.rise.length c1, .slice p2 m.cost.length c2] 24)).alloc (.cells #[.int .i64 0, .int .i64 0, .slice none 0 0, .slice none 0 0] 30)).alloc (.cells #[.int .i64 m.wd, .int .i64 m.ht, .slice none 0 0, .slice none 0 0] 30) = V at HVG HVS HA HB ⊢
  have h2 : w.heap.size + 1 + 1 < V.heap.size := by rw [HVS.out]; omega
  have h1 : w.heap.size + 1 < V.heap.size := by omega
  have h0 : w.heap.size ≤ V.heap.size := by omega
  have hb0 : V.heap.size ≤ ((V.ext d1).setCell ⟨w.heap.size + 1 + 1, 2, none⟩ (.slice pa m.rise.length ca)).heap.size := by rw [World.size_setCell]; exact World.size_ext V d1
  have HAP := Lib.hid (apart2_new (own_off HA.out (p := ⟨w.heap.size + 1 + 1, 2, none⟩) h2 (.slice pa m.rise.length ca)) HB.out)
  generalize ((V.ext d1).setCell ⟨w.heap.size + 1 + 1, 2, none⟩ (.slice pa m.rise.length ca)).heap.size = B2 at HB hb0
  have h2' := Nat.lt_of_lt_of_le h2 hb0
  have h1' := Nat.lt_of_lt_of_le h1 hb0
  have g2 : w.heap.size ≤ w.heap.size + 1 + 1 := by omega
  have g1 : w.heap.size ≤ w.heap.size + 1 := by omega
  refine ⟨_, _, rfl, ?_, ?_, ?_, HAP.out⟩
  · exact gain_setCell (gain_setCell (gain_setCell (gain_setCell (gain_setCell (gain_ext (gain_setCell (gain_ext HVG.out _) (a := ⟨_, _, _⟩) g2 _) _) (a := ⟨_, _, _⟩) g2 _) (a := ⟨_, _, _⟩) g1 _) (a := ⟨_, _, _⟩) g1 _) (a := ⟨_, _, _⟩) g1 _) (a := ⟨_, _, _⟩) g1 _
  · exact own_base (own_off (own_off (own_off (own_off (own_off (own_ext (own_off HA.out (p := ⟨_, _, _⟩) h2 _) _) (p := ⟨_, _, _⟩) h2 _) (p := ⟨_, _, _⟩) h1 _) (p := ⟨_, _, _⟩) h1 _) (p := ⟨_, _, _⟩) h1 _) (p := ⟨_, _, _⟩) h1 _) h0
  · exact own_base (own_off (own_off (own_off (own_off (own_off HB.out (p := ⟨_, _, _⟩) h2' _) (p := ⟨_, _, _⟩) h1' _) (p := ⟨_, _, _⟩) h1' _) (p := ⟨_, _, _⟩) h1' _) (p := ⟨_, _, _⟩) h1' _) (Nat.le_trans h0 hb0)
set_option maxHeartbeats 1000000 in
theorem szMap_any (m : Mp) (rv cv : Value) (left : Int) (w : World) (h1 : ∃ p c, rv = .slice p m.rise.length c) (h2 : ∃ p c, cv = .slice p m.cost.length c) (n1 : m.rise.length ≤ 9223372036854775807) (n2 : m.cost.length ≤ 9223372036854775807) (h0 : 0 ≤ left) (hl : left ≤ 1048576) :
    Calls Try.prog 4 #[.agg #[.int .i64 m.wd, .int .i64 m.ht, rv, cv], .int .i64 left] w fun x w' => ∃ r, x = .returned (.int .i64 r) ∧ (∃ d, w' = w.ext d) ∧ r ≤ left ∧ (0 ≤ r → (m.rise.length : Int) ≤ left ∧ (m.cost.length : Int) ≤ left) := by
  obtain ⟨p1, c1, rfl⟩ := h1
  obtain ⟨p2, c2, rfl⟩ := h2
  go_enter Try.func4, Try.ntmps4
  go_wp2_with fail
  refine (szIntS_any _ _ _ _ _ n1 h0 hl).mono ?_
  rintro e w1 ⟨r, rfl, rfl, hr, hx⟩
  by_cases hp : 0 ≤ r
  · have hq := hx hp
    clear hx
    go_wp2_with fail
    refine (szIntS_any _ _ _ _ _ n2 hp (by omega)).mono ?_
    rintro e w1 ⟨r2, rfl, rfl, hr2, hx2⟩
    by_cases hp2 : 0 ≤ r2
    · have hq2 := hx2 hp2
      clear hx2
      go_wp2
      go_ret
      exact ⟨_, rfl, (by repeat (first | with_reducible (first | exact World.gained_refl _ | exact ⟨_, rfl⟩ | apply gain_ext | apply gain_alloc | apply gain_drewN | apply gain_drew) | (refine gain_setCell ?_ (by first | exact Nat.le_refl _ | exact World.size_ext _ _ | (simp; done) | (simp; omega)) _))), by omega, fun _ => ⟨hq, by omega⟩⟩
    · clear hx2
      go_wp2
      go_ret
      exact ⟨_, rfl, (by repeat (first | with_reducible (first | exact World.gained_refl _ | exact ⟨_, rfl⟩ | apply gain_ext | apply gain_alloc | apply gain_drewN | apply gain_drew) | (refine gain_setCell ?_ (by first | exact Nat.le_refl _ | exact World.size_ext _ _ | (simp; done) | (simp; omega)) _))), by omega, fun h => absurd h (by omega)⟩
  · clear hx
    go_wp2
    go_ret
    exact ⟨_, rfl, (by repeat (first | with_reducible (first | exact World.gained_refl _ | exact ⟨_, rfl⟩ | apply gain_ext | apply gain_alloc | apply gain_drewN | apply gain_drew) | (refine gain_setCell ?_ (by first | exact Nat.le_refl _ | exact World.size_ext _ _ | (simp; done) | (simp; omega)) _))), by omega, fun h => absurd h (by omega)⟩
set_option maxHeartbeats 1000000 in
theorem eqMap_same (m : Mp) (rv cv rv2 cv2 : Value) (w : World) (h : w.mp rv cv m) (h2 : w.mp rv2 cv2 m) :
    Calls Try.prog 12 #[.agg #[.int .i64 m.wd, .int .i64 m.ht, rv, cv], .agg #[.int .i64 m.wd, .int .i64 m.ht, rv2, cv2]] w fun x w' => x = .returned (.bool true) ∧ ∃ d, w' = w.ext d := by
  have hm := Lib.hid h
  have hm2 := Lib.hid h2
  have hl1 := h.rl
  have hl2 := h.cl
  clear h h2
  go_enter Try.func12, Try.ntmps12
  go_wp2_with fail
  refine (eqIntS_same _ _ m.rise _ (mp_up (hm.out) (by repeat (first | with_reducible (first | exact World.gained_refl _ | exact ⟨_, rfl⟩ | apply gain_ext | apply gain_alloc | apply gain_drewN | apply gain_drew) | (refine gain_setCell ?_ (by first | exact Nat.le_refl _ | exact World.size_ext _ _ | (simp; done) | (simp; omega)) _)))).r (mp_up (hm2.out) (by repeat (first | with_reducible (first | exact World.gained_refl _ | exact ⟨_, rfl⟩ | apply gain_ext | apply gain_alloc | apply gain_drewN | apply gain_drew) | (refine gain_setCell ?_ (by first | exact Nat.le_refl _ | exact World.size_ext _ _ | (simp; done) | (simp; omega)) _)))).r hl1).mono ?_
  rintro e w1 ⟨rfl, d1, rfl⟩
  go_wp2_with fail
  refine (eqIntS_same _ _ m.cost _ (mp_up (hm.out) (by repeat (first | with_reducible (first | exact World.gained_refl _ | exact ⟨_, rfl⟩ | apply gain_ext | apply gain_alloc | apply gain_drewN | apply gain_drew) | (refine gain_setCell ?_ (by first | exact Nat.le_refl _ | exact World.size_ext _ _ | (simp; done) | (simp; omega)) _)))).c (mp_up (hm2.out) (by repeat (first | with_reducible (first | exact World.gained_refl _ | exact ⟨_, rfl⟩ | apply gain_ext | apply gain_alloc | apply gain_drewN | apply gain_drew) | (refine gain_setCell ?_ (by first | exact Nat.le_refl _ | exact World.size_ext _ _ | (simp; done) | (simp; omega)) _)))).c hl2).mono ?_
  rintro e w1 ⟨rfl, d2, rfl⟩
  go_wp2
  go_ret
  exact ⟨rfl, (by repeat (first | with_reducible (first | exact World.gained_refl _ | exact ⟨_, rfl⟩ | apply gain_ext | apply gain_alloc | apply gain_drewN | apply gain_drew) | (refine gain_setCell ?_ (by first | exact Nat.le_refl _ | exact World.size_ext _ _ | (simp; done) | (simp; omega)) _)))⟩
end Go.Proofs.Ytmcimgnobimicaa
/- laws.markIntS writes numbers into a slice, laws.heldIntS finds them there. Conditions: a slice of the caller's own, at most 1048576 elements, small numbers. -/
namespace Go.Proofs.Ytmcimgnobimicaa
open Go.RowKit Go.Ori
def marks (k : Int) (n : Nat) : List Int := (List.range n).map fun i : Nat => k + (i : Int)
theorem marks_length (k : Int) (n : Nat) : (marks k n).length = n := by simp [marks]
theorem marks_get (k : Int) (n i : Nat) (h : i < (marks k n).length) : (marks k n)[i] = k + i := by simp [marks]
set_option maxHeartbeats 400000 in
theorem markIntS_any (W : World) (v : Value) (n : Nat) (l : List Int) (w : World) (B : Nat) (k0 : Int) (h0 : 0 ≤ k0) (h1 : k0 ≤ 16777216) (hl : l.length ≤ 1048576) (hn : l.length = n)
    (h : w.own B 3 intC 1 v l) (hW : ∃ d, w = W.ext d) (hB : W.heap.size ≤ B) :
    Calls Try.prog 16 #[v, .int .i64 k0] w fun x w' => x = .returned (.int .i64 (k0 + (n : Int))) ∧ w'.own B 3 intC 1 v (marks k0 n) ∧ w.grownBy w' v.ownBlock ∧ ∃ d, w' = W.ext d := by
  subst hn
  obtain ⟨_, ⟨rfl, hn0⟩ | ⟨g, cap, C0, rfl, hg, hh, hle, hcap, hs, _⟩⟩ := h
  · have hl0 : l = [] := List.eq_nil_of_length_eq_zero hn0
    subst hl0
    go_enter Try.func16, Try.ntmps16
    go_wp2
    go_loop [1, 5] (fun t i => t = .int .i64 k0 ∧ i = .int .i64 0) (fun _ _ => 0)
    case atStart => exact ⟨rfl, rfl⟩
    case round =>
      obtain ⟨rfl, rfl⟩ := hrel
      go_wp2
      go_ret
      exact ⟨by simp, own_nil _ _ _ _ _, only_refl _ _, hW⟩
  · have HS := Lib.hid hs
    have HM := Lib.hid hcap
    have HW := Lib.hid hW
    clear hs hcap hW
    go_enter Try.func16, Try.ntmps16
    go_wp2
    go_loopw [1, 5] (fun t i wr => ∃ k : Nat, k ≤ l.length ∧ i = .int .i64 k ∧ t = .int .i64 (k0 + k) ∧ w.grownBy wr (some g) ∧ (∃ d, wr = W.ext d) ∧ ∃ C, wr.heap[g]? = some (.cells C 3 (0, 0)) ∧ C.size = cap * 1 ∧ ∀ j, j < k → C[j]? = some (.int .i64 (k0 + (j : Int)))) (fun _ i _ => l.length - (intOf i).toNat)
    case atStart => exact ⟨0, by omega, rfl, by simp, only_refl _ _, HW.out, C0, hh, HS.out, by simp⟩
    case round =>
      obtain ⟨k, hk, rfl, rfl, hgr, hwr, C, hC, hCs, hCk⟩ := hrel
      have HGR := Lib.hid hgr
      have HWR := Lib.hid hwr
      by_cases hlt : k < l.length
      · obtain ⟨x0, hx0⟩ : ∃ x, C[k]? = some x := ⟨C[k]'(by omega), by rw [Array.getElem?_eq_getElem]⟩
        have t0 : wr.cell? ⟨g, k, none⟩ = some x0 := by rw [World.cell_of_heap hC]; exact hx0
        have z0 : wr.frozen? ⟨g, k, none⟩ = false := World.free_of_heap hC k
        have HC := Lib.hid hC
        have HCS := Lib.hid hCs
        have HCK := Lib.hid hCk
        clear hx0 hC hCs hCk hgr hwr hh
        go_wp2
        go_roundw
        case rel =>
          refine ⟨k + 1, by omega, by go_num, by go_num, only_setCell HGR.out rfl _, gain_setCell HWR.out (Nat.le_trans hB hg) _, _, World.heap_setCell_row HC.out _ _, by simp [HCS.out], fun j hj => ?_⟩
          rw [Array.getElem?_setIfInBounds]
          split
          · rename_i hjk
            subst hjk
            rw [if_pos (by rw [HCS.out]; omega)]
          · exact HCK.out j (by omega)
        case measure => simp [intOf]; omega
      · clear hgr hwr hh
        have HC := Lib.hid hC
        have HCS := Lib.hid hCs
        have HCK := Lib.hid hCk
        clear hC hCs hCk
        go_wp2
        go_ret
        obtain rfl : k = l.length := by omega
        refine ⟨rfl, ?_, HGR.out, HWR.out⟩
        have ho := owns_of_row (base := B) (enc := intC) (sz := 1) (l := marks k0 l.length) (cap := cap) intC_length HC.out hg HCS.out (by rw [marks_length]; exact hle) HM.out (fun j hj => by
          rw [marks_length, Nat.mul_one] at hj
          have h2 := flat_get intC_length (marks k0 l.length) j (by rw [marks_length]; exact hj) 0 (by omega)
          rw [Nat.mul_one, Nat.add_zero] at h2
          rw [HCK.out j hj, h2, marks_get]
          rfl)
        rw [marks_length] at ho
        unfold World.own
        rw [marks_length]
        exact ho
theorem heldIntS_any (v : Value) (n : Nat) (w : World) (k0 : Int) (h0 : 0 ≤ k0) (h1 : k0 ≤ 16777216) (hl : n ≤ 1048576) (h : w.sl intC 1 v (marks k0 n)) :
    Calls Try.prog 17 #[v, .int .i64 k0] w fun x w' => x = .returned (.int .i64 (k0 + (n : Int))) ∧ ∃ d, w' = w.ext d := by
  obtain ⟨p, c, rfl, hp, hcap⟩ := h
  have hc : ∀ k, k < n → ∃ b o, p = some ⟨b, o, none⟩ ∧ w.cell? ⟨b, o + k, none⟩ = some (.int .i64 (k0 + (k : Int))) := fun k hk => by
    obtain ⟨b, o, rfl, hc⟩ := hp (by rw [marks_length]; omega)
    refine ⟨b, o, rfl, ?_⟩
    have := hc k (by rw [marks_length]; omega) 0 (by omega)
    rw [marks_get] at this
    simpa [intC] using this
  rw [marks_length]
  clear hp
  go_enter Try.func17, Try.ntmps17
  go_wp2
  go_loopw [1, 5] (fun t i wr => ∃ k : Nat, k ≤ n ∧ i = .int .i64 k ∧ t = .int .i64 (k0 + k) ∧ ∃ d, wr = w.ext d) (fun _ i _ => n - (intOf i).toNat)
  case atStart => exact ⟨0, by omega, rfl, by simp, w.gained_refl⟩
  case round =>
    obtain ⟨k, hk, rfl, rfl, d, rfl⟩ := hrel
    by_cases hlt : k < n
    · obtain ⟨b, o, rfl, c0⟩ := hc k hlt
      have ob := World.oldB_of_cell c0
      clear hc
      go_wp2
      go_roundw
      case rel => exact ⟨k + 1, by omega, by go_num, by go_num, _, rfl⟩
      case measure => simp [intOf]; omega
    · clear hc
      go_wp2
      go_ret
      obtain rfl : k = n := by omega
      exact ⟨rfl, _, rfl⟩
end Go.Proofs.Ytmcimgnobimicaa
/- laws.markMap writes numbers into a map's slices. Conditions: slices of the caller's own, in two blocks; at most 1048576 numbers. -/
namespace Go
open RowKit
theorem grown_after {w w1 w2 : World} {r : Option Nat} (h1 : ∃ d, w1 = w.ext d) (h2 : w1.grownBy w2 r) : w.grownBy w2 r := by
  obtain ⟨d, rfl⟩ := h1
  exact ⟨h2.os, h2.tape, h2.output, Nat.le_trans (World.size_ext w d) h2.size, fun i hi hne => (h2.block i (Nat.lt_of_lt_of_le hi (World.size_ext w d)) hne).trans (World.heap_ext_lt w d hi)⟩
end Go
namespace Go.Proofs.Ytmcimgnobimicaa
open Go.RowKit Go.Ori
set_option maxHeartbeats 1000000 in
theorem markMap_any (W : World) (m : Mp) (a b : Value) (w : World) (B : Nat) (k0 : Int) (h0 : 0 ≤ k0) (h1 : k0 ≤ 8388608) (n1 : m.rise.length ≤ 1048576) (n2 : m.cost.length ≤ 1048576)
    (ha : w.own B 3 intC 1 a m.rise) (hb : w.own B 3 intC 1 b m.cost) (hap : Apart2 a b) (hW : ∃ d, w = W.ext d) (hB : W.heap.size ≤ B) :
    Calls Try.prog 14 #[.agg #[.int .i64 m.wd, .int .i64 m.ht, a, b], .int .i64 k0] w fun x w' => x = .returned (.int .i64 (k0 + m.rise.length + m.cost.length)) ∧ (∃ V, w.grownBy V a.ownBlock ∧ V.grownBy w' b.ownBlock) ∧ ∃ d, w' = W.ext d := by
  obtain ⟨pa, ca, rfl, _⟩ := id (sl_of_own intC_length ha)
  obtain ⟨pb, cb, rfl, _⟩ := id (sl_of_own intC_length hb)
  have HLA := Lib.hid (own_lt ha)
  have HA := Lib.hid ha
  have HB := Lib.hid hb
  have HAP := Lib.hid hap
  have HW := Lib.hid hW
  clear ha hb hap hW
  go_enter Try.func14, Try.ntmps14
  go_wp2_with fail
  refine (markIntS_any W _ _ m.rise _ B k0 h0 (by omega) n1 rfl (own_up HA.out (by repeat (first | with_reducible (first | exact World.gained_refl _ | exact ⟨_, rfl⟩ | apply gain_ext | apply gain_alloc | apply gain_drewN | apply gain_drew) | (refine gain_setCell ?_ (by first | exact Nat.le_refl _ | exact World.size_ext _ _ | (simp; done) | (simp; omega)) _)))) (gain_alloc HW.out _) hB).mono ?_
  rintro e w1 ⟨rfl, -, hg1, d1, rfl⟩
  have hg1' := grown_after (gain_alloc w.gained_refl _) hg1
  have hb1 := own_mark HB.out hg1' HAP.out.symm
  have c3 : (W.ext d1).cell? ⟨w.heap.size, 3, none⟩ = some (.slice pb m.cost.length cb) := (World.cell?_of_block (a := ⟨w.heap.size, 3, none⟩) (hg1.block w.heap.size (by rw [World.size_alloc]; omega) (fun e => by have := (HLA.out _ e.symm).2; omega))).trans (by rw [World.cell?_alloc_new]; rfl)
  have obx := World.oldB_of_cell c3
  have HG1 := Lib.hid hg1'
  have HB1 := Lib.hid hb1
  clear hg1 hg1' hb1
  go_wp2_with fail
  refine (markIntS_any W _ _ m.cost _ B (k0 + m.rise.length) (by omega) (by omega) n2 rfl HB1.out ⟨_, rfl⟩ hB).mono ?_
  rintro e w2 ⟨rfl, -, hg2, d2, rfl⟩
  have HG2 := Lib.hid hg2
  clear hg2
  go_wp2
  go_ret
  exact ⟨rfl, ⟨_, HG1.out, HG2.out⟩, ⟨_, rfl⟩⟩
end Go.Proofs.Ytmcimgnobimicaa
