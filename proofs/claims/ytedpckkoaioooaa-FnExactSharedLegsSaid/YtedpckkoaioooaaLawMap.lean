/- laws.toMap, szMap, eqMap. Condition: at most 1048576 numbers. -/
import Derived.Test.YtedpckkoaioooaaTimesP
import Derived.Test.YtedpckkoaioooaaToIntS
import Derived.Test.YtedpckkoaioooaaEqIntS
import Derived.Test.YtedpckkoaioooaaSzIntS
namespace Go.Proofs.Ytedpckkoaioooaa
open Go.RowKit Go.Ori
set_option maxHeartbeats 1000000 in
theorem toMap_any (m : Mp) (rv cv : Value) (w : World) (h : w.mp rv cv m) :
    Calls Try.prog 54 #[.agg #[.int .i64 m.wd, .int .i64 m.ht, rv, cv]] w fun x w' => ∃ a b, x = .returned (.agg #[.int .i64 m.wd, .int .i64 m.ht, a, b]) ∧ (∃ d, w' = w.ext d) ∧ w'.own w.heap.size 3 intC 1 a m.rise ∧ w'.own w.heap.size 3 intC 1 b m.cost ∧ Apart2 a b := by
  have hm := Lib.hid h
  obtain ⟨p1, c1, p2, c2, rfl, rfl⟩ := mp_form h
  have hl1 := h.rl
  have hl2 := h.cl
  clear h
  go_enter Try.func54, Try.ntmps54
  go_wp2_with fail
  refine (toIntS_any _ m.rise _ (mp_up (hm.out) (by repeat (first | with_reducible (first | exact World.gained_refl _ | exact ⟨_, rfl⟩ | apply gain_ext | apply gain_alloc | apply gain_drewN | apply gain_drew) | (refine gain_setCell ?_ (by first | exact Nat.le_refl _ | exact World.size_ext _ _ | (simp; done) | (simp; omega)) _)))).r hl1).mono ?_
  rintro e w1 ⟨a, rfl, ⟨d1, rfl⟩, ha⟩
  obtain ⟨pa, ca, rfl, _⟩ := id (sl_of_own intC_length ha)
  have HA := Lib.hid ha
  clear ha
  go_wp2_with fail
  refine (toIntS_any _ m.cost _ (mp_up (hm.out) (by repeat (first | with_reducible (first | exact World.gained_refl _ | exact ⟨_, rfl⟩ | apply gain_ext | apply gain_alloc | apply gain_drewN | apply gain_drew) | (refine gain_setCell ?_ (by first | exact Nat.le_refl _ | exact World.size_ext _ _ | (simp; done) | (simp; omega)) _)))).c hl2).mono ?_
  rintro e w1 ⟨b, rfl, ⟨d2, rfl⟩, hb⟩
  obtain ⟨pb, cb, rfl, _⟩ := id (sl_of_own intC_length hb)
  have HB := Lib.hid hb
  clear hb
  go_wp2
  refine bodyPost_ret (v := (.agg #[.int .i64 m.wd, .int .i64 m.ht, .slice pa m.rise.length ca, .slice pb m.cost.length cb])) (by simp [results, Try.results54, go_sem]) rfl ?_
  have HVG : Hid (∃ d, ((w.alloc (.cells #[.int .i64 m.wd, .int .i64 m.ht, .slice p1 m.rise.length c1, .slice p2 m.cost.length c2] 64)).alloc (.cells #[.int .i64 0, .int .i64 0, .slice none 0 0, .slice none 0 0] 26)).alloc (.cells #[.int .i64 m.wd, .int .i64 m.ht, .slice none 0 0, .slice none 0 0] 26) = w.ext d) := Lib.hid (by repeat (first | with_reducible (first | exact World.gained_refl _ | exact ⟨_, rfl⟩ | apply gain_ext | apply gain_alloc | apply gain_drewN | apply gain_drew) | (refine gain_setCell ?_ (by first | exact Nat.le_refl _ | exact World.size_ext _ _ | (simp; done) | (simp; omega)) _)))
  have HVS : Hid ((((w.alloc (.cells #[.int .i64 m.wd, .int .i64 m.ht, .slice p1 m.rise.length c1, .slice p2 m.cost.length c2] 64)).alloc (.cells #[.int .i64 0, .int .i64 0, .slice none 0 0, .slice none 0 0] 26)).alloc (.cells #[.int .i64 m.wd, .int .i64 m.ht, .slice none 0 0, .slice none 0 0] 26)).heap.size = w.heap.size + 3) := Lib.hid (by rw [World.size_alloc, World.size_alloc, World.size_alloc])
  generalize ((w.alloc (.cells #[.int .i64 m.wd, .int .i64 m.ht, .slice p1 m.rise.length c1, .slice p2 m.cost.length c2] 64)).alloc (.cells #[.int .i64 0, .int .i64 0, .slice none 0 0, .slice none 0 0] 26)).alloc (.cells #[.int .i64 m.wd, .int .i64 m.ht, .slice none 0 0, .slice none 0 0] 26) = V at HVG HVS HA HB ⊢
  have h2 : w.heap.size + 1 + 1 < V.heap.size := by rw [HVS.out]; omega
  have h1 : w.heap.size + 1 < V.heap.size := by omega
  have h0 : w.heap.size ≤ V.heap.size := by omega
  have hb0 : V.heap.size ≤ ((V.ext d1).setCell ⟨w.heap.size + 1 + 1, 2, none⟩ (.slice pa m.rise.length ca)).heap.size := by rw [World.size_setCell]; exact World.size_ext V d1
  have HAP := Lib.hid (apart2_new (own_off HA.out (p := ⟨w.heap.size + 1 + 1, 2, none⟩) h2 (.slice pa m.rise.length ca)) HB.out)
  generalize ((V.ext d1).setCell ⟨w.heap.size + 1 + 1, 2, none⟩ (.slice pa m.rise.length ca)).heap.size = B2 at HB hb0
  have h2' := Nat.lt_of_lt_of_le h2 hb0
  have h1' := Nat.lt_of_lt_of_le h1 hb0
  have g2 : w.heap.size ≤ w.heap.size + 1 + 1 := by omega
  have g1 : w.heap.size ≤ w.heap.size + 1 := by omega
  refine ⟨_, _, rfl, ?_, ?_, ?_, HAP.out⟩
  · exact gain_setCell (gain_setCell (gain_setCell (gain_setCell (gain_setCell (gain_ext (gain_setCell (gain_ext HVG.out _) (a := ⟨_, _, _⟩) g2 _) _) (a := ⟨_, _, _⟩) g2 _) (a := ⟨_, _, _⟩) g1 _) (a := ⟨_, _, _⟩) g1 _) (a := ⟨_, _, _⟩) g1 _) (a := ⟨_, _, _⟩) g1 _
  · exact own_base (own_off (own_off (own_off (own_off (own_off (own_ext (own_off HA.out (p := ⟨_, _, _⟩) h2 _) _) (p := ⟨_, _, _⟩) h2 _) (p := ⟨_, _, _⟩) h1 _) (p := ⟨_, _, _⟩) h1 _) (p := ⟨_, _, _⟩) h1 _) (p := ⟨_, _, _⟩) h1 _) h0
  · exact own_base (own_off (own_off (own_off (own_off (own_off HB.out (p := ⟨_, _, _⟩) h2' _) (p := ⟨_, _, _⟩) h1' _) (p := ⟨_, _, _⟩) h1' _) (p := ⟨_, _, _⟩) h1' _) (p := ⟨_, _, _⟩) h1' _) (Nat.le_trans h0 hb0)
set_option maxHeartbeats 1000000 in
theorem szMap_any (m : Mp) (rv cv : Value) (left : Int) (w : World) (h1 : ∃ p c, rv = .slice p m.rise.length c) (h2 : ∃ p c, cv = .slice p m.cost.length c) (n1 : m.rise.length ≤ 9223372036854775807) (n2 : m.cost.length ≤ 9223372036854775807) (h0 : 0 ≤ left) (hl : left ≤ 1048576) :
    Calls Try.prog 51 #[.agg #[.int .i64 m.wd, .int .i64 m.ht, rv, cv], .int .i64 left] w fun x w' => ∃ r, x = .returned (.int .i64 r) ∧ (∃ d, w' = w.ext d) ∧ r ≤ left ∧ (0 ≤ r → (m.rise.length : Int) ≤ left ∧ (m.cost.length : Int) ≤ left) := by
  obtain ⟨p1, c1, rfl⟩ := h1
  obtain ⟨p2, c2, rfl⟩ := h2
  go_enter Try.func51, Try.ntmps51
  go_wp2_with fail
  refine (szIntS_any _ _ _ _ _ n1 h0 hl).mono ?_
  rintro e w1 ⟨r, rfl, rfl, hr, hx⟩
  by_cases hp : 0 ≤ r
  · have hq := hx hp
    clear hx
    go_wp2_with fail
    refine (szIntS_any _ _ _ _ _ n2 hp (by omega)).mono ?_
    rintro e w1 ⟨r2, rfl, rfl, hr2, hx2⟩
    by_cases hp2 : 0 ≤ r2
    · have hq2 := hx2 hp2
      clear hx2
      go_wp2
      go_ret
      exact ⟨_, rfl, (by repeat (first | with_reducible (first | exact World.gained_refl _ | exact ⟨_, rfl⟩ | apply gain_ext | apply gain_alloc | apply gain_drewN | apply gain_drew) | (refine gain_setCell ?_ (by first | exact Nat.le_refl _ | exact World.size_ext _ _ | (simp; done) | (simp; omega)) _))), by omega, fun _ => ⟨hq, by omega⟩⟩
    · clear hx2
      go_wp2
      go_ret
      exact ⟨_, rfl, (by repeat (first | with_reducible (first | exact World.gained_refl _ | exact ⟨_, rfl⟩ | apply gain_ext | apply gain_alloc | apply gain_drewN | apply gain_drew) | (refine gain_setCell ?_ (by first | exact Nat.le_refl _ | exact World.size_ext _ _ | (simp; done) | (simp; omega)) _))), by omega, fun h => absurd h (by omega)⟩
  · clear hx
    go_wp2
    go_ret
    exact ⟨_, rfl, (by repeat (first | with_reducible (first | exact World.gained_refl _ | exact ⟨_, rfl⟩ | apply gain_ext | apply gain_alloc | apply gain_drewN | apply gain_drew) | (refine gain_setCell ?_ (by first | exact Nat.le_refl _ | exact World.size_ext _ _ | (simp; done) | (simp; omega)) _))), by omega, fun h => absurd h (by omega)⟩
set_option maxHeartbeats 1000000 in
theorem eqMap_same (m : Mp) (rv cv rv2 cv2 : Value) (w : World) (h : w.mp rv cv m) (h2 : w.mp rv2 cv2 m) :
    Calls Try.prog 59 #[.agg #[.int .i64 m.wd, .int .i64 m.ht, rv, cv], .agg #[.int .i64 m.wd, .int .i64 m.ht, rv2, cv2]] w fun x w' => x = .returned (.bool true) ∧ ∃ d, w' = w.ext d := by
  have hm := Lib.hid h
  have hm2 := Lib.hid h2
  have hl1 := h.rl
  have hl2 := h.cl
  clear h h2
  go_enter Try.func59, Try.ntmps59
  go_wp2_with fail
  refine (eqIntS_same _ _ m.rise _ (mp_up (hm.out) (by repeat (first | with_reducible (first | exact World.gained_refl _ | exact ⟨_, rfl⟩ | apply gain_ext | apply gain_alloc | apply gain_drewN | apply gain_drew) | (refine gain_setCell ?_ (by first | exact Nat.le_refl _ | exact World.size_ext _ _ | (simp; done) | (simp; omega)) _)))).r (mp_up (hm2.out) (by repeat (first | with_reducible (first | exact World.gained_refl _ | exact ⟨_, rfl⟩ | apply gain_ext | apply gain_alloc | apply gain_drewN | apply gain_drew) | (refine gain_setCell ?_ (by first | exact Nat.le_refl _ | exact World.size_ext _ _ | (simp; done) | (simp; omega)) _)))).r hl1).mono ?_
  rintro e w1 ⟨rfl, d1, rfl⟩
  go_wp2_with fail
  refine (eqIntS_same _ _ m.cost _ (mp_up (hm.out) (by repeat (first | with_reducible (first | exact World.gained_refl _ | exact ⟨_, rfl⟩ | apply gain_ext | apply gain_alloc | apply gain_drewN | apply gain_drew) | (refine gain_setCell ?_ (by first | exact Nat.le_refl _ | exact World.size_ext _ _ | (simp; done) | (simp; omega)) _)))).c (mp_up (hm2.out) (by repeat (first | with_reducible (first | exact World.gained_refl _ | exact ⟨_, rfl⟩ | apply gain_ext | apply gain_alloc | apply gain_drewN | apply gain_drew) | (refine gain_setCell ?_ (by first | exact Nat.le_refl _ | exact World.size_ext _ _ | (simp; done) | (simp; omega)) _)))).c hl2).mono ?_
  rintro e w1 ⟨rfl, d2, rfl⟩
  go_wp2
  go_ret
  exact ⟨rfl, (by repeat (first | with_reducible (first | exact World.gained_refl _ | exact ⟨_, rfl⟩ | apply gain_ext | apply gain_alloc | apply gain_drewN | apply gain_drew) | (refine gain_setCell ?_ (by first | exact Nat.le_refl _ | exact World.size_ext _ _ | (simp; done) | (simp; omega)) _)))⟩
end Go.Proofs.Ytedpckkoaioooaa
