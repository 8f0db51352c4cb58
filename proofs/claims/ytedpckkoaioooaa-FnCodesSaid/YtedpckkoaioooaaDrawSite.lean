/- spec.l1Cur's code6, codeOf, site. Condition: the reader has been asked less than a thousand times. -/
import Derived.Test.YtedpckkoaioooaaDrawMap
import Derived.Test.YtedpckkoaioooaaDrawR
import Derived.Test.YtedpckkoaioooaaInfoCtl
namespace Go.Proofs.Ytedpckkoaioooaa
open Go.RowKit Go.Ori
set_option maxHeartbeats 1000000 in
theorem code6_any (W w : World) (g n : Nat) (h : Cur 82 W w g n) (hn : n ≤ 100000) :
    Calls Try.prog 116 #[.pointer (some ⟨g, 0, none⟩)] w fun x w' => ∃ r : Int, x = .returned (.int .i64 r) ∧ Cur 82 W w' g (n + 4) ∧ w.grownBy w' (some g) := by
  have HC := Lib.hid h
  have hgw := h.lt
  clear h
  go_enter Try.func116, Try.ntmps116
  go_wp2_with fail
  refine (one_any W _ g n _ HC.out (by omega)).mono ?_
  rintro e w1 ⟨b, rfl, hc1, hg1⟩
  have HC1 := Lib.hid hc1
  have HG1 := Lib.hid hg1
  clear hc1 hg1
  cases b with
  | true =>
    go_wp2_with fail
    refine (among_any W _ g _ _ [0, 30, 31, 99, 100] w.heap.size (HC1.out.gain (by repeat (first | with_reducible (first | exact World.gained_refl _ | exact ⟨_, rfl⟩ | apply gain_ext | apply gain_alloc | apply gain_drewN | apply gain_drew) | (refine gain_setCell ?_ (by first | exact Nat.le_refl _ | exact World.size_ext _ _ | (simp; done) | (simp; omega)) _)))) (by omega) (own_lit' (l := [0, 30, 31, 99, 100]) intC_length rfl rfl (only_size HG1.out)) hgw (by simp) (by simp)).mono ?_
    rintro e w2 ⟨r, rfl, -, hc2, hg2⟩
    go_wp2
    go_ret
    exact ⟨_, rfl, hc2.le (by omega), only_trans (only_gain HG1.out (by repeat (first | with_reducible (first | exact World.gained_refl _ | exact ⟨_, rfl⟩ | apply gain_ext | apply gain_alloc | apply gain_drewN | apply gain_drew) | (refine gain_setCell ?_ (by first | exact Nat.le_refl _ | exact World.size_ext _ _ | (simp; done) | (simp; omega)) _)))) hg2⟩
  | false =>
    go_wp2_with fail
    refine (among_any W _ g _ _ [31, 32, 34, 41, 43, 45, 54, 60, 77, 99] w.heap.size (HC1.out.gain (by repeat (first | with_reducible (first | exact World.gained_refl _ | exact ⟨_, rfl⟩ | apply gain_ext | apply gain_alloc | apply gain_drewN | apply gain_drew) | (refine gain_setCell ?_ (by first | exact Nat.le_refl _ | exact World.size_ext _ _ | (simp; done) | (simp; omega)) _)))) (by omega) (own_lit' (l := [31, 32, 34, 41, 43, 45, 54, 60, 77, 99]) intC_length rfl rfl (only_size HG1.out)) hgw (by simp) (by simp)).mono ?_
    rintro e w2 ⟨r, rfl, -, hc2, hg2⟩
    go_wp2
    go_ret
    exact ⟨_, rfl, hc2.le (by omega), only_trans (only_gain HG1.out (by repeat (first | with_reducible (first | exact World.gained_refl _ | exact ⟨_, rfl⟩ | apply gain_ext | apply gain_alloc | apply gain_drewN | apply gain_drew) | (refine gain_setCell ?_ (by first | exact Nat.le_refl _ | exact World.size_ext _ _ | (simp; done) | (simp; omega)) _)))) hg2⟩
set_option maxHeartbeats 2000000 in
theorem codeOf_any (W w : World) (g n lo : Nat) (v : Value) (l : List Ctl) (h : Cur 82 W w g n) (hn : n ≤ 90000) (hlo : g < lo) (ho : w.own lo 46 Ctl.cells 2 v l) (hl : l.length ≤ 1048576) :
    Calls Try.prog 69 #[.pointer (some ⟨g, 0, none⟩), v] w fun x w' => ∃ r : Int, x = .returned (.int .i64 r) ∧ Cur 82 W w' g (n + 6) ∧ w.grownBy w' (some g) := by
  have HC := Lib.hid h
  have HO := Lib.hid ho
  obtain ⟨p, c, rfl, _⟩ := sl_of_own Ctl.cells_length ho
  clear h ho
  by_cases h0 : l.length = 0
  · have hz : ((l.length : Int) == 0) = true := by simp [h0]
    go_enter Try.func69, Try.ntmps69
    go_wp2_with fail
    refine (code6_any W _ g n HC.out (by omega)).mono ?_
    rintro e w1 ⟨r, rfl, hc1, hg1⟩
    go_wp2
    go_ret
    exact ⟨_, rfl, hc1.le (by omega), hg1⟩
  · have hz : ((l.length : Int) == 0) = false := by simpa using h0
    have hl0 : 0 < l.length := by omega
    go_enter Try.func69, Try.ntmps69
    go_wp2_with fail
    refine (one_any W _ g n _ HC.out (by omega)).mono ?_
    rintro e w1 ⟨b, rfl, hc1, hg1⟩
    have HC1 := Lib.hid hc1
    have HG1 := Lib.hid hg1
    have HO1 := Lib.hid (own_cur HO.out hlo hg1)
    clear hc1 hg1
    cases b with
    | true =>
      go_wp2_with fail
      refine (code6_any W _ g _ HC1.out (by omega)).mono ?_
      rintro e w2 ⟨r, rfl, hc2, hg2⟩
      go_wp2
      go_ret
      exact ⟨_, rfl, hc2.le (by omega), only_trans HG1.out hg2⟩
    | false =>
      go_wp2_with fail
      refine (pick_any W _ g _ _ HC1.out (by omega)).mono ?_
      rintro e w2 ⟨r, rfl, q1, q2, hc2, hg2⟩
      obtain ⟨k, rfl⟩ : ∃ k : Nat, r = (k : Int) := ⟨r.toNat, by omega⟩
      have hk : k < l.length := by omega
      have hs2 := sl_of_own Ctl.cells_length (own_cur HO1.out hlo hg2)
      obtain ⟨b, o, rfl⟩ := sl_some hs2 hl0
      have c0 := sl_cells hs2 hk (j := 0) (by omega)
      simp only [Ctl.cells, List.getElem?_cons_zero, Nat.add_zero] at c0
      have ob := World.oldB_of_cell c0
      generalize l[k].code = y at c0
      have HC2 := Lib.hid hc2
      have HG2 := Lib.hid (only_trans HG1.out hg2)
      clear hc2 hg2 hs2 q1 q2
      go_wp2
      go_ret
      exact ⟨_, rfl, HC2.out.le (by omega), HG2.out⟩
end Go.Proofs.Ytedpckkoaioooaa
