/- spec.l1Cur's clubs, startList: lists of at most 11 numbers. Condition: the reader has been asked less than a thousand times. -/
import Derived.Test.YtbghmkjjooiikaaCurP
import Derived.Test.YtbghmkjjooiikaaCut
import Derived.Test.YtbghmkjjooiikaaOwnAt
import Derived.Test.YtbghmkjjooiikaaInfoInt
namespace Go.Proofs.Ytbghmkjjooiikaa
open Go.RowKit Go.Ori
set_option maxHeartbeats 4000000 in
theorem clubs_any (W w : World) (g n : Nat) (h : Cur 101 W w g n) (hn : n ≤ 1000) :
    Calls Try.prog 109 #[.pointer (some ⟨g, 0, none⟩)] w fun x w' => ∃ v l, x = .returned v ∧ w'.own w.heap.size 3 intC 1 v l ∧ l.length ≤ 10 ∧ Cur 101 W w' g (n + 60) ∧ w.grownBy w' (some g) := by
  have HC := Lib.hid h
  have hgw := h.lt
  have hWw : W.heap.size ≤ w.heap.size := Nat.le_trans h.ge (Nat.le_of_lt hgw)
  clear h
  go_enter Try.func109, Try.ntmps109
  go_wp2_with fail
  refine (pick_any W _ g n _ (HC.out.gain (by repeat (first | with_reducible (first | exact World.gained_refl _ | exact ⟨_, rfl⟩ | apply gain_ext | apply gain_alloc | apply gain_drewN | apply gain_drew) | (refine gain_setCell ?_ (by first | exact Nat.le_refl _ | exact World.size_ext _ _ | (simp; done) | (simp; omega)) _)))) (by omega)).mono ?_
  rintro e w1 ⟨r, rfl, q1, q2, hc1, hg1⟩
  have hnil := own_cur (own_lit' (w := w) (e := 3) (l := ([] : List Int)) intC_length rfl rfl (Nat.le_refl _)) hgw hg1
  obtain ⟨N, rfl⟩ : ∃ N : Nat, r = (N : Int) := ⟨r.toNat, by omega⟩
  have hN : N ≤ 7 := by omega
  have hg1' : w.grownBy w1 (some g) := only_trans (only_gain (only_refl _ _) (gain_alloc (World.gained_refl _) _)) hg1
  have HG1 := Lib.hid hg1'
  have HC1 := Lib.hid hc1
  have HNIL := Lib.hid hnil
  clear hc1 hg1 hg1' hnil q1 q2
  go_wp2_with fail
  go_loopw [3, 4] (fun ov i wr => ∃ (k : Nat) (l : List Int), k ≤ 8 ∧ i = .int .i64 k ∧ l.length + k = N + 1 ∧ Cur 101 W wr g (n + 42 - 3 * k) ∧ wr.own w.heap.size 3 intC 1 ov l ∧ w.grownBy wr (some g)) (fun _ i _ => (intOf i).toNat)
  case atStart => exact ⟨N + 1, [], by omega, by go_num, by simp, HC1.out.le (by omega), HNIL.out, HG1.out⟩
  case round =>
    obtain ⟨k, l, hk, rfl, hlk, hcu, ho, hgb⟩ := hrel
    have HCU := Lib.hid hcu
    have HO := Lib.hid ho
    have HGB := Lib.hid hgb
    have hsz := only_size hgb
    clear hcu ho hgb
    by_cases hlt : 0 < k
    · go_wp2_with fail
      refine (among_any W _ g _ _ [0, 0, 1, 1, 2, 3, 5] w.heap.size (HCU.out.gain (by repeat (first | with_reducible (first | exact World.gained_refl _ | exact ⟨_, rfl⟩ | apply gain_ext | apply gain_alloc | apply gain_drewN | apply gain_drew) | (refine gain_setCell ?_ (by first | exact Nat.le_refl _ | exact World.size_ext _ _ | (simp; done) | (simp; omega)) _)))) (by omega) (own_lit' (l := [0, 0, 1, 1, 2, 3, 5]) intC_length rfl rfl hsz) hgw (by simp) (by simp)).mono ?_
      rintro e w2 ⟨r, rfl, _, hc2, hg2⟩
      have HO2 := Lib.hid (own_cur (own_up HO.out (by repeat (first | with_reducible (first | exact World.gained_refl _ | exact ⟨_, rfl⟩ | apply gain_ext | apply gain_alloc | apply gain_drewN | apply gain_drew) | (refine gain_setCell ?_ (by first | exact Nat.le_refl _ | exact World.size_ext _ _ | (simp; done) | (simp; omega)) _)))) hgw hg2)
      have HC2 := Lib.hid hc2
      have HG2 := Lib.hid (only_trans (only_gain HGB.out (by repeat (first | with_reducible (first | exact World.gained_refl _ | exact ⟨_, rfl⟩ | apply gain_ext | apply gain_alloc | apply gain_drewN | apply gain_drew) | (refine gain_setCell ?_ (by first | exact Nat.le_refl _ | exact World.size_ext _ _ | (simp; done) | (simp; omega)) _)))) hg2)
      have HUP := Lib.hid hc2.up
      clear hc2 hg2
      go_wp2_with (at_builtin; go_must (refine wpList_append_gain (W := W) (base := w.heap.size) (m := [r]) rfl (.tmp 13) (.tmp 17) rfl Try.underlying34 info_int (by rfl) (by omega) intC_length intC_one (by omega) (gain_trans HUP.out (by repeat (first | with_reducible (first | exact World.gained_refl _ | exact ⟨_, rfl⟩ | apply gain_ext | apply gain_alloc | apply gain_drewN | apply gain_drew) | (refine gain_setCell ?_ (by first | exact Nat.le_refl _ | exact World.size_ext _ _ | (simp; done) | (simp; omega)) _)))) hWw (Nat.le_trans (only_size HG2.out) (gain_size (by repeat (first | with_reducible (first | exact World.gained_refl _ | exact ⟨_, rfl⟩ | apply gain_ext | apply gain_alloc | apply gain_drewN | apply gain_drew) | (refine gain_setCell ?_ (by first | exact Nat.le_refl _ | exact World.size_ext _ _ | (simp; done) | (simp; omega)) _))))) rfl rfl (own_up (HO2.out) (by repeat (first | with_reducible (first | exact World.gained_refl _ | exact ⟨_, rfl⟩ | apply gain_ext | apply gain_alloc | apply gain_drewN | apply gain_drew) | (refine gain_setCell ?_ (by first | exact Nat.le_refl _ | exact World.size_ext _ _ | (simp; done) | (simp; omega)) _)))) (sl_lit (l := [r]) intC_length rfl (by simp)) (by simp; omega) ?_); intro v' d' ho hg)
      have HC3 := Lib.hid ((HC2.out.gain (by repeat (first | with_reducible (first | exact World.gained_refl _ | exact ⟨_, rfl⟩ | apply gain_ext | apply gain_alloc | apply gain_drewN | apply gain_drew) | (refine gain_setCell ?_ (by first | exact Nat.le_refl _ | exact World.size_ext _ _ | (simp; done) | (simp; omega)) _)))).grow hg (own_newer HO2.out hgw) ⟨_, rfl⟩)
      have HG3 := Lib.hid (only_new (only_gain HG2.out (by repeat (first | with_reducible (first | exact World.gained_refl _ | exact ⟨_, rfl⟩ | apply gain_ext | apply gain_alloc | apply gain_drewN | apply gain_drew) | (refine gain_setCell ?_ (by first | exact Nat.le_refl _ | exact World.size_ext _ _ | (simp; done) | (simp; omega)) _)))) hg (fun q hq => (own_lt HO2.out q hq).1))
      go_roundw
      case rel => exact ⟨k - 1, l ++ [r], by omega, by go_num, by simp; omega, HC3.out.le (by omega), ho, HG3.out⟩
      case measure => simp [intOf]; omega
    · obtain rfl : k = 0 := by omega
      have hl0 : 0 < l.length := by omega
      obtain ⟨gl, cap, rfl, hgl, hglt⟩ := own_addr HO.out hl0
      go_wp2_with fail
      refine (pick_any W _ g _ _ HCU.out (by omega)).mono ?_
      rintro e w2 ⟨r, rfl, q1, q2, hc2, hg2⟩
      have HO2 := Lib.hid (own_cur HO.out hgw hg2)
      have HC2 := Lib.hid hc2
      have HG2 := Lib.hid (only_trans HGB.out hg2)
      clear hc2 hg2 q2
      cases h0 : r == 0 with
      | true =>
        go_wp2_with fail
        refine (among_any W _ g _ _ [-1, 6] w.heap.size (HC2.out.gain (by repeat (first | with_reducible (first | exact World.gained_refl _ | exact ⟨_, rfl⟩ | apply gain_ext | apply gain_alloc | apply gain_drewN | apply gain_drew) | (refine gain_setCell ?_ (by first | exact Nat.le_refl _ | exact World.size_ext _ _ | (simp; done) | (simp; omega)) _)))) (by omega) (own_lit' (l := [-1, 6]) intC_length rfl rfl (only_size HG2.out)) hgw (by simp) (by simp)).mono ?_
        rintro e w3 ⟨r3, rfl, _, hc3, hg3⟩
        have HO3 := Lib.hid (own_cur (own_up HO2.out (by repeat (first | with_reducible (first | exact World.gained_refl _ | exact ⟨_, rfl⟩ | apply gain_ext | apply gain_alloc | apply gain_drewN | apply gain_drew) | (refine gain_setCell ?_ (by first | exact Nat.le_refl _ | exact World.size_ext _ _ | (simp; done) | (simp; omega)) _)))) hgw hg3)
        obtain ⟨t0, z0⟩ := own_at HO3.out (k := 0) hl0
        have obg := World.oldB_of_cell t0
        have HC3 := Lib.hid hc3
        have HG3 := Lib.hid (only_trans (only_gain HG2.out (by repeat (first | with_reducible (first | exact World.gained_refl _ | exact ⟨_, rfl⟩ | apply gain_ext | apply gain_alloc | apply gain_drewN | apply gain_drew) | (refine gain_setCell ?_ (by first | exact Nat.le_refl _ | exact World.size_ext _ _ | (simp; done) | (simp; omega)) _)))) hg3)
        clear hc3 hg3
        go_wp2
        go_ret
        exact ⟨_, _, rfl, own_set HO3.out hl0 _, by simp; omega, (HC3.out.grow (only_setCell (g := gl) (only_refl _ _) rfl _) (fun q hq => by cases hq; omega) (gain_setCell HC3.out.up (show W.heap.size ≤ gl by omega) _)).le (by omega), only_new HG3.out (only_setCell (g := gl) (only_refl _ _) rfl _) (fun q hq => by cases hq; omega)⟩
      | false =>
        cases h1 : r == 1 with
        | true =>
          have HUP := Lib.hid HC2.out.up
          go_wp2_with (at_builtin; go_must (refine wpList_append_gain (W := W) (base := w.heap.size) (m := [0, 1]) rfl (.tmp 30) (.tmp 31) rfl Try.underlying34 info_int (by rfl) (by omega) intC_length intC_one (by omega) (gain_trans HUP.out (by repeat (first | with_reducible (first | exact World.gained_refl _ | exact ⟨_, rfl⟩ | apply gain_ext | apply gain_alloc | apply gain_drewN | apply gain_drew) | (refine gain_setCell ?_ (by first | exact Nat.le_refl _ | exact World.size_ext _ _ | (simp; done) | (simp; omega)) _)))) hWw (Nat.le_trans (only_size HG2.out) (gain_size (by repeat (first | with_reducible (first | exact World.gained_refl _ | exact ⟨_, rfl⟩ | apply gain_ext | apply gain_alloc | apply gain_drewN | apply gain_drew) | (refine gain_setCell ?_ (by first | exact Nat.le_refl _ | exact World.size_ext _ _ | (simp; done) | (simp; omega)) _))))) rfl rfl (own_up (HO2.out) (by repeat (first | with_reducible (first | exact World.gained_refl _ | exact ⟨_, rfl⟩ | apply gain_ext | apply gain_alloc | apply gain_drewN | apply gain_drew) | (refine gain_setCell ?_ (by first | exact Nat.le_refl _ | exact World.size_ext _ _ | (simp; done) | (simp; omega)) _)))) (sl_lit (l := [0, 1]) intC_length rfl (by simp)) (by simp; omega) ?_); intro v' d' ho hg)
          go_ret
          exact ⟨_, _, rfl, ho, by simp; omega, ((HC2.out.gain (by repeat (first | with_reducible (first | exact World.gained_refl _ | exact ⟨_, rfl⟩ | apply gain_ext | apply gain_alloc | apply gain_drewN | apply gain_drew) | (refine gain_setCell ?_ (by first | exact Nat.le_refl _ | exact World.size_ext _ _ | (simp; done) | (simp; omega)) _)))).grow hg (own_newer HO2.out hgw) ⟨_, rfl⟩).le (by omega), only_new (only_gain HG2.out (by repeat (first | with_reducible (first | exact World.gained_refl _ | exact ⟨_, rfl⟩ | apply gain_ext | apply gain_alloc | apply gain_drewN | apply gain_drew) | (refine gain_setCell ?_ (by first | exact Nat.le_refl _ | exact World.size_ext _ _ | (simp; done) | (simp; omega)) _)))) hg (fun q hq => (own_lt HO2.out q hq).1)⟩
        | false =>
          cases h2 : r == 2 with
          | true =>
            go_wp2
            go_ret
            exact ⟨_, _, rfl, own_lit' (l := ([] : List Int)) intC_length rfl rfl (only_size HG2.out), by simp, (HC2.out.gain (by repeat (first | with_reducible (first | exact World.gained_refl _ | exact ⟨_, rfl⟩ | apply gain_ext | apply gain_alloc | apply gain_drewN | apply gain_drew) | (refine gain_setCell ?_ (by first | exact Nat.le_refl _ | exact World.size_ext _ _ | (simp; done) | (simp; omega)) _)))).le (by omega), only_gain HG2.out (by repeat (first | with_reducible (first | exact World.gained_refl _ | exact ⟨_, rfl⟩ | apply gain_ext | apply gain_alloc | apply gain_drewN | apply gain_drew) | (refine gain_setCell ?_ (by first | exact Nat.le_refl _ | exact World.size_ext _ _ | (simp; done) | (simp; omega)) _)))⟩
          | false =>
            go_wp2
            go_ret
            exact ⟨_, _, rfl, HO2.out, by omega, HC2.out.le (by omega), HG2.out⟩
set_option maxHeartbeats 4000000 in
theorem startList_any (W w : World) (g n : Nat) (v : Value) (lc : List Int) (lo : Nat) (h : Cur 101 W w g n) (hn : n ≤ 1000) (hoc : w.own lo 3 intC 1 v lc) (hlo : g < lo) (hlc : lc.length ≤ 10) :
    Calls Try.prog 110 #[.pointer (some ⟨g, 0, none⟩), v] w fun x w' => ∃ v l, x = .returned v ∧ w'.own w.heap.size 3 intC 1 v l ∧ l.length ≤ 11 ∧ Cur 101 W w' g (n + 60) ∧ w.grownBy w' (some g) := by
  have HC := Lib.hid h
  have hgw := h.lt
  have hWw : W.heap.size ≤ w.heap.size := Nat.le_trans h.ge (Nat.le_of_lt hgw)
  obtain ⟨p, c, rfl, _⟩ := sl_of_own intC_length hoc
  clear h hoc
  go_enter Try.func110, Try.ntmps110
  go_wp2_with fail
  go_loopw [5, 6] (fun ov i wr => ∃ (k gl cap : Nat) (l : List Int), k ≤ lc.length ∧ i = .int .i64 k ∧ l.length = k ∧ ov = .slice (some ⟨gl, 0, none⟩) k cap ∧ Cur 101 W wr g (n + 3 * k) ∧ wr.own w.heap.size 3 intC 1 ov l ∧ w.grownBy wr (some g)) (fun _ i _ => lc.length - (intOf i).toNat)
  case atStart => exact ⟨0, _, _, [], by omega, rfl, rfl, rfl, (HC.out.gain (by repeat (first | with_reducible (first | exact World.gained_refl _ | exact ⟨_, rfl⟩ | apply gain_ext | apply gain_alloc | apply gain_drewN | apply gain_drew) | (refine gain_setCell ?_ (by first | exact Nat.le_refl _ | exact World.size_ext _ _ | (simp; done) | (simp; omega)) _)))).le (by omega), own_lit' (l := ([] : List Int)) intC_length rfl rfl (gain_size (by repeat (first | with_reducible (first | exact World.gained_refl _ | exact ⟨_, rfl⟩ | apply gain_ext | apply gain_alloc | apply gain_drewN | apply gain_drew) | (refine gain_setCell ?_ (by first | exact Nat.le_refl _ | exact World.size_ext _ _ | (simp; done) | (simp; omega)) _)))), only_gain (only_refl _ _) (by repeat (first | with_reducible (first | exact World.gained_refl _ | exact ⟨_, rfl⟩ | apply gain_ext | apply gain_alloc | apply gain_drewN | apply gain_drew) | (refine gain_setCell ?_ (by first | exact Nat.le_refl _ | exact World.size_ext _ _ | (simp; done) | (simp; omega)) _)))⟩
  case round =>
    obtain ⟨k, gl, cap, l, hk, rfl, hll, rfl, hcu, ho, hgb⟩ := hrel
    have HCU := Lib.hid hcu
    have HO := Lib.hid ho
    have HGB := Lib.hid hgb
    have hsz := only_size hgb
    clear hcu ho hgb
    by_cases hlt : k < lc.length
    · go_wp2_with fail
      refine (pick_any W _ g _ _ HCU.out (by omega)).mono ?_
      rintro e w2 ⟨r, rfl, q1, q2, hc2, hg2⟩
      obtain ⟨q, rfl⟩ : ∃ q : Nat, r = (q : Int) := ⟨r.toNat, by omega⟩
      have hq : q ≤ k := by omega
      have HO2 := Lib.hid (own_cur HO.out hgw hg2)
      have HC2 := Lib.hid hc2
      have HG2 := Lib.hid (only_trans HGB.out hg2)
      have HUP := Lib.hid hc2.up
      have hsz2 := only_size HG2.out
      have hcp : l.length ≤ cap := by
        have := sl_of_own intC_length HO2.out
        rw [← hll] at this
        exact sl_cap this
      have hs2 := Lib.hid (show w2.sl intC 1 (.slice (some ⟨gl, 0, none⟩) l.length cap) l by have := sl_of_own intC_length HO2.out; rw [← hll] at this; exact this)
      have hqc : q ≤ cap := by omega
      have hk0 : (0 : Int) ≤ (q : Int) := by omega
      have hk1 : (q : Int) ≤ (cap : Int) := by omega
      have hk2 : (q : Int) ≤ (k : Int) := by omega
      subst hll
      obtain ⟨A, hA⟩ : ∃ A : Addr, (if cap = q then some (⟨gl, 0, none⟩ : Addr) else some ⟨gl, q, none⟩) = some A := by split <;> exact ⟨_, rfl⟩
      clear hc2 hg2 q2
      go_wp2_with fail
      have HLC := Lib.hid (show ((l.take q ++ [(l.length : Int)]) ++ l.drop q).length = l.length + 1 by simp; omega)
      go_region_law (first | (refine step_append_gain (W := w2) (base := w2.heap.size) (m := l.take q) (u := .slice (some ⟨gl, 0, none⟩) q cap) rfl (.tmp 20) (.tmp 23) rfl Try.underlying34 info_int (by rfl) (by omega) intC_length intC_one (by omega) (by repeat (first | with_reducible (first | exact World.gained_refl _ | exact ⟨_, rfl⟩ | apply gain_ext | apply gain_alloc | apply gain_drewN | apply gain_drew) | (refine gain_setCell ?_ (by first | exact Nat.le_refl _ | exact World.size_ext _ _ | (simp; done) | (simp; omega)) _))) (Nat.le_refl _) (gain_size (by repeat (first | with_reducible (first | exact World.gained_refl _ | exact ⟨_, rfl⟩ | apply gain_ext | apply gain_alloc | apply gain_drewN | apply gain_drew) | (refine gain_setCell ?_ (by first | exact Nat.le_refl _ | exact World.size_ext _ _ | (simp; done) | (simp; omega)) _)))) (by simp [Act.eval, Act.put]) (by simp [Act.eval, Act.put]) (own_lit' (l := ([] : List Int)) intC_length rfl rfl (gain_size (by repeat (first | with_reducible (first | exact World.gained_refl _ | exact ⟨_, rfl⟩ | apply gain_ext | apply gain_alloc | apply gain_drewN | apply gain_drew) | (refine gain_setCell ?_ (by first | exact Nat.le_refl _ | exact World.size_ext _ _ | (simp; done) | (simp; omega)) _))))) (sl_take (by with_reducible (repeat (first | exact hs2.out | refine World.sl_ext intC_length ?_ _ | refine sl_alloc intC_length ?_ _ | refine sl_drew ?_))) (by omega)) (by simp; omega) ?_; intro vA dA hoA hgA; have hln := sl_mark intC_length (sl_drew (sl_alloc intC_length (sl_lit (l := [(l.length : Int)]) (C := #[.int .i64 ((l.length : Int))]) (g := (w2).heap.size) intC_length rfl rfl) _)) hgA (apart_ne (by first | omega | (simp [World.size_alloc]; done) | (simp [World.size_alloc]; omega)))) | (refine step_append_gain (W := w2) (base := w2.heap.size) (m := l.take q) (u := .slice (some ⟨gl, 0, none⟩) q cap) rfl (.tmp 20) (.tmp 23) rfl Try.underlying34 info_int (by rfl) (by omega) intC_length intC_one (by omega) (by repeat (first | with_reducible (first | exact World.gained_refl _ | exact ⟨_, rfl⟩ | apply gain_ext | apply gain_alloc | apply gain_drewN | apply gain_drew) | (refine gain_setCell ?_ (by first | exact Nat.le_refl _ | exact World.size_ext _ _ | (simp; done) | (simp; omega)) _))) (Nat.le_refl _) (gain_size (by repeat (first | with_reducible (first | exact World.gained_refl _ | exact ⟨_, rfl⟩ | apply gain_ext | apply gain_alloc | apply gain_drewN | apply gain_drew) | (refine gain_setCell ?_ (by first | exact Nat.le_refl _ | exact World.size_ext _ _ | (simp; done) | (simp; omega)) _)))) (by simp [Act.eval, Act.put]) (by simp [Act.eval, Act.put]) (own_lit' (l := ([] : List Int)) intC_length rfl rfl (gain_size (by repeat (first | with_reducible (first | exact World.gained_refl _ | exact ⟨_, rfl⟩ | apply gain_ext | apply gain_alloc | apply gain_drewN | apply gain_drew) | (refine gain_setCell ?_ (by first | exact Nat.le_refl _ | exact World.size_ext _ _ | (simp; done) | (simp; omega)) _))))) (sl_take (by with_reducible (repeat (first | exact hs2.out | refine World.sl_ext intC_length ?_ _ | refine sl_alloc intC_length ?_ _ | refine sl_drew ?_))) (by omega)) (by simp; omega) ?_; intro vA dA hoA hgA) | (refine step_append_gain (W := w2) (base := w2.heap.size) (m := l.take q) (u := .slice (some ⟨gl, 0, none⟩) q cap) rfl (.tmp 20) (.tmp 23) rfl Try.underlying34 info_int (by rfl) (by omega) intC_length intC_one (by omega) (by repeat (first | with_reducible (first | exact World.gained_refl _ | exact ⟨_, rfl⟩ | apply gain_ext | apply gain_alloc | apply gain_drewN | apply gain_drew) | (refine gain_setCell ?_ (by first | exact Nat.le_refl _ | exact World.size_ext _ _ | (simp; done) | (simp; omega)) _))) (Nat.le_refl _) (gain_size (by repeat (first | with_reducible (first | exact World.gained_refl _ | exact ⟨_, rfl⟩ | apply gain_ext | apply gain_alloc | apply gain_drewN | apply gain_drew) | (refine gain_setCell ?_ (by first | exact Nat.le_refl _ | exact World.size_ext _ _ | (simp; done) | (simp; omega)) _)))) (by simp [Act.eval, Act.put]) (by simp [Act.eval, Act.put]) (own_alloc (own_lit' (l := ([] : List Int)) intC_length rfl rfl (gain_size (by repeat (first | with_reducible (first | exact World.gained_refl _ | exact ⟨_, rfl⟩ | apply gain_ext | apply gain_alloc | apply gain_drewN | apply gain_drew) | (refine gain_setCell ?_ (by first | exact Nat.le_refl _ | exact World.size_ext _ _ | (simp; done) | (simp; omega)) _))))) _) (sl_take (by with_reducible (repeat (first | exact hs2.out | refine World.sl_ext intC_length ?_ _ | refine sl_alloc intC_length ?_ _ | refine sl_drew ?_))) (by omega)) (by simp; omega) ?_; intro vA dA hoA hgA; have hln := sl_mark intC_length (sl_drew (sl_lit (l := [(l.length : Int)]) (C := #[.int .i64 ((l.length : Int))]) (g := (w2).heap.size + 1) intC_length rfl (by simp [World.size_alloc]))) hgA (apart_ne (by omega))) | (refine step_append_gain (W := w2) (base := w2.heap.size) (m := [(l.length : Int)]) rfl (.tmp 24) (.tmp 26) rfl Try.underlying34 info_int (by rfl) (by omega) intC_length intC_one (by omega) (by repeat (first | with_reducible (first | exact World.gained_refl _ | exact ⟨_, rfl⟩ | apply gain_ext | apply gain_alloc | apply gain_drewN | apply gain_drew) | (refine gain_setCell ?_ (by first | exact Nat.le_refl _ | exact World.size_ext _ _ | (simp; done) | (simp; omega)) _))) (Nat.le_refl _) (gain_size (by repeat (first | with_reducible (first | exact World.gained_refl _ | exact ⟨_, rfl⟩ | apply gain_ext | apply gain_alloc | apply gain_drewN | apply gain_drew) | (refine gain_setCell ?_ (by first | exact Nat.le_refl _ | exact World.size_ext _ _ | (simp; done) | (simp; omega)) _)))) (by simp [Act.eval, Act.put]) rfl (own_up (hoA) (by repeat (first | with_reducible (first | exact World.gained_refl _ | exact ⟨_, rfl⟩ | apply gain_ext | apply gain_alloc | apply gain_drewN | apply gain_drew) | (refine gain_setCell ?_ (by first | exact Nat.le_refl _ | exact World.size_ext _ _ | (simp; done) | (simp; omega)) _)))) (sl_lit (l := [(l.length : Int)]) intC_length rfl (by simp)) (by simp; omega) ?_; intro vB dB hoB hgB) | (refine step_append_gain (W := w2) (base := w2.heap.size) (m := [(l.length : Int)]) rfl (.tmp 24) (.tmp 26) rfl Try.underlying34 info_int (by rfl) (by omega) intC_length intC_one (by omega) (by repeat (first | with_reducible (first | exact World.gained_refl _ | exact ⟨_, rfl⟩ | apply gain_ext | apply gain_alloc | apply gain_drewN | apply gain_drew) | (refine gain_setCell ?_ (by first | exact Nat.le_refl _ | exact World.size_ext _ _ | (simp; done) | (simp; omega)) _))) (Nat.le_refl _) (gain_size (by repeat (first | with_reducible (first | exact World.gained_refl _ | exact ⟨_, rfl⟩ | apply gain_ext | apply gain_alloc | apply gain_drewN | apply gain_drew) | (refine gain_setCell ?_ (by first | exact Nat.le_refl _ | exact World.size_ext _ _ | (simp; done) | (simp; omega)) _)))) (by simp [Act.eval, Act.put]) rfl (own_up (hoA) (by repeat (first | with_reducible (first | exact World.gained_refl _ | exact ⟨_, rfl⟩ | apply gain_ext | apply gain_alloc | apply gain_drewN | apply gain_drew) | (refine gain_setCell ?_ (by first | exact Nat.le_refl _ | exact World.size_ext _ _ | (simp; done) | (simp; omega)) _)))) (hln) (by simp; omega) ?_; intro vB dB hoB hgB) | (refine step_append_gain (W := w2) (base := w2.heap.size) (m := l.drop q) (u := .slice (some A) (l.length - q) (cap - q)) rfl (.tmp 27) (.tmp 30) rfl Try.underlying34 info_int (by rfl) (by omega) intC_length intC_one (by omega) (by repeat (first | with_reducible (first | exact World.gained_refl _ | exact ⟨_, rfl⟩ | apply gain_ext | apply gain_alloc | apply gain_drewN | apply gain_drew) | (refine gain_setCell ?_ (by first | exact Nat.le_refl _ | exact World.size_ext _ _ | (simp; done) | (simp; omega)) _))) (Nat.le_refl _) (gain_size (by repeat (first | with_reducible (first | exact World.gained_refl _ | exact ⟨_, rfl⟩ | apply gain_ext | apply gain_alloc | apply gain_drewN | apply gain_drew) | (refine gain_setCell ?_ (by first | exact Nat.le_refl _ | exact World.size_ext _ _ | (simp; done) | (simp; omega)) _)))) (by simp [Act.eval, Act.put]) (by simp [Act.eval, Act.put]) (own_up (hoB) (by repeat (first | with_reducible (first | exact World.gained_refl _ | exact ⟨_, rfl⟩ | apply gain_ext | apply gain_alloc | apply gain_drewN | apply gain_drew) | (refine gain_setCell ?_ (by first | exact Nat.le_refl _ | exact World.size_ext _ _ | (simp; done) | (simp; omega)) _)))) (sl_drop_any (by with_reducible (repeat (first | exact hs2.out | refine World.sl_ext intC_length ?_ _ | refine sl_alloc intC_length ?_ _ | refine sl_drew ?_))) (by omega) (by rw [Nat.mul_one, Nat.zero_add]; exact hA)) (by simp; omega) ?_; intro vC dC hoC hgC))
      all_goals (
        rw [List.nil_append] at hoC
        go_wp2_with fail
        obtain ⟨gC, capC, rfl, -, -⟩ := own_addr hoC (by rw [HLC.out]; omega)
        go_roundw
        case rel => exact ⟨l.length + 1, gC, capC, (l.take q ++ [(l.length : Int)]) ++ l.drop q, by omega, by go_num, by simp; omega, by rw [HLC.out], (HC2.out.gain (by repeat (first | with_reducible (first | exact World.gained_refl _ | exact ⟨_, rfl⟩ | apply gain_ext | apply gain_alloc | apply gain_drewN | apply gain_drew) | (refine gain_setCell ?_ (by first | exact Nat.le_refl _ | exact World.size_ext _ _ | (simp; done) | (simp; omega)) _)))).le (by omega), own_base hoC hsz2, only_gain HG2.out (by repeat (first | with_reducible (first | exact World.gained_refl _ | exact ⟨_, rfl⟩ | apply gain_ext | apply gain_alloc | apply gain_drewN | apply gain_drew) | (refine gain_setCell ?_ (by first | exact Nat.le_refl _ | exact World.size_ext _ _ | (simp; done) | (simp; omega)) _)))⟩
        case measure => simp [intOf]; omega)
    · subst hll
      go_wp2_with fail
      refine (pick_any W _ g _ _ HCU.out (by omega)).mono ?_
      rintro e w2 ⟨r, rfl, q1, q2, hc2, hg2⟩
      have HO2 := Lib.hid (own_cur HO.out hgw hg2)
      have HC2 := Lib.hid hc2
      have HG2 := Lib.hid (only_trans HGB.out hg2)
      have HUP := Lib.hid hc2.up
      clear hc2 hg2 q2
      cases h0 : r == 0 with
      | true =>
        go_wp2_with (at_builtin; go_must (refine wpList_append_gain (W := W) (base := w.heap.size) (m := [(l.length : Int)]) rfl (.tmp 36) (.tmp 39) rfl Try.underlying34 info_int (by rfl) (by omega) intC_length intC_one (by omega) (gain_trans HUP.out (by repeat (first | with_reducible (first | exact World.gained_refl _ | exact ⟨_, rfl⟩ | apply gain_ext | apply gain_alloc | apply gain_drewN | apply gain_drew) | (refine gain_setCell ?_ (by first | exact Nat.le_refl _ | exact World.size_ext _ _ | (simp; done) | (simp; omega)) _)))) hWw (Nat.le_trans (only_size HG2.out) (gain_size (by repeat (first | with_reducible (first | exact World.gained_refl _ | exact ⟨_, rfl⟩ | apply gain_ext | apply gain_alloc | apply gain_drewN | apply gain_drew) | (refine gain_setCell ?_ (by first | exact Nat.le_refl _ | exact World.size_ext _ _ | (simp; done) | (simp; omega)) _))))) rfl rfl (own_up (HO2.out) (by repeat (first | with_reducible (first | exact World.gained_refl _ | exact ⟨_, rfl⟩ | apply gain_ext | apply gain_alloc | apply gain_drewN | apply gain_drew) | (refine gain_setCell ?_ (by first | exact Nat.le_refl _ | exact World.size_ext _ _ | (simp; done) | (simp; omega)) _)))) (sl_lit (l := [(l.length : Int)]) intC_length rfl (by simp)) (by simp; omega) ?_); intro v' d' ho hg)
        go_ret
        exact ⟨_, _, rfl, ho, by simp; omega, ((HC2.out.gain (by repeat (first | with_reducible (first | exact World.gained_refl _ | exact ⟨_, rfl⟩ | apply gain_ext | apply gain_alloc | apply gain_drewN | apply gain_drew) | (refine gain_setCell ?_ (by first | exact Nat.le_refl _ | exact World.size_ext _ _ | (simp; done) | (simp; omega)) _)))).grow hg (own_newer HO2.out hgw) ⟨_, rfl⟩).le (by omega), only_new (only_gain HG2.out (by repeat (first | with_reducible (first | exact World.gained_refl _ | exact ⟨_, rfl⟩ | apply gain_ext | apply gain_alloc | apply gain_drewN | apply gain_drew) | (refine gain_setCell ?_ (by first | exact Nat.le_refl _ | exact World.size_ext _ _ | (simp; done) | (simp; omega)) _)))) hg (fun q hq => (own_lt HO2.out q hq).1)⟩
      | false =>
        cases h1 : r == 1 with
        | true =>
          by_cases hk0 : 0 < l.length
          · have hkk : decide (0 < l.length) = true := decide_eq_true hk0
            have hl0 : 0 < l.length := hk0
            go_wp2_with fail
            refine (pick_any W _ g _ _ HC2.out (by omega)).mono ?_
            rintro e w3 ⟨r3, rfl, q3, q4, hc3, hg3⟩
            have HO3 := Lib.hid (own_cur HO2.out hgw hg3)
            obtain ⟨t0, z0⟩ := own_at HO3.out (k := 0) hl0
            have obg := World.oldB_of_cell t0
            have HC3 := Lib.hid hc3
            have HG3 := Lib.hid (only_trans HG2.out hg3)
            obtain ⟨gq, cq, hgq1, hgq2, -⟩ := own_addr HO2.out hl0
            have hglw : w.heap.size ≤ gl := by cases hgq1; exact hgq2
            clear hc3 hg3 hgq1 hgq2
            go_wp2
            go_ret
            exact ⟨_, _, rfl, own_set HO3.out hl0 _, by simp; omega, (HC3.out.grow (only_setCell (g := gl) (only_refl _ _) rfl _) (fun q hq => by cases hq; omega) (gain_setCell HC3.out.up (show W.heap.size ≤ gl by omega) _)).le (by omega), only_new HG3.out (only_setCell (g := gl) (only_refl _ _) rfl _) (fun q hq => by cases hq; omega)⟩
          · go_wp2
            go_ret
            exact ⟨_, _, rfl, HO2.out, by omega, HC2.out.le (by omega), HG2.out⟩
        | false =>
          go_wp2
          go_ret
          exact ⟨_, _, rfl, HO2.out, by omega, HC2.out.le (by omega), HG2.out⟩
end Go.Proofs.Ytbghmkjjooiikaa
