/- Texts laid together: What is at hand while a map, controls and more are drawn. No condition.; spec.l1Cur's course. Condition: the reader has been asked less than five thousand times. -/
import Derived.Test.YtmcimgnobimicaaGreatG12
import Derived.Test.YtmcimgnobimicaaGreatG9
import Derived.Test.YtmcimgnobimicaaGreatG11
/- What is at hand while a map, controls and more are drawn. No condition. -/
namespace Go
open RowKit Go.Ori
structure QSt (T tM tI tC : TypeId) (W wr : World) (g gR gM lo n : Nat) (m : Mp) (rv cv v : Value) (l : List Ctl) : Prop where
  cur : Cur T W wr g n
  res : wr.heap[gR]? = some (.cells #[.int .i64 0, .int .i64 0, .slice none 0 0, .slice none 0 0] tM (0, 0))
  box : wr.heap[gM]? = some (.cells #[.int .i64 m.wd, .int .i64 m.ht, rv, cv] tM (0, 0))
  r : wr.own lo tI intC 1 rv m.rise
  c : wr.own lo tI intC 1 cv m.cost
  ls : wr.own lo tC Ctl.cells 2 v l
  g1 : g < lo
  g2 : gR < g
  g3 : lo ≤ gM
section
variable {T tM tI tC : TypeId} {W wr wr' : World} {g gR gM lo n n' : Nat} {m : Mp} {rv cv v : Value} {l : List Ctl}
theorem QSt.up (h : QSt T tM tI tC W wr g gR gM lo n m rv cv v l) (hg : ∃ d, wr' = wr.ext d) : QSt T tM tI tC W wr' g gR gM lo n m rv cv v l :=
  ⟨h.cur.gain hg, row_up h.res hg, row_up h.box hg, own_up h.r hg, own_up h.c hg, own_up h.ls hg, h.g1, h.g2, h.g3⟩
theorem QSt.le (h : QSt T tM tI tC W wr g gR gM lo n m rv cv v l) (hn : n ≤ n') : QSt T tM tI tC W wr g gR gM lo n' m rv cv v l :=
  ⟨h.cur.le hn, h.res, h.box, h.r, h.c, h.ls, h.g1, h.g2, h.g3⟩
theorem QSt.on (h : QSt T tM tI tC W wr g gR gM lo n m rv cv v l) (hc : Cur T W wr' g n') (hg : wr.grownBy wr' (some g)) : QSt T tM tI tC W wr' g gR gM lo n' m rv cv v l := by
  have h1 := h.g1; have h2 := h.g2; have h3 := h.g3
  exact ⟨hc, row_keep h.res hg (fun q e => by cases e; omega), row_keep h.box hg (fun q e => by cases e; omega), own_cur h.r h.g1 hg, own_cur h.c h.g1 hg, own_cur h.ls h.g1 hg, h.g1, h.g2, h.g3⟩
theorem QSt.mp (h : QSt T tM tI tC W wr g gR gM lo n m rv cv v l) (hrl : m.rise.length ≤ 1048576) (hcl : m.cost.length ≤ 1048576) : wr.mp rv cv m := ⟨sl_of_own intC_length h.r, sl_of_own intC_length h.c, hrl, hcl⟩
theorem QSt.size (h : QSt T tM tI tC W wr g gR gM lo n m rv cv v l) : lo < wr.heap.size := by
  have := (Array.getElem?_eq_some_iff.1 h.box).1
  have := h.g3
  omega
/-- The result's own box is written. -/
theorem QSt.fin {wr0 : World} (h : QSt T tM tI tC W wr g gR gM lo n m rv cv v l) (hg : wr.grownBy wr' (some gR)) (hW : ∃ d, W = wr0.ext d) (hR : wr0.heap.size ≤ gR) :
    (∃ d, wr' = wr0.ext d) ∧ wr'.own lo tI intC 1 rv m.rise ∧ wr'.own lo tI intC 1 cv m.cost ∧ wr'.own lo tC Ctl.cells 2 v l ∧ wr'.heap[gM]? = some (.cells #[.int .i64 m.wd, .int .i64 m.ht, rv, cv] tM (0, 0)) := by
  have h1 := h.g1; have h2 := h.g2; have h3 := h.g3
  exact ⟨gain_grown (gain_trans hW h.cur.up) hg (fun q e => by cases e; exact hR), own_not h.r (fun q e => by have := (own_lt h.r q e).1; omega) hg, own_not h.c (fun q e => by have := (own_lt h.c q e).1; omega) hg, own_not h.ls (fun q e => by have := (own_lt h.ls q e).1; omega) hg, row_keep h.box hg (fun q e => by cases e; omega)⟩
end
end Go
/- spec.l1Cur's course. Condition: the reader has been asked less than five thousand times. -/
namespace Go.Proofs.YtmcimgnobimicaaGreat
open Go.RowKit Go.Ori
set_option maxHeartbeats 8000000 in
theorem course_any (W w : World) (g n lo : Nat) (v : Value) (l : List Ctl) (h : Cur 60 W w g n) (hn : n ≤ 5000) (hlo : g < lo) (ho : w.own lo 73 Ctl.cells 2 v l) (hl : l.length ≤ 1048576) :
    Calls Tryz.prog 36 #[.pointer (some ⟨g, 0, none⟩), v] w fun x w' => ∃ r rl, x = .returned r ∧ w'.own w.heap.size 3 intC 1 r rl ∧ rl.length ≤ 9 ∧ Cur 60 W w' g (n + 100) ∧ w.grownBy w' (some g) := by
  have HC := Lib.hid h
  have HO := Lib.hid ho
  have hgw := h.lt
  have hWw : W.heap.size ≤ w.heap.size := Nat.le_trans h.ge (Nat.le_of_lt hgw)
  have hclt := fun b hb => (own_lt ho b hb).2
  obtain ⟨p, c, rfl, _⟩ := sl_of_own Ctl.cells_length ho
  clear h ho
  go_enter Tryz.func36, Tryz.ntmps36
  go_wp2_with fail
  refine (pick_any W _ g n _ (HC.out.gain (by repeat (first | with_reducible (first | exact World.gained_refl _ | exact ⟨_, rfl⟩ | apply gain_ext | apply gain_alloc | apply gain_drewN | apply gain_drew) | (refine gain_setCell ?_ (by first | exact Nat.le_refl _ | exact World.size_ext _ _ | (simp; done) | (simp; omega)) _)))) (by omega)).mono ?_
  rintro e w1 ⟨r, rfl, q1, q2, hc1, hg1⟩
  obtain ⟨N, rfl⟩ : ∃ N : Nat, r = (N : Int) := ⟨r.toNat, by omega⟩
  have hN : N ≤ 5 := by omega
  have hw1 : IntKind.i64.wrap (2 + (N : Int)) = 2 + (N : Int) := IntWalk.i64_in _ (by omega)
  have HNIL := Lib.hid (own_cur (own_lit' (w := w) (e := 3) (C := #[]) (l := ([] : List Int)) intC_length rfl rfl (Nat.le_refl _)) hgw hg1)
  have HL1 := Lib.hid (own_cur (own_up HO.out (by repeat (first | with_reducible (first | exact World.gained_refl _ | exact ⟨_, rfl⟩ | apply gain_ext | apply gain_alloc | apply gain_drewN | apply gain_drew) | (refine gain_setCell ?_ (by first | exact Nat.le_refl _ | exact World.size_ext _ _ | (simp; done) | (simp; omega)) _)))) hlo hg1)
  have HC1 := Lib.hid hc1
  have HG1 := Lib.hid (only_trans (only_gain (only_refl w (some g)) (by repeat (first | with_reducible (first | exact World.gained_refl _ | exact ⟨_, rfl⟩ | apply gain_ext | apply gain_alloc | apply gain_drewN | apply gain_drew) | (refine gain_setCell ?_ (by first | exact Nat.le_refl _ | exact World.size_ext _ _ | (simp; done) | (simp; omega)) _)))) hg1)
  clear hc1 hg1 q1 q2
  go_wp2_with fail
  go_loopw [5, 6] (fun ov i wr => ∃ (k : Nat) (q : List Int), k ≤ 7 ∧ i = .int .i64 k ∧ q.length + k ≤ 7 ∧ Cur 60 W wr g (n + 60 - 8 * k) ∧ wr.own w.heap.size 3 intC 1 ov q ∧ wr.own lo 73 Ctl.cells 2 (.slice p l.length c) l ∧ w.grownBy wr (some g)) (fun _ i _ => (intOf i).toNat)
  case atStart => exact ⟨N + 2, [], by omega, by go_num, by simp; omega, HC1.out.le (by omega), HNIL.out, HL1.out, HG1.out⟩
  case round =>
    obtain ⟨k, q, hk, rfl, hqk, hcu, hoq, hol, hgb⟩ := hrel
    have HCU := Lib.hid hcu
    have HOQ := Lib.hid hoq
    have HOL := Lib.hid hol
    have HGB := Lib.hid hgb
    clear hcu hol hgb
    by_cases hlt : 0 < k
    · have hkd : decide (0 < (k : Int)) = true := decide_eq_true (by omega)
      have hwk : IntKind.i64.wrap ((k : Int) - 1) = (k : Int) - 1 := IntWalk.i64_in _ (by omega)
      clear hoq
      go_wp2_with fail
      refine (codeOf_any W _ g _ lo _ l HCU.out (by omega) hlo HOL.out hl).mono ?_
      rintro e wa ⟨y, rfl, hca, hga⟩
      have HCA := Lib.hid hca
      have HOA := Lib.hid (own_cur HOQ.out hgw hga)
      have HLA := Lib.hid (own_cur HOL.out hlo hga)
      have HGA := Lib.hid (only_trans HGB.out hga)
      clear hca hga
      by_cases h0 : q.length = 0
      · obtain rfl : q = [] := List.eq_nil_of_length_eq_zero h0
        obtain ⟨pq, cq, rfl, _⟩ := sl_of_own intC_length HOA.out
        rw [List.length_nil] at HOA
        have HUP := Lib.hid HCA.out.up
        go_wp2_with (at_builtin; go_must (refine wpList_append_gain (W := W) (base := w.heap.size) (m := [y]) rfl (.tmp 36) (.tmp 38) rfl Tryz.underlying24 info_int (by rfl) (by omega) intC_length intC_one (by omega) (gain_trans HUP.out (by repeat (first | with_reducible (first | exact World.gained_refl _ | exact ⟨_, rfl⟩ | apply gain_ext | apply gain_alloc | apply gain_drewN | apply gain_drew) | (refine gain_setCell ?_ (by first | exact Nat.le_refl _ | exact World.size_ext _ _ | (simp; done) | (simp; omega)) _)))) hWw (Nat.le_trans (only_size HGA.out) (gain_size (by repeat (first | with_reducible (first | exact World.gained_refl _ | exact ⟨_, rfl⟩ | apply gain_ext | apply gain_alloc | apply gain_drewN | apply gain_drew) | (refine gain_setCell ?_ (by first | exact Nat.le_refl _ | exact World.size_ext _ _ | (simp; done) | (simp; omega)) _))))) rfl rfl (own_up (HOA.out) (by repeat (first | with_reducible (first | exact World.gained_refl _ | exact ⟨_, rfl⟩ | apply gain_ext | apply gain_alloc | apply gain_drewN | apply gain_drew) | (refine gain_setCell ?_ (by first | exact Nat.le_refl _ | exact World.size_ext _ _ | (simp; done) | (simp; omega)) _)))) (sl_lit (l := [y]) intC_length rfl (by simp)) (by have : ([y] : List Int).length = 1 := rfl; omega) ?_); intro v' d' ho hg)
        have HCX := Lib.hid ((HCA.out.gain (by repeat (first | with_reducible (first | exact World.gained_refl _ | exact ⟨_, rfl⟩ | apply gain_ext | apply gain_alloc | apply gain_drewN | apply gain_drew) | (refine gain_setCell ?_ (by first | exact Nat.le_refl _ | exact World.size_ext _ _ | (simp; done) | (simp; omega)) _)))).grow hg (own_newer HOA.out hgw) ⟨_, rfl⟩)
        have HGX := Lib.hid (only_new (only_gain HGA.out (by repeat (first | with_reducible (first | exact World.gained_refl _ | exact ⟨_, rfl⟩ | apply gain_ext | apply gain_alloc | apply gain_drewN | apply gain_drew) | (refine gain_setCell ?_ (by first | exact Nat.le_refl _ | exact World.size_ext _ _ | (simp; done) | (simp; omega)) _)))) hg (fun q hq => (own_lt HOA.out q hq).1))
        have HLX := Lib.hid (own_mark (own_up HLA.out (by repeat (first | with_reducible (first | exact World.gained_refl _ | exact ⟨_, rfl⟩ | apply gain_ext | apply gain_alloc | apply gain_drewN | apply gain_drew) | (refine gain_setCell ?_ (by first | exact Nat.le_refl _ | exact World.size_ext _ _ | (simp; done) | (simp; omega)) _)))) hg (fun b hb e => by have := hclt b hb; have := (own_lt HOA.out b e).1; omega))
        go_roundw
        case rel => exact ⟨k - 1, _, by omega, by go_num, by simp; omega, HCX.out.le (by omega), ho, HLX.out, HGX.out⟩
        case measure => simp [intOf]; omega
      · have hz : ((q.length : Int) == 0) = false := by simpa using h0
        have hq0 : 0 < q.length := by omega
        obtain ⟨gq, cq, rfl, _, _⟩ := own_addr HOA.out hq0
        have cz := sl_int (sl_of_own intC_length HOA.out) (k := q.length - 1) (by omega)
        rw [Nat.zero_add] at cz
        have obz := World.oldB_of_cell cz
        have hw2 : IntKind.i64.wrap ((q.length : Int) - 1) = (q.length : Int) - 1 := IntWalk.i64_in _ (by omega)
        have hw3 : ((q.length : Int) - 1).toNat = q.length - 1 := by omega
        have hw4 : (1 : Int) ≤ (q.length : Int) := by omega
        generalize q[q.length - 1]'(by omega) = z at cz
        cases hzy : z != y with
        | true =>
          have HUP := Lib.hid HCA.out.up
          go_wp2_with (at_builtin; go_must (refine wpList_append_gain (W := W) (base := w.heap.size) (m := [y]) rfl (.tmp 36) (.tmp 38) rfl Tryz.underlying24 info_int (by rfl) (by omega) intC_length intC_one (by omega) (gain_trans HUP.out (by repeat (first | with_reducible (first | exact World.gained_refl _ | exact ⟨_, rfl⟩ | apply gain_ext | apply gain_alloc | apply gain_drewN | apply gain_drew) | (refine gain_setCell ?_ (by first | exact Nat.le_refl _ | exact World.size_ext _ _ | (simp; done) | (simp; omega)) _)))) hWw (Nat.le_trans (only_size HGA.out) (gain_size (by repeat (first | with_reducible (first | exact World.gained_refl _ | exact ⟨_, rfl⟩ | apply gain_ext | apply gain_alloc | apply gain_drewN | apply gain_drew) | (refine gain_setCell ?_ (by first | exact Nat.le_refl _ | exact World.size_ext _ _ | (simp; done) | (simp; omega)) _))))) rfl rfl (own_up (HOA.out) (by repeat (first | with_reducible (first | exact World.gained_refl _ | exact ⟨_, rfl⟩ | apply gain_ext | apply gain_alloc | apply gain_drewN | apply gain_drew) | (refine gain_setCell ?_ (by first | exact Nat.le_refl _ | exact World.size_ext _ _ | (simp; done) | (simp; omega)) _)))) (sl_lit (l := [y]) intC_length rfl (by simp)) (by have : ([y] : List Int).length = 1 := rfl; omega) ?_); intro v' d' ho hg)
          have HCX := Lib.hid ((HCA.out.gain (by repeat (first | with_reducible (first | exact World.gained_refl _ | exact ⟨_, rfl⟩ | apply gain_ext | apply gain_alloc | apply gain_drewN | apply gain_drew) | (refine gain_setCell ?_ (by first | exact Nat.le_refl _ | exact World.size_ext _ _ | (simp; done) | (simp; omega)) _)))).grow hg (own_newer HOA.out hgw) ⟨_, rfl⟩)
          have HGX := Lib.hid (only_new (only_gain HGA.out (by repeat (first | with_reducible (first | exact World.gained_refl _ | exact ⟨_, rfl⟩ | apply gain_ext | apply gain_alloc | apply gain_drewN | apply gain_drew) | (refine gain_setCell ?_ (by first | exact Nat.le_refl _ | exact World.size_ext _ _ | (simp; done) | (simp; omega)) _)))) hg (fun q hq => (own_lt HOA.out q hq).1))
          have HLX := Lib.hid (own_mark (own_up HLA.out (by repeat (first | with_reducible (first | exact World.gained_refl _ | exact ⟨_, rfl⟩ | apply gain_ext | apply gain_alloc | apply gain_drewN | apply gain_drew) | (refine gain_setCell ?_ (by first | exact Nat.le_refl _ | exact World.size_ext _ _ | (simp; done) | (simp; omega)) _)))) hg (fun b hb e => by have := hclt b hb; have := (own_lt HOA.out b e).1; omega))
          go_roundw
          case rel => exact ⟨k - 1, q ++ [y], by omega, by go_num, by simp; omega, HCX.out.le (by omega), ho, HLX.out, HGX.out⟩
          case measure => simp [intOf]; omega
        | false =>
          go_wp2_with fail
          refine (one_any W _ g _ _ HCA.out (by omega)).mono ?_
          rintro e wb ⟨b, rfl, hcb, hgb⟩
          have HCB := Lib.hid hcb
          have HOB := Lib.hid (own_cur HOA.out hgw hgb)
          have HLB := Lib.hid (own_cur HLA.out hlo hgb)
          have HGB2 := Lib.hid (only_trans HGA.out hgb)
          clear hcb hgb cz obz
          cases b with
          | true =>
            have HUP := Lib.hid HCB.out.up
            go_wp2_with (at_builtin; go_must (refine wpList_append_gain (W := W) (base := w.heap.size) (m := [y]) rfl (.tmp 36) (.tmp 38) rfl Tryz.underlying24 info_int (by rfl) (by omega) intC_length intC_one (by omega) (gain_trans HUP.out (by repeat (first | with_reducible (first | exact World.gained_refl _ | exact ⟨_, rfl⟩ | apply gain_ext | apply gain_alloc | apply gain_drewN | apply gain_drew) | (refine gain_setCell ?_ (by first | exact Nat.le_refl _ | exact World.size_ext _ _ | (simp; done) | (simp; omega)) _)))) hWw (Nat.le_trans (only_size HGB2.out) (gain_size (by repeat (first | with_reducible (first | exact World.gained_refl _ | exact ⟨_, rfl⟩ | apply gain_ext | apply gain_alloc | apply gain_drewN | apply gain_drew) | (refine gain_setCell ?_ (by first | exact Nat.le_refl _ | exact World.size_ext _ _ | (simp; done) | (simp; omega)) _))))) rfl rfl (own_up (HOB.out) (by repeat (first | with_reducible (first | exact World.gained_refl _ | exact ⟨_, rfl⟩ | apply gain_ext | apply gain_alloc | apply gain_drewN | apply gain_drew) | (refine gain_setCell ?_ (by first | exact Nat.le_refl _ | exact World.size_ext _ _ | (simp; done) | (simp; omega)) _)))) (sl_lit (l := [y]) intC_length rfl (by simp)) (by have : ([y] : List Int).length = 1 := rfl; omega) ?_); intro v' d' ho hg)
            have HCX := Lib.hid ((HCB.out.gain (by repeat (first | with_reducible (first | exact World.gained_refl _ | exact ⟨_, rfl⟩ | apply gain_ext | apply gain_alloc | apply gain_drewN | apply gain_drew) | (refine gain_setCell ?_ (by first | exact Nat.le_refl _ | exact World.size_ext _ _ | (simp; done) | (simp; omega)) _)))).grow hg (own_newer HOB.out hgw) ⟨_, rfl⟩)
            have HGX := Lib.hid (only_new (only_gain HGB2.out (by repeat (first | with_reducible (first | exact World.gained_refl _ | exact ⟨_, rfl⟩ | apply gain_ext | apply gain_alloc | apply gain_drewN | apply gain_drew) | (refine gain_setCell ?_ (by first | exact Nat.le_refl _ | exact World.size_ext _ _ | (simp; done) | (simp; omega)) _)))) hg (fun q hq => (own_lt HOB.out q hq).1))
            have HLX := Lib.hid (own_mark (own_up HLB.out (by repeat (first | with_reducible (first | exact World.gained_refl _ | exact ⟨_, rfl⟩ | apply gain_ext | apply gain_alloc | apply gain_drewN | apply gain_drew) | (refine gain_setCell ?_ (by first | exact Nat.le_refl _ | exact World.size_ext _ _ | (simp; done) | (simp; omega)) _)))) hg (fun b hb e => by have := hclt b hb; have := (own_lt HOB.out b e).1; omega))
            go_roundw
            case rel => exact ⟨k - 1, q ++ [y], by omega, by go_num, by simp; omega, HCX.out.le (by omega), ho, HLX.out, HGX.out⟩
            case measure => simp [intOf]; omega
          | false =>
            go_wp2
            go_roundw
            case rel => exact ⟨k - 1, q, by omega, by go_num, by omega, HCB.out.le (by omega), HOB.out, HLB.out, HGB2.out⟩
            case measure => simp [intOf]; omega
    · obtain rfl : k = 0 := by omega
      obtain ⟨pq, cq, rfl, _⟩ := sl_of_own intC_length hoq
      clear hoq
      go_wp2_with fail
      refine (one_any W _ g _ _ HCU.out (by omega)).mono ?_
      rintro e wb ⟨b, rfl, hcb, hgb⟩
      have HCB := Lib.hid hcb
      have HOB := Lib.hid (own_cur HOQ.out hgw hgb)
      have HLB := Lib.hid (own_cur HOL.out hlo hgb)
      have HGB2 := Lib.hid (only_trans HGB.out hgb)
      clear hcb hgb
      cases b with
      | false =>
        go_wp2
        go_ret
        exact ⟨_, _, rfl, HOB.out, by omega, HCB.out.le (by omega), HGB2.out⟩
      | true =>
        go_wp2_with fail
        go_loopw [5] (fun ov wr => ∃ (q : List Int), q.length ≤ 9 ∧ Cur 60 W wr g (n + 62 + 2 * q.length) ∧ wr.own w.heap.size 3 intC 1 ov q ∧ wr.own lo 73 Ctl.cells 2 (.slice p l.length c) l ∧ w.grownBy wr (some g)) (fun ov _ => 10 - (match ov with | .slice _ n _ => n | _ => 0))
        case atStart => exact ⟨q, by omega, HCB.out.le (by omega), HOB.out, HLB.out, HGB2.out⟩
        case round =>
          obtain ⟨q, hq9, hcu, hoq, hol, hgb⟩ := hrel
          have HCU := Lib.hid hcu
          have HOQ := Lib.hid hoq
          have HOL := Lib.hid hol
          have HGB := Lib.hid hgb
          obtain ⟨pq, cq, rfl, _⟩ := sl_of_own intC_length hoq
          clear hcu hoq hol hgb
          go_wp2_with fail
          refine (pick_any W _ g _ _ HCU.out (by omega)).mono ?_
          rintro e wa ⟨r, rfl, q1, q2, hca, hga⟩
          have hw1 : IntKind.i64.wrap (8 + r) = 8 + r := IntWalk.i64_in _ (by omega)
          have HCA := Lib.hid hca
          have HOA := Lib.hid (own_cur HOQ.out hgw hga)
          have HLA := Lib.hid (own_cur HOL.out hlo hga)
          have HGA := Lib.hid (only_trans HGB.out hga)
          clear hca hga
          by_cases hc : (q.length : Int) < 8 + r
          · have hcd : decide ((q.length : Int) < 8 + r) = true := decide_eq_true hc
            by_cases h1 : 1 < l.length
            · have h1d : decide (1 < (l.length : Int)) = true := decide_eq_true (by omega)
              obtain ⟨b, o, rfl⟩ := sl_some (sl_of_own Ctl.cells_length HLA.out) (by omega)
              have hm : q.length % 2 < l.length := by omega
              have hm2 : Int.tmod (q.length : Int) 2 = ((q.length % 2 : Nat) : Int) := by rw [Int.tmod_eq_emod_of_nonneg (by omega)]; omega
              have c0 := sl_cells (sl_of_own Ctl.cells_length HLA.out) hm (j := 0) (by omega)
              simp only [Ctl.cells, List.getElem?_cons_zero, Nat.add_zero] at c0
              have ob := World.oldB_of_cell c0
              generalize l[q.length % 2].code = y at c0
              generalize q.length % 2 = i at c0 hm hm2
              have HUP := Lib.hid HCA.out.up
              go_wp2_with (at_builtin; go_must (refine wpList_append_gain (W := W) (base := w.heap.size) (m := [y]) rfl (.tmp 53) (.tmp 61) rfl Tryz.underlying24 info_int (by rfl) (by omega) intC_length intC_one (by omega) (gain_trans HUP.out (by repeat (first | with_reducible (first | exact World.gained_refl _ | exact ⟨_, rfl⟩ | apply gain_ext | apply gain_alloc | apply gain_drewN | apply gain_drew) | (refine gain_setCell ?_ (by first | exact Nat.le_refl _ | exact World.size_ext _ _ | (simp; done) | (simp; omega)) _)))) hWw (Nat.le_trans (only_size HGA.out) (gain_size (by repeat (first | with_reducible (first | exact World.gained_refl _ | exact ⟨_, rfl⟩ | apply gain_ext | apply gain_alloc | apply gain_drewN | apply gain_drew) | (refine gain_setCell ?_ (by first | exact Nat.le_refl _ | exact World.size_ext _ _ | (simp; done) | (simp; omega)) _))))) rfl rfl (own_up (HOA.out) (by repeat (first | with_reducible (first | exact World.gained_refl _ | exact ⟨_, rfl⟩ | apply gain_ext | apply gain_alloc | apply gain_drewN | apply gain_drew) | (refine gain_setCell ?_ (by first | exact Nat.le_refl _ | exact World.size_ext _ _ | (simp; done) | (simp; omega)) _)))) (sl_lit (l := [y]) intC_length rfl (by simp)) (by have : ([y] : List Int).length = 1 := rfl; omega) ?_); intro v' d' ho hg)
              have HCX := Lib.hid ((HCA.out.gain (by repeat (first | with_reducible (first | exact World.gained_refl _ | exact ⟨_, rfl⟩ | apply gain_ext | apply gain_alloc | apply gain_drewN | apply gain_drew) | (refine gain_setCell ?_ (by first | exact Nat.le_refl _ | exact World.size_ext _ _ | (simp; done) | (simp; omega)) _)))).grow hg (own_newer HOA.out hgw) ⟨_, rfl⟩)
              have HGX := Lib.hid (only_new (only_gain HGA.out (by repeat (first | with_reducible (first | exact World.gained_refl _ | exact ⟨_, rfl⟩ | apply gain_ext | apply gain_alloc | apply gain_drewN | apply gain_drew) | (refine gain_setCell ?_ (by first | exact Nat.le_refl _ | exact World.size_ext _ _ | (simp; done) | (simp; omega)) _)))) hg (fun q hq => (own_lt HOA.out q hq).1))
              have HLX := Lib.hid (own_mark (own_up HLA.out (by repeat (first | with_reducible (first | exact World.gained_refl _ | exact ⟨_, rfl⟩ | apply gain_ext | apply gain_alloc | apply gain_drewN | apply gain_drew) | (refine gain_setCell ?_ (by first | exact Nat.le_refl _ | exact World.size_ext _ _ | (simp; done) | (simp; omega)) _)))) hg (fun b hb e => by have := hclt b hb; have := (own_lt HOA.out b e).1; omega))
              go_roundw
              case rel => exact ⟨q ++ [y], by simp; omega, HCX.out.le (by simp; omega), ho, HLX.out, HGX.out⟩
              case measure => obtain ⟨pv, cv, rfl, _⟩ := sl_of_own intC_length ho; simp; omega
            · have h1d : decide (1 < (l.length : Int)) = false := decide_eq_false (by omega)
              go_wp2
              go_ret
              exact ⟨_, _, rfl, HOA.out, by omega, HCA.out.le (by omega), HGA.out⟩
          · have hcd : decide ((q.length : Int) < 8 + r) = false := decide_eq_false hc
            go_wp2
            go_ret
            exact ⟨_, _, rfl, HOA.out, by omega, HCA.out.le (by omega), HGA.out⟩
end Go.Proofs.YtmcimgnobimicaaGreat
