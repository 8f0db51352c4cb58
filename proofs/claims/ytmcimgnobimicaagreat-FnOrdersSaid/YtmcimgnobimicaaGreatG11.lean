/- Texts laid together: spec.l1Cur's cellOf, openCell. Condition: the reader has been asked less than ten thousand times.; A map that is at hand while more is drawn: its box, its two slices, the reader. No condition.; The type impl.Control, in the program's table. No condition.; spec.l1Cur's code6, codeOf, site. Condition: the reader has been asked less than a thousand times. -/
import Derived.Test.YtmcimgnobimicaaGreatG7
import Derived.Test.YtmcimgnobimicaaGreatG9
import Derived.Test.YtmcimgnobimicaaGreatRows
import Derived.Test.YtmcimgnobimicaaGreatG10
/- spec.l1Cur's cellOf, openCell. Condition: the reader has been asked less than ten thousand times. -/
namespace Go.Proofs.YtmcimgnobimicaaGreat
open Go.RowKit Go.Ori
set_option maxHeartbeats 1000000 in
theorem cellOfD_any (W w : World) (g n : Nat) (m : Mp) (pr pc : Option Addr) (kr kc : Nat) (h : Cur 60 W w g n) (hn : n ≤ 10000) (hl : m.cost.length ≤ 1048576) :
    Calls Tryz.prog 90 #[.pointer (some ⟨g, 0, none⟩), .agg #[.int .i64 m.wd, .int .i64 m.ht, .slice pr m.rise.length kr, .slice pc m.cost.length kc]] w fun x w' => ∃ r : Int, x = .returned (.int .i64 r) ∧ -1 ≤ r ∧ r ≤ 1048576 ∧ Cur 60 W w' g (n + 4) ∧ w.grownBy w' (some g) := by
  have HC := Lib.hid h
  have hmx : IntKind.i64.wrap (max 1 (m.cost.length : Int) + 1) = max 1 (m.cost.length : Int) + 1 := IntWalk.i64_in _ (by omega)
  go_enter Tryz.func90, Tryz.ntmps90
  go_wp2_with (go_at_call 59; refine (l1Most_any _ _ _).mono ?_; rintro e w1 ⟨rfl, rfl⟩)
  refine (pick_any W _ g n _ (HC.out.gain (by repeat (first | with_reducible (first | exact World.gained_refl _ | exact ⟨_, rfl⟩ | apply gain_ext | apply gain_alloc | apply gain_drewN | apply gain_drew) | (refine gain_setCell ?_ (by first | exact Nat.le_refl _ | exact World.size_ext _ _ | (simp; done) | (simp; omega)) _)))) (by omega)).mono ?_
  rintro e w1 ⟨r1, rfl, a1, a2, hc1, hg1⟩
  have HC1 := Lib.hid hc1
  have HG1 := Lib.hid (only_trans (only_gain (only_refl w (some g)) (by repeat (first | with_reducible (first | exact World.gained_refl _ | exact ⟨_, rfl⟩ | apply gain_ext | apply gain_alloc | apply gain_drewN | apply gain_drew) | (refine gain_setCell ?_ (by first | exact Nat.le_refl _ | exact World.size_ext _ _ | (simp; done) | (simp; omega)) _)))) hg1)
  clear hc1 hg1
  go_wp2_with fail
  refine (pick_any W _ g _ _ HC1.out (by omega)).mono ?_
  rintro e w2 ⟨r2, rfl, b1, b2, hc2, hg2⟩
  have HC2 := Lib.hid hc2
  have HG2 := Lib.hid (only_trans HG1.out hg2)
  clear hc2 hg2
  go_wp2
  go_ret
  refine ⟨_, rfl, ?_, ?_, HC2.out.le (by omega), HG2.out⟩
  · omega
  · omega
set_option maxHeartbeats 4000000 in
theorem openCell_any (W w : World) (g n lo : Nat) (m : Mp) (rv cv : Value) (h : Cur 60 W w g n) (hn : n ≤ 9000) (hlo : g < lo) (hr : w.own lo 3 intC 1 rv m.rise) (hc : w.own lo 3 intC 1 cv m.cost) (hrl : m.rise.length ≤ 1048576) (hcl : m.cost.length ≤ 1048576) :
    Calls Tryz.prog 88 #[.pointer (some ⟨g, 0, none⟩), .agg #[.int .i64 m.wd, .int .i64 m.ht, rv, cv]] w fun x w' => ∃ r : Int, x = .returned (.int .i64 r) ∧ Cur 60 W w' g (n + 6) ∧ w.grownBy w' (some g) := by
  have HC := Lib.hid h
  have HR := Lib.hid hr
  have HCO := Lib.hid hc
  have hgw := h.lt
  obtain ⟨pr, kr, rfl, _⟩ := sl_of_own intC_length hr
  obtain ⟨pc, kc, rfl, _⟩ := sl_of_own intC_length hc
  clear h hr hc
  go_enter Tryz.func88, Tryz.ntmps88
  go_wp2_with fail
  refine (cellOfD_any W _ g n m pr pc kr kc (HC.out.gain (by repeat (first | with_reducible (first | exact World.gained_refl _ | exact ⟨_, rfl⟩ | apply gain_ext | apply gain_alloc | apply gain_drewN | apply gain_drew) | (refine gain_setCell ?_ (by first | exact Nat.le_refl _ | exact World.size_ext _ _ | (simp; done) | (simp; omega)) _)))) (by omega) hcl).mono ?_
  rintro e w1 ⟨r, rfl, q1, q2, hc1, hg1⟩
  have HBX := Lib.hid (row_keep (heap_alloc_new w _) hg1 (fun q e => by cases e; omega))
  have HC1 := Lib.hid hc1
  have HG1 := Lib.hid (only_trans (only_gain (only_refl w (some g)) (by repeat (first | with_reducible (first | exact World.gained_refl _ | exact ⟨_, rfl⟩ | apply gain_ext | apply gain_alloc | apply gain_drewN | apply gain_drew) | (refine gain_setCell ?_ (by first | exact Nat.le_refl _ | exact World.size_ext _ _ | (simp; done) | (simp; omega)) _)))) hg1)
  have HM1 := Lib.hid (show w1.mp (.slice pr m.rise.length kr) (.slice pc m.cost.length kc) m from ⟨sl_of_own intC_length (own_cur (own_up HR.out (by repeat (first | with_reducible (first | exact World.gained_refl _ | exact ⟨_, rfl⟩ | apply gain_ext | apply gain_alloc | apply gain_drewN | apply gain_drew) | (refine gain_setCell ?_ (by first | exact Nat.le_refl _ | exact World.size_ext _ _ | (simp; done) | (simp; omega)) _)))) hlo hg1), sl_of_own intC_length (own_cur (own_up HCO.out (by repeat (first | with_reducible (first | exact World.gained_refl _ | exact ⟨_, rfl⟩ | apply gain_ext | apply gain_alloc | apply gain_drewN | apply gain_drew) | (refine gain_setCell ?_ (by first | exact Nat.le_refl _ | exact World.size_ext _ _ | (simp; done) | (simp; omega)) _)))) hlo hg1), hrl, hcl⟩)
  have HRO := Lib.hid (own_cur (own_up HR.out (by repeat (first | with_reducible (first | exact World.gained_refl _ | exact ⟨_, rfl⟩ | apply gain_ext | apply gain_alloc | apply gain_drewN | apply gain_drew) | (refine gain_setCell ?_ (by first | exact Nat.le_refl _ | exact World.size_ext _ _ | (simp; done) | (simp; omega)) _)))) hlo hg1)
  have HCC := Lib.hid (own_cur (own_up HCO.out (by repeat (first | with_reducible (first | exact World.gained_refl _ | exact ⟨_, rfl⟩ | apply gain_ext | apply gain_alloc | apply gain_drewN | apply gain_drew) | (refine gain_setCell ?_ (by first | exact Nat.le_refl _ | exact World.size_ext _ _ | (simp; done) | (simp; omega)) _)))) hlo hg1)
  have bx0 : w1.cell? ⟨w.heap.size, 0, none⟩ = some (.int .i64 m.wd) := World.cell_of_heap HBX.out 0
  have bx1 : w1.cell? ⟨w.heap.size, 1, none⟩ = some (.int .i64 m.ht) := World.cell_of_heap HBX.out 1
  have bx2 : w1.cell? ⟨w.heap.size, 2, none⟩ = some (.slice pr m.rise.length kr) := World.cell_of_heap HBX.out 2
  have bx3 : w1.cell? ⟨w.heap.size, 3, none⟩ = some (.slice pc m.cost.length kc) := World.cell_of_heap HBX.out 3
  have obx := World.oldB_of_cell bx0
  clear hc1 hg1
  cases hB : mapB m with
  | false =>
    go_wp2_with (go_at_call 58; refine (l2Map_any m _ _ _ (mp_up (HM1.out) (by repeat (first | with_reducible (first | exact World.gained_refl _ | exact ⟨_, rfl⟩ | apply gain_ext | apply gain_alloc | apply gain_drewN | apply gain_drew) | (refine gain_setCell ?_ (by first | exact Nat.le_refl _ | exact World.size_ext _ _ | (simp; done) | (simp; omega)) _))))).mono ?_; rw [hB]; rintro e w1 ⟨rfl, d1, rfl⟩)
    go_ret
    exact ⟨_, rfl, (HC1.out.gain (by repeat (first | with_reducible (first | exact World.gained_refl _ | exact ⟨_, rfl⟩ | apply gain_ext | apply gain_alloc | apply gain_drewN | apply gain_drew) | (refine gain_setCell ?_ (by first | exact Nat.le_refl _ | exact World.size_ext _ _ | (simp; done) | (simp; omega)) _)))).le (by omega), only_gain HG1.out (by repeat (first | with_reducible (first | exact World.gained_refl _ | exact ⟨_, rfl⟩ | apply gain_ext | apply gain_alloc | apply gain_drewN | apply gain_drew) | (refine gain_setCell ?_ (by first | exact Nat.le_refl _ | exact World.size_ext _ _ | (simp; done) | (simp; omega)) _)))⟩
  | true =>
    obtain ⟨WW, HH, hok⟩ := mapB_ok hB
    have hn36 := hok.n36
    have hn1 : 1 ≤ m.cost.length := by rw [hok.cl]; exact Nat.mul_pos hok.w1 hok.h1
    have HOK := Lib.hid hok
    go_wp2_with (go_at_call 58; refine (l2Map_any m _ _ _ (mp_up (HM1.out) (by repeat (first | with_reducible (first | exact World.gained_refl _ | exact ⟨_, rfl⟩ | apply gain_ext | apply gain_alloc | apply gain_drewN | apply gain_drew) | (refine gain_setCell ?_ (by first | exact Nat.le_refl _ | exact World.size_ext _ _ | (simp; done) | (simp; omega)) _))))).mono ?_; rw [hB]; rintro e w1 ⟨rfl, d1, rfl⟩)
    refine (one_any W _ g _ _ (HC1.out.gain (by repeat (first | with_reducible (first | exact World.gained_refl _ | exact ⟨_, rfl⟩ | apply gain_ext | apply gain_alloc | apply gain_drewN | apply gain_drew) | (refine gain_setCell ?_ (by first | exact Nat.le_refl _ | exact World.size_ext _ _ | (simp; done) | (simp; omega)) _)))) (by omega)).mono ?_
    rintro e w3 ⟨b, rfl, hc3, hg3⟩
    have HBX3 := Lib.hid (row_keep (row_up HBX.out (by repeat (first | with_reducible (first | exact World.gained_refl _ | exact ⟨_, rfl⟩ | apply gain_ext | apply gain_alloc | apply gain_drewN | apply gain_drew) | (refine gain_setCell ?_ (by first | exact Nat.le_refl _ | exact World.size_ext _ _ | (simp; done) | (simp; omega)) _)))) hg3 (fun q e => by cases e; omega))
    have HC3 := Lib.hid hc3
    have HG3 := Lib.hid (only_trans (only_gain HG1.out (by repeat (first | with_reducible (first | exact World.gained_refl _ | exact ⟨_, rfl⟩ | apply gain_ext | apply gain_alloc | apply gain_drewN | apply gain_drew) | (refine gain_setCell ?_ (by first | exact Nat.le_refl _ | exact World.size_ext _ _ | (simp; done) | (simp; omega)) _)))) hg3)
    have HM3 := Lib.hid (show w3.mp (.slice pr m.rise.length kr) (.slice pc m.cost.length kc) m from ⟨sl_of_own intC_length (own_cur (own_up HRO.out (by repeat (first | with_reducible (first | exact World.gained_refl _ | exact ⟨_, rfl⟩ | apply gain_ext | apply gain_alloc | apply gain_drewN | apply gain_drew) | (refine gain_setCell ?_ (by first | exact Nat.le_refl _ | exact World.size_ext _ _ | (simp; done) | (simp; omega)) _)))) hlo hg3), sl_of_own intC_length (own_cur (own_up HCC.out (by repeat (first | with_reducible (first | exact World.gained_refl _ | exact ⟨_, rfl⟩ | apply gain_ext | apply gain_alloc | apply gain_drewN | apply gain_drew) | (refine gain_setCell ?_ (by first | exact Nat.le_refl _ | exact World.size_ext _ _ | (simp; done) | (simp; omega)) _)))) hlo hg3), hrl, hcl⟩)
    clear hc3 hg3 bx0 bx1 bx2 bx3 obx hok
    have bx3 : w3.cell? ⟨w.heap.size, 3, none⟩ = some (.slice pc m.cost.length kc) := World.cell_of_heap HBX3.out 3
    have obx := World.oldB_of_cell bx3
    obtain ⟨b1, o1, c1, b2, o2, c2, hin⟩ := mp_in HM3.out HOK.out
    have hcv := hin.cv
    injection hcv with e1 e2 e3
    subst e1 e3
    have HCO3 := Lib.hid hin.co
    have ob2 := hin.ob2
    clear hin
    cases b with
    | true =>
      go_wp2
      go_ret
      exact ⟨_, rfl, HC3.out.le (by omega), HG3.out⟩
    | false =>
      go_wp2
      go_loopw [6] (fun i wr => ∃ k : Nat, k ≤ m.cost.length ∧ i = .int .i64 k ∧ ∃ d, wr = w3.ext d) (fun i _ => m.cost.length - (intOf i).toNat)
      case atStart => exact ⟨0, by omega, rfl, (by repeat (first | with_reducible (first | exact World.gained_refl _ | exact ⟨_, rfl⟩ | apply gain_ext | apply gain_alloc | apply gain_drewN | apply gain_drew) | (refine gain_setCell ?_ (by first | exact Nat.le_refl _ | exact World.size_ext _ _ | (simp; done) | (simp; omega)) _)))⟩
      case round =>
        obtain ⟨k, hk, rfl, d, rfl⟩ := hrel
        by_cases hlt : k < m.cost.length
        · have hw : IntKind.i64.wrap (max 0 r + (k : Int)) = max 0 r + (k : Int) := IntWalk.i64_in _ (by omega)
          obtain ⟨q, hq, hqn⟩ : ∃ q : Nat, Int.tmod (max 0 r + (k : Int)) (m.cost.length : Int) = q ∧ q < m.cost.length := by
            rw [Int.tmod_eq_emod_of_nonneg (by omega)]
            have h1 := Int.emod_nonneg (max 0 r + (k : Int)) (b := (m.cost.length : Int)) (by omega)
            have h2 := Int.emod_lt_of_pos (max 0 r + (k : Int)) (b := (m.cost.length : Int)) (by omega)
            exact ⟨_, (Int.toNat_of_nonneg h1).symm, by omega⟩
          have ck := HCO3.out q hqn
          generalize costAt m q = y at ck
          have hnz : ¬ ((m.cost.length : Int) = 0) := by omega
          go_wp2
          refine wp_region_gain (by kernel_rfl) (by kernel_rfl) ?_
          repeat (first | go_big_quiet_skip | (go_big_quiet_want; go_big_quiet_op; first | go_big_quiet_on | ((apply Exists.intro); (refine ⟨fun _ => ?_, ?_⟩); (· (go_at_call 59; exact Calls.gain_same (l1Most_any _ _ _))); (go_big_quiet_on))))
          refine wpQuiet_nil ?_
          rintro _ ⟨d', rfl⟩
          by_cases hy : 0 < y
          · have hyd : decide (0 < y) = true := decide_eq_true hy
            go_wp2
            go_ret
            exact ⟨_, rfl, (HC3.out.gain (by repeat (first | with_reducible (first | exact World.gained_refl _ | exact ⟨_, rfl⟩ | apply gain_ext | apply gain_alloc | apply gain_drewN | apply gain_drew) | (refine gain_setCell ?_ (by first | exact Nat.le_refl _ | exact World.size_ext _ _ | (simp; done) | (simp; omega)) _)))).le (by omega), only_gain HG3.out (by repeat (first | with_reducible (first | exact World.gained_refl _ | exact ⟨_, rfl⟩ | apply gain_ext | apply gain_alloc | apply gain_drewN | apply gain_drew) | (refine gain_setCell ?_ (by first | exact Nat.le_refl _ | exact World.size_ext _ _ | (simp; done) | (simp; omega)) _)))⟩
          · have hyd : decide (0 < y) = false := decide_eq_false hy
            go_wp2
            go_roundw
            case rel => exact ⟨k + 1, by omega, by go_num, (by repeat (first | with_reducible (first | exact World.gained_refl _ | exact ⟨_, rfl⟩ | apply gain_ext | apply gain_alloc | apply gain_drewN | apply gain_drew) | (refine gain_setCell ?_ (by first | exact Nat.le_refl _ | exact World.size_ext _ _ | (simp; done) | (simp; omega)) _)))⟩
            case measure => simp [intOf]; omega
        · go_wp2
          go_ret
          exact ⟨_, rfl, (HC3.out.gain (by repeat (first | with_reducible (first | exact World.gained_refl _ | exact ⟨_, rfl⟩ | apply gain_ext | apply gain_alloc | apply gain_drewN | apply gain_drew) | (refine gain_setCell ?_ (by first | exact Nat.le_refl _ | exact World.size_ext _ _ | (simp; done) | (simp; omega)) _)))).le (by omega), only_gain HG3.out (by repeat (first | with_reducible (first | exact World.gained_refl _ | exact ⟨_, rfl⟩ | apply gain_ext | apply gain_alloc | apply gain_drewN | apply gain_drew) | (refine gain_setCell ?_ (by first | exact Nat.le_refl _ | exact World.size_ext _ _ | (simp; done) | (simp; omega)) _)))⟩
end Go.Proofs.YtmcimgnobimicaaGreat
/- A map that is at hand while more is drawn: its box, its two slices, the reader. No condition. -/
namespace Go
open RowKit Go.Ori
structure RSt (T tM tI : TypeId) (W w wr : World) (g lo gB n : Nat) (m : Mp) (rv cv : Value) : Prop where
  cur : Cur T W wr g n
  box : wr.heap[gB]? = some (.cells #[.int .i64 m.wd, .int .i64 m.ht, rv, cv] tM (0, 0))
  r : wr.own lo tI intC 1 rv m.rise
  c : wr.own lo tI intC 1 cv m.cost
  rlt : ∀ q, rv.ownBlock = some q → q < w.heap.size
  clt : ∀ q, cv.ownBlock = some q → q < w.heap.size
  gr : w.grownBy wr (some g)
  g1 : g < lo
  g2 : g < w.heap.size
  b1 : gB ≠ g
  ne : tI ≠ tM
  wW : W.heap.size ≤ w.heap.size
section
variable {T tM tI : TypeId} {W w wr wr' : World} {g lo gB n n' : Nat} {m : Mp} {rv cv : Value}
theorem RSt.start (h : Cur T W w g n) (hlo : g < lo) (hr : w.own lo tI intC 1 rv m.rise) (hc : w.own lo tI intC 1 cv m.cost) (hne : tI ≠ tM) : RSt T tM tI W w (w.alloc (.cells #[.int .i64 m.wd, .int .i64 m.ht, rv, cv] tM)) g lo w.heap.size n m rv cv :=
  ⟨h.gain (gain_alloc (World.gained_refl _) _), heap_alloc_new w _, own_up hr (gain_alloc (World.gained_refl _) _), own_up hc (gain_alloc (World.gained_refl _) _), fun q e => (own_lt hr q e).2, fun q e => (own_lt hc q e).2, only_gain (only_refl _ _) (gain_alloc (World.gained_refl _) _), hlo, h.lt, fun e => by have := h.lt; omega, hne, Nat.le_trans h.ge (Nat.le_of_lt h.lt)⟩
/-- .. from a box that stands already. -/
theorem RSt.here (h : Cur T W w g n) (hlo : g < lo) (hb : w.heap[gB]? = some (.cells #[.int .i64 m.wd, .int .i64 m.ht, rv, cv] tM (0, 0))) (hgb : gB ≠ g) (hr : w.own lo tI intC 1 rv m.rise) (hc : w.own lo tI intC 1 cv m.cost) (hne : tI ≠ tM) : RSt T tM tI W w w g lo gB n m rv cv :=
  ⟨h, hb, hr, hc, fun q e => (own_lt hr q e).2, fun q e => (own_lt hc q e).2, only_refl _ _, hlo, h.lt, hgb, hne, Nat.le_trans h.ge (Nat.le_of_lt h.lt)⟩
theorem RSt.up (h : RSt T tM tI W w wr g lo gB n m rv cv) (hg : ∃ d, wr' = wr.ext d) : RSt T tM tI W w wr' g lo gB n m rv cv :=
  ⟨h.cur.gain hg, row_up h.box hg, own_up h.r hg, own_up h.c hg, h.rlt, h.clt, only_gain h.gr hg, h.g1, h.g2, h.b1, h.ne, h.wW⟩
theorem RSt.le (h : RSt T tM tI W w wr g lo gB n m rv cv) (hn : n ≤ n') : RSt T tM tI W w wr g lo gB n' m rv cv :=
  ⟨h.cur.le hn, h.box, h.r, h.c, h.rlt, h.clt, h.gr, h.g1, h.g2, h.b1, h.ne, h.wW⟩
theorem RSt.on (h : RSt T tM tI W w wr g lo gB n m rv cv) (hc : Cur T W wr' g n') (hg : wr.grownBy wr' (some g)) : RSt T tM tI W w wr' g lo gB n' m rv cv :=
  ⟨hc, row_keep h.box hg (fun q e => by cases e; exact fun e => h.b1 e.symm), own_cur h.r h.g1 hg, own_cur h.c h.g1 hg, h.rlt, h.clt, only_trans h.gr hg, h.g1, h.g2, h.b1, h.ne, h.wW⟩
theorem RSt.size (h : RSt T tM tI W w wr g lo gB n m rv cv) : w.heap.size ≤ wr.heap.size := only_size h.gr
theorem RSt.mp (h : RSt T tM tI W w wr g lo gB n m rv cv) (hrl : m.rise.length ≤ 1048576) (hcl : m.cost.length ≤ 1048576) : wr.mp rv cv m := ⟨sl_of_own intC_length h.r, sl_of_own intC_length h.c, hrl, hcl⟩
/-- A slice of what was drawn since has grown by an append. -/
theorem RSt.grown {v : Value} {α : Type} {enc : α → List Value} {sz : Nat} {e : TypeId} {l : List α} (h : RSt T tM tI W w wr g lo gB n m rv cv) (hv : wr.own w.heap.size e enc sz v l) (he : e ≠ tM) (hg : wr.grownBy wr' v.ownBlock) (hu : ∃ d, wr' = W.ext d) :
    RSt T tM tI W w wr' g lo gB n m rv cv := by
  refine ⟨h.cur.grow hg (own_newer hv h.g2) hu, row_keep h.box hg (own_ne hv h.box he), own_mark h.r hg (fun q hq e => ?_), own_mark h.c hg (fun q hq e => ?_), h.rlt, h.clt, only_new h.gr hg (fun q e => (own_lt hv q e).1), h.g1, h.g2, h.b1, h.ne, h.wW⟩
  · have := h.rlt q hq; have := (own_lt hv q e).1; omega
  · have := h.clt q hq; have := (own_lt hv q e).1; omega
end
end Go
/- The type impl.Control, in the program's table. No condition. -/
namespace Go.Proofs.YtmcimgnobimicaaGreat
theorem info_Ctl : (Tryz.prog.info? 73).map (fun i => (i.zero, i.size, i.bytes)) = some (some (.agg #[.int .i64 0, .int .i64 0]), 2, 16) := by kernel_rfl
end Go.Proofs.YtmcimgnobimicaaGreat
/- spec.l1Cur's code6, codeOf, site. Condition: the reader has been asked less than a thousand times. -/
namespace Go.Proofs.YtmcimgnobimicaaGreat
open Go.RowKit Go.Ori
set_option maxHeartbeats 1000000 in
theorem code6_any (W w : World) (g n : Nat) (h : Cur 60 W w g n) (hn : n ≤ 100000) :
    Calls Tryz.prog 89 #[.pointer (some ⟨g, 0, none⟩)] w fun x w' => ∃ r : Int, x = .returned (.int .i64 r) ∧ Cur 60 W w' g (n + 4) ∧ w.grownBy w' (some g) := by
  have HC := Lib.hid h
  have hgw := h.lt
  clear h
  go_enter Tryz.func89, Tryz.ntmps89
  go_wp2_with fail
  refine (one_any W _ g n _ HC.out (by omega)).mono ?_
  rintro e w1 ⟨b, rfl, hc1, hg1⟩
  have HC1 := Lib.hid hc1
  have HG1 := Lib.hid hg1
  clear hc1 hg1
  cases b with
  | true =>
    go_wp2_with fail
    refine (among_any W _ g _ _ [0, 30, 31, 99, 100] w.heap.size (HC1.out.gain (by repeat (first | with_reducible (first | exact World.gained_refl _ | exact ⟨_, rfl⟩ | apply gain_ext | apply gain_alloc | apply gain_drewN | apply gain_drew) | (refine gain_setCell ?_ (by first | exact Nat.le_refl _ | exact World.size_ext _ _ | (simp; done) | (simp; omega)) _)))) (by omega) (own_lit' (l := [0, 30, 31, 99, 100]) intC_length rfl rfl (only_size HG1.out)) hgw (by simp) (by simp)).mono ?_
    rintro e w2 ⟨r, rfl, -, hc2, hg2⟩
    go_wp2
    go_ret
    exact ⟨_, rfl, hc2.le (by omega), only_trans (only_gain HG1.out (by repeat (first | with_reducible (first | exact World.gained_refl _ | exact ⟨_, rfl⟩ | apply gain_ext | apply gain_alloc | apply gain_drewN | apply gain_drew) | (refine gain_setCell ?_ (by first | exact Nat.le_refl _ | exact World.size_ext _ _ | (simp; done) | (simp; omega)) _)))) hg2⟩
  | false =>
    go_wp2_with fail
    refine (among_any W _ g _ _ [31, 32, 34, 41, 43, 45, 54, 60, 77, 99] w.heap.size (HC1.out.gain (by repeat (first | with_reducible (first | exact World.gained_refl _ | exact ⟨_, rfl⟩ | apply gain_ext | apply gain_alloc | apply gain_drewN | apply gain_drew) | (refine gain_setCell ?_ (by first | exact Nat.le_refl _ | exact World.size_ext _ _ | (simp; done) | (simp; omega)) _)))) (by omega) (own_lit' (l := [31, 32, 34, 41, 43, 45, 54, 60, 77, 99]) intC_length rfl rfl (only_size HG1.out)) hgw (by simp) (by simp)).mono ?_
    rintro e w2 ⟨r, rfl, -, hc2, hg2⟩
    go_wp2
    go_ret
    exact ⟨_, rfl, hc2.le (by omega), only_trans (only_gain HG1.out (by repeat (first | with_reducible (first | exact World.gained_refl _ | exact ⟨_, rfl⟩ | apply gain_ext | apply gain_alloc | apply gain_drewN | apply gain_drew) | (refine gain_setCell ?_ (by first | exact Nat.le_refl _ | exact World.size_ext _ _ | (simp; done) | (simp; omega)) _)))) hg2⟩
set_option maxHeartbeats 2000000 in
theorem codeOf_any (W w : World) (g n lo : Nat) (v : Value) (l : List Ctl) (h : Cur 60 W w g n) (hn : n ≤ 90000) (hlo : g < lo) (ho : w.own lo 73 Ctl.cells 2 v l) (hl : l.length ≤ 1048576) :
    Calls Tryz.prog 60 #[.pointer (some ⟨g, 0, none⟩), v] w fun x w' => ∃ r : Int, x = .returned (.int .i64 r) ∧ Cur 60 W w' g (n + 6) ∧ w.grownBy w' (some g) := by
  have HC := Lib.hid h
  have HO := Lib.hid ho
  obtain ⟨p, c, rfl, _⟩ := sl_of_own Ctl.cells_length ho
  clear h ho
  by_cases h0 : l.length = 0
  · have hz : ((l.length : Int) == 0) = true := by simp [h0]
    go_enter Tryz.func60, Tryz.ntmps60
    go_wp2_with fail
    refine (code6_any W _ g n HC.out (by omega)).mono ?_
    rintro e w1 ⟨r, rfl, hc1, hg1⟩
    go_wp2
    go_ret
    exact ⟨_, rfl, hc1.le (by omega), hg1⟩
  · have hz : ((l.length : Int) == 0) = false := by simpa using h0
    have hl0 : 0 < l.length := by omega
    go_enter Tryz.func60, Tryz.ntmps60
    go_wp2_with fail
    refine (one_any W _ g n _ HC.out (by omega)).mono ?_
    rintro e w1 ⟨b, rfl, hc1, hg1⟩
    have HC1 := Lib.hid hc1
    have HG1 := Lib.hid hg1
    have HO1 := Lib.hid (own_cur HO.out hlo hg1)
    clear hc1 hg1
    cases b with
    | true =>
      go_wp2_with fail
      refine (code6_any W _ g _ HC1.out (by omega)).mono ?_
      rintro e w2 ⟨r, rfl, hc2, hg2⟩
      go_wp2
      go_ret
      exact ⟨_, rfl, hc2.le (by omega), only_trans HG1.out hg2⟩
    | false =>
      go_wp2_with fail
      refine (pick_any W _ g _ _ HC1.out (by omega)).mono ?_
      rintro e w2 ⟨r, rfl, q1, q2, hc2, hg2⟩
      obtain ⟨k, rfl⟩ : ∃ k : Nat, r = (k : Int) := ⟨r.toNat, by omega⟩
      have hk : k < l.length := by omega
      have hs2 := sl_of_own Ctl.cells_length (own_cur HO1.out hlo hg2)
      obtain ⟨b, o, rfl⟩ := sl_some hs2 hl0
      have c0 := sl_cells hs2 hk (j := 0) (by omega)
      simp only [Ctl.cells, List.getElem?_cons_zero, Nat.add_zero] at c0
      have ob := World.oldB_of_cell c0
      generalize l[k].code = y at c0
      have HC2 := Lib.hid hc2
      have HG2 := Lib.hid (only_trans HG1.out hg2)
      clear hc2 hg2 hs2 q1 q2
      go_wp2
      go_ret
      exact ⟨_, rfl, HC2.out.le (by omega), HG2.out⟩
end Go.Proofs.YtmcimgnobimicaaGreat
