/- Texts laid together: impl.LegTimes, CourseTime, spec.LegTimes, CourseTime. Condition: at most 1048576 numbers, controls, codes.; The best order of a course's controls: courses. No condition.; Entries: when a list of them is valid. No condition. -/
import Derived.Test.YtmcimgnobimicaaGreatG26
import Derived.Test.YtmcimgnobimicaaGreatG28
import Derived.Test.YtmcimgnobimicaaGreatG29
import Derived.Test.YtmcimgnobimicaaGreatG27
import Derived.Test.YtmcimgnobimicaaGreatG21
import Derived.Test.YtmcimgnobimicaaGreatG22
import Derived.Test.YtmcimgnobimicaaGreatG23
import Derived.Test.YtmcimgnobimicaaGreatG3
/- impl.LegTimes, CourseTime, spec.LegTimes, CourseTime. Condition: at most 1048576 numbers, controls, codes. -/
namespace Go.Ori
theorem legTimes_no {m : Mp} {l : List Ctl} {c : List Int} (h : crsB m l c = false) : legTimesL m l c = [] := by simp [legTimesL, h]
theorem legTimes_yes {m : Mp} {l : List Ctl} {c : List Int} (h : crsB m l c = true) : legTimesL m l c = legsT m l c (c.length - 1) := by simp [legTimesL, h]
theorem legTimesL_length (m : Mp) (l : List Ctl) (c : List Int) : (legTimesL m l c).length ≤ 8 := by
  unfold legTimesL
  split
  · rename_i h
    have := (crsB_true h).hi
    rw [legsT_length]; omega
  · simp
theorem legTimesL_bd {m : Mp} {l : List Ctl} {c : List Int} : ∀ x ∈ legTimesL m l c, 0 ≤ x ∧ x ≤ 1000 := by
  intro x hx
  unfold legTimesL at hx
  split at hx
  · rename_i h
    have hC := crsB_true h
    obtain ⟨W, H, hok⟩ := mapB_ok (ctlsB_map hC.good)
    simp only [legsT, List.mem_map, List.mem_range] at hx
    obtain ⟨i, hi, rfl⟩ := hx
    have h1 : i < c.length := by omega
    have h2 : i + 1 < c.length := by omega
    have hw := hC.way i h2
    rw [legT, List.getD_eq_getElem?_getD, List.getD_eq_getElem?_getD, List.getElem?_eq_getElem h1, List.getElem?_eq_getElem h2, Option.getD_some, Option.getD_some]
    exact timeB_bd hok (cellK_open hC.good (hC.has i h1)).2.1 (cellK_open hC.good (hC.has (i + 1) h2)).2.1 hw
  · simp at hx
def sumK (l : List Int) (k : Nat) : Int := (l.take k).sum
theorem sumK_succ (l : List Int) (k : Nat) (h : k < l.length) : sumK l (k + 1) = sumK l k + l[k] := by
  rw [sumK, List.take_succ_eq_append_getElem h, List.sum_append, List.sum_singleton]
  rfl
theorem sumK_bd {l : List Int} (hb : ∀ x ∈ l, 0 ≤ x ∧ x ≤ 1000) : ∀ k, k ≤ l.length → 0 ≤ sumK l k ∧ sumK l k ≤ 1000 * (k : Int)
  | 0, _ => by rw [show sumK l 0 = 0 from rfl]; exact ⟨Int.le_refl _, by omega⟩
  | k + 1, h => by
    have h1 := sumK_bd hb k (by omega)
    have h2 := hb l[k] (List.getElem_mem (by omega))
    rw [sumK_succ l k (by omega)]
    omega
def sumZ (l : List Int) : Int := sumK l l.length
end Go.Ori
namespace Go.Proofs.YtmcimgnobimicaaGreat
open Go.RowKit Go.Ori
set_option maxHeartbeats 2000000 in
theorem impLegTimes_any (m : Mp) (rv cv v u : Value) (l : List Ctl) (t : List Int) (w : World) (hmp : w.mp rv cv m) (h : w.sl Ctl.cells 2 v l) (hl : l.length ≤ 1048576) (h2 : w.sl intC 1 u t) (hl2 : t.length ≤ 1048576) :
    Calls Tryz.prog 15 #[.agg #[.int .i64 m.wd, .int .i64 m.ht, rv, cv], v, u] w fun x w' => ∃ r, x = .returned (.tuple #[r, .bool (crsB m l t)]) ∧ (∃ d, w' = w.ext d) ∧ w'.own w.heap.size 3 intC 1 r (legTimesL m l t) := by
  have hm := Lib.hid hmp
  have hs := Lib.hid h
  have ht := Lib.hid h2
  obtain ⟨p1, c1, p2, c2, rfl, rfl⟩ := mp_form hmp
  have HGD := Lib.hid (fun w' hw' hv' hu' => isCourse_any m (.slice p1 m.rise.length c1) (.slice p2 m.cost.length c2) v u l t w' hw' hv' hl hu' hl2)
  clear hmp h h2
  cases hB : crsB m l t with
  | false =>
    have HE := Lib.hid (legTimes_no hB)
    rw [hB] at HGD
    clear hB
    go_enter Tryz.func15, Tryz.ntmps15
    go_wp2_with (go_at_call 20; refine (HGD.out _ (mp_up (hm.out) (by repeat (first | with_reducible (first | exact World.gained_refl _ | exact ⟨_, rfl⟩ | apply gain_ext | apply gain_alloc | apply gain_drewN | apply gain_drew) | (refine gain_setCell ?_ (by first | exact Nat.le_refl _ | exact World.size_ext _ _ | (simp; done) | (simp; omega)) _)))) (by with_reducible (repeat (first | exact hs.out | refine World.sl_ext Ctl.cells_length ?_ _ | refine sl_alloc Ctl.cells_length ?_ _ | refine sl_drew ?_))) (by with_reducible (repeat (first | exact ht.out | refine World.sl_ext intC_length ?_ _ | refine sl_alloc intC_length ?_ _ | refine sl_drew ?_)))).mono ?_; rintro e w1 ⟨rfl, d1, rfl⟩)
    go_ret2
    rw [HE.out]
    exact ⟨_, rfl, (by repeat (first | with_reducible (first | exact World.gained_refl _ | exact ⟨_, rfl⟩ | apply gain_ext | apply gain_alloc | apply gain_drewN | apply gain_drew) | (refine gain_setCell ?_ (by first | exact Nat.le_refl _ | exact World.size_ext _ _ | (simp; done) | (simp; omega)) _))), own_nil _ _ _ _ _⟩
  | true =>
    have HE := Lib.hid (legTimes_yes hB)
    have HC := Lib.hid (crsB_true hB)
    rw [hB] at HGD
    clear hB
    go_enter Tryz.func15, Tryz.ntmps15
    go_wp2_with (go_at_call 20; refine (HGD.out _ (mp_up (hm.out) (by repeat (first | with_reducible (first | exact World.gained_refl _ | exact ⟨_, rfl⟩ | apply gain_ext | apply gain_alloc | apply gain_drewN | apply gain_drew) | (refine gain_setCell ?_ (by first | exact Nat.le_refl _ | exact World.size_ext _ _ | (simp; done) | (simp; omega)) _)))) (by with_reducible (repeat (first | exact hs.out | refine World.sl_ext Ctl.cells_length ?_ _ | refine sl_alloc Ctl.cells_length ?_ _ | refine sl_drew ?_))) (by with_reducible (repeat (first | exact ht.out | refine World.sl_ext intC_length ?_ _ | refine sl_alloc intC_length ?_ _ | refine sl_drew ?_)))).mono ?_; rintro e w1 ⟨rfl, d1, rfl⟩)
    refine (legTimes_any m _ _ _ _ l t _ (mp_up (hm.out) (by repeat (first | with_reducible (first | exact World.gained_refl _ | exact ⟨_, rfl⟩ | apply gain_ext | apply gain_alloc | apply gain_drewN | apply gain_drew) | (refine gain_setCell ?_ (by first | exact Nat.le_refl _ | exact World.size_ext _ _ | (simp; done) | (simp; omega)) _)))) (by with_reducible (repeat (first | exact hs.out | refine World.sl_ext Ctl.cells_length ?_ _ | refine sl_alloc Ctl.cells_length ?_ _ | refine sl_drew ?_))) hl (by with_reducible (repeat (first | exact ht.out | refine World.sl_ext intC_length ?_ _ | refine sl_alloc intC_length ?_ _ | refine sl_drew ?_))) HC.out).mono ?_
    rintro e w1 ⟨r, rfl, ⟨d2, rfl⟩, ho⟩
    go_wp2
    go_ret2
    rw [HE.out]
    exact ⟨_, rfl, (by repeat (first | with_reducible (first | exact World.gained_refl _ | exact ⟨_, rfl⟩ | apply gain_ext | apply gain_alloc | apply gain_drewN | apply gain_drew) | (refine gain_setCell ?_ (by first | exact Nat.le_refl _ | exact World.size_ext _ _ | (simp; done) | (simp; omega)) _))), own_base ho (gain_size (by repeat (first | with_reducible (first | exact World.gained_refl _ | exact ⟨_, rfl⟩ | apply gain_ext | apply gain_alloc | apply gain_drewN | apply gain_drew) | (refine gain_setCell ?_ (by first | exact Nat.le_refl _ | exact World.size_ext _ _ | (simp; done) | (simp; omega)) _))))⟩
theorem sumInts_any (v : Value) (l : List Int) (w : World) (h : w.sl intC 1 v l) (hl : l.length ≤ 8) (hb : ∀ x ∈ l, 0 ≤ x ∧ x ≤ 1000) :
    Calls Tryz.prog 32 #[v] w fun x w' => x = .returned (.int .i64 (sumZ l)) ∧ ∃ d, w' = w.ext d := by
  have hs := Lib.hid h
  have HB := Lib.hid hb
  obtain ⟨p, c, rfl, _⟩ := h
  clear hb
  go_enter Tryz.func32, Tryz.ntmps32
  go_wp2
  go_loopw [3, 8] (fun s i wr => ∃ k : Nat, k ≤ l.length ∧ i = .int .i64 k ∧ s = .int .i64 (sumK l k) ∧ ∃ d, wr = w.ext d) (fun _ i _ => l.length - (intOf i).toNat)
  case atStart => exact ⟨0, by omega, rfl, rfl, w.gained_refl⟩
  case round =>
    obtain ⟨k, hk, rfl, rfl, d, rfl⟩ := hrel
    by_cases hlt : k < l.length
    · obtain ⟨b, o, rfl⟩ := sl_some hs.out (by omega)
      have c0 := sl_int hs.out hlt
      obtain ⟨q1, q2⟩ := HB.out l[k] (List.getElem_mem hlt)
      obtain ⟨q3, q4⟩ := sumK_bd HB.out k hk
      have HS := Lib.hid (sumK_succ l k hlt)
      generalize l[k] = x at c0 q1 q2 HS
      generalize sumK l k = S at q3 q4 HS
      have ob := World.oldB_of_cell c0
      go_wp2
      go_roundw
      case rel => exact ⟨k + 1, by omega, by go_num, by rw [HS.out], _, rfl⟩
      case measure => simp [intOf]; omega
    · go_wp2
      go_ret
      obtain rfl : k = l.length := by omega
      exact ⟨rfl, _, rfl⟩
theorem l8Sum_any (v : Value) (l : List Int) (w : World) (h : w.sl intC 1 v l) (hl : l.length ≤ 8) (hb : ∀ x ∈ l, 0 ≤ x ∧ x ≤ 1000) :
    Calls Tryz.prog 55 #[v] w fun x w' => x = .returned (.int .i64 (sumZ l)) ∧ ∃ d, w' = w.ext d := by
  have hs := Lib.hid h
  have HB := Lib.hid hb
  obtain ⟨p, c, rfl, _⟩ := h
  clear hb
  go_enter Tryz.func55, Tryz.ntmps55
  go_wp2
  go_loopw [3, 4] (fun s i wr => ∃ k : Nat, k ≤ l.length ∧ i = .int .i64 k ∧ s = .int .i64 (sumK l k) ∧ ∃ d, wr = w.ext d) (fun _ i _ => l.length - (intOf i).toNat)
  case atStart => exact ⟨0, by omega, rfl, rfl, w.gained_refl⟩
  case round =>
    obtain ⟨k, hk, rfl, rfl, d, rfl⟩ := hrel
    by_cases hlt : k < l.length
    · obtain ⟨b, o, rfl⟩ := sl_some hs.out (by omega)
      have c0 := sl_int hs.out hlt
      obtain ⟨q1, q2⟩ := HB.out l[k] (List.getElem_mem hlt)
      obtain ⟨q3, q4⟩ := sumK_bd HB.out k hk
      have HS := Lib.hid (sumK_succ l k hlt)
      generalize l[k] = x at c0 q1 q2 HS
      generalize sumK l k = S at q3 q4 HS
      have ob := World.oldB_of_cell c0
      go_wp2
      go_roundw
      case rel => exact ⟨k + 1, by omega, by go_num, by rw [HS.out], _, rfl⟩
      case measure => simp [intOf]; omega
    · go_wp2
      go_ret
      obtain rfl : k = l.length := by omega
      exact ⟨rfl, _, rfl⟩
def ctimeI (m : Mp) (l : List Ctl) (t : List Int) : Int := sumZ (legTimesL m l t)
set_option maxHeartbeats 2000000 in
theorem courseTime_any (m : Mp) (rv cv v u : Value) (l : List Ctl) (t : List Int) (w : World) (hmp : w.mp rv cv m) (h : w.sl Ctl.cells 2 v l) (hl : l.length ≤ 1048576) (h2 : w.sl intC 1 u t) (hl2 : t.length ≤ 1048576) :
    Calls Tryz.prog 9 #[.agg #[.int .i64 m.wd, .int .i64 m.ht, rv, cv], v, u] w fun x w' => x = .returned (.tuple #[.int .i64 (ctimeI m l t), .bool (crsB m l t)]) ∧ ∃ d, w' = w.ext d := by
  have hm := Lib.hid hmp
  have hs := Lib.hid h
  have ht := Lib.hid h2
  obtain ⟨p1, c1, p2, c2, rfl, rfl⟩ := mp_form hmp
  clear hmp h h2
  go_enter Tryz.func9, Tryz.ntmps9
  go_wp2_with fail
  refine (impLegTimes_any m _ _ _ _ l t _ (mp_up (hm.out) (by repeat (first | with_reducible (first | exact World.gained_refl _ | exact ⟨_, rfl⟩ | apply gain_ext | apply gain_alloc | apply gain_drewN | apply gain_drew) | (refine gain_setCell ?_ (by first | exact Nat.le_refl _ | exact World.size_ext _ _ | (simp; done) | (simp; omega)) _)))) (by with_reducible (repeat (first | exact hs.out | refine World.sl_ext Ctl.cells_length ?_ _ | refine sl_alloc Ctl.cells_length ?_ _ | refine sl_drew ?_))) hl (by with_reducible (repeat (first | exact ht.out | refine World.sl_ext intC_length ?_ _ | refine sl_alloc intC_length ?_ _ | refine sl_drew ?_))) hl2).mono ?_
  rintro e w1 ⟨r, rfl, ⟨d1, rfl⟩, ho⟩
  go_wp2_with fail
  refine (sumInts_any _ _ _ (by with_reducible (repeat (first | exact sl_of_own intC_length ho | refine World.sl_ext intC_length ?_ _ | refine sl_alloc intC_length ?_ _ | refine sl_drew ?_))) (legTimesL_length m l t) legTimesL_bd).mono ?_
  rintro e w1 ⟨rfl, d2, rfl⟩
  go_wp2
  go_ret2
  exact ⟨rfl, (by repeat (first | with_reducible (first | exact World.gained_refl _ | exact ⟨_, rfl⟩ | apply gain_ext | apply gain_alloc | apply gain_drewN | apply gain_drew) | (refine gain_setCell ?_ (by first | exact Nat.le_refl _ | exact World.size_ext _ _ | (simp; done) | (simp; omega)) _)))⟩
end Go.Proofs.YtmcimgnobimicaaGreat
/- The best order of a course's controls: courses. No condition. -/
namespace Go.Ori
/-- The time from a control to another one. -/
def tmT (m : Mp) (l : List Ctl) (a b : Int) : Int := max (timeB m (cellN l a) (cellN l b)) 0
theorem tmT_pos (m : Mp) (l : List Ctl) (a b : Int) : 0 ≤ tmT m l a b := by unfold tmT; omega
/-- Codes that stand for controls which can all be reached from one another. -/
structure GoodO (m : Mp) (l : List Ctl) (fin : Int) (begun left : List Int) : Prop where
  good : ctlsB m l = true
  has : ∀ x ∈ begun ++ left ++ [fin], hasK l x = true
  way : ∀ x ∈ begun ++ left ++ [fin], ∀ y ∈ begun ++ left ++ [fin], timeB m (cellN l x) (cellN l y) < 1073741824
  nd : (begun ++ left ++ [fin]).Nodup
  len : begun.length + left.length ≤ 6
  ne : begun ≠ []
theorem GoodO.leaf {m : Mp} {l : List Ctl} {fin : Int} {begun : List Int} (h : GoodO m l fin begun []) : Crs m l (begun ++ [fin]) := by
  have e : begun ++ [] ++ [fin] = begun ++ [fin] := by simp
  have h1 := h.has
  have h2 := h.way
  have h3 := h.nd
  have h4 := h.len
  have h5 := List.length_pos_iff.2 h.ne
  rw [e] at h1 h2 h3
  simp only [List.length_nil, Nat.add_zero] at h4
  have hl : (begun ++ [fin]).length = begun.length + 1 := by simp
  refine ⟨h.good, by omega, by omega, fun i hi => h1 _ (List.getElem_mem hi), fun i hi => ?_, fun i hi => h2 _ (List.getElem_mem _) _ (List.getElem_mem _)⟩
  have hp := List.pairwise_iff_getElem.1 (List.nodup_iff_pairwise_ne.1 h3)
  exact hp i (i + 1) (by omega) hi (by omega)
theorem perm_step {begun left : List Int} {fin : Int} {k : Nat} (hk : k < left.length) : ((begun ++ [left[k]]) ++ left.eraseIdx k ++ [fin]).Perm (begun ++ left ++ [fin]) := by
  have hp : (left[k] :: left.eraseIdx k).Perm left := by
    rw [List.eraseIdx_eq_take_drop_succ]
    have hl : left = left.take k ++ left[k] :: left.drop (k + 1) := by rw [← List.drop_eq_getElem_cons hk, List.take_append_drop]
    conv => rhs; rw [hl]
    exact List.perm_middle.symm
  refine List.Perm.append_right _ ?_
  rw [List.append_assoc]
  exact List.Perm.append_left _ (by simpa using hp)
theorem GoodO.step {m : Mp} {l : List Ctl} {fin : Int} {begun left : List Int} (h : GoodO m l fin begun left) {k : Nat} (hk : k < left.length) : GoodO m l fin (begun ++ [left[k]]) (left.eraseIdx k) := by
  have hp := perm_step (begun := begun) (fin := fin) hk
  exact ⟨h.good, fun x hx => h.has x (hp.mem_iff.1 hx), fun x hx y hy => h.way x (hp.mem_iff.1 hx) y (hp.mem_iff.1 hy), hp.nodup_iff.2 h.nd, by
    have := h.len
    rw [List.length_append, List.length_eraseIdx, if_pos hk]
    simp only [List.length_cons, List.length_nil]
    omega, by simp⟩
theorem sumZ_cons (x : Int) (l : List Int) : sumZ (x :: l) = x + sumZ l := by simp [sumZ, sumK]
/-- The legs of a course, added up. -/
theorem sumT_crs {m : Mp} {l : List Ctl} : ∀ (t : List Int), (∀ i (h : i + 1 < t.length), 0 ≤ timeB m (cellN l t[i]) (cellN l t[i + 1])) → sumZ (legsT m l t (t.length - 1)) = sumT (tmT m l) t
  | [], _ => rfl
  | [a], _ => rfl
  | a :: b :: t, h => by
    have ih := sumT_crs (m := m) (l := l) (b :: t) (fun i hi => by
      have := h (i + 1) (by simp only [List.length_cons] at hi ⊢; omega)
      simpa using this)
    have h0 := h 0 (by simp)
    simp only [List.getElem_cons_zero, List.getElem_cons_succ] at h0
    have e : legsT m l (a :: b :: t) ((a :: b :: t).length - 1) = timeB m (cellN l a) (cellN l b) :: legsT m l (b :: t) ((b :: t).length - 1) := by
      unfold legsT
      simp only [List.length_cons, Nat.add_sub_cancel]
      rw [List.range_succ_eq_map, List.map_cons, List.map_map]
      exact List.cons_eq_cons.2 ⟨by simp [legT], List.map_congr_left fun i _ => by simp [legT]⟩
    rw [e, sumZ_cons, ih]
    simp only [sumT, tmT]
    omega
end Go.Ori
/- Entries: when a list of them is valid. No condition. -/
namespace Go.Ori
def entB (e : Ent) : Bool := insB e.runner 1 999 && insB e.cls 1 99 && insB e.day 0 365 && insB e.paid 0 100000
def entOk (l : List Ent) (k : Nat) : Bool := match l[k]?, l[k - 1]? with
  | some e, some e' => entB e && (decide (k = 0) || decide (e'.runner < e.runner))
  | _, _ => true
theorem entOk_eq {l : List Ent} {k : Nat} {e e' : Ent} (h : l[k]? = some e) (h' : l[k - 1]? = some e') : entOk l k = (entB e && (decide (k = 0) || decide (e'.runner < e.runner))) := by
  simp [entOk, h, h']
def entsB (l : List Ent) : Bool := allB l.length (entOk l) && decide (l.length ≤ 12)
/-- The late runners among the first k entries. -/
def lateN (l : List Ent) (k : Nat) : List Int := ((l.take k).filter fun e => decide (300 ≤ e.day)).map Ent.runner
theorem lateN_zero (l : List Ent) : lateN l 0 = [] := by simp [lateN]
theorem lateN_succ {l : List Ent} {k : Nat} (h : k < l.length) : lateN l (k + 1) = lateN l k ++ if 300 ≤ l[k].day then [l[k].runner] else [] := by
  unfold lateN
  rw [List.take_succ_eq_append_getElem h, List.filter_append, List.map_append]
  congr 1
  by_cases h1 : 300 ≤ l[k].day <;> simp [h1]
theorem lateN_length (l : List Ent) (k : Nat) : (lateN l k).length ≤ k := by
  unfold lateN
  rw [List.length_map]
  exact Nat.le_trans (List.length_filter_le _ _) (by rw [List.length_take]; omega)
def lateL (l : List Ent) : List Int := if entsB l then lateN l l.length else []
theorem entsB_len {l : List Ent} (h : entsB l = true) : l.length ≤ 12 := by
  simp only [entsB, Bool.and_eq_true, decide_eq_true_eq] at h
  exact h.2
theorem lateL_length (l : List Ent) : (lateL l).length ≤ 1048576 := by
  unfold lateL
  split
  · rename_i h
    have := entsB_len h
    have := lateN_length l l.length
    omega
  · simp
/-- The list in which an entry is replaced, if it is valid. -/
def withB (l : List Ent) (i : Nat) (e : Ent) : Bool := entsB (l.set i e)
def withL (l : List Ent) (i : Nat) (e : Ent) : List Ent := if withB l i e then l.set i e else []
theorem withL_length (l : List Ent) (i : Nat) (e : Ent) : (withL l i e).length ≤ l.length := by
  unfold withL
  split <;> simp
/-- The index of a runner's entry. -/
def atR (l : List Ent) (r : Int) : Nat := l.findIdx fun e => e.runner == r
def hasR (l : List Ent) (r : Int) : Bool := l.any fun e => e.runner == r
theorem idx_no {l : List Ent} {r : Int} (h : hasR l r = false) : (idxB l fun e => e.runner == r) = -1 := by
  unfold idxB; rw [show (l.any fun e => e.runner == r) = false from h]; rfl
theorem idx_yes {l : List Ent} {r : Int} (h : hasR l r = true) : (idxB l fun e => e.runner == r) = (atR l r : Int) := by
  unfold idxB; rw [show (l.any fun e => e.runner == r) = true from h]; rfl
theorem atR_lt {l : List Ent} {r : Int} (h : hasR l r = true) : atR l r < l.length := by
  unfold atR
  rw [List.findIdx_lt_length]
  exact List.any_eq_true.1 h
theorem entsB_at {l : List Ent} (h : entsB l = true) {k : Nat} (hk : k < l.length) : entB l[k] = true := by
  simp only [entsB, Bool.and_eq_true, allB_iff] at h
  have := h.1 k hk
  rw [entOk_eq (List.getElem?_eq_getElem hk) (List.getElem?_eq_getElem (by omega)), Bool.and_eq_true] at this
  exact this.1
theorem entB_paid {e : Ent} (h : entB e = true) : 0 ≤ e.paid ∧ e.paid ≤ 100000 := by
  simp only [entB, Bool.and_eq_true, insB_true] at h
  exact h.2
def payE (e : Ent) (c : Int) : Ent := ⟨e.runner, e.cls, e.day, e.rent, e.paid + c⟩
def payB (l : List Ent) (r c : Int) : Bool := entsB l && hasR l r && insB c 1 100000 && (match l[atR l r]? with | some e => withB l (atR l r) (payE e c) | none => false)
def payL (l : List Ent) (r c : Int) : List Ent := match l[atR l r]? with | some e => if payB l r c then l.set (atR l r) (payE e c) else [] | none => []
theorem pay_no {l : List Ent} {r c : Int} (h : (entsB l && hasR l r && insB c 1 100000) = false) : payB l r c = false ∧ payL l r c = [] := by
  have h1 : payB l r c = false := by simp [payB, h]
  refine ⟨h1, ?_⟩
  unfold payL
  rw [h1]
  split <;> simp
theorem pay_yes {l : List Ent} {r c : Int} (h1 : entsB l = true) (h2 : hasR l r = true) (h3 : insB c 1 100000 = true) :
    payB l r c = withB l (atR l r) (payE (l[atR l r]'(atR_lt h2)) c) ∧ payL l r c = withL l (atR l r) (payE (l[atR l r]'(atR_lt h2)) c) := by
  have e1 : payB l r c = withB l (atR l r) (payE (l[atR l r]'(atR_lt h2)) c) := by
    simp [payB, h1, h2, h3, List.getElem?_eq_getElem (atR_lt h2)]
  refine ⟨e1, ?_⟩
  unfold payL withL
  rw [List.getElem?_eq_getElem (atR_lt h2), e1]
theorem payL_length (l : List Ent) (r c : Int) (hl : l.length ≤ 1048576) : (payL l r c).length ≤ 1048576 := by
  unfold payL
  split
  · split <;> simp [hl]
  · simp
def chE (e : Ent) (c d : Int) : Ent := ⟨e.runner, c, d, e.rent, e.paid⟩
def chOk (l : List Ent) (r d : Int) : Bool := entsB l && hasR l r && (match l[atR l r]? with | some e => decide (e.day ≤ d) | none => false)
def chB (l : List Ent) (r c d : Int) : Bool := chOk l r d && (match l[atR l r]? with | some e => withB l (atR l r) (chE e c d) | none => false)
def chL (l : List Ent) (r c d : Int) : List Ent := match l[atR l r]? with | some e => if chB l r c d then l.set (atR l r) (chE e c d) else [] | none => []
theorem chOk_at {l : List Ent} {r d : Int} (h1 : entsB l = true) (h2 : hasR l r = true) : chOk l r d = decide ((l[atR l r]'(atR_lt h2)).day ≤ d) := by
  simp [chOk, h1, h2, List.getElem?_eq_getElem (atR_lt h2)]
theorem ch_no {l : List Ent} {r d : Int} (c : Int) (h : chOk l r d = false) : chB l r c d = false ∧ chL l r c d = [] := by
  have h1 : chB l r c d = false := by simp [chB, h]
  refine ⟨h1, ?_⟩
  unfold chL
  rw [h1]
  split <;> simp
theorem ch_yes {l : List Ent} {r d : Int} (c : Int) (h2 : hasR l r = true) (h3 : chOk l r d = true) :
    chB l r c d = withB l (atR l r) (chE (l[atR l r]'(atR_lt h2)) c d) ∧ chL l r c d = withL l (atR l r) (chE (l[atR l r]'(atR_lt h2)) c d) := by
  have e1 : chB l r c d = withB l (atR l r) (chE (l[atR l r]'(atR_lt h2)) c d) := by
    simp [chB, h3, List.getElem?_eq_getElem (atR_lt h2)]
  refine ⟨e1, ?_⟩
  unfold chL withL
  rw [List.getElem?_eq_getElem (atR_lt h2), e1]
theorem chL_length (l : List Ent) (r c d : Int) (hl : l.length ≤ 1048576) : (chL l r c d).length ≤ 1048576 := by
  unfold chL
  split
  · split <;> simp [hl]
  · simp
/-- The list without the entry of a runner, and what is paid back. -/
def refOk (l : List Ent) (r d : Int) : Bool := insB d 0 365 && chOk l r d
def refL (l : List Ent) (r d : Int) : List Ent := if refOk l r d then l.take (atR l r) ++ l.drop (atR l r + 1) else []
def refI (l : List Ent) (r d : Int) : Int := if refOk l r d then (match l[atR l r]? with | some e => if 300 ≤ d then e.paid / 2 else e.paid | none => 0) else 0
theorem ref_no {l : List Ent} {r d : Int} (h : refOk l r d = false) : refI l r d = 0 ∧ refL l r d = [] := by simp [refI, refL, h]
theorem ref_yes {l : List Ent} {r d : Int} (h2 : hasR l r = true) (h3 : refOk l r d = true) :
    refI l r d = (if 300 ≤ d then (l[atR l r]'(atR_lt h2)).paid / 2 else (l[atR l r]'(atR_lt h2)).paid) ∧ refL l r d = l.take (atR l r) ++ l.drop (atR l r + 1) := by
  simp [refI, refL, h3, List.getElem?_eq_getElem (atR_lt h2)]
theorem refL_length (l : List Ent) (r d : Int) (hl : l.length ≤ 1048576) : (refL l r d).length ≤ 1048576 := by
  unfold refL
  split
  · simp; omega
  · simp
end Go.Ori
