/- impl.cellOf, leastTime, IsCourse; spec.l8Cell. Condition: at most 1048576 numbers, controls, codes. -/
import Derived.Test.YthjnkeelmigkbaaAreCtlS
import Derived.Test.YthjnkeelmigkbaaTimes
import Derived.Test.YthjnkeelmigkbaaTimesS
namespace Go.Proofs.Ythjnkeelmigkbaa
open Go.RowKit Go.Ori
set_option maxHeartbeats 1000000 in
theorem cellOf_any (v : Value) (l : List Ctl) (r : Int) (w : World) (h : w.sl Ctl.cells 2 v l) (hl : l.length ≤ 1048576) (hk : hasK l r = true) (hc : cellK l r = (cellN l r : Int)) :
    Calls Try.prog 141 #[v, .int .i64 r] w fun x w' => x = .returned (.int .i64 (cellN l r)) ∧ ∃ d, w' = w.ext d := by
  have hs := Lib.hid h
  obtain ⟨p, c, rfl, _⟩ := h
  have hi := idxK_yes hk
  have hlt := atK_lt hk
  obtain ⟨b, o, rfl⟩ := sl_some hs.out (by omega)
  have c1 := sl_cells hs.out hlt (j := 1) (by omega)
  have HE := Lib.hid (cellK_eq hk ▸ hc)
  generalize l[atK l r] = y at c1 HE
  simp only [Ctl.cells, List.getElem?_cons_zero, List.getElem?_cons_succ, Nat.add_zero] at c1
  rw [HE.out] at c1
  have ob := World.oldB_of_cell c1
  have HF := Lib.hid (controlOf_any (.slice (some ⟨b, o, none⟩) l.length c) l r w hs.out hl)
  rw [hi] at HF
  clear hi HE hc hk
  generalize atK l r = n at *
  generalize cellN l r = z at *
  go_enter Try.func141, Try.ntmps141
  go_wp2_with fail
  refine HF.out.mono ?_
  rintro e w1 ⟨rfl, d1, rfl⟩
  go_wp2
  go_ret
  exact ⟨rfl, (by repeat (first | with_reducible (first | exact World.gained_refl _ | exact ⟨_, rfl⟩ | apply gain_ext | apply gain_alloc | apply gain_drewN | apply gain_drew) | (refine gain_setCell ?_ (by first | exact Nat.le_refl _ | exact World.size_ext _ _ | (simp; done) | (simp; omega)) _)))⟩
set_option maxHeartbeats 1000000 in
theorem l8Cell_any (v : Value) (l : List Ctl) (r : Int) (w : World) (h : w.sl Ctl.cells 2 v l) (hl : l.length ≤ 1048576) (hk : hasK l r = true) (hc : cellK l r = (cellN l r : Int)) :
    Calls Try.prog 201 #[v, .int .i64 r] w fun x w' => x = .returned (.int .i64 (cellN l r)) ∧ ∃ d, w' = w.ext d := by
  have hs := Lib.hid h
  obtain ⟨p, c, rfl, _⟩ := h
  have hi := idxK_yes hk
  have hlt := atK_lt hk
  obtain ⟨b, o, rfl⟩ := sl_some hs.out (by omega)
  have c1 := sl_cells hs.out hlt (j := 1) (by omega)
  have HE := Lib.hid (cellK_eq hk ▸ hc)
  generalize l[atK l r] = y at c1 HE
  simp only [Ctl.cells, List.getElem?_cons_zero, List.getElem?_cons_succ, Nat.add_zero] at c1
  rw [HE.out] at c1
  have ob := World.oldB_of_cell c1
  have HF := Lib.hid (l6Find_any (.slice (some ⟨b, o, none⟩) l.length c) l r w hs.out hl)
  rw [hi] at HF
  clear hi HE hc hk
  generalize atK l r = n at *
  generalize cellN l r = z at *
  go_enter Try.func201, Try.ntmps201
  go_wp2_with fail
  refine HF.out.mono ?_
  rintro e w1 ⟨rfl, d1, rfl⟩
  go_wp2
  go_ret
  exact ⟨rfl, (by repeat (first | with_reducible (first | exact World.gained_refl _ | exact ⟨_, rfl⟩ | apply gain_ext | apply gain_alloc | apply gain_drewN | apply gain_drew) | (refine gain_setCell ?_ (by first | exact Nat.le_refl _ | exact World.size_ext _ _ | (simp; done) | (simp; omega)) _)))⟩
set_option maxHeartbeats 1000000 in
theorem leastTime_any (m : Mp) (rv cv : Value) (W H a b : Nat) (w : World) (hok : MapOk m W H) (h : w.mp rv cv m) (ha : a < m.cost.length) (hb : b < m.cost.length) :
    Calls Try.prog 140 #[.agg #[.int .i64 m.wd, .int .i64 m.ht, rv, cv], .int .i64 a, .int .i64 b] w fun x w' => x = .returned (.int .i64 (timeB m a b)) ∧ ∃ d, w' = w.ext d := by
  have hm := Lib.hid h
  have HK := Lib.hid hok
  have hn := hok.n36
  obtain ⟨p, c, p', c', rfl, rfl⟩ := mp_form h
  have HT : Hid (timeB m a b = (timesL m b).getD a 0) := Lib.hid rfl
  have HL := Lib.hid (times_inv hok hb).len
  generalize timeB m a b = z at HT ⊢
  clear h hok
  go_enter Try.func140, Try.ntmps140
  go_wp2_with fail
  refine (timesTo_any m _ _ W H b _ HK.out (mp_up (hm.out) (by repeat (first | with_reducible (first | exact World.gained_refl _ | exact ⟨_, rfl⟩ | apply gain_ext | apply gain_alloc | apply gain_drewN | apply gain_drew) | (refine gain_setCell ?_ (by first | exact Nat.le_refl _ | exact World.size_ext _ _ | (simp; done) | (simp; omega)) _)))) hb).mono ?_
  rintro e w1 ⟨v, rfl, ⟨d1, rfl⟩, hv⟩
  obtain ⟨g, cap, rfl, _, hgl⟩ := own_addr hv (by rw [HL.out]; omega)
  rw [HL.out] at hv ⊢
  obtain ⟨t0, _⟩ := own_at hv (k := a) (by rw [HL.out]; exact ha)
  rw [← HT.out] at t0
  have obg := World.oldB_of_cell t0
  clear hv hgl
  go_wp2
  go_ret
  exact ⟨rfl, (by repeat (first | with_reducible (first | exact World.gained_refl _ | exact ⟨_, rfl⟩ | apply gain_ext | apply gain_alloc | apply gain_drewN | apply gain_drew) | (refine gain_setCell ?_ (by first | exact Nat.le_refl _ | exact World.size_ext _ _ | (simp; done) | (simp; omega)) _)))⟩
end Go.Proofs.Ythjnkeelmigkbaa
