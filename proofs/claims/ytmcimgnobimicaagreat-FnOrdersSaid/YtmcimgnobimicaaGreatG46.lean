/- spec.l8Route. Conditions: a valid course, a leg of it; at most 1048576 controls. -/
import Derived.Test.YtmcimgnobimicaaGreatG44
import Derived.Test.YtmcimgnobimicaaGreatG21
import Derived.Deep.RegionHeldLaw
namespace Go.Proofs.YtmcimgnobimicaaGreat
open Go.RowKit Go.Ori
set_option maxHeartbeats 4000000 in
theorem l8Route_any (m : Mp) (rv cv v u : Value) (l : List Ctl) (t : List Int) (q : Nat) (w : World) (hmp : w.mp rv cv m) (h : w.sl Ctl.cells 2 v l) (hl : l.length ≤ 1048576) (h2 : w.sl intC 1 u t) (hC : Crs m l t) (hq : q + 1 < t.length) :
    Calls Tryz.prog 63 #[.agg #[.int .i64 m.wd, .int .i64 m.ht, rv, cv], v, u, .int .i64 q] w fun x w' => ∃ r, x = .returned r ∧ (∃ d, w' = w.ext d) ∧ w'.own w.heap.size 3 intC 1 r (natL (legR m l t q)) := by
  have hm := Lib.hid hmp
  have hs := Lib.hid h
  have ht := Lib.hid h2
  obtain ⟨p1, c1, p2, c2, rfl, rfl⟩ := mp_form hmp
  obtain ⟨p, c, rfl, _⟩ := id h
  obtain ⟨p', c', rfl, _⟩ := id h2
  clear hmp h h2
  obtain ⟨W, H, hok⟩ := mapB_ok (ctlsB_map hC.good)
  have HK := Lib.hid hok
  have ht8 := hC.hi
  obtain ⟨b, o, rfl⟩ := sl_some ht.out (by omega)
  have hq0 : q < t.length := by omega
  have cp := sl_int ht.out hq0
  have c0 := sl_int ht.out hq
  have hx := hC.has (q + 1) hq
  have hy := hC.has q hq0
  have hz := hC.way q hq
  have HS : Hid (legR m l t q = routeL m (cellN l t[q]) (cellN l t[q + 1])) := Lib.hid (by
    rw [legR, List.getD_eq_getElem?_getD, List.getD_eq_getElem?_getD, List.getElem?_eq_getElem hq0, List.getElem?_eq_getElem hq]; rfl)
  generalize t[q + 1] = x at c0 hx hz HS
  generalize t[q] = y at cp hy hz HS
  have ob := World.oldB_of_cell c0
  obtain ⟨x1, x2, x3⟩ := cellK_open hC.good hx
  obtain ⟨y1, y2, y3⟩ := cellK_open hC.good hy
  have HCX := Lib.hid (fun w' hw' => l8Cell_any (.slice p l.length c) l x w' hw' hl hx x1)
  have HCP := Lib.hid (fun w' hw' => l8Cell_any (.slice p l.length c) l y w' hw' hl hy y1)
  have HLT := Lib.hid (fun w' hw' => l4Best_any m (.slice p1 m.rise.length c1) (.slice p2 m.cost.length c2) W H (cellN l y) (cellN l x) w' HK.out hw' y2 x2 hz)
  clear hx hy x1 y1 hz hok hC
  rw [HS.out]
  clear HS
  generalize routeL m (cellN l y) (cellN l x) = RL at HLT ⊢
  generalize cellN l y = ny at *
  generalize cellN l x = nx at *
  go_enter Tryz.func63, Tryz.ntmps63
  go_wp2_with fail
  generalize hW0 : w.alloc (.cells #[.int .i64 m.wd, .int .i64 m.ht, .slice p1 m.rise.length c1, .slice p2 m.cost.length c2] 26) = W0
  have hbx : MBox w W0 w.heap.size m (.slice p1 m.rise.length c1) (.slice p2 m.cost.length c2) := by rw [← hW0]; exact mbox
  have HG := Lib.hid hbx.up
  have hsz := hbx.sz
  have bx0 := hbx.c0
  have bx1 := hbx.c1
  have bx2 := hbx.c2
  have bx3 := hbx.c3
  have obx := hbx.ob
  have HM0 := Lib.hid (mp_up hm.out HG.out)
  have hs0 := Lib.hid (sl_up Ctl.cells_length hs.out HG.out)
  replace c0 := cell_up c0 HG.out
  replace cp := cell_up cp HG.out
  replace ob := World.oldB_of_cell c0
  clear hW0 hbx hm hs ht
  have kw1 : IntKind.i64.wrap ((q : Int) + 1) = (q : Int) + 1 := IntWalk.i64_in _ (by omega)
  have kw2 : 0 ≤ (q : Int) + 1 := by omega
  have kw3 : ((q : Int) + 1).toNat = q + 1 := by omega
  have kw4 : (q : Int) + 1 < (t.length : Int) := by omega
  have kw5 : (q : Int) < (t.length : Int) := by omega
  refine wp_region_held_drew (S := (fun w' => w'.cell? ⟨w.heap.size, 0, none⟩ = some (.int .i64 m.wd) ∧ w'.cell? ⟨w.heap.size, 1, none⟩ = some (.int .i64 m.ht) ∧ w'.cell? ⟨w.heap.size, 2, none⟩ = some (.slice p1 m.rise.length c1) ∧ w'.cell? ⟨w.heap.size, 3, none⟩ = some (.slice p2 m.cost.length c2) ∧ w'.cell? ⟨b, o + (q + 1), none⟩ = some (.int .i64 x) ∧ w'.cell? ⟨b, o + q, none⟩ = some (.int .i64 y))) (by kernel_rfl) (by (try dsimp only); (refine ⟨?_, ?_, ?_, ?_, ?_, ?_⟩ <;> (with_reducible (repeat (first | assumption | refine cell_ext ?_ _ | refine cell_drew ?_ | refine cell_alloc ?_ _))))) (fun hHeld => ?_)
  refine wpAnyH_take (i := 0) (oi := ⟨_, _, _, _, _, _⟩) (v := ?_) rfl (by kernel_rfl) (by kernel_rfl) (by kernel_rfl) (fun _ _ _ h => h) (Or.inl ⟨by rfl, ?_⟩) (by assumption) ?_
  rotate_left
  · intro w hSw; (try dsimp only at hSw); go_simp; (try with_reducible rfl)
  try simp only [Act.put, List.setIfInBounds_toArray, List.set_cons_zero, List.set_cons_succ]
  refine wpAnyH_take (i := 1) (oi := ⟨_, _, _, _, _, _⟩) (v := ?_) rfl (by kernel_rfl) (by kernel_rfl) (by kernel_rfl) (fun _ _ _ h => h) (Or.inl ⟨by rfl, ?_⟩) (by assumption) ?_
  rotate_left
  · intro w hSw; (try dsimp only at hSw); go_simp; (try with_reducible rfl)
  try simp only [Act.put, List.setIfInBounds_toArray, List.set_cons_zero, List.set_cons_succ]
  refine wpAnyH_take (i := 2) (oi := ⟨_, _, _, _, _, _⟩) (v := ?_) rfl (by kernel_rfl) (by kernel_rfl) (by kernel_rfl) (fun _ _ _ h => h) (Or.inl ⟨by rfl, ?_⟩) (by assumption) ?_
  rotate_left
  · intro w hSw; (try dsimp only at hSw); go_simp; (try with_reducible rfl)
  try simp only [Act.put, List.setIfInBounds_toArray, List.set_cons_zero, List.set_cons_succ]
  refine wpAnyH_take (i := 3) (oi := ⟨_, _, _, _, _, _⟩) (v := ?_) rfl (by kernel_rfl) (by kernel_rfl) (by kernel_rfl) (fun _ _ _ h => h) (Or.inl ⟨by rfl, ?_⟩) (by assumption) ?_
  rotate_left
  · intro w hSw; (try dsimp only at hSw); go_simp; (try with_reducible rfl)
  try simp only [Act.put, List.setIfInBounds_toArray, List.set_cons_zero, List.set_cons_succ]
  refine wpAnyH_take (i := 4) (oi := ⟨_, _, _, _, _, _⟩) (v := ?_) rfl (by kernel_rfl) (by kernel_rfl) (by kernel_rfl) (fun _ _ _ h => h) (Or.inl ⟨by rfl, ?_⟩) (by assumption) ?_
  rotate_left
  · intro w hSw; (try dsimp only at hSw); go_simp; (try with_reducible rfl)
  try simp only [Act.put, List.setIfInBounds_toArray, List.set_cons_zero, List.set_cons_succ]
  refine wpAnyH_take (i := 5) (oi := ⟨_, _, _, _, _, _⟩) (v := ?_) rfl (by kernel_rfl) (by kernel_rfl) (by kernel_rfl) (fun _ _ _ h => h) (Or.inl ⟨by rfl, ?_⟩) (by assumption) ?_
  rotate_left
  · intro w hSw; (try dsimp only at hSw); go_simp; (try with_reducible rfl)
  try simp only [Act.put, List.setIfInBounds_toArray, List.set_cons_zero, List.set_cons_succ]
  refine wpAnyH_take (i := 7) (oi := ⟨_, _, _, _, _, _⟩) (v := ?_) rfl (by kernel_rfl) (by kernel_rfl) (by kernel_rfl) (fun _ _ _ h => h) (Or.inl ⟨by rfl, ?_⟩) (by assumption) ?_
  rotate_left
  · intro w hSw; (try dsimp only at hSw); go_simp; (try with_reducible rfl)
  try simp only [Act.put, List.setIfInBounds_toArray, List.set_cons_zero, List.set_cons_succ]
  refine wpAnyH_take (i := 8) (oi := ⟨_, _, _, _, _, _⟩) (v := ?_) rfl (by kernel_rfl) (by kernel_rfl) (by kernel_rfl) (fun _ _ _ h => h) (Or.inl ⟨by rfl, ?_⟩) (by assumption) ?_
  rotate_left
  · intro w hSw; (try dsimp only at hSw); go_simp; (try with_reducible rfl)
  try simp only [Act.put, List.setIfInBounds_toArray, List.set_cons_zero, List.set_cons_succ]
  refine wpAnyH_take (i := 9) (oi := ⟨_, _, _, _, _, _⟩) (v := ?_) rfl (by kernel_rfl) (by kernel_rfl) (by kernel_rfl) (fun _ _ _ h => h) (Or.inl ⟨by rfl, ?_⟩) (by assumption) ?_
  rotate_left
  · intro w hSw; (try dsimp only at hSw); go_simp; (try with_reducible rfl)
  try simp only [Act.put, List.setIfInBounds_toArray, List.set_cons_zero, List.set_cons_succ]
  refine wpAnyH_take (i := 10) (oi := ⟨_, _, _, _, _, _⟩) (v := ?_) rfl (by kernel_rfl) (by kernel_rfl) (by kernel_rfl) (fun _ _ _ h => h) (Or.inl ⟨by rfl, ?_⟩) (by assumption) ?_
  rotate_left
  · intro w hSw; (try dsimp only at hSw); go_simp; (try with_reducible rfl)
  try simp only [Act.put, List.setIfInBounds_toArray, List.set_cons_zero, List.set_cons_succ]
  refine wpAnyH_take (i := 11) (oi := ⟨_, _, _, _, _, _⟩) (v := ?_) rfl (by kernel_rfl) (by kernel_rfl) (by kernel_rfl) (fun _ _ _ h => h) (Or.inl ⟨by rfl, ?_⟩) (by assumption) ?_
  rotate_left
  · intro w hSw; (try dsimp only at hSw); go_simp; (try with_reducible rfl)
  try simp only [Act.put, List.setIfInBounds_toArray, List.set_cons_zero, List.set_cons_succ]
  refine wpAnyH_take (i := 12) (oi := ⟨_, _, _, _, _, _⟩) (v := ?_) rfl (by kernel_rfl) (by kernel_rfl) (by kernel_rfl) (fun _ _ _ h => h) (Or.inl ⟨by rfl, ?_⟩) (by assumption) ?_
  rotate_left
  · intro w hSw; (try dsimp only at hSw); go_simp; (try with_reducible rfl)
  try simp only [Act.put, List.setIfInBounds_toArray, List.set_cons_zero, List.set_cons_succ]
  refine wpAnyH_ready (rs := [6]) (by kernel_rfl) (by simp) ?_
  refine AllReadyH.cons rfl (fun K hK => ?_) AllReadyH.nil
  go_simp
  go_wp2_with (go_at_call 52; ((with_reducible refine (HCP.out _ (by with_reducible (repeat (first | exact hs0.out | refine World.sl_ext Ctl.cells_length ?_ _ | refine sl_alloc Ctl.cells_length ?_ _ | refine sl_drew ?_)))).mono ?_); rintro e w1 ⟨rfl, d1, rfl⟩))
  refine hK.out _ _ ?_ (fun hHeld => ?_)
  · (try dsimp only); (refine ⟨?_, ?_, ?_, ?_, ?_, ?_⟩ <;> (with_reducible (repeat (first | assumption | refine cell_ext ?_ _ | refine cell_drew ?_ | refine cell_alloc ?_ _))))
  clear hK K
  try simp only [Act.put, List.setIfInBounds_toArray, List.set_cons_zero, List.set_cons_succ]
  refine wpAnyH_ready (rs := [13]) (by kernel_rfl) (by simp) ?_
  refine AllReadyH.cons rfl (fun K hK => ?_) AllReadyH.nil
  go_simp
  go_wp2_with (go_at_call 52; ((with_reducible refine (HCX.out _ (by with_reducible (repeat (first | exact hs0.out | refine World.sl_ext Ctl.cells_length ?_ _ | refine sl_alloc Ctl.cells_length ?_ _ | refine sl_drew ?_)))).mono ?_); rintro e w1 ⟨rfl, d1, rfl⟩))
  refine hK.out _ _ ?_ (fun hHeld => ?_)
  · (try dsimp only); (refine ⟨?_, ?_, ?_, ?_, ?_, ?_⟩ <;> (with_reducible (repeat (first | assumption | refine cell_ext ?_ _ | refine cell_drew ?_ | refine cell_alloc ?_ _))))
  clear hK K
  try simp only [Act.put, List.setIfInBounds_toArray, List.set_cons_zero, List.set_cons_succ]
  refine wpAnyH_ready (rs := [14]) (by kernel_rfl) (by simp) ?_
  refine AllReadyH.cons rfl (fun K hK => ?_) AllReadyH.nil
  go_simp
  go_wp2_with (go_at_call 92; ((with_reducible refine (HLT.out _ (mp_up (HM0.out) (by repeat (first | with_reducible (first | exact World.gained_refl _ | exact ⟨_, rfl⟩ | apply gain_ext | apply gain_alloc | apply gain_drewN | apply gain_drew) | (refine gain_setCell ?_ (by first | exact Nat.le_refl _ | exact World.size_ext _ _ | (simp; done) | (simp; omega)) _))))).mono ?_); rintro e w1 ⟨rv, rfl, ⟨d1, rfl⟩, hrv⟩))
  refine hK.out _ _ ?_ (fun hHeld => ?_)
  · (try dsimp only); (refine ⟨?_, ?_, ?_, ?_, ?_, ?_⟩ <;> (with_reducible (repeat (first | assumption | refine cell_ext ?_ _ | refine cell_drew ?_ | refine cell_alloc ?_ _))))
  clear hK K
  try simp only [Act.put, List.setIfInBounds_toArray, List.set_cons_zero, List.set_cons_succ]
  refine wpAnyH_take (i := 15) (oi := ⟨_, _, _, _, _, _⟩) (v := ?_) rfl (by kernel_rfl) (by kernel_rfl) (by kernel_rfl) (fun _ _ _ h => h) (Or.inl ⟨by rfl, ?_⟩) (by assumption) ?_
  rotate_left
  · intro w hSw; (try dsimp only at hSw); go_simp; (try with_reducible rfl)
  try simp only [Act.put, List.setIfInBounds_toArray, List.set_cons_zero, List.set_cons_succ]
  refine wpAnyH_done (by kernel_rfl) ?_ _
  go_wp2
  go_ret
  exact ⟨_, rfl, gain_trans HG.out (by repeat (first | with_reducible (first | exact World.gained_refl _ | exact ⟨_, rfl⟩ | apply gain_ext | apply gain_alloc | apply gain_drewN | apply gain_drew) | (refine gain_setCell ?_ (by first | exact Nat.le_refl _ | exact World.size_ext _ _ | (simp; done) | (simp; omega)) _))), own_base hrv (Nat.le_trans hsz (gain_size (by repeat (first | with_reducible (first | exact World.gained_refl _ | exact ⟨_, rfl⟩ | apply gain_ext | apply gain_alloc | apply gain_drewN | apply gain_drew) | (refine gain_setCell ?_ (by first | exact Nat.le_refl _ | exact World.size_ext _ _ | (simp; done) | (simp; omega)) _)))))⟩
end Go.Proofs.YtmcimgnobimicaaGreat
