/- impl.cellOf, leastTime, IsCourse; spec.l8Cell. Condition: at most 1048576 numbers, controls, codes. -/
import Derived.Test.YtmcimgnobimicaaG16
import Derived.Test.YtmcimgnobimicaaG18
import Derived.Test.YtmcimgnobimicaaG15
import Derived.Test.YtmcimgnobimicaaG19
namespace Go.Proofs.Ytmcimgnobimicaa
open Go.RowKit Go.Ori
set_option maxHeartbeats 1000000 in
theorem cellOf_any (v : Value) (l : List Ctl) (r : Int) (w : World) (h : w.sl Ctl.cells 2 v l) (hl : l.length ≤ 1048576) (hk : hasK l r = true) (hc : cellK l r = (cellN l r : Int)) :
    Calls Try.prog 29 #[v, .int .i64 r] w fun x w' => x = .returned (.int .i64 (cellN l r)) ∧ ∃ d, w' = w.ext d := by
  have hs := Lib.hid h
  obtain ⟨p, c, rfl, _⟩ := h
  have hi := idxK_yes hk
  have hlt := atK_lt hk
  obtain ⟨b, o, rfl⟩ := sl_some hs.out (by omega)
  have c1 := sl_cells hs.out hlt (j := 1) (by omega)
  have HE := Lib.hid (cellK_eq hk ▸ hc)
  generalize l[atK l r] = y at c1 HE
  simp only [Ctl.cells, List.getElem?_cons_zero, List.getElem?_cons_succ, Nat.add_zero] at c1
  rw [HE.out] at c1
  have ob := World.oldB_of_cell c1
  have HF := Lib.hid (controlOf_any (.slice (some ⟨b, o, none⟩) l.length c) l r w hs.out hl)
  rw [hi] at HF
  clear hi HE hc hk
  generalize atK l r = n at *
  generalize cellN l r = z at *
  go_enter Try.func29, Try.ntmps29
  go_wp2_with fail
  refine HF.out.mono ?_
  rintro e w1 ⟨rfl, d1, rfl⟩
  go_wp2
  go_ret
  exact ⟨rfl, (by repeat (first | with_reducible (first | exact World.gained_refl _ | exact ⟨_, rfl⟩ | apply gain_ext | apply gain_alloc | apply gain_drewN | apply gain_drew) | (refine gain_setCell ?_ (by first | exact Nat.le_refl _ | exact World.size_ext _ _ | (simp; done) | (simp; omega)) _)))⟩
set_option maxHeartbeats 1000000 in
theorem l8Cell_any (v : Value) (l : List Ctl) (r : Int) (w : World) (h : w.sl Ctl.cells 2 v l) (hl : l.length ≤ 1048576) (hk : hasK l r = true) (hc : cellK l r = (cellN l r : Int)) :
    Calls Try.prog 37 #[v, .int .i64 r] w fun x w' => x = .returned (.int .i64 (cellN l r)) ∧ ∃ d, w' = w.ext d := by
  have hs := Lib.hid h
  obtain ⟨p, c, rfl, _⟩ := h
  have hi := idxK_yes hk
  have hlt := atK_lt hk
  obtain ⟨b, o, rfl⟩ := sl_some hs.out (by omega)
  have c1 := sl_cells hs.out hlt (j := 1) (by omega)
  have HE := Lib.hid (cellK_eq hk ▸ hc)
  generalize l[atK l r] = y at c1 HE
  simp only [Ctl.cells, List.getElem?_cons_zero, List.getElem?_cons_succ, Nat.add_zero] at c1
  rw [HE.out] at c1
  have ob := World.oldB_of_cell c1
  have HF := Lib.hid (l6Find_any (.slice (some ⟨b, o, none⟩) l.length c) l r w hs.out hl)
  rw [hi] at HF
  clear hi HE hc hk
  generalize atK l r = n at *
  generalize cellN l r = z at *
  go_enter Try.func37, Try.ntmps37
  go_wp2_with fail
  refine HF.out.mono ?_
  rintro e w1 ⟨rfl, d1, rfl⟩
  go_wp2
  go_ret
  exact ⟨rfl, (by repeat (first | with_reducible (first | exact World.gained_refl _ | exact ⟨_, rfl⟩ | apply gain_ext | apply gain_alloc | apply gain_drewN | apply gain_drew) | (refine gain_setCell ?_ (by first | exact Nat.le_refl _ | exact World.size_ext _ _ | (simp; done) | (simp; omega)) _)))⟩
end Go.Proofs.Ytmcimgnobimicaa
