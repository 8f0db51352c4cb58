/- impl.leastTime. Conditions: a valid map; cells of it. -/
import Derived.Test.YtedpckkoaioooaaTimes
namespace Go.Proofs.Ytedpckkoaioooaa
open Go.RowKit Go.Ori
set_option maxHeartbeats 1000000 in
theorem leastTime_any (m : Mp) (rv cv : Value) (W H a b : Nat) (w : World) (hok : MapOk m W H) (h : w.mp rv cv m) (ha : a < m.cost.length) (hb : b < m.cost.length) :
    Calls Try.prog 137 #[.agg #[.int .i64 m.wd, .int .i64 m.ht, rv, cv], .int .i64 a, .int .i64 b] w fun x w' => x = .returned (.int .i64 (timeB m a b)) ∧ ∃ d, w' = w.ext d := by
  have hm := Lib.hid h
  have HK := Lib.hid hok
  have hn := hok.n36
  obtain ⟨p, c, p', c', rfl, rfl⟩ := mp_form h
  have HT : Hid (timeB m a b = (timesL m b).getD a 0) := Lib.hid rfl
  have HL := Lib.hid (times_inv hok hb).len
  generalize timeB m a b = z at HT ⊢
  clear h hok
  go_enter Try.func137, Try.ntmps137
  go_wp2_with fail
  refine (timesTo_any m _ _ W H b _ HK.out (mp_up (hm.out) (by repeat (first | with_reducible (first | exact World.gained_refl _ | exact ⟨_, rfl⟩ | apply gain_ext | apply gain_alloc | apply gain_drewN | apply gain_drew) | (refine gain_setCell ?_ (by first | exact Nat.le_refl _ | exact World.size_ext _ _ | (simp; done) | (simp; omega)) _)))) hb).mono ?_
  rintro e w1 ⟨v, rfl, ⟨d1, rfl⟩, hv⟩
  obtain ⟨g, cap, rfl, _, hgl⟩ := own_addr hv (by rw [HL.out]; omega)
  rw [HL.out] at hv ⊢
  obtain ⟨t0, _⟩ := own_at hv (k := a) (by rw [HL.out]; exact ha)
  rw [← HT.out] at t0
  have obg := World.oldB_of_cell t0
  clear hv hgl
  go_wp2
  go_ret
  exact ⟨rfl, (by repeat (first | with_reducible (first | exact World.gained_refl _ | exact ⟨_, rfl⟩ | apply gain_ext | apply gain_alloc | apply gain_drewN | apply gain_drew) | (refine gain_setCell ?_ (by first | exact Nat.le_refl _ | exact World.size_ext _ _ | (simp; done) | (simp; omega)) _)))⟩
end Go.Proofs.Ytedpckkoaioooaa
