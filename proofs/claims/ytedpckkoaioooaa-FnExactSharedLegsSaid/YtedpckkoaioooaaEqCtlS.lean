/- laws.eqControlS: of two slices that read alike it says true. Condition: at most 1048576 elements. -/
import Derived.Test.YtedpckkoaioooaaRows
import Derived.Test.YtedpckkoaioooaaPlain
namespace Go.Proofs.Ytedpckkoaioooaa
open Go.RowKit Go.Ori
set_option maxHeartbeats 400000 in
theorem eqControl_same (e : Ctl) (w : World) :
    Calls Try.prog 115 #[.agg #[.int .i64 e.code, .int .i64 e.cell], .agg #[.int .i64 e.code, .int .i64 e.cell]] w fun x w1 => x = .returned (.bool true) ∧ ∃ d, w1 = w.ext d := by
  go_enter Try.func115, Try.ntmps115
  go_wp2
  go_ret
  refine ⟨rfl, ?_⟩
  (repeat (first | exact World.gained_refl _ | exact ⟨_, rfl⟩ | apply gain_ext | apply gain_alloc | apply gain_drewN | apply gain_drew | (refine gain_setCell ?_ (by first | exact Nat.le_refl _ | exact World.size_ext _ _ | (simp; done) | (simp; omega)) _)))
set_option maxHeartbeats 1000000 in
theorem eqControlS_same (v v2 : Value) (l : List Ctl) (w : World) (h : w.sl Ctl.cells 2 v l) (h2 : w.sl Ctl.cells 2 v2 l) (hl : l.length ≤ 1048576) :
    Calls Try.prog 60 #[v, v2] w fun x w' => x = .returned (.bool true) ∧ ∃ d, w' = w.ext d := by
  obtain ⟨p, c, rfl, hp, hcap⟩ := h
  obtain ⟨p2, c2, rfl, hp2, _⟩ := h2
  go_enter Try.func60, Try.ntmps60
  go_wp2
  go_loopw [5] (fun i wr => ∃ k : Nat, k ≤ l.length ∧ i = .int .i64 k ∧ ∃ d, wr = w.ext d) (fun i _ => l.length - (intOf i).toNat)
  case atStart => exact ⟨0, by omega, rfl, w.gained_refl⟩
  case round =>
    obtain ⟨k, hk, rfl, d, rfl⟩ := hrel
    by_cases hlt : k < l.length
    · obtain ⟨b, o, rfl, hc⟩ := hp (by omega)
      obtain ⟨b2, o2, rfl, hc2⟩ := hp2 (by omega)
      have hck := hc k hlt
      have hck2 := hc2 k hlt
      clear hc hc2 hp hp2
      have c0 := hck 0 (by omega)
      have e0 := hck2 0 (by omega)
      have c1 := hck 1 (by omega)
      have e1 := hck2 1 (by omega)
      generalize l[k] = e at c0 e0 c1 e1 hck hck2
      clear hck hck2
      simp only [Ctl.cells, List.getElem?_cons_zero, List.getElem?_cons_succ, Nat.add_zero, Nat.mul_one] at c0 e0 c1 e1
      have ob := World.oldB_of_cell c0
      have ob2 := World.oldB_of_cell e0
      go_wp2
      refine wp_region_gain (by kernel_rfl) (by kernel_rfl) ?_
      repeat (first | go_big_quiet_skip | (go_big_quiet_want; go_big_quiet_op; first | go_big_quiet_on | ((apply Exists.intro); (refine ⟨fun _ => ?_, ?_⟩); (· (go_at_call 115; exact Calls.gain (eqControl_same _ _))); (go_big_quiet_on))))
      refine wpQuiet_nil ?_
      rintro _ ⟨d', rfl⟩
      go_wp2
      go_roundw
      case rel => exact ⟨k + 1, by omega, by go_num, gain_ext ⟨_, rfl⟩ _⟩
      case measure => simp [intOf]; omega
    · go_wp2
      go_ret
      exact ⟨rfl, _, rfl⟩
end Go.Proofs.Ytedpckkoaioooaa
