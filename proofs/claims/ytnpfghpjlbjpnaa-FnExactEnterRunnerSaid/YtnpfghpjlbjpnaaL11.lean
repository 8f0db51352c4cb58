/- impl.AreEntries and spec.AreEntries. Condition: at most 1048576 entries. -/
import Derived.Test.YtnpfghpjlbjpnaaInside
import Derived.Test.YtnpfghpjlbjpnaaL1In
import Derived.Test.YtnpfghpjlbjpnaaP11
namespace Go.Proofs.Ytnpfghpjlbjpnaa
open Go.RowKit Go.Ori
theorem isDay_any (n : Int) (w : World) :
    Calls Try.prog 23 #[.int .i64 n] w fun e w' => e = .returned (.bool (insB n 0 365)) ∧ w = w' := by
  go_enter Try.func23, Try.ntmps23
  go_wp2_with (go_at_call 22; refine (inside_any _ _ _ _).mono ?_; rintro e w1 ⟨rfl, rfl⟩)
  go_ret
  exact ⟨rfl, rfl⟩
theorem l11Day_any (n : Int) (w : World) :
    Calls Try.prog 21 #[.int .i64 n] w fun e w' => e = .returned (.bool (insB n 0 365)) ∧ w = w' := by
  go_enter Try.func21, Try.ntmps21
  go_wp2_with (go_at_call 20; refine (l1In_any _ _ _ _).mono ?_; rintro e w1 ⟨rfl, rfl⟩)
  go_ret
  exact ⟨rfl, rfl⟩
theorem isEntry_any (e : Ent) (w : World) :
    Calls Try.prog 17 #[.agg #[.int .i64 e.runner, .int .i64 e.cls, .int .i64 e.day, .bool e.rent, .int .i64 e.paid]] w fun x w' => x = .returned (.bool (entB e)) ∧ ∃ d, w' = w.ext d := by
  go_enter Try.func17, Try.ntmps17
  go_wp2_with (first | (go_at_call 22; refine (inside_any _ _ _ _).mono ?_; rintro e w1 ⟨rfl, rfl⟩) | (go_at_call 23; refine (isDay_any _ _).mono ?_; rintro e w1 ⟨rfl, rfl⟩))
  all_goals go_ret
  all_goals refine ⟨?_, gain_alloc w.gained_refl _⟩
  all_goals simp [entB, *]
theorem l11One_any (e : Ent) (w : World) :
    Calls Try.prog 16 #[.agg #[.int .i64 e.runner, .int .i64 e.cls, .int .i64 e.day, .bool e.rent, .int .i64 e.paid]] w fun x w' => x = .returned (.bool (entB e)) ∧ ∃ d, w' = w.ext d := by
  go_enter Try.func16, Try.ntmps16
  go_wp2_with (first | (go_at_call 20; refine (l1In_any _ _ _ _).mono ?_; rintro e w1 ⟨rfl, rfl⟩) | (go_at_call 21; refine (l11Day_any _ _).mono ?_; rintro e w1 ⟨rfl, rfl⟩))
  all_goals go_ret
  all_goals refine ⟨?_, gain_alloc w.gained_refl _⟩
  all_goals simp [entB, *]
set_option maxHeartbeats 1000000 in
theorem areEntries_any (v : Value) (l : List Ent) (w : World) (h : w.sl Ent.cells 5 v l) (hl : l.length ≤ 1048576) :
    Calls Try.prog 13 #[v] w fun x w' => x = .returned (.bool (entsB l)) ∧ ∃ d, w' = w.ext d := by
  obtain ⟨p, c, rfl, hp, hcap⟩ := h
  go_enter Try.func13, Try.ntmps13
  go_wp2
  go_loopw [7] (fun i wr => ∃ k : Nat, k ≤ l.length ∧ i = .int .i64 k ∧ (∀ j, j < k → entOk l j = true) ∧ ∃ d, wr = w.ext d) (fun i _ => l.length - (intOf i).toNat)
  case atStart => exact ⟨0, by omega, rfl, by simp, w.gained_refl⟩
  case round =>
    obtain ⟨k, hk, rfl, hok, d, rfl⟩ := hrel
    have HO := Lib.hid hok
    clear hok
    by_cases hlt : k < l.length
    · obtain ⟨b, o, rfl, hc⟩ := hp (by omega)
      have hck := hc k hlt
      have c0 := hck 0 (by omega)
      have c1 := hck 1 (by omega)
      have c2 := hck 2 (by omega)
      have c3 := hck 3 (by omega)
      have c4 := hck 4 (by omega)
      have cp := hc (k - 1) (by omega) 0 (by omega)
      have he : l[k]? = some l[k] := by simp
      have hpe : l[k - 1]? = some (l[k - 1]'(by omega)) := by rw [List.getElem?_eq_getElem]
      generalize l[k] = e at c0 c1 c2 c3 c4 he hck
      generalize l[k - 1]'(by omega) = e' at cp hpe
      have HE := Lib.hid (entOk_eq he hpe)
      clear hck hc hp he hpe
      simp only [Ent.cells, List.getElem?_cons_zero, List.getElem?_cons_succ, Nat.add_zero] at c0 c1 c2 c3 c4 cp
      have ob := World.oldB_of_cell c0
      by_cases hv : entB e = false
      · go_wp2
        refine wp_region_gain (by kernel_rfl) (by kernel_rfl) ?_
        repeat (first | go_big_quiet_skip | (go_big_quiet_want; go_big_quiet_op; first | go_big_quiet_on | ((apply Exists.intro); (refine ⟨fun _ => ?_, ?_⟩); (· (go_at_call 17; exact Calls.gain (isEntry_any _ _))); (go_big_quiet_on))))
        refine wpQuiet_nil ?_
        rintro _ ⟨d', rfl⟩
        go_wp2
        go_ret
        exact ⟨ret_bool (by rw [entsB, allB_no hlt (by rw [HE.out, hv]; rfl)]; rfl), gain_ext (gain_alloc ⟨_, rfl⟩ _) _⟩
      have hvt : entB e = true := by simpa using hv
      by_cases hk0 : 0 < k
      · go_wp2
        refine wp_region_gain (by kernel_rfl) (by kernel_rfl) ?_
        repeat (first | go_big_quiet_skip | (go_big_quiet_want; go_big_quiet_op; first | go_big_quiet_on | ((apply Exists.intro); (refine ⟨fun _ => ?_, ?_⟩); (· (go_at_call 17; exact Calls.gain (isEntry_any _ _))); (go_big_quiet_on))))
        refine wpQuiet_nil ?_
        rintro _ ⟨d', rfl⟩
        go_wp2
        · go_ret
          exact ⟨ret_bool (by rw [entsB, allB_no hlt (by rw [HE.out, decide_eq_false (by omega : ¬ k = 0), decide_eq_false (by omega : ¬ e'.runner < e.runner)]; simp)]; rfl), gain_ext (gain_alloc ⟨_, rfl⟩ _) _⟩
        · go_roundw
          case rel => exact ⟨k + 1, by omega, by go_num, step_all HO.out (by rw [HE.out, hvt, decide_eq_true (by omega : e'.runner < e.runner)]; simp), gain_ext (gain_alloc ⟨_, rfl⟩ _) _⟩
          case measure => simp [intOf]; omega
      · go_wp2
        refine wp_region_gain (by kernel_rfl) (by kernel_rfl) ?_
        repeat (first | go_big_quiet_skip | (go_big_quiet_want; go_big_quiet_op; first | go_big_quiet_on | ((apply Exists.intro); (refine ⟨fun _ => ?_, ?_⟩); (· (go_at_call 17; exact Calls.gain (isEntry_any _ _))); (go_big_quiet_on))))
        refine wpQuiet_nil ?_
        rintro _ ⟨d', rfl⟩
        go_wp2
        go_roundw
        case rel => exact ⟨k + 1, by omega, by go_num, step_all HO.out (by rw [HE.out, hvt, decide_eq_true (by omega : k = 0)]; simp), gain_ext (gain_alloc ⟨_, rfl⟩ _) _⟩
        case measure => simp [intOf]; omega
    · go_wp2
      go_ret
      obtain rfl : k = l.length := by omega
      exact ⟨ret_bool (by rw [entsB, allB_yes HO.out]; simp; omega), _, rfl⟩
set_option maxHeartbeats 1000000 in
theorem l11Good_any (v : Value) (l : List Ent) (w : World) (h : w.sl Ent.cells 5 v l) (hl : l.length ≤ 1048576) :
    Calls Try.prog 12 #[v] w fun x w' => x = .returned (.bool (entsB l)) ∧ ∃ d, w' = w.ext d := by
  obtain ⟨p, c, rfl, hp, hcap⟩ := h
  go_enter Try.func12, Try.ntmps12
  go_wp2
  go_loopw [3] (fun i wr => ∃ k : Nat, k ≤ l.length ∧ i = .int .i64 k ∧ (∀ j, j < k → entOk l j = true) ∧ ∃ d, wr = w.ext d) (fun i _ => l.length - (intOf i).toNat)
  case atStart => exact ⟨0, by omega, rfl, by simp, w.gained_refl⟩
  case round =>
    obtain ⟨k, hk, rfl, hok, d, rfl⟩ := hrel
    have HO := Lib.hid hok
    clear hok
    by_cases hlt : k < l.length
    · obtain ⟨b, o, rfl, hc⟩ := hp (by omega)
      have hck := hc k hlt
      have c0 := hck 0 (by omega)
      have c1 := hck 1 (by omega)
      have c2 := hck 2 (by omega)
      have c3 := hck 3 (by omega)
      have c4 := hck 4 (by omega)
      have cp := hc (k - 1) (by omega) 0 (by omega)
      have he : l[k]? = some l[k] := by simp
      have hpe : l[k - 1]? = some (l[k - 1]'(by omega)) := by rw [List.getElem?_eq_getElem]
      generalize l[k] = e at c0 c1 c2 c3 c4 he hck
      generalize l[k - 1]'(by omega) = e' at cp hpe
      have HE := Lib.hid (entOk_eq he hpe)
      clear hck hc hp he hpe
      simp only [Ent.cells, List.getElem?_cons_zero, List.getElem?_cons_succ, Nat.add_zero] at c0 c1 c2 c3 c4 cp
      have ob := World.oldB_of_cell c0
      by_cases hv : entB e = false
      · go_wp2
        refine wp_region_gain (by kernel_rfl) (by kernel_rfl) ?_
        repeat (first | go_big_quiet_skip | (go_big_quiet_want; go_big_quiet_op; first | go_big_quiet_on | ((apply Exists.intro); (refine ⟨fun _ => ?_, ?_⟩); (· (go_at_call 16; exact Calls.gain (l11One_any _ _))); (go_big_quiet_on))))
        refine wpQuiet_nil ?_
        rintro _ ⟨d', rfl⟩
        go_wp2
        go_ret
        exact ⟨ret_bool (by rw [entsB, allB_no hlt (by rw [HE.out, hv]; rfl)]; rfl), gain_ext ⟨_, rfl⟩ _⟩
      have hvt : entB e = true := by simpa using hv
      by_cases hk0 : 0 < k
      · go_wp2
        refine wp_region_gain (by kernel_rfl) (by kernel_rfl) ?_
        repeat (first | go_big_quiet_skip | (go_big_quiet_want; go_big_quiet_op; first | go_big_quiet_on | ((apply Exists.intro); (refine ⟨fun _ => ?_, ?_⟩); (· (go_at_call 16; exact Calls.gain (l11One_any _ _))); (go_big_quiet_on))))
        refine wpQuiet_nil ?_
        rintro _ ⟨d', rfl⟩
        go_wp2
        · go_ret
          exact ⟨ret_bool (by rw [entsB, allB_no hlt (by rw [HE.out, decide_eq_false (by omega : ¬ k = 0), decide_eq_false (by omega : ¬ e'.runner < e.runner)]; simp)]; rfl), gain_ext ⟨_, rfl⟩ _⟩
        · go_roundw
          case rel => exact ⟨k + 1, by omega, by go_num, step_all HO.out (by rw [HE.out, hvt, decide_eq_true (by omega : e'.runner < e.runner)]; simp), gain_ext ⟨_, rfl⟩ _⟩
          case measure => simp [intOf]; omega
      · go_wp2
        refine wp_region_gain (by kernel_rfl) (by kernel_rfl) ?_
        repeat (first | go_big_quiet_skip | (go_big_quiet_want; go_big_quiet_op; first | go_big_quiet_on | ((apply Exists.intro); (refine ⟨fun _ => ?_, ?_⟩); (· (go_at_call 16; exact Calls.gain (l11One_any _ _))); (go_big_quiet_on))))
        refine wpQuiet_nil ?_
        rintro _ ⟨d', rfl⟩
        go_wp2
        go_roundw
        case rel => exact ⟨k + 1, by omega, by go_num, step_all HO.out (by rw [HE.out, hvt, decide_eq_true (by omega : k = 0)]; simp), gain_ext ⟨_, rfl⟩ _⟩
        case measure => simp [intOf]; omega
    · go_wp2
      go_ret
      obtain rfl : k = l.length := by omega
      exact ⟨ret_bool (by rw [entsB, allB_yes HO.out]; simp; omega), _, rfl⟩
end Go.Proofs.Ytnpfghpjlbjpnaa
