/- spec.l4Climb of a route. Condition: a map in memory. -/
import Derived.Test.YtfpobghllfoijaaPRt
import Derived.Test.YtfpobghllfoijaaMapN
import Derived.Test.YtfpobghllfoijaaMapX
namespace Go.Proofs.Ytfpobghllfoijaa
open Go.RowKit Go.Ori
set_option maxHeartbeats 4000000 in
theorem l4Climb_any (m : Mp) (rv cv u : Value) (W H : Nat) (r : List Nat) (w : World) (hok : MapOk m W H) (hmp : w.mp rv cv m) (h2 : w.sl intC 1 u (natL r)) (hrt : Rt m r) :
    Calls Try.prog 37 #[.agg #[.int .i64 m.wd, .int .i64 m.ht, rv, cv], u] w fun x w' => x = .returned (.int .i64 (stepsF (climbZ m) (natL r) r.length)) ∧ ∃ d, w' = w.ext d := by
  have ht := Lib.hid h2
  have h36 := rt_len hok hrt
  have h01 := hrt.pos
  have HRT := Lib.hid hrt
  have HSB := Lib.hid (fun k => stepsF_bd (f := climbZ m) (l := natL r) (B := 9) (by omega) (fun x y => climbZ_le hok x y) k)
  obtain ⟨p, c, hu, _⟩ := id h2
  rw [natL_length] at hu
  subst hu
  obtain ⟨b1, o1, c1, b2, o2, c2, hin⟩ := mp_in hmp hok
  have HIN := Lib.hid hin
  have HK := Lib.hid hok
  obtain rfl := hin.rv
  obtain rfl := hin.cv
  have ob1 := hin.ob1
  have ob2 := hin.ob2
  clear hmp hok hin h2 hrt
  go_enter Try.func37, Try.ntmps37
  go_wp2
  go_loopw [5, 6] (fun s i wr => ∃ k : Nat, 1 ≤ k ∧ k ≤ r.length ∧ i = .int .i64 k ∧ s = .int .i64 (stepsF (climbZ m) (natL r) k) ∧ ∃ d, wr = (w.alloc (.cells #[.int .i64 m.wd, .int .i64 m.ht, .slice (some ⟨b1, o1, none⟩) m.cost.length c1, .slice (some ⟨b2, o2, none⟩) m.cost.length c2] 26)).ext d) (fun _ i _ => r.length - (intOf i).toNat)
  case atStart => exact ⟨1, by omega, by omega, rfl, by rw [stepsF_one], (by repeat (first | with_reducible (first | exact World.gained_refl _ | exact ⟨_, rfl⟩ | apply gain_ext | apply gain_alloc | apply gain_drewN | apply gain_drew) | (refine gain_setCell ?_ (by first | exact Nat.le_refl _ | exact World.size_ext _ _ | (simp; done) | (simp; omega)) _)))⟩
  case round =>
    obtain ⟨k, hk0, hk, rfl, rfl, d, rfl⟩ := hrel
    by_cases hlt : k < r.length
    · obtain ⟨b, o, rfl⟩ := sl_some ht.out (by rw [natL_length]; omega)
      have hk1 : k - 1 < r.length := by omega
      have c0 := sl_int ht.out (k := k) (by rw [natL_length]; exact hlt)
      have cp := sl_int ht.out (k := k - 1) (by rw [natL_length]; exact hk1)
      have hX := (HRT.out.cell r[k] (List.getElem_mem _)).1
      have hY := (HRT.out.cell (r[k - 1]'hk1) (List.getElem_mem _)).1
      have HS := Lib.hid (stepsF_succ (climbZ m) (l := natL r) hk0 (by rw [natL_length]; exact hlt) (natL_get r (k - 1) (by rw [natL_length]; exact hk1)) (natL_get r k (by rw [natL_length]; exact hlt)))
      rw [natL_get] at c0 cp
      generalize r[k] = X at c0 hX HS
      generalize r[k - 1]'hk1 = Y at cp hY HS
      have ob := World.oldB_of_cell c0
      obtain ⟨hs0, hs1⟩ := HSB.out k
      generalize stepsF (climbZ m) (natL r) k = S at HS hs0 hs1
      have hsb : S ≤ 400 := by omega
      clear hs1
      have rx := HIN.out.ro X hX
      have ry := HIN.out.ro Y hY
      have bx := HK.out.rr X
      have by' := HK.out.rr Y
      have HF : Hid (climbZ m Y X = max (riseAt m X - riseAt m Y) 0) := Lib.hid rfl
      generalize riseAt m X = x at rx bx HF
      generalize riseAt m Y = y at ry by' HF
      have kw1 : IntKind.i64.wrap ((k : Int) - 1) = (k : Int) - 1 := IntWalk.i64_in _ (by omega)
      go_wp2
      refine wp_region_gain (by kernel_rfl) (by kernel_rfl) ?_
      repeat (first | go_big_quiet_skip | (go_big_quiet_want; go_big_quiet_op; first | go_big_quiet_on | ((apply Exists.intro); (refine ⟨fun _ => ?_, ?_⟩); (· (go_at_call 60; exact Calls.gain_same (l1Most_any _ _ _))); (go_big_quiet_on))))
      refine wpQuiet_nil ?_
      rintro _ ⟨d', rfl⟩
      go_wp2
      go_roundw
      case rel => exact ⟨k + 1, by omega, by omega, by go_num, by rw [HS.out, HF.out]; apply congrArg; omega, (by repeat (first | with_reducible (first | exact World.gained_refl _ | exact ⟨_, rfl⟩ | apply gain_ext | apply gain_alloc | apply gain_drewN | apply gain_drew) | (refine gain_setCell ?_ (by first | exact Nat.le_refl _ | exact World.size_ext _ _ | (simp; done) | (simp; omega)) _)))⟩
      case measure => simp [intOf]; omega
    · obtain rfl : k = r.length := by omega
      go_wp2
      go_ret
      exact ⟨rfl, (by repeat (first | with_reducible (first | exact World.gained_refl _ | exact ⟨_, rfl⟩ | apply gain_ext | apply gain_alloc | apply gain_drewN | apply gain_drew) | (refine gain_setCell ?_ (by first | exact Nat.le_refl _ | exact World.size_ext _ _ | (simp; done) | (simp; omega)) _)))⟩
end Go.Proofs.Ytfpobghllfoijaa
