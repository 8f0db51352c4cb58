/- cmp.Compare, cmp.Or over ints, impl.sexes, the closure of impl.BestClass. No condition. -/
import Derived.Test.YtffkkchflohhaaaGreatDoorClassesFor
namespace Go.Ori
def cmpI (a b : Int) : Int := if a < b then -1 else if b < a then 1 else 0
def sexI (c : Cls) : Int := if (c.women && c.men) = true then 2 else 1
/-- The first that is not 0. -/
def orI (a b c : Int) : Int := if a = 0 then (if b = 0 then c else b) else a
def keyI (c : Cls) : Int := 2 * (c.high - c.low) + (if (c.women && c.men) = true then 1 else 0)
def cmpC (a b : Cls) : Int := orI (cmpI (a.high - a.low) (b.high - b.low)) (cmpI (sexI a) (sexI b)) (cmpI a.id b.id)
theorem cmpC_key {a b : Cls} (h : b.id < a.id) : (cmpC a b < 0) ↔ keyI a < keyI b := by
  unfold cmpC orI cmpI sexI keyI
  by_cases h1 : (a.women && a.men) = true <;> by_cases h2 : (b.women && b.men) = true <;> simp only [h1, h2, if_true, if_false] <;> (repeat' split) <;> omega
end Go.Ori
namespace Go.Proofs.YtffkkchflohhaaaGreatDoor
open Go.RowKit Go.Ori
theorem isNaN_any (a : Int) (w : World) : Calls Tryz.prog 69 #[.int .i64 a] w fun x w' => x = .returned (.bool false) ∧ w = w' := by
  go_enter Tryz.func69, Tryz.ntmps69
  go_wp2
  go_ret
  exact ⟨by simp, rfl⟩
theorem compare_any (a b : Int) (w : World) : Calls Tryz.prog 46 #[.int .i64 a, .int .i64 b] w fun x w' => x = .returned (.int .i64 (cmpI a b)) ∧ w = w' := by
  by_cases h1 : a < b
  · have HE : Hid (cmpI a b = -1) := Lib.hid (by simp [cmpI, h1])
    go_enter Tryz.func46, Tryz.ntmps46
    go_wp2_with (go_at_call 69; refine (isNaN_any _ _).mono ?_; rintro e w1 ⟨rfl, rfl⟩)
    go_ret
    rw [HE.out]
    exact ⟨rfl, rfl⟩
  · by_cases h2 : b < a
    · have HE : Hid (cmpI a b = 1) := Lib.hid (by simp [cmpI, h1, h2])
      go_enter Tryz.func46, Tryz.ntmps46
      go_wp2_with (go_at_call 69; refine (isNaN_any _ _).mono ?_; rintro e w1 ⟨rfl, rfl⟩)
      go_ret
      rw [HE.out]
      exact ⟨rfl, rfl⟩
    · have HE : Hid (cmpI a b = 0) := Lib.hid (by simp [cmpI, h1, h2])
      go_enter Tryz.func46, Tryz.ntmps46
      go_wp2_with (go_at_call 69; refine (isNaN_any _ _).mono ?_; rintro e w1 ⟨rfl, rfl⟩)
      go_ret
      rw [HE.out]
      exact ⟨rfl, rfl⟩
set_option maxHeartbeats 1000000 in
theorem or_any (v : Value) (a b c : Int) (w : World) (h : w.sl intC 1 v [a, b, c]) : Calls Tryz.prog 45 #[v] w fun x w' => x = .returned (.int .i64 (orI a b c)) ∧ ∃ d, w' = w.ext d := by
  have hs := Lib.hid h
  obtain ⟨p, cap, rfl, _⟩ := h
  obtain ⟨g, o, rfl⟩ := sl_some hs.out (by simp)
  have c0 := sl_int hs.out (k := 0) (by simp)
  have c1 := sl_int hs.out (k := 1) (by simp)
  have c2 := sl_int hs.out (k := 2) (by simp)
  simp only [List.getElem_cons_zero, List.getElem_cons_succ, Nat.add_zero] at c0 c1 c2
  have ob := World.oldB_of_cell c0
  go_enter Tryz.func45, Tryz.ntmps45
  go_wp2
  go_loopw [8] (fun i wr => ∃ k : Nat, k ≤ 3 ∧ i = .int .i64 k ∧ (0 < k → a = 0) ∧ (1 < k → b = 0) ∧ (2 < k → c = 0) ∧ ∃ d, wr = w.ext d) (fun i _ => 3 - (intOf i).toNat)
  case atStart => exact ⟨0, by omega, rfl, by omega, by omega, by omega, w.gained_refl⟩
  case round =>
    obtain ⟨k, hk, rfl, h0, h1, h2, d, rfl⟩ := hrel
    rcases (by omega : k = 0 ∨ k = 1 ∨ k = 2 ∨ k = 3) with rfl | rfl | rfl | rfl
    · by_cases ha : a = 0
      · have ha' := Lib.hid ha
        clear h0 h1 h2
        subst ha
        go_wp2
        go_roundw
        case rel => exact ⟨1, by omega, by go_num, by simp, by omega, by omega, _, rfl⟩
        case measure => simp [intOf]
      · have HE : Hid (orI a b c = a) := Lib.hid (by simp [orI, ha])
        clear h0 h1 h2
        go_wp2
        go_ret
        rw [HE.out]
        exact ⟨rfl, _, rfl⟩
    · have ha := h0 (by omega)
      by_cases hb : b = 0
      · clear h0 h1 h2
        subst ha hb
        go_wp2
        go_roundw
        case rel => exact ⟨2, by omega, by go_num, by simp, by simp, by omega, _, rfl⟩
        case measure => simp [intOf]
      · have HE : Hid (orI a b c = b) := Lib.hid (by simp [orI, ha, hb])
        clear h0 h1 h2
        go_wp2
        go_ret
        rw [HE.out]
        exact ⟨rfl, _, rfl⟩
    · have ha := h0 (by omega)
      have hb := h1 (by omega)
      by_cases hc : c = 0
      · clear h0 h1 h2
        subst ha hb hc
        go_wp2
        go_roundw
        case rel => exact ⟨3, by omega, by go_num, by simp, by simp, by simp, _, rfl⟩
        case measure => simp [intOf]
      · have HE : Hid (orI a b c = c) := Lib.hid (by simp [orI, ha, hb])
        clear h0 h1 h2
        go_wp2
        go_ret
        rw [HE.out]
        exact ⟨rfl, _, rfl⟩
    · have HE : Hid (orI a b c = 0) := Lib.hid (by simp [orI, h0 (by omega), h1 (by omega), h2 (by omega)])
      clear h0 h1 h2
      go_wp2
      go_ret
      rw [HE.out]
      exact ⟨rfl, _, rfl⟩
theorem sexes_any (c : Cls) (w : World) :
    Calls Tryz.prog 47 #[.agg #[.int .i64 c.id, .string c.name, .int .i64 c.low, .int .i64 c.high, .bool c.women, .bool c.men, .int .i64 c.course, .int .i64 c.most]] w fun x w' => x = .returned (.int .i64 (sexI c)) ∧ ∃ d, w' = w.ext d := by
  cases hw : c.women <;> cases hm : c.men
  all_goals (
    have HE := Lib.hid (show sexI c = _ by simp only [sexI, hw, hm]; rfl)
    go_enter Tryz.func47, Tryz.ntmps47
    go_wp2
    go_ret
    rw [HE.out]
    exact ⟨rfl, (by repeat (first | with_reducible (first | exact World.gained_refl _ | exact ⟨_, rfl⟩ | apply gain_ext | apply gain_alloc | apply gain_drewN | apply gain_drew) | (refine gain_setCell ?_ (by first | exact Nat.le_refl _ | exact World.size_ext _ _ | (simp; done) | (simp; omega)) _)))⟩)
end Go.Proofs.YtffkkchflohhaaaGreatDoor
