/- slices.SortStableFunc over at most 19 controls by their codes (impl.withControl's). Condition: at most 19 controls, of the call's own. -/
import Derived.Test.YtedpckkoaioooaaPSortC
import Derived.Test.YtedpckkoaioooaaInfoCtl
import Derived.Test.YtedpckkoaioooaaOwnAt
import Derived.Test.YtedpckkoaioooaaCut
namespace Go.Ori
def cmpI (a b : Int) : Int := if a < b then -1 else if b < a then 1 else 0
def cdA (r : List Ctl) (k : Nat) : Int := (r.getD k ⟨0, 0⟩).code
theorem cdA_eq {r : List Ctl} {k : Nat} (h : k < r.length) : cdA r k = r[k].code := by simp [cdA, List.getD_eq_getElem?_getD, List.getElem?_eq_getElem h]
theorem cdA_set {r : List Ctl} {i k : Nat} {x : Ctl} (hi : i < r.length) : cdA (r.set i x) k = if i = k then x.code else cdA r k := by
  unfold cdA
  rw [List.getD_eq_getElem?_getD, List.getElem?_set]
  by_cases e : i = k
  · subst e; simp [hi]
  · rw [if_neg e, if_neg e, List.getD_eq_getElem?_getD]
/-- The first q are in their order. -/
def AscTo (r : List Ctl) (q : Nat) : Prop := ∀ a b, a < b → b < q → cdA r a ≤ cdA r b
/-- .. the first q + 1, but for the j-th, which may be less than those ahead of it. -/
def AscBut (r : List Ctl) (q j : Nat) : Prop := ∀ a b, a < b → b ≤ q → b ≠ j → cdA r a ≤ cdA r b
theorem AscTo.but {r : List Ctl} {q : Nat} (h : AscTo r q) : AscBut r q q := fun a b h1 h2 h3 => h a b h1 (by omega)
theorem AscBut.zero {r : List Ctl} {q : Nat} (h : AscBut r q 0) : AscTo r (q + 1) := fun a b h1 h2 => h a b h1 (by omega) (by omega)
theorem AscBut.stop {r : List Ctl} {q k : Nat} (h : AscBut r q (k + 1)) (hk : k + 1 ≤ q) (hc : ¬ cdA r (k + 1) < cdA r k) : AscTo r (q + 1) := by
  intro a b h1 h2
  by_cases e : b = k + 1
  · subst e
    by_cases e2 : a = k
    · subst e2; omega
    · have := h a k (by omega) (by omega) (by omega); omega
  · exact h a b h1 (by omega) e
theorem AscBut.swap {r : List Ctl} {q k : Nat} (h : AscBut r q (k + 1)) (hq : q < r.length) (hk : k + 1 ≤ q) (hc : cdA r (k + 1) < cdA r k) :
    AscBut ((r.set (k + 1) (r[k]'(by omega))).set k (r[k + 1]'(by omega))) q k := by
  have hl : k < (r.set (k + 1) (r[k]'(by omega))).length := by rw [List.length_set]; omega
  have e1 : ∀ c, cdA ((r.set (k + 1) (r[k]'(by omega))).set k (r[k + 1]'(by omega))) c = if k = c then cdA r (k + 1) else if k + 1 = c then cdA r k else cdA r c := by
    intro c
    rw [cdA_set hl, cdA_set (by omega), cdA_eq (by omega : k + 1 < r.length), cdA_eq (by omega : k < r.length)]
  intro a b h1 h2 h3
  rw [e1 a, e1 b, if_neg (show ¬ k = b from fun e => h3 e.symm)]
  by_cases eb : k + 1 = b
  · subst eb
    rw [if_pos (show k + 1 = k + 1 from rfl)]
    by_cases ea : k = a
    · subst ea; rw [if_pos (show k = k from rfl)]; omega
    · rw [if_neg ea, if_neg (show ¬ k + 1 = a by omega)]
      exact h a k (by omega) (by omega) (by omega)
  · rw [if_neg eb]
    by_cases ea : k = a
    · subst ea; rw [if_pos (show k = k from rfl)]; exact h (k + 1) b (by omega) h2 (fun e => eb e.symm)
    · rw [if_neg ea]
      by_cases ea2 : k + 1 = a
      · rw [if_pos ea2]; exact h k b (by omega) h2 (fun e => eb e.symm)
      · rw [if_neg ea2]; exact h a b h1 h2 (fun e => eb e.symm)
theorem AscTo.asc {r : List Ctl} (h : AscTo r r.length) : AscC r := by
  refine List.pairwise_iff_getElem.2 fun i j hi hj hij => ?_
  have := h i j hij hj
  rwa [cdA_eq hi, cdA_eq hj] at this
theorem AscTo.one (r : List Ctl) {q : Nat} (h : q ≤ 1) : AscTo r q := fun a b h1 h2 => by omega
theorem AscTo.le {r : List Ctl} {q n : Nat} (h : AscTo r q) (hn : n ≤ q) : AscTo r n := fun a b h1 h2 => h a b h1 (by omega)
end Go.Ori
namespace Go.Proofs.Ytedpckkoaioooaa
open Go.RowKit Go.Ori
theorem isNaN_any (a : Int) (w : World) : Calls Try.prog 131 #[.int .i64 a] w fun x w' => x = .returned (.bool false) ∧ w = w' := by
  go_enter Try.func131, Try.ntmps131
  go_wp2
  go_ret
  exact ⟨by simp, rfl⟩
theorem compare_any (a b : Int) (w : World) : Calls Try.prog 98 #[.int .i64 a, .int .i64 b] w fun x w' => x = .returned (.int .i64 (cmpI a b)) ∧ w = w' := by
  by_cases h1 : a < b
  · have HE : Hid (cmpI a b = -1) := Lib.hid (by simp [cmpI, h1])
    go_enter Try.func98, Try.ntmps98
    go_wp2_with (go_at_call 131; refine (isNaN_any _ _).mono ?_; rintro e w1 ⟨rfl, rfl⟩)
    go_ret
    rw [HE.out]
    exact ⟨rfl, rfl⟩
  · by_cases h2 : b < a
    · have HE : Hid (cmpI a b = 1) := Lib.hid (by simp [cmpI, h1, h2])
      go_enter Try.func98, Try.ntmps98
      go_wp2_with (go_at_call 131; refine (isNaN_any _ _).mono ?_; rintro e w1 ⟨rfl, rfl⟩)
      go_ret
      rw [HE.out]
      exact ⟨rfl, rfl⟩
    · have HE : Hid (cmpI a b = 0) := Lib.hid (by simp [cmpI, h1, h2])
      go_enter Try.func98, Try.ntmps98
      go_wp2_with (go_at_call 131; refine (isNaN_any _ _).mono ?_; rintro e w1 ⟨rfl, rfl⟩)
      go_ret
      rw [HE.out]
      exact ⟨rfl, rfl⟩
theorem withC1_any (a b : Ctl) (w : World) :
    Calls Try.prog 121 #[.agg #[.int .i64 a.code, .int .i64 a.cell], .agg #[.int .i64 b.code, .int .i64 b.cell]] w fun x w' => x = .returned (.int .i64 (cmpI a.code b.code)) ∧ ∃ d, w' = w.ext d := by
  go_enter Try.func121, Try.ntmps121
  go_wp2_with (go_at_call 98; refine (compare_any _ _ _).mono ?_; rintro e w1 ⟨rfl, rfl⟩)
  go_ret
  exact ⟨rfl, (by repeat (first | with_reducible (first | exact World.gained_refl _ | exact ⟨_, rfl⟩ | apply gain_ext | apply gain_alloc | apply gain_drewN | apply gain_drew) | (refine gain_setCell ?_ (by first | exact Nat.le_refl _ | exact World.size_ext _ _ | (simp; done) | (simp; omega)) _)))⟩
set_option maxHeartbeats 4000000 in
theorem insertC_any (W : World) (v : Value) (l : List Ctl) (w : World) (B : Nat) (h : w.own B 46 Ctl.cells 2 v l) (hl : l.length ≤ 19) (hW : ∃ d, w = W.ext d) (hB : W.heap.size ≤ B) :
    Calls Try.prog 153 #[v, .int .i64 0, .int .i64 l.length, .func (.func 121) #[] #[]] w fun x w' => x = .returned (.tuple #[]) ∧ (∃ d, w' = W.ext d) ∧ ∃ r, w'.own B 46 Ctl.cells 2 v r ∧ r.Perm l ∧ AscC r := by
  have HO := Lib.hid h
  have HW := Lib.hid hW
  obtain ⟨pv, cv, rfl, _⟩ := sl_of_own Ctl.cells_length h
  clear h hW
  go_enter Try.func153, Try.ntmps153
  go_wp2
  go_loopw [8] (fun i wr => ∃ (q : Nat) (r : List Ctl), 1 ≤ q ∧ (q ≤ l.length ∨ q ≤ 1) ∧ i = .int .i64 q ∧ (∃ d, wr = W.ext d) ∧ wr.own B 46 Ctl.cells 2 (.slice pv l.length cv) r ∧ r.length = l.length ∧ r.Perm l ∧ AscTo r q) (fun i _ => l.length - (intOf i).toNat)
  case atStart => exact ⟨1, l, by omega, by omega, by go_num, HW.out, HO.out, rfl, List.Perm.refl _, AscTo.one l (by omega)⟩
  case round =>
    obtain ⟨q, r, hq1, hq, rfl, hwr, ho, hrl, hpm, hasc⟩ := hrel
    have HWR := Lib.hid hwr
    have HOR := Lib.hid ho
    have HRL := Lib.hid hrl
    have HPM := Lib.hid hpm
    have HAS := Lib.hid hasc
    clear hwr ho hrl hpm hasc HO HW
    by_cases hlt : q < l.length
    · have hqd : decide ((q : Int) < (l.length : Int)) = true := decide_eq_true (by omega)
      go_wp2
      go_loopw [9] (fun i wr => ∃ (j : Nat) (r : List Ctl), j ≤ q ∧ i = .int .i64 j ∧ (∃ d, wr = W.ext d) ∧ wr.own B 46 Ctl.cells 2 (.slice pv l.length cv) r ∧ r.length = l.length ∧ r.Perm l ∧ AscBut r q j) (fun i _ => (intOf i).toNat)
      case atStart => exact ⟨q, r, by omega, by go_num, HWR.out, HOR.out, HRL.out, HPM.out, HAS.out.but⟩
      case round =>
        obtain ⟨j, r, hj, rfl, hwr, ho, hrl, hpm, hasc⟩ := hrel
        have HWR := Lib.hid hwr
        have HOR := Lib.hid ho
        have HRL := Lib.hid hrl
        have HPM := Lib.hid hpm
        have HAS := Lib.hid hasc
        clear hwr ho hrl hpm hasc
        by_cases hj0 : j = 0
        · subst hj0
          have hjd : decide (0 < ((0 : Nat) : Int)) = false := by simp
          go_upto_region 4 with fail
          refine wp_region_gain (by kernel_rfl) (by kernel_rfl) ?_
          repeat (first | go_big_quiet_skip | (go_big_quiet_want; go_big_quiet_op; first | go_big_quiet_on))
          refine wpQuiet_nil ?_
          rintro _ ⟨d', rfl⟩
          go_wp2
          go_roundw
          case rel => exact ⟨q + 1, r, by omega, by omega, by go_num, gain_trans HWR.out (by repeat (first | with_reducible (first | exact World.gained_refl _ | exact ⟨_, rfl⟩ | apply gain_ext | apply gain_alloc | apply gain_drewN | apply gain_drew) | (refine gain_setCell ?_ (by first | exact Nat.le_refl _ | exact World.size_ext _ _ | (simp; done) | (simp; omega)) _))), own_up HOR.out (by repeat (first | with_reducible (first | exact World.gained_refl _ | exact ⟨_, rfl⟩ | apply gain_ext | apply gain_alloc | apply gain_drewN | apply gain_drew) | (refine gain_setCell ?_ (by first | exact Nat.le_refl _ | exact World.size_ext _ _ | (simp; done) | (simp; omega)) _))), HRL.out, HPM.out, HAS.out.zero⟩
          case measure => simp [intOf]; omega
        · obtain ⟨k, rfl⟩ : ∃ k, j = k + 1 := ⟨j - 1, by omega⟩
          obtain ⟨g, cap, hv, hgB, hgl⟩ := own_addr HOR.out (by rw [HRL.out]; omega)
          injection hv with ev1 ev2 ev3
          subst ev1
          clear ev2 ev3
          have hkl : k + 1 < r.length := by rw [HRL.out]; omega
          have a0 := sl_cells (sl_of_own Ctl.cells_length HOR.out) hkl (j := 0) (by omega)
          have a1 := sl_cells (sl_of_own Ctl.cells_length HOR.out) hkl (j := 1) (by omega)
          have b0 := sl_cells (sl_of_own Ctl.cells_length HOR.out) (by omega : k < r.length) (j := 0) (by omega)
          have b1 := sl_cells (sl_of_own Ctl.cells_length HOR.out) (by omega : k < r.length) (j := 1) (by omega)
          simp only [Ctl.cells, List.getElem?_cons_zero, List.getElem?_cons_succ, Nat.zero_add, Nat.add_zero] at a0 a1 b0 b1
          have obg := World.oldB_of_cell a0
          have e1 := cdA_eq hkl
          have e0 := cdA_eq (show k < r.length by omega)
          have HSW := Lib.hid (fun hc => HAS.out.swap (by rw [HRL.out]; exact hlt) hj hc)
          have HST := Lib.hid (fun hc => HAS.out.stop hj hc)
          have HPS := Lib.hid (List.set_set_perm hkl (show k < r.length by omega))
          generalize r[k + 1] = x at a0 a1 e1 HSW HPS
          generalize r[k] = y at b0 b1 e0 HSW HPS
          rw [e1, e0] at HSW HST
          have hjd : decide (0 < ((k + 1 : Nat) : Int)) = true := decide_eq_true (by omega)
          have hkw : IntKind.i64.wrap (((k + 1 : Nat) : Int) - 1) = (k : Int) := by rw [IntKind.wrap_i64]; omega
          have hk0 : (0 : Int) ≤ (k : Int) := by omega
          have hk1 : (k : Int) < (l.length : Int) := by omega
          have hj1 : ((k + 1 : Nat) : Int) < (l.length : Int) := by omega
          have HCM := Lib.hid (fun w => withC1_any x y w)
          have hkw2 : IntKind.i64.wrap (k : Int) = (k : Int) := by rw [IntKind.wrap_i64]; omega
          have hkn : ((k : Int)).toNat = k := by omega
          have hj2 : (k : Int) + 1 < (l.length : Int) := by omega
          have hj3 : (0 : Int) ≤ (k : Int) + 1 := by omega
          have hjn : ((k : Int) + 1).toNat = k + 1 := by omega
          obtain ⟨_, _, hvv, _, _, hgx⟩ := own_open HOR.out (by omega)
          injection hvv with ev1 ev2 ev3
          injection ev1 with ev1
          injection ev1 with ev1 _ _
          subst ev1
          clear ev2 ev3
          obtain ⟨_, _, z0⟩ := hgx ((k + 1) * 2) (by omega)
          obtain ⟨_, _, z1⟩ := hgx ((k + 1) * 2 + 1) (by omega)
          obtain ⟨_, _, z2⟩ := hgx (k * 2) (by omega)
          obtain ⟨_, _, z3⟩ := hgx (k * 2 + 1) (by omega)
          clear hgx
          have hgW : W.heap.size ≤ g := Nat.le_trans hB hgB
          by_cases hc : x.code < y.code
          · have hm : decide (cmpI x.code y.code < 0) = true := by simp [cmpI, hc]
            have HS := Lib.hid (HSW.out hc)
            have HP := Lib.hid (HPS.out.trans HPM.out)
            clear HSW HST HPS
            go_upto_region 4 with fail
            refine wp_region_gain (by kernel_rfl) (by kernel_rfl) ?_
            repeat (first | go_big_quiet_skip | (go_big_quiet_want; go_big_quiet_op; first | go_big_quiet_on | ((apply Exists.intro); (refine ⟨fun _ => ?_, ?_⟩); (· (go_at_call 121; ((with_reducible exact Calls.gain (HCM.out _))))); (go_big_quiet_on))))
            refine wpQuiet_nil ?_
            rintro _ ⟨d', rfl⟩
            go_wp2
            go_region_law fail
            all_goals
              go_wp2
              go_roundw
              case rel => exact ⟨k, _, by omega, by go_num, gain_drew (gain_setCell (gain_setCell (gain_setCell (gain_setCell (gain_trans HWR.out (by repeat (first | with_reducible (first | exact World.gained_refl _ | exact ⟨_, rfl⟩ | apply gain_ext | apply gain_alloc | apply gain_drewN | apply gain_drew) | (refine gain_setCell ?_ (by first | exact Nat.le_refl _ | exact World.size_ext _ _ | (simp; done) | (simp; omega)) _)))) hgW _) hgW _) hgW _) hgW _), own_drew (own_put Ctl.cells_length (own_put Ctl.cells_length (own_up HOR.out (by repeat (first | with_reducible (first | exact World.gained_refl _ | exact ⟨_, rfl⟩ | apply gain_ext | apply gain_alloc | apply gain_drewN | apply gain_drew) | (refine gain_setCell ?_ (by first | exact Nat.le_refl _ | exact World.size_ext _ _ | (simp; done) | (simp; omega)) _)))) hkl y) (by rw [List.length_set] <;> omega) x), by rw [List.length_set, List.length_set]; exact HRL.out, HP.out, HS.out⟩
              case measure => simp [intOf] <;> omega
          · have HS := Lib.hid (HST.out hc)
            have hm : decide (cmpI x.code y.code < 0) = false := by unfold cmpI; rw [if_neg hc]; split <;> decide
            clear HSW HST HPS
            go_upto_region 4 with fail
            refine wp_region_gain (by kernel_rfl) (by kernel_rfl) ?_
            repeat (first | go_big_quiet_skip | (go_big_quiet_want; go_big_quiet_op; first | go_big_quiet_on | ((apply Exists.intro); (refine ⟨fun _ => ?_, ?_⟩); (· (go_at_call 121; ((with_reducible exact Calls.gain (HCM.out _))))); (go_big_quiet_on))))
            refine wpQuiet_nil ?_
            rintro _ ⟨d', rfl⟩
            go_wp2
            go_roundw
            case rel => exact ⟨q + 1, r, by omega, by omega, by go_num, gain_trans HWR.out (by repeat (first | with_reducible (first | exact World.gained_refl _ | exact ⟨_, rfl⟩ | apply gain_ext | apply gain_alloc | apply gain_drewN | apply gain_drew) | (refine gain_setCell ?_ (by first | exact Nat.le_refl _ | exact World.size_ext _ _ | (simp; done) | (simp; omega)) _))), own_up HOR.out (by repeat (first | with_reducible (first | exact World.gained_refl _ | exact ⟨_, rfl⟩ | apply gain_ext | apply gain_alloc | apply gain_drewN | apply gain_drew) | (refine gain_setCell ?_ (by first | exact Nat.le_refl _ | exact World.size_ext _ _ | (simp; done) | (simp; omega)) _))), HRL.out, HPM.out, HS.out⟩
            case measure => simp [intOf]; omega
    · have hqd : decide ((q : Int) < (l.length : Int)) = false := decide_eq_false (by omega)
      have HE := Lib.hid (AscTo.asc (HAS.out.le (n := r.length) (by rw [HRL.out]; omega)))
      go_wp2
      refine bodyPost_end (v := .tuple #[]) (by simp [results, Try.results153, go_sem]) rfl ?_
      exact ⟨rfl, HWR.out, r, HOR.out, HPM.out, HE.out⟩
set_option maxHeartbeats 4000000 in
theorem sortStableC_any (W : World) (v : Value) (l : List Ctl) (w : World) (B : Nat) (h : w.own B 46 Ctl.cells 2 v l) (hl : l.length ≤ 19) (hW : ∃ d, w = W.ext d) (hB : W.heap.size ≤ B) :
    Calls Try.prog 120 #[v, .func (.func 121) #[] #[]] w fun x w' => x = .returned (.tuple #[]) ∧ (∃ d, w' = W.ext d) ∧ ∃ r, w'.own B 46 Ctl.cells 2 v r ∧ r.Perm l ∧ AscC r := by
  have HI := Lib.hid (fun w h hW => insertC_any W v l w B h hl hW hB)
  have HO := Lib.hid h
  have HW := Lib.hid hW
  obtain ⟨pv, cv, rfl, _⟩ := sl_of_own Ctl.cells_length h
  clear h hW
  have hST : ∀ w : World, w.own B 46 Ctl.cells 2 (.slice pv l.length cv) l → (∃ d, w = W.ext d) → Calls Try.prog 139 #[.slice pv l.length cv, .int .i64 l.length, .func (.func 121) #[] #[]] w fun x w' => x = .returned (.tuple #[]) ∧ (∃ d, w' = W.ext d) ∧ ∃ r, w'.own B 46 Ctl.cells 2 (.slice pv l.length cv) r ∧ r.Perm l ∧ AscC r := by
    intro w ho hw
    have HO := Lib.hid ho
    have HW := Lib.hid hw
    clear ho hw
    have h1 : decide ((20 : Int) ≤ (l.length : Int)) = false := decide_eq_false (by omega)
    have h2 : decide ((20 : Int) < (l.length : Int)) = false := decide_eq_false (by omega)
    go_enter Try.func139, Try.ntmps139
    go_wp2
    go_loopw [7, 8] (fun a b wr => a = .int .i64 0 ∧ b = .int .i64 20 ∧ wr = w) (fun _ _ _ => 0)
    case atStart => exact ⟨rfl, rfl, rfl⟩
    case round =>
      obtain ⟨rfl, rfl, rfl⟩ := hrel
      go_wp2_with fail
      refine (HI.out _ HO.out HW.out).mono ?_
      rintro e w1 ⟨rfl, hw1, r, hr, hp, ha⟩
      have HW1 := Lib.hid hw1
      have HR := Lib.hid hr
      have HP := Lib.hid hp
      have HA := Lib.hid ha
      clear hw1 hr hp ha
      go_wp2_with fail
      go_loopw [6] (fun b wr => b = .int .i64 20 ∧ wr = w1) (fun _ _ => 0)
      case atStart => exact ⟨rfl, rfl⟩
      case round =>
        obtain ⟨rfl, rfl⟩ := hrel
        go_wp2_with fail
        refine bodyPost_end (v := .tuple #[]) (by simp [results, Try.results139, go_sem]) rfl ?_
        exact ⟨rfl, HW1.out, r, HR.out, HP.out, HA.out⟩
  have HST := Lib.hid hST
  clear hST HI
  go_enter Try.func120, Try.ntmps120
  go_wp2_with fail
  refine (HST.out _ HO.out HW.out).mono ?_
  rintro e w1 ⟨rfl, hw1, r, hr, hp, ha⟩
  have HW1 := Lib.hid hw1
  have HR := Lib.hid hr
  go_wp2_with fail
  refine bodyPost_end (v := .tuple #[]) (by simp [results, Try.results120, go_sem]) rfl ?_
  exact ⟨rfl, HW1.out, r, HR.out, hp, ha⟩
end Go.Proofs.Ytedpckkoaioooaa
