/- slices.DeleteFunc at []int, on a slice of the call's own. Condition: at most 1048576 elements. -/
import Derived.Test.YtbghmkjjooiikaaIdxInts
import Derived.Test.YtbghmkjjooiikaaCut
import Derived.Test.YtbghmkjjooiikaaInfoInt
namespace Go.Ori
theorem filter_succ {l : List Int} {f : Int → Bool} {j : Nat} (hj : j < l.length) : (l.take (j + 1)).filter (fun x => !f x) = (l.take j).filter (fun x => !f x) ++ if f l[j] then [] else [l[j]] := by
  rw [List.take_succ_eq_append_getElem hj, List.filter_append]
  congr 1
  cases h : f l[j] <;> simp [h]
theorem filter_first {l : List Int} {f : Int → Bool} (h : l.any f = true) : (l.take (l.findIdx f + 1)).filter (fun x => !f x) = l.take (l.findIdx f) := by
  have hlt : l.findIdx f < l.length := by rw [List.findIdx_lt_length]; exact List.any_eq_true.1 h
  rw [filter_succ hlt, if_pos (List.findIdx_getElem (w := hlt)), List.append_nil, List.filter_eq_self]
  intro x hx
  obtain ⟨j, hj, rfl⟩ := List.getElem_of_mem hx
  rw [List.length_take] at hj
  rw [List.getElem_take]
  have := List.not_of_lt_findIdx (p := f) (xs := l) (i := j) (by omega)
  simpa using this
end Go.Ori
namespace Go.Proofs.Ytbghmkjjooiikaa
open Go.RowKit Go.Ori
theorem zero_int (w : World) : (zeroValue 3).run Try.prog w = .ok (.int .i64 0) w := by
  obtain ⟨i, h1, h2, _⟩ := info_parts info_int
  simp [zeroValue, typeInfo, h1, h2]
set_option maxHeartbeats 2000000 in
theorem deleteFunc_ints (K : FuncId) (caps : Array Value) (f : Int → Bool) (W : World) (v : Value) (l : List Int) (base : Nat) (w : World) (hW : ∃ d, w = W.ext d) (hB : W.heap.size ≤ base) (ho : w.own base 3 intC 1 v l) (hl : l.length ≤ 1048576)
    (hcf : ∀ args W, (callFunc K args).run Try.prog W = .ok (.enter K args) W)
    (hcl : ∀ n d, Calls Try.prog K (#[.int .i64 n] ++ caps) (W.ext d) fun x w' => x = .returned (.bool (f n)) ∧ ∃ d', w' = (W.ext d).ext d') :
    Calls Try.prog 116 #[v, .func (.func K) #[] caps] w fun x w' => ∃ r, x = .returned r ∧ (∃ d, w' = W.ext d) ∧ w'.own base 3 intC 1 r (l.filter fun x => !f x) := by
  have HCL := Lib.hid hcl
  clear hcl
  have HO := Lib.hid ho
  obtain ⟨d0, rfl⟩ := hW
  have HI := Lib.hid (indexFunc_ints K caps f v l _ (sl_of_own intC_length ho) hl hcf (fun n d => by have := HCL.out n (d0.add d); rw [← World.ext_ext] at this; exact this))
  cases ha : l.any f with
  | false =>
    have e0 : idxB l f = -1 := by unfold idxB; rw [ha]; rfl
    have e1 := Lib.hid (show (l.filter fun x => !f x) = l by
      rw [List.filter_eq_self]
      intro x hx
      rw [List.any_eq_false] at ha
      simpa using ha x hx)
    rw [e0] at HI
    clear ha e0
    go_enter Try.func116, Try.ntmps116
    go_wp2_with (go_at_call 143; refine HI.out.mono ?_; rintro e w1 ⟨rfl, d1, rfl⟩)
    go_ret
    rw [e1.out]
    exact ⟨_, rfl, (by repeat (first | with_reducible (first | exact World.gained_refl _ | exact ⟨_, rfl⟩ | apply gain_ext | apply gain_alloc | apply gain_drewN | apply gain_drew) | (refine gain_setCell ?_ (by first | exact Nat.le_refl _ | exact World.size_ext _ _ | (simp; done) | (simp; omega)) _))), own_ext HO.out _⟩
  | true =>
    have e0 : idxB l f = (l.findIdx f : Int) := by unfold idxB; rw [ha]; rfl
    have hlt0 : l.findIdx f < l.length := by rw [List.findIdx_lt_length]; exact List.any_eq_true.1 ha
    have HF := Lib.hid (filter_first ha)
    rw [e0] at HI
    clear ha e0
    generalize l.findIdx f = k0 at HI HF hlt0
    obtain ⟨g, cap, rfl, hgb, hgc, _⟩ := own_open ho (by omega)
    clear ho
    have hne : ((k0 : Int) == -1) = false := by simp only [beq_eq_false_iff_ne, ne_eq]; omega
    have HG := Lib.hid (Nat.le_trans hB hgb)
    go_enter Try.func116, Try.ntmps116
    go_wp2_with (go_at_call 143; refine HI.out.mono ?_; rintro e w1 ⟨rfl, d1, rfl⟩)
    go_loopw [5, 6] (fun a b wr => ∃ i j : Nat, i < j ∧ j ≤ l.length ∧ a = .int .i64 i ∧ b = .int .i64 j ∧ ∃ (L : List Int), L.length = l.length ∧ L.take i = (l.take j).filter (fun x => !f x) ∧ L.drop j = l.drop j ∧ (∃ d, wr = W.ext d) ∧ wr.own base 3 intC 1 (.slice (some ⟨g, 0, none⟩) l.length cap) L) (fun _ b _ => l.length - (intOf b).toNat)
    case atStart => exact ⟨k0, k0 + 1, by omega, by omega, rfl, by go_num, l, rfl, HF.out.symm, rfl, (by repeat (first | with_reducible (first | exact World.gained_refl _ | exact ⟨_, rfl⟩ | apply gain_ext | apply gain_alloc | apply gain_drewN | apply gain_drew) | (refine gain_setCell ?_ (by first | exact Nat.le_refl _ | exact World.size_ext _ _ | (simp; done) | (simp; omega)) _))), own_ext HO.out _⟩
    case round =>
      obtain ⟨i, j, hij, hj, rfl, rfl, L, hL, hT, hD, ⟨d, rfl⟩, ho⟩ := hrel
      have HOL := Lib.hid ho
      have HT := Lib.hid hT
      have HD := Lib.hid hD
      clear hT hD
      by_cases hlt : j < l.length
      · have hs := sl_of_own intC_length ho
        have c0 := sl_int hs (k := j) (by omega)
        obtain ⟨_, _, hv, _, _, hx⟩ := own_open ho (by omega)
        simp only [Value.slice.injEq, Option.some.injEq, Addr.mk.injEq, and_true] at hv
        obtain ⟨rfl, hq, rfl⟩ := hv
        clear hq
        obtain ⟨x1, t1, z1⟩ := hx i (by omega)
        have e2 : L[j] = l[j] := by
          have := congrArg (fun q => q[0]?) HD.out
          simp only [List.getElem?_drop, Nat.add_zero] at this
          rw [List.getElem?_eq_getElem (by omega), List.getElem?_eq_getElem hlt] at this
          simpa using this
        have e3 := Lib.hid (show l.drop (j + 1) = L.drop (j + 1) by rw [← List.drop_drop, ← HD.out, List.drop_drop])
        have HS := Lib.hid (filter_succ (f := f) hlt)
        rw [e2] at c0
        simp only [Nat.zero_add] at c0
        clear hs hx ho e2
        generalize l[j] = y at c0 HS
        have ob := World.oldB_of_cell c0
        go_wp2_with fail
        refine (HCL.out y d).mono ?_
        rintro e w1 ⟨rfl, d1, rfl⟩
        cases hf : f y with
        | true =>
          rw [hf, if_pos rfl, List.append_nil] at HS
          clear hf
          go_wp2
          go_roundw
          case rel => exact ⟨i, j + 1, by omega, by omega, rfl, by go_num, L, hL, by rw [HS.out]; exact HT.out, e3.out.symm, (by repeat (first | with_reducible (first | exact World.gained_refl _ | exact ⟨_, rfl⟩ | apply gain_ext | apply gain_alloc | apply gain_drewN | apply gain_drew) | (refine gain_setCell ?_ (by first | exact Nat.le_refl _ | exact World.size_ext _ _ | (simp; done) | (simp; omega)) _))), own_ext HOL.out _⟩
          case measure => simp [intOf]; omega
        | false =>
          rw [hf, if_neg (by simp)] at HS
          clear hf
          go_wp2
          go_roundw
          case rel =>
            refine ⟨i + 1, j + 1, by omega, by omega, by go_num, by go_num, L.set i y, by simp [hL], ?_, ?_, ?_, ?_⟩
            · rw [HS.out, ← HT.out, List.take_succ_eq_append_getElem (by simp; omega), List.getElem_set_self, List.take_set_of_le (Nat.le_refl _)]
            · rw [e3.out, List.drop_set_of_lt (by omega)]
            · exact gain_setCell (by repeat (first | with_reducible (first | exact World.gained_refl _ | exact ⟨_, rfl⟩ | apply gain_ext | apply gain_alloc | apply gain_drewN | apply gain_drew) | (refine gain_setCell ?_ (by first | exact Nat.le_refl _ | exact World.size_ext _ _ | (simp; done) | (simp; omega)) _))) HG.out _
            · have := own_put intC_length (own_ext HOL.out d1) (i := i) (by omega) y
              rw [Nat.mul_one] at this
              exact this
          case measure => simp [intOf]; omega
      · obtain rfl : j = l.length := by omega
        have hfin : Hid ((l.filter fun x => !f x) = L.take i) := Lib.hid (by rw [HT.out, List.take_length])
        have hci : ¬ cap = i := by omega
        have hlv := fun (q : Nat) (hq : q < L.length * 1) => own_live intC_length ho [] 0 (by simp) hq
        have hclr : ∀ ty, (Builtin.clear_ #[ 34 ] ty #[.slice (some ⟨g, i, none⟩) (l.length - i) (cap - i)]).run Try.prog (W.ext d) = .ok (.tuple #[]) ((W.ext d).setCells g i (List.replicate (l.length - i) (.int .i64 0))) :=
          fun ty => Lib.run_clear_slice _ _ _ ty _ Try.underlying34 zero_int rfl rfl g i _ _ (by omega) (fun q hq => (hlv (i + q) (by omega)).1) (fun q hq => (hlv (i + q) (by omega)).2)
        have HR := Lib.hid (own_del intC_length ho (i := i) (j := L.length) (by omega) (Nat.le_refl _) (List.replicate (l.length - i) (.int .i64 0)) (by simp [hL]))
        rw [List.drop_length, List.append_nil, Nat.mul_one, Nat.mul_one, show L.length - (L.length - i) = i by omega] at HR
        clear hlv ho
        go_wp2
        go_ret
        rw [hfin.out]
        exact ⟨_, rfl, gain_setCells _ _ (by repeat (first | with_reducible (first | exact World.gained_refl _ | exact ⟨_, rfl⟩ | apply gain_ext | apply gain_alloc | apply gain_drewN | apply gain_drew) | (refine gain_setCell ?_ (by first | exact Nat.le_refl _ | exact World.size_ext _ _ | (simp; done) | (simp; omega)) _))) HG.out, HR.out⟩
end Go.Proofs.Ytbghmkjjooiikaa
