/- laws.toIntSS, laws.toIntSSS: copies in new memory. Condition: a size of at most 1048576. -/
import Derived.Test.YtbghmkjjooiikaaToIntS
import Derived.Test.YtbghmkjjooiikaaNest
namespace Go.Proofs.Ytbghmkjjooiikaa
open Go.RowKit Go.Ori
theorem toIntS1_any (v : Value) (l : List Int) (w : World) (h : w.sl1 v l) (hl : tot1 l ≤ 1048576) :
    Calls Try.prog 135 #[v] w fun x w' => ∃ v', x = .returned v' ∧ (∃ d, w' = w.ext d) ∧ World.own1 3 w' w.heap.size v' l := toIntS_any v l w h hl
theorem info_toIntSS : (Try.prog.info? 34).map (fun i => (i.zero, i.size, i.bytes)) = some (some (.slice none 0 0), 1, 24) := by kernel_rfl
set_option maxHeartbeats 1000000 in
theorem toIntSS_any (v : Value) (l : List (List Int)) (w : World) (h : w.sl2 v l) (hT : tot2 l ≤ 1048576) :
    Calls Try.prog 87 #[v] w fun x w' => ∃ v', x = .returned v' ∧ (∃ d, w' = w.ext d) ∧ World.own2 34 3 w' w.heap.size v' l := by
  have hs := Lib.hid h
  have hl : l.length ≤ 1048576 := by unfold tot2 at hT; omega
  have HT := Lib.hid (fun (k : Nat) (hk : k < l.length) => Nat.le_trans (tot2_at hk) hT)
  obtain ⟨p, c, rfl⟩ := sl2_form h
  clear h hT
  have hmk := fun w => run_make_rows (P := Try.prog) Try.underlying31 info_toIntSS l.length hl (by omega) w
  go_enter Try.func87, Try.ntmps87
  go_wp2
  clear hmk
  go_loopw [4] (fun i wr => ∃ k : Nat, k ≤ l.length ∧ i = .int .i64 k ∧ (∃ d, wr = w.ext d) ∧ ∃ (C : Array Value) (vs : List Value), wr.heap[w.heap.size]? = some (.cells C 34 (0, 0)) ∧ C.size = l.length * 1 ∧ vs.length = k ∧ (∀ j, j < k → C[j]? = vs[j]?) ∧ ∀ (j : Nat) (hj : j < l.length) (hj' : j < vs.length), World.own1 3 wr (w.heap.size + 1) vs[j] l[j]) (fun i _ => l.length - (intOf i).toNat)
  case atStart => exact ⟨0, by omega, rfl, gain_alloc w.gained_refl _, _, [], heap_alloc_new w _, (size_madeCells _ _).trans (by omega), rfl, by simp, fun j _ hj' => absurd hj' (Nat.not_lt_zero _)⟩
  case round =>
    obtain ⟨k, hk, rfl, ⟨d, rfl⟩, C, vs, hC, hCs, hvs, hCk, hV⟩ := hrel
    have hn := World.newB_of_heap hC
    by_cases hlt : k < l.length
    · obtain ⟨b, o, rfl⟩ := slOf_some hs.out (by omega)
      obtain ⟨u, c0, hu⟩ := slOf_at hs.out hlt
      have hu := Lib.hid hu
      have ob := World.oldB_of_cell c0
      obtain ⟨x0, hx0⟩ : ∃ x, C[k]? = some x := ⟨C[k]'(by omega), by simp [hCs, hlt]⟩
      have t0 : (w.ext d).cell? ⟨w.heap.size, k, none⟩ = some x0 := by rw [World.cell_of_heap hC]; exact hx0
      clear hx0
      have z0 : (w.ext d).frozen? ⟨w.heap.size, k, none⟩ = false := World.free_of_heap hC k
      have HC := Lib.hid hC
      have HK := Lib.hid hCk
      have HCS := Lib.hid hCs
      have HV := Lib.hid hV
      have hTk := HT.out k hlt
      clear hC hCk hCs hV
      go_wp2_with fail
      refine (toIntS1_any u l[k] _ (sl1_up hu.out (by repeat (first | with_reducible (first | exact World.gained_refl _ | exact ⟨_, rfl⟩ | apply gain_ext | apply gain_alloc | apply gain_drewN | apply gain_drew) | (refine gain_setCell ?_ (by first | exact Nat.le_refl _ | exact World.size_ext _ _ | (simp; done) | (simp; omega)) _)))) hTk).mono ?_
      rintro e w1 ⟨v', rfl, ⟨d1, rfl⟩, ho⟩
      have HO := Lib.hid ho
      obtain ⟨pv, cv, rfl⟩ := sl1_form <| sl1_of_own HO.out
      clear ho hTk
      go_wp2
      go_roundw
      case rel =>
        refine ⟨k + 1, by omega, by go_num, gain_setCell (gain_ext ⟨_, rfl⟩ _) (Nat.le_refl _) _, _, vs ++ [.slice pv (l[k]'hlt).length cv], World.heap_setCell_row (World.heap_ext_old _ HC.out) _ _, by simp [HCS.out], by simp [hvs], fun j hj => ?_, fun j hj hj' => ?_⟩
        · rw [Array.getElem?_setIfInBounds]
          split
          · rename_i hjk
            subst hjk
            rw [if_pos (by rw [HCS.out]; omega), List.getElem?_append_right (by omega), hvs]
            simp
          · rw [HK.out j (by omega), List.getElem?_append_left (by omega)]
        · refine (ownP1 3).far ?_ (Nat.lt_succ_self _)
          by_cases hjk : j < k
          · rw [List.getElem_append_left (by omega)]
            exact (ownP1 3).up (HV.out j hj (by omega)) ⟨_, rfl⟩
          · have e : j = k := by simp at hj'; omega
            subst e
            rw [List.getElem_append_right (by omega)]
            simp only [hvs, Nat.sub_self, List.getElem_cons_zero]
            exact (ownP1 3).low HO.out hn
      case measure => simp [intOf]; omega
    · go_wp2
      go_ret
      obtain rfl : k = l.length := by omega
      refine ⟨_, rfl, ⟨_, rfl⟩, vs, ?_, hvs, fun i hi hi' => (ownP1 3).low (hV i hi hi') (Nat.le_succ _)⟩
      have ho := owns_of_row (base := w.heap.size) (enc := valC) (sz := 1) (l := vs) (cap := l.length) valC_length hC (Nat.le_refl _) hCs (by omega) (le_maxLen hl) (fun j hj => by
        have h2 := flat_get valC_length vs j (by omega) 0 (by omega)
        rw [Nat.mul_one, Nat.add_zero] at h2
        rw [hCk j (by omega), h2]
        rw [List.getElem?_eq_getElem (by omega)]
        rfl)
      unfold World.own
      rw [hvs] at ho ⊢
      exact ho
theorem info_toIntSSS : (Try.prog.info? 31).map (fun i => (i.zero, i.size, i.bytes)) = some (some (.slice none 0 0), 1, 24) := by kernel_rfl
set_option maxHeartbeats 1000000 in
theorem toIntSSS_any (v : Value) (l : List (List (List Int))) (w : World) (h : w.sl3 v l) (hT : tot3 l ≤ 1048576) :
    Calls Try.prog 12 #[v] w fun x w' => ∃ v', x = .returned v' ∧ (∃ d, w' = w.ext d) ∧ World.own3 31 34 3 w' w.heap.size v' l := by
  have hs := Lib.hid h
  have hl : l.length ≤ 1048576 := by unfold tot3 at hT; omega
  have HT := Lib.hid (fun (k : Nat) (hk : k < l.length) => Nat.le_trans (tot3_at hk) hT)
  obtain ⟨p, c, rfl⟩ := sl3_form h
  clear h hT
  have hmk := fun w => run_make_rows (P := Try.prog) Try.underlying22 info_toIntSSS l.length hl (by omega) w
  go_enter Try.func12, Try.ntmps12
  go_wp2
  clear hmk
  go_loopw [4] (fun i wr => ∃ k : Nat, k ≤ l.length ∧ i = .int .i64 k ∧ (∃ d, wr = w.ext d) ∧ ∃ (C : Array Value) (vs : List Value), wr.heap[w.heap.size]? = some (.cells C 31 (0, 0)) ∧ C.size = l.length * 1 ∧ vs.length = k ∧ (∀ j, j < k → C[j]? = vs[j]?) ∧ ∀ (j : Nat) (hj : j < l.length) (hj' : j < vs.length), World.own2 34 3 wr (w.heap.size + 1) vs[j] l[j]) (fun i _ => l.length - (intOf i).toNat)
  case atStart => exact ⟨0, by omega, rfl, gain_alloc w.gained_refl _, _, [], heap_alloc_new w _, (size_madeCells _ _).trans (by omega), rfl, by simp, fun j _ hj' => absurd hj' (Nat.not_lt_zero _)⟩
  case round =>
    obtain ⟨k, hk, rfl, ⟨d, rfl⟩, C, vs, hC, hCs, hvs, hCk, hV⟩ := hrel
    have hn := World.newB_of_heap hC
    by_cases hlt : k < l.length
    · obtain ⟨b, o, rfl⟩ := slOf_some hs.out (by omega)
      obtain ⟨u, c0, hu⟩ := slOf_at hs.out hlt
      have hu := Lib.hid hu
      have ob := World.oldB_of_cell c0
      obtain ⟨x0, hx0⟩ : ∃ x, C[k]? = some x := ⟨C[k]'(by omega), by simp [hCs, hlt]⟩
      have t0 : (w.ext d).cell? ⟨w.heap.size, k, none⟩ = some x0 := by rw [World.cell_of_heap hC]; exact hx0
      clear hx0
      have z0 : (w.ext d).frozen? ⟨w.heap.size, k, none⟩ = false := World.free_of_heap hC k
      have HC := Lib.hid hC
      have HK := Lib.hid hCk
      have HCS := Lib.hid hCs
      have HV := Lib.hid hV
      have hTk := HT.out k hlt
      clear hC hCk hCs hV
      go_wp2_with fail
      refine (toIntSS_any u l[k] _ (sl2_up hu.out (by repeat (first | with_reducible (first | exact World.gained_refl _ | exact ⟨_, rfl⟩ | apply gain_ext | apply gain_alloc | apply gain_drewN | apply gain_drew) | (refine gain_setCell ?_ (by first | exact Nat.le_refl _ | exact World.size_ext _ _ | (simp; done) | (simp; omega)) _)))) hTk).mono ?_
      rintro e w1 ⟨v', rfl, ⟨d1, rfl⟩, ho⟩
      have HO := Lib.hid ho
      obtain ⟨pv, cv, rfl⟩ := sl2_form <| sl2_of_own HO.out
      clear ho hTk
      go_wp2
      go_roundw
      case rel =>
        refine ⟨k + 1, by omega, by go_num, gain_setCell (gain_ext ⟨_, rfl⟩ _) (Nat.le_refl _) _, _, vs ++ [.slice pv (l[k]'hlt).length cv], World.heap_setCell_row (World.heap_ext_old _ HC.out) _ _, by simp [HCS.out], by simp [hvs], fun j hj => ?_, fun j hj hj' => ?_⟩
        · rw [Array.getElem?_setIfInBounds]
          split
          · rename_i hjk
            subst hjk
            rw [if_pos (by rw [HCS.out]; omega), List.getElem?_append_right (by omega), hvs]
            simp
          · rw [HK.out j (by omega), List.getElem?_append_left (by omega)]
        · refine (ownP2 34 3).far ?_ (Nat.lt_succ_self _)
          by_cases hjk : j < k
          · rw [List.getElem_append_left (by omega)]
            exact (ownP2 34 3).up (HV.out j hj (by omega)) ⟨_, rfl⟩
          · have e : j = k := by simp at hj'; omega
            subst e
            rw [List.getElem_append_right (by omega)]
            simp only [hvs, Nat.sub_self, List.getElem_cons_zero]
            exact (ownP2 34 3).low HO.out hn
      case measure => simp [intOf]; omega
    · go_wp2
      go_ret
      obtain rfl : k = l.length := by omega
      refine ⟨_, rfl, ⟨_, rfl⟩, vs, ?_, hvs, fun i hi hi' => (ownP2 34 3).low (hV i hi hi') (Nat.le_succ _)⟩
      have ho := owns_of_row (base := w.heap.size) (enc := valC) (sz := 1) (l := vs) (cap := l.length) valC_length hC (Nat.le_refl _) hCs (by omega) (le_maxLen hl) (fun j hj => by
        have h2 := flat_get valC_length vs j (by omega) 0 (by omega)
        rw [Nat.mul_one, Nat.add_zero] at h2
        rw [hCk j (by omega), h2]
        rw [List.getElem?_eq_getElem (by omega)]
        rfl)
      unfold World.own
      rw [hvs] at ho ⊢
      exact ho
end Go.Proofs.Ytbghmkjjooiikaa
