/- impl.clubSizes. Conditions: at most 8 clubs, each from 0 to 5. -/
import Derived.Test.YtbghmkjjooiikaaRows
import Derived.Test.YtbghmkjjooiikaaP10
import Derived.Test.YtbghmkjjooiikaaInfoInt
namespace Go.Proofs.Ytbghmkjjooiikaa
open Go.RowKit Go.Ori
theorem clubSizes_any (v : Value) (l : List Int) (w : World) (h : w.sl intC 1 v l) (hl : l.length ≤ 8) (hr : ∀ n ∈ l, 0 ≤ n ∧ n ≤ 5) :
    Calls Try.prog 124 #[v] w fun x w' => ∃ r, x = .returned r ∧ (∃ d, w' = w.ext d) ∧ w'.own w.heap.size 3 intC 1 r (sizesL l) := by
  have hs := Lib.hid h
  have HR := Lib.hid hr
  obtain ⟨p, c, rfl, _⟩ := h
  have hmk : ∀ W : World, (Instr.makeSlice 34 (.int .i64 6) (.int .i64 6)).run Try.prog W = .ok (.slice (some ⟨W.heap.size, 0, none⟩) 6 6) (W.alloc (.cells (madeCells #[.int .i64 0] (6 * 1)) 3)) :=
    fun W => run_make_rows (P := Try.prog) Try.underlying34 info_int 6 (by omega) (by omega) W
  have HM6 := Lib.hid (made_ints 6)
  have HZ6 := Lib.hid (show sizesL (l.take 0) = List.replicate 6 0 by simp [sizesL, cntI]; rfl)
  clear hr
  go_enter Try.func124, Try.ntmps124
  go_wp2
  clear hmk
  go_loopw [9] (fun i wr => ∃ k : Nat, k ≤ l.length ∧ i = .int .i64 k ∧ (∃ d, wr = w.ext d) ∧ wr.heap[w.heap.size]? = some (.cells ((sizesL (l.take k)).map (Value.int .i64)).toArray 3 (0, 0))) (fun i _ => l.length - (intOf i).toNat)
  case atStart => exact ⟨0, by omega, rfl, gain_alloc w.gained_refl _, by rw [heap_alloc_new, HZ6.out, ← HM6.out]⟩
  case round =>
    obtain ⟨k, hk, rfl, ⟨d, rfl⟩, hC⟩ := hrel
    have hnew := World.newB_of_heap hC
    have HCC := Lib.hid hC
    by_cases hlt : k < l.length
    · obtain ⟨b2, o2, rfl⟩ := sl_some hs.out (by omega)
      have c1 := sl_int hs.out hlt
      have hr1 := HR.out _ (List.getElem_mem hlt)
      obtain ⟨m1, hm1⟩ := Int.eq_ofNat_of_zero_le hr1.1
      have HE := Lib.hid (sizes_step hlt hm1)
      rw [hm1] at c1 hr1
      clear hm1
      have ob := World.oldB_of_cell c1
      have hm5 : m1 < 6 := by omega
      have hbd := cntI_bd (l.take k) m1
      have hbl : (l.take k).length ≤ 8 := by rw [List.length_take]; omega
      have hb0 : 0 ≤ cntI (l.take k) m1 := hbd.1
      have hb1 : cntI (l.take k) m1 ≤ 8 := by omega
      have hx0 : (((sizesL (l.take k)).map (Value.int .i64)).toArray)[m1]? = some (.int .i64 (cntI (l.take k) m1)) := by
        rw [Array.getElem?_eq_getElem (by simp [sizesL_length]; exact hm5)]
        simp [sizesL]
      have t0 : (w.ext d).cell? ⟨w.heap.size, m1, none⟩ = some (.int .i64 (cntI (l.take k) m1)) := by rw [World.cell_of_heap hC]; exact hx0
      have z0 : (w.ext d).frozen? ⟨w.heap.size, m1, none⟩ = false := World.free_of_heap hC m1
      generalize cntI (l.take k) m1 = cn at t0 hb0 hb1 HE
      clear hx0 hC hbd hr1 hbl
      go_wp2
      go_roundw
      case rel =>
        refine ⟨k + 1, by omega, by go_num, gain_setCell ⟨_, rfl⟩ (Nat.le_refl _) _, ?_⟩
        rw [World.heap_setCell_row HCC.out, setInts, HE.out]
      case measure => simp [intOf]; omega
    · clear hC
      go_wp2
      go_ret
      obtain rfl : k = l.length := by omega
      have ho := own_ints (base := w.heap.size) HCC.out (Nat.le_refl _) (by rw [sizesL_length]; omega)
      rw [sizesL_length, List.take_length] at ho
      exact ⟨_, rfl, ⟨_, rfl⟩, ho⟩
end Go.Proofs.Ytbghmkjjooiikaa
