/- spec.ParseClass. Condition: at most 1048576 bytes. -/
import Derived.Test.YtffkkchflohhaaaGreatDoorReadS
import Derived.Test.YtffkkchflohhaaaGreatDoorPParse2
import Derived.Test.YtffkkchflohhaaaGreatDoorTextS
import Derived.Test.YtffkkchflohhaaaGreatDoorOneClass
import Derived.Deep.DeepCutAuto
namespace Go.Proofs.YtffkkchflohhaaaGreatDoor
open Go.RowKit Go.Ori
theorem prow_up {w w' : World} {b : Nat} {C : Array Value} {e : TypeId} {f : Nat × Nat} (h : w.heap[b]? = some (.cells C e f)) (hg : ∃ d, w' = w.ext d) : w'.heap[b]? = some (.cells C e f) := by
  obtain ⟨d, rfl⟩ := hg
  exact World.heap_ext_old d h
theorem pcell_up {w w' : World} {a : Addr} {v : Value} (h : w.cell? a = some v) (hg : ∃ d, w' = w.ext d) : w'.cell? a = some v := by
  obtain ⟨d, rfl⟩ := hg
  exact cell_ext h d
set_option maxHeartbeats 8000000 in
set_option maxRecDepth 100000 in
theorem specParse_any (s : ByteArray) (w : World) (hs : s.size ≤ 1048576) :
    Calls Tryz.prog 11 #[.string s] w fun x w' => ∃ (c : Cls) (ok : Bool), x = .returned (.tuple #[.agg #[.int .i64 c.id, .string c.name, .int .i64 c.low, .int .i64 c.high, .bool c.women, .bool c.men, .int .i64 c.course, .int .i64 c.most], .bool ok]) ∧ ParsedAs s c ok ∧ ∃ d, w' = w.ext d := by
  have HSP := Lib.hid (fun (t : ByteArray) (ht : t.size ≤ 1048576) (W : World) => (show Calls Tryz.prog 37 #[.string t, .int .u8 32] W _ from l1Split_any t 32 W ht))
  have HSA := Lib.hid (fun (t : ByteArray) (ht : t.size ≤ 1048576) (W : World) => (show Calls Tryz.prog 37 #[.string t, .int .u8 45] W _ from l1Split_any t 45 W ht))
  have HR0 := Lib.hid (heap_alloc_new w (.cells #[.int .i64 0, .string ⟨#[]⟩, .int .i64 0, .int .i64 0, .bool false, .bool false, .int .i64 0, .int .i64 0] 25))
  have HG0 : Hid (∃ d, w.alloc (.cells #[.int .i64 0, .string ⟨#[]⟩, .int .i64 0, .int .i64 0, .bool false, .bool false, .int .i64 0, .int .i64 0] 25) = w.ext d) := Lib.hid (by repeat (first | with_reducible (first | exact World.gained_refl _ | exact ⟨_, rfl⟩ | apply gain_ext | apply gain_alloc | apply gain_drewN | apply gain_drew) | (refine gain_setCell ?_ (by first | exact Nat.le_refl _ | exact World.size_ext _ _ | (simp; done) | (simp; omega)) _)))
  go_enter Tryz.func11, Tryz.ntmps11
  go_wp2_with fail
  generalize w.alloc (.cells #[.int .i64 0, .string ⟨#[]⟩, .int .i64 0, .int .i64 0, .bool false, .bool false, .int .i64 0, .int .i64 0] 25) = W1 at HR0 HG0 ⊢
  refine (HSP.out s hs _).mono ?_
  rintro e w1 ⟨r, ws, rfl, ⟨d1, rfl⟩, ho, hw, hwl⟩
  have HR := Lib.hid (prow_up HR0.out (w' := W1.ext d1) ⟨_, rfl⟩)
  have HG := Lib.hid (gain_trans HG0.out (w' := W1.ext d1) ⟨_, rfl⟩)
  have HW := Lib.hid hw
  have HO := Lib.hid (sl_of_own strC_length ho)
  have hlim : ws.length ≤ 1048577 := by omega
  have HN8 : Hid (¬ (s.size ≤ 60 ∧ ws.length = 8) → ∀ c', classB c' = true → clsT c' ≠ s) := Lib.hid (fun h c' hc e => h ⟨by rw [← e]; exact cls_size hc, by rw [cls_words hc e HW.out]; rfl⟩)
  obtain ⟨pw, kw, rfl, _⟩ := HO.out
  clear ho hw HR0 HG0 hwl
  generalize W1.ext d1 = X at HR HG HO ⊢
  by_cases h60 : 60 < s.size
  · have hd : decide ((60 : Int) < (s.size : Int)) = true := decide_eq_true (by omega)
    have HNO := Lib.hid (HN8.out (fun h => by omega))
    clear HN8 h60
    have yc0 : X.cell? ⟨w.heap.size, 0, none⟩ = some (.int .i64 0) := World.cell_of_heap HR.out 0
    have yf0 : X.frozen? ⟨w.heap.size, 0, none⟩ = false := World.free_of_heap HR.out 0
    have yc1 : X.cell? ⟨w.heap.size, 1, none⟩ = some (.string ⟨#[]⟩) := World.cell_of_heap HR.out 1
    have yf1 : X.frozen? ⟨w.heap.size, 1, none⟩ = false := World.free_of_heap HR.out 1
    have yc2 : X.cell? ⟨w.heap.size, 2, none⟩ = some (.int .i64 0) := World.cell_of_heap HR.out 2
    have yf2 : X.frozen? ⟨w.heap.size, 2, none⟩ = false := World.free_of_heap HR.out 2
    have yc3 : X.cell? ⟨w.heap.size, 3, none⟩ = some (.int .i64 0) := World.cell_of_heap HR.out 3
    have yf3 : X.frozen? ⟨w.heap.size, 3, none⟩ = false := World.free_of_heap HR.out 3
    have yc4 : X.cell? ⟨w.heap.size, 4, none⟩ = some (.bool false) := World.cell_of_heap HR.out 4
    have yf4 : X.frozen? ⟨w.heap.size, 4, none⟩ = false := World.free_of_heap HR.out 4
    have yc5 : X.cell? ⟨w.heap.size, 5, none⟩ = some (.bool false) := World.cell_of_heap HR.out 5
    have yf5 : X.frozen? ⟨w.heap.size, 5, none⟩ = false := World.free_of_heap HR.out 5
    have yc6 : X.cell? ⟨w.heap.size, 6, none⟩ = some (.int .i64 0) := World.cell_of_heap HR.out 6
    have yf6 : X.frozen? ⟨w.heap.size, 6, none⟩ = false := World.free_of_heap HR.out 6
    have yc7 : X.cell? ⟨w.heap.size, 7, none⟩ = some (.int .i64 0) := World.cell_of_heap HR.out 7
    have yf7 : X.frozen? ⟨w.heap.size, 7, none⟩ = false := World.free_of_heap HR.out 7
    have yo := World.oldB_of_cell yc0
    have zw0 := World.heap_setCell_row HR.out 0 (.int .i64 0)
    simp only [List.setIfInBounds_toArray, List.set_cons_zero, List.set_cons_succ] at zw0
    have zg0 : (X.setCell ⟨w.heap.size, 0, none⟩ (.int .i64 0)).cell? ⟨w.heap.size, 0, none⟩ = some (.int .i64 0) := World.cell_of_heap zw0 0
    have zw1 := World.heap_setCell_row zw0 1 (.string ⟨#[]⟩)
    simp only [List.setIfInBounds_toArray, List.set_cons_zero, List.set_cons_succ] at zw1
    have zg1 : ((X.setCell ⟨w.heap.size, 0, none⟩ (.int .i64 0)).setCell ⟨w.heap.size, 1, none⟩ (.string ⟨#[]⟩)).cell? ⟨w.heap.size, 1, none⟩ = some (.string ⟨#[]⟩) := World.cell_of_heap zw1 1
    have zw2 := World.heap_setCell_row zw1 2 (.int .i64 0)
    simp only [List.setIfInBounds_toArray, List.set_cons_zero, List.set_cons_succ] at zw2
    have zg2 : (((X.setCell ⟨w.heap.size, 0, none⟩ (.int .i64 0)).setCell ⟨w.heap.size, 1, none⟩ (.string ⟨#[]⟩)).setCell ⟨w.heap.size, 2, none⟩ (.int .i64 0)).cell? ⟨w.heap.size, 2, none⟩ = some (.int .i64 0) := World.cell_of_heap zw2 2
    have zw3 := World.heap_setCell_row zw2 3 (.int .i64 0)
    simp only [List.setIfInBounds_toArray, List.set_cons_zero, List.set_cons_succ] at zw3
    have zg3 : ((((X.setCell ⟨w.heap.size, 0, none⟩ (.int .i64 0)).setCell ⟨w.heap.size, 1, none⟩ (.string ⟨#[]⟩)).setCell ⟨w.heap.size, 2, none⟩ (.int .i64 0)).setCell ⟨w.heap.size, 3, none⟩ (.int .i64 0)).cell? ⟨w.heap.size, 3, none⟩ = some (.int .i64 0) := World.cell_of_heap zw3 3
    have zw4 := World.heap_setCell_row zw3 4 (.bool false)
    simp only [List.setIfInBounds_toArray, List.set_cons_zero, List.set_cons_succ] at zw4
    have zg4 : (((((X.setCell ⟨w.heap.size, 0, none⟩ (.int .i64 0)).setCell ⟨w.heap.size, 1, none⟩ (.string ⟨#[]⟩)).setCell ⟨w.heap.size, 2, none⟩ (.int .i64 0)).setCell ⟨w.heap.size, 3, none⟩ (.int .i64 0)).setCell ⟨w.heap.size, 4, none⟩ (.bool false)).cell? ⟨w.heap.size, 4, none⟩ = some (.bool false) := World.cell_of_heap zw4 4
    have zw5 := World.heap_setCell_row zw4 5 (.bool false)
    simp only [List.setIfInBounds_toArray, List.set_cons_zero, List.set_cons_succ] at zw5
    have zg5 : ((((((X.setCell ⟨w.heap.size, 0, none⟩ (.int .i64 0)).setCell ⟨w.heap.size, 1, none⟩ (.string ⟨#[]⟩)).setCell ⟨w.heap.size, 2, none⟩ (.int .i64 0)).setCell ⟨w.heap.size, 3, none⟩ (.int .i64 0)).setCell ⟨w.heap.size, 4, none⟩ (.bool false)).setCell ⟨w.heap.size, 5, none⟩ (.bool false)).cell? ⟨w.heap.size, 5, none⟩ = some (.bool false) := World.cell_of_heap zw5 5
    have zw6 := World.heap_setCell_row zw5 6 (.int .i64 0)
    simp only [List.setIfInBounds_toArray, List.set_cons_zero, List.set_cons_succ] at zw6
    have zg6 : (((((((X.setCell ⟨w.heap.size, 0, none⟩ (.int .i64 0)).setCell ⟨w.heap.size, 1, none⟩ (.string ⟨#[]⟩)).setCell ⟨w.heap.size, 2, none⟩ (.int .i64 0)).setCell ⟨w.heap.size, 3, none⟩ (.int .i64 0)).setCell ⟨w.heap.size, 4, none⟩ (.bool false)).setCell ⟨w.heap.size, 5, none⟩ (.bool false)).setCell ⟨w.heap.size, 6, none⟩ (.int .i64 0)).cell? ⟨w.heap.size, 6, none⟩ = some (.int .i64 0) := World.cell_of_heap zw6 6
    have zw7 := World.heap_setCell_row zw6 7 (.int .i64 0)
    simp only [List.setIfInBounds_toArray, List.set_cons_zero, List.set_cons_succ] at zw7
    have zg7 : ((((((((X.setCell ⟨w.heap.size, 0, none⟩ (.int .i64 0)).setCell ⟨w.heap.size, 1, none⟩ (.string ⟨#[]⟩)).setCell ⟨w.heap.size, 2, none⟩ (.int .i64 0)).setCell ⟨w.heap.size, 3, none⟩ (.int .i64 0)).setCell ⟨w.heap.size, 4, none⟩ (.bool false)).setCell ⟨w.heap.size, 5, none⟩ (.bool false)).setCell ⟨w.heap.size, 6, none⟩ (.int .i64 0)).setCell ⟨w.heap.size, 7, none⟩ (.int .i64 0)).cell? ⟨w.heap.size, 7, none⟩ = some (.int .i64 0) := World.cell_of_heap zw7 7
    clear zw0 zw1 zw2 zw3 zw4 zw5 zw6 zw7
    go_wp2_with fail
    refine bodyPost_ret (v := .tuple #[.agg #[.int .i64 0, .string ⟨#[]⟩, .int .i64 0, .int .i64 0, .bool false, .bool false, .int .i64 0, .int .i64 0], .bool false]) (by simp [results, Tryz.results11, go_sem, zg0, zg1, zg2, zg3, zg4, zg5, zg6, zg7]) rfl ?_
    exact ⟨zeroC, false, rfl, parsed_no HNO.out, (gain_setCell (gain_setCell (gain_setCell (gain_setCell (gain_setCell (gain_setCell (gain_setCell (gain_setCell HG.out (a := ⟨w.heap.size, 0, none⟩) (Nat.le_refl _) _) (a := ⟨w.heap.size, 1, none⟩) (Nat.le_refl _) _) (a := ⟨w.heap.size, 2, none⟩) (Nat.le_refl _) _) (a := ⟨w.heap.size, 3, none⟩) (Nat.le_refl _) _) (a := ⟨w.heap.size, 4, none⟩) (Nat.le_refl _) _) (a := ⟨w.heap.size, 5, none⟩) (Nat.le_refl _) _) (a := ⟨w.heap.size, 6, none⟩) (Nat.le_refl _) _) (a := ⟨w.heap.size, 7, none⟩) (Nat.le_refl _) _)⟩
  have hd : decide ((60 : Int) < (s.size : Int)) = false := decide_eq_false (by omega)
  by_cases h8 : ws.length = 8
  case neg =>
    have hne : ((ws.length : Int) != 8) = true := by simp; omega
    have HNO := Lib.hid (HN8.out (fun h => h8 h.2))
    clear HN8 h8
    have yc0 : X.cell? ⟨w.heap.size, 0, none⟩ = some (.int .i64 0) := World.cell_of_heap HR.out 0
    have yf0 : X.frozen? ⟨w.heap.size, 0, none⟩ = false := World.free_of_heap HR.out 0
    have yc1 : X.cell? ⟨w.heap.size, 1, none⟩ = some (.string ⟨#[]⟩) := World.cell_of_heap HR.out 1
    have yf1 : X.frozen? ⟨w.heap.size, 1, none⟩ = false := World.free_of_heap HR.out 1
    have yc2 : X.cell? ⟨w.heap.size, 2, none⟩ = some (.int .i64 0) := World.cell_of_heap HR.out 2
    have yf2 : X.frozen? ⟨w.heap.size, 2, none⟩ = false := World.free_of_heap HR.out 2
    have yc3 : X.cell? ⟨w.heap.size, 3, none⟩ = some (.int .i64 0) := World.cell_of_heap HR.out 3
    have yf3 : X.frozen? ⟨w.heap.size, 3, none⟩ = false := World.free_of_heap HR.out 3
    have yc4 : X.cell? ⟨w.heap.size, 4, none⟩ = some (.bool false) := World.cell_of_heap HR.out 4
    have yf4 : X.frozen? ⟨w.heap.size, 4, none⟩ = false := World.free_of_heap HR.out 4
    have yc5 : X.cell? ⟨w.heap.size, 5, none⟩ = some (.bool false) := World.cell_of_heap HR.out 5
    have yf5 : X.frozen? ⟨w.heap.size, 5, none⟩ = false := World.free_of_heap HR.out 5
    have yc6 : X.cell? ⟨w.heap.size, 6, none⟩ = some (.int .i64 0) := World.cell_of_heap HR.out 6
    have yf6 : X.frozen? ⟨w.heap.size, 6, none⟩ = false := World.free_of_heap HR.out 6
    have yc7 : X.cell? ⟨w.heap.size, 7, none⟩ = some (.int .i64 0) := World.cell_of_heap HR.out 7
    have yf7 : X.frozen? ⟨w.heap.size, 7, none⟩ = false := World.free_of_heap HR.out 7
    have yo := World.oldB_of_cell yc0
    have zw0 := World.heap_setCell_row HR.out 0 (.int .i64 0)
    simp only [List.setIfInBounds_toArray, List.set_cons_zero, List.set_cons_succ] at zw0
    have zg0 : (X.setCell ⟨w.heap.size, 0, none⟩ (.int .i64 0)).cell? ⟨w.heap.size, 0, none⟩ = some (.int .i64 0) := World.cell_of_heap zw0 0
    have zw1 := World.heap_setCell_row zw0 1 (.string ⟨#[]⟩)
    simp only [List.setIfInBounds_toArray, List.set_cons_zero, List.set_cons_succ] at zw1
    have zg1 : ((X.setCell ⟨w.heap.size, 0, none⟩ (.int .i64 0)).setCell ⟨w.heap.size, 1, none⟩ (.string ⟨#[]⟩)).cell? ⟨w.heap.size, 1, none⟩ = some (.string ⟨#[]⟩) := World.cell_of_heap zw1 1
    have zw2 := World.heap_setCell_row zw1 2 (.int .i64 0)
    simp only [List.setIfInBounds_toArray, List.set_cons_zero, List.set_cons_succ] at zw2
    have zg2 : (((X.setCell ⟨w.heap.size, 0, none⟩ (.int .i64 0)).setCell ⟨w.heap.size, 1, none⟩ (.string ⟨#[]⟩)).setCell ⟨w.heap.size, 2, none⟩ (.int .i64 0)).cell? ⟨w.heap.size, 2, none⟩ = some (.int .i64 0) := World.cell_of_heap zw2 2
    have zw3 := World.heap_setCell_row zw2 3 (.int .i64 0)
    simp only [List.setIfInBounds_toArray, List.set_cons_zero, List.set_cons_succ] at zw3
    have zg3 : ((((X.setCell ⟨w.heap.size, 0, none⟩ (.int .i64 0)).setCell ⟨w.heap.size, 1, none⟩ (.string ⟨#[]⟩)).setCell ⟨w.heap.size, 2, none⟩ (.int .i64 0)).setCell ⟨w.heap.size, 3, none⟩ (.int .i64 0)).cell? ⟨w.heap.size, 3, none⟩ = some (.int .i64 0) := World.cell_of_heap zw3 3
    have zw4 := World.heap_setCell_row zw3 4 (.bool false)
    simp only [List.setIfInBounds_toArray, List.set_cons_zero, List.set_cons_succ] at zw4
    have zg4 : (((((X.setCell ⟨w.heap.size, 0, none⟩ (.int .i64 0)).setCell ⟨w.heap.size, 1, none⟩ (.string ⟨#[]⟩)).setCell ⟨w.heap.size, 2, none⟩ (.int .i64 0)).setCell ⟨w.heap.size, 3, none⟩ (.int .i64 0)).setCell ⟨w.heap.size, 4, none⟩ (.bool false)).cell? ⟨w.heap.size, 4, none⟩ = some (.bool false) := World.cell_of_heap zw4 4
    have zw5 := World.heap_setCell_row zw4 5 (.bool false)
    simp only [List.setIfInBounds_toArray, List.set_cons_zero, List.set_cons_succ] at zw5
    have zg5 : ((((((X.setCell ⟨w.heap.size, 0, none⟩ (.int .i64 0)).setCell ⟨w.heap.size, 1, none⟩ (.string ⟨#[]⟩)).setCell ⟨w.heap.size, 2, none⟩ (.int .i64 0)).setCell ⟨w.heap.size, 3, none⟩ (.int .i64 0)).setCell ⟨w.heap.size, 4, none⟩ (.bool false)).setCell ⟨w.heap.size, 5, none⟩ (.bool false)).cell? ⟨w.heap.size, 5, none⟩ = some (.bool false) := World.cell_of_heap zw5 5
    have zw6 := World.heap_setCell_row zw5 6 (.int .i64 0)
    simp only [List.setIfInBounds_toArray, List.set_cons_zero, List.set_cons_succ] at zw6
    have zg6 : (((((((X.setCell ⟨w.heap.size, 0, none⟩ (.int .i64 0)).setCell ⟨w.heap.size, 1, none⟩ (.string ⟨#[]⟩)).setCell ⟨w.heap.size, 2, none⟩ (.int .i64 0)).setCell ⟨w.heap.size, 3, none⟩ (.int .i64 0)).setCell ⟨w.heap.size, 4, none⟩ (.bool false)).setCell ⟨w.heap.size, 5, none⟩ (.bool false)).setCell ⟨w.heap.size, 6, none⟩ (.int .i64 0)).cell? ⟨w.heap.size, 6, none⟩ = some (.int .i64 0) := World.cell_of_heap zw6 6
    have zw7 := World.heap_setCell_row zw6 7 (.int .i64 0)
    simp only [List.setIfInBounds_toArray, List.set_cons_zero, List.set_cons_succ] at zw7
    have zg7 : ((((((((X.setCell ⟨w.heap.size, 0, none⟩ (.int .i64 0)).setCell ⟨w.heap.size, 1, none⟩ (.string ⟨#[]⟩)).setCell ⟨w.heap.size, 2, none⟩ (.int .i64 0)).setCell ⟨w.heap.size, 3, none⟩ (.int .i64 0)).setCell ⟨w.heap.size, 4, none⟩ (.bool false)).setCell ⟨w.heap.size, 5, none⟩ (.bool false)).setCell ⟨w.heap.size, 6, none⟩ (.int .i64 0)).setCell ⟨w.heap.size, 7, none⟩ (.int .i64 0)).cell? ⟨w.heap.size, 7, none⟩ = some (.int .i64 0) := World.cell_of_heap zw7 7
    clear zw0 zw1 zw2 zw3 zw4 zw5 zw6 zw7
    go_wp2_with fail
    refine bodyPost_ret (v := .tuple #[.agg #[.int .i64 0, .string ⟨#[]⟩, .int .i64 0, .int .i64 0, .bool false, .bool false, .int .i64 0, .int .i64 0], .bool false]) (by simp [results, Tryz.results11, go_sem, zg0, zg1, zg2, zg3, zg4, zg5, zg6, zg7]) rfl ?_
    exact ⟨zeroC, false, rfl, parsed_no HNO.out, (gain_setCell (gain_setCell (gain_setCell (gain_setCell (gain_setCell (gain_setCell (gain_setCell (gain_setCell HG.out (a := ⟨w.heap.size, 0, none⟩) (Nat.le_refl _) _) (a := ⟨w.heap.size, 1, none⟩) (Nat.le_refl _) _) (a := ⟨w.heap.size, 2, none⟩) (Nat.le_refl _) _) (a := ⟨w.heap.size, 3, none⟩) (Nat.le_refl _) _) (a := ⟨w.heap.size, 4, none⟩) (Nat.le_refl _) _) (a := ⟨w.heap.size, 5, none⟩) (Nat.le_refl _) _) (a := ⟨w.heap.size, 6, none⟩) (Nat.le_refl _) _) (a := ⟨w.heap.size, 7, none⟩) (Nat.le_refl _) _)⟩
  clear HN8
  obtain ⟨w0, w1, w2, w3, w4, w5, w6, w7, rfl⟩ := eight h8
  obtain ⟨bw, ow, rfl⟩ := sl_some HO.out (by simp)
  have k0 := sl_str HO.out (k := 0) (by simp)
  have k1 := sl_str HO.out (k := 1) (by simp)
  have k2 := sl_str HO.out (k := 2) (by simp)
  have k3 := sl_str HO.out (k := 3) (by simp)
  have k4 := sl_str HO.out (k := 4) (by simp)
  have k5 := sl_str HO.out (k := 5) (by simp)
  have k6 := sl_str HO.out (k := 6) (by simp)
  have k7 := sl_str HO.out (k := 7) (by simp)
  simp only [List.getElem_cons_zero, List.getElem_cons_succ, Nat.add_zero] at k0 k1 k2 k3 k4 k5 k6 k7
  have HLE := Lib.hid (part_le HW.out)
  simp only [List.length_cons, List.length_nil, Nat.zero_add, Nat.reduceAdd]
  have hb0 := World.oldB_of_cell k0
  have HW2 := Lib.hid (fun c' (hc : classB c' = true) (e : clsT c' = s) => words_eqs (cls_words hc e HW.out))
  clear h8 hlim HO
  go_wp2_with fail
  refine (HSA.out w2 (by have := HLE.out w2 (by simp); omega) _).mono ?_
  rintro e w1 ⟨r2, al, rfl, ⟨d2, rfl⟩, ho2, hw2, hwl2⟩
  have HR2 := Lib.hid (prow_up HR.out (w' := X.ext d2) ⟨_, rfl⟩)
  have HG2 := Lib.hid (gain_trans HG.out (w' := X.ext d2) ⟨_, rfl⟩)
  have HO := Lib.hid (sl_of_own strC_length ho2)
  have HA := Lib.hid hw2
  obtain ⟨pa, ka, rfl, _⟩ := HO.out
  replace k0 := cell_ext k0 d2
  replace k1 := cell_ext k1 d2
  replace k2 := cell_ext k2 d2
  replace k3 := cell_ext k3 d2
  replace k4 := cell_ext k4 d2
  replace k5 := cell_ext k5 d2
  replace k6 := cell_ext k6 d2
  replace k7 := cell_ext k7 d2
  replace hb0 := World.oldB_of_cell k0
  clear HR HG HSA HSP ho2 hw2 hwl2
  generalize X.ext d2 = Y at *
  replace HR := HR2
  replace HG := HG2
  clear HR2 HG2
  by_cases h2 : al.length = 2
  case neg =>
    have hne : ((al.length : Int) != 2) = true := by simp; omega
    have HNO : Hid (∀ c', classB c' = true → clsT c' ≠ s) := Lib.hid (fun c' hc e => h2 (by
      have h := HA.out
      rw [(HW2.out c' hc e).2.2.1, ages_split] at h
      have h3 := congrArg List.length h
      simpa using h3))
    clear h2
    have yc0 : Y.cell? ⟨w.heap.size, 0, none⟩ = some (.int .i64 0) := World.cell_of_heap HR.out 0
    have yf0 : Y.frozen? ⟨w.heap.size, 0, none⟩ = false := World.free_of_heap HR.out 0
    have yc1 : Y.cell? ⟨w.heap.size, 1, none⟩ = some (.string ⟨#[]⟩) := World.cell_of_heap HR.out 1
    have yf1 : Y.frozen? ⟨w.heap.size, 1, none⟩ = false := World.free_of_heap HR.out 1
    have yc2 : Y.cell? ⟨w.heap.size, 2, none⟩ = some (.int .i64 0) := World.cell_of_heap HR.out 2
    have yf2 : Y.frozen? ⟨w.heap.size, 2, none⟩ = false := World.free_of_heap HR.out 2
    have yc3 : Y.cell? ⟨w.heap.size, 3, none⟩ = some (.int .i64 0) := World.cell_of_heap HR.out 3
    have yf3 : Y.frozen? ⟨w.heap.size, 3, none⟩ = false := World.free_of_heap HR.out 3
    have yc4 : Y.cell? ⟨w.heap.size, 4, none⟩ = some (.bool false) := World.cell_of_heap HR.out 4
    have yf4 : Y.frozen? ⟨w.heap.size, 4, none⟩ = false := World.free_of_heap HR.out 4
    have yc5 : Y.cell? ⟨w.heap.size, 5, none⟩ = some (.bool false) := World.cell_of_heap HR.out 5
    have yf5 : Y.frozen? ⟨w.heap.size, 5, none⟩ = false := World.free_of_heap HR.out 5
    have yc6 : Y.cell? ⟨w.heap.size, 6, none⟩ = some (.int .i64 0) := World.cell_of_heap HR.out 6
    have yf6 : Y.frozen? ⟨w.heap.size, 6, none⟩ = false := World.free_of_heap HR.out 6
    have yc7 : Y.cell? ⟨w.heap.size, 7, none⟩ = some (.int .i64 0) := World.cell_of_heap HR.out 7
    have yf7 : Y.frozen? ⟨w.heap.size, 7, none⟩ = false := World.free_of_heap HR.out 7
    have yo := World.oldB_of_cell yc0
    have zw0 := World.heap_setCell_row HR.out 0 (.int .i64 0)
    simp only [List.setIfInBounds_toArray, List.set_cons_zero, List.set_cons_succ] at zw0
    have zg0 : (Y.setCell ⟨w.heap.size, 0, none⟩ (.int .i64 0)).cell? ⟨w.heap.size, 0, none⟩ = some (.int .i64 0) := World.cell_of_heap zw0 0
    have zw1 := World.heap_setCell_row zw0 1 (.string ⟨#[]⟩)
    simp only [List.setIfInBounds_toArray, List.set_cons_zero, List.set_cons_succ] at zw1
    have zg1 : ((Y.setCell ⟨w.heap.size, 0, none⟩ (.int .i64 0)).setCell ⟨w.heap.size, 1, none⟩ (.string ⟨#[]⟩)).cell? ⟨w.heap.size, 1, none⟩ = some (.string ⟨#[]⟩) := World.cell_of_heap zw1 1
    have zw2 := World.heap_setCell_row zw1 2 (.int .i64 0)
    simp only [List.setIfInBounds_toArray, List.set_cons_zero, List.set_cons_succ] at zw2
    have zg2 : (((Y.setCell ⟨w.heap.size, 0, none⟩ (.int .i64 0)).setCell ⟨w.heap.size, 1, none⟩ (.string ⟨#[]⟩)).setCell ⟨w.heap.size, 2, none⟩ (.int .i64 0)).cell? ⟨w.heap.size, 2, none⟩ = some (.int .i64 0) := World.cell_of_heap zw2 2
    have zw3 := World.heap_setCell_row zw2 3 (.int .i64 0)
    simp only [List.setIfInBounds_toArray, List.set_cons_zero, List.set_cons_succ] at zw3
    have zg3 : ((((Y.setCell ⟨w.heap.size, 0, none⟩ (.int .i64 0)).setCell ⟨w.heap.size, 1, none⟩ (.string ⟨#[]⟩)).setCell ⟨w.heap.size, 2, none⟩ (.int .i64 0)).setCell ⟨w.heap.size, 3, none⟩ (.int .i64 0)).cell? ⟨w.heap.size, 3, none⟩ = some (.int .i64 0) := World.cell_of_heap zw3 3
    have zw4 := World.heap_setCell_row zw3 4 (.bool false)
    simp only [List.setIfInBounds_toArray, List.set_cons_zero, List.set_cons_succ] at zw4
    have zg4 : (((((Y.setCell ⟨w.heap.size, 0, none⟩ (.int .i64 0)).setCell ⟨w.heap.size, 1, none⟩ (.string ⟨#[]⟩)).setCell ⟨w.heap.size, 2, none⟩ (.int .i64 0)).setCell ⟨w.heap.size, 3, none⟩ (.int .i64 0)).setCell ⟨w.heap.size, 4, none⟩ (.bool false)).cell? ⟨w.heap.size, 4, none⟩ = some (.bool false) := World.cell_of_heap zw4 4
    have zw5 := World.heap_setCell_row zw4 5 (.bool false)
    simp only [List.setIfInBounds_toArray, List.set_cons_zero, List.set_cons_succ] at zw5
    have zg5 : ((((((Y.setCell ⟨w.heap.size, 0, none⟩ (.int .i64 0)).setCell ⟨w.heap.size, 1, none⟩ (.string ⟨#[]⟩)).setCell ⟨w.heap.size, 2, none⟩ (.int .i64 0)).setCell ⟨w.heap.size, 3, none⟩ (.int .i64 0)).setCell ⟨w.heap.size, 4, none⟩ (.bool false)).setCell ⟨w.heap.size, 5, none⟩ (.bool false)).cell? ⟨w.heap.size, 5, none⟩ = some (.bool false) := World.cell_of_heap zw5 5
    have zw6 := World.heap_setCell_row zw5 6 (.int .i64 0)
    simp only [List.setIfInBounds_toArray, List.set_cons_zero, List.set_cons_succ] at zw6
    have zg6 : (((((((Y.setCell ⟨w.heap.size, 0, none⟩ (.int .i64 0)).setCell ⟨w.heap.size, 1, none⟩ (.string ⟨#[]⟩)).setCell ⟨w.heap.size, 2, none⟩ (.int .i64 0)).setCell ⟨w.heap.size, 3, none⟩ (.int .i64 0)).setCell ⟨w.heap.size, 4, none⟩ (.bool false)).setCell ⟨w.heap.size, 5, none⟩ (.bool false)).setCell ⟨w.heap.size, 6, none⟩ (.int .i64 0)).cell? ⟨w.heap.size, 6, none⟩ = some (.int .i64 0) := World.cell_of_heap zw6 6
    have zw7 := World.heap_setCell_row zw6 7 (.int .i64 0)
    simp only [List.setIfInBounds_toArray, List.set_cons_zero, List.set_cons_succ] at zw7
    have zg7 : ((((((((Y.setCell ⟨w.heap.size, 0, none⟩ (.int .i64 0)).setCell ⟨w.heap.size, 1, none⟩ (.string ⟨#[]⟩)).setCell ⟨w.heap.size, 2, none⟩ (.int .i64 0)).setCell ⟨w.heap.size, 3, none⟩ (.int .i64 0)).setCell ⟨w.heap.size, 4, none⟩ (.bool false)).setCell ⟨w.heap.size, 5, none⟩ (.bool false)).setCell ⟨w.heap.size, 6, none⟩ (.int .i64 0)).setCell ⟨w.heap.size, 7, none⟩ (.int .i64 0)).cell? ⟨w.heap.size, 7, none⟩ = some (.int .i64 0) := World.cell_of_heap zw7 7
    clear zw0 zw1 zw2 zw3 zw4 zw5 zw6 zw7
    go_wp2_with fail
    refine bodyPost_ret (v := .tuple #[.agg #[.int .i64 0, .string ⟨#[]⟩, .int .i64 0, .int .i64 0, .bool false, .bool false, .int .i64 0, .int .i64 0], .bool false]) (by simp [results, Tryz.results11, go_sem, zg0, zg1, zg2, zg3, zg4, zg5, zg6, zg7]) rfl ?_
    exact ⟨zeroC, false, rfl, parsed_no HNO.out, (gain_setCell (gain_setCell (gain_setCell (gain_setCell (gain_setCell (gain_setCell (gain_setCell (gain_setCell HG.out (a := ⟨w.heap.size, 0, none⟩) (Nat.le_refl _) _) (a := ⟨w.heap.size, 1, none⟩) (Nat.le_refl _) _) (a := ⟨w.heap.size, 2, none⟩) (Nat.le_refl _) _) (a := ⟨w.heap.size, 3, none⟩) (Nat.le_refl _) _) (a := ⟨w.heap.size, 4, none⟩) (Nat.le_refl _) _) (a := ⟨w.heap.size, 5, none⟩) (Nat.le_refl _) _) (a := ⟨w.heap.size, 6, none⟩) (Nat.le_refl _) _) (a := ⟨w.heap.size, 7, none⟩) (Nat.le_refl _) _)⟩
  obtain ⟨a0, a1, rfl⟩ := two h2
  obtain ⟨ba, oa, rfl⟩ := sl_some HO.out (by simp)
  have j0 := sl_str HO.out (k := 0) (by simp)
  have j1 := sl_str HO.out (k := 1) (by simp)
  simp only [List.getElem_cons_zero, List.getElem_cons_succ, Nat.add_zero] at j0 j1
  simp only [List.length_cons, List.length_nil, Nat.zero_add, Nat.reduceAdd]
  have hb1 := World.oldB_of_cell j0
  have HLA := Lib.hid (part_le HA.out)
  have HA2 : Hid (∀ c', classB c' = true → clsT c' = s → a0 = decB c'.low.toNat ∧ a1 = decB c'.high.toNat) := Lib.hid (fun c' hc e => by
    have h := HA.out
    rw [(HW2.out c' hc e).2.2.1, ages_split] at h
    simp only [List.map_cons, List.map_nil, List.cons.injEq, and_true] at h
    exact ⟨toL_inj h.1, toL_inj h.2⟩)
  clear h2 HO HA
  obtain ⟨bm, hbm⟩ : ∃ b, (w3.toList == [109]) = b := ⟨_, rfl⟩
  obtain ⟨bsw, hbw⟩ : ∃ b, (w3.toList == [119]) = b := ⟨_, rfl⟩
  go_upto_region 7 with fail
  refine wp_region_held_drew (S := (fun w' => w'.cell? ⟨bw, ow + 1, none⟩ = some (.string w1) ∧ w'.cell? ⟨bw, ow + 3, none⟩ = some (.string w3))) (by kernel_rfl) (by (try dsimp only); (refine ⟨?_, ?_⟩ <;> (with_reducible (repeat (first | assumption | refine cell_ext ?_ _ | refine cell_drew ?_ | refine cell_alloc ?_ _))))) (fun hHeld => ?_)
  refine wpAnyH_take (i := 0) (oi := ⟨_, _, _, _, _, _⟩) (v := ?_) rfl (by kernel_rfl) (by kernel_rfl) (by kernel_rfl) (fun _ _ _ h => h) (Or.inl ⟨by rfl, ?_⟩) (by assumption) ?_
  rotate_left
  · intro w hSw; (try dsimp only at hSw); go_simp; (try with_reducible rfl)
  try simp only [Act.put, List.setIfInBounds_toArray, List.set_cons_zero, List.set_cons_succ]
  refine wpAnyH_take (i := 1) (oi := ⟨_, _, _, _, _, _⟩) (v := ?_) rfl (by kernel_rfl) (by kernel_rfl) (by kernel_rfl) (fun _ _ _ h => h) (Or.inl ⟨by rfl, ?_⟩) (by assumption) ?_
  rotate_left
  · intro w hSw; (try dsimp only at hSw); go_simp; (try with_reducible rfl)
  try simp only [Act.put, List.setIfInBounds_toArray, List.set_cons_zero, List.set_cons_succ]
  refine wpAnyH_take (i := 2) (oi := ⟨_, _, _, _, _, _⟩) (v := ?_) rfl (by kernel_rfl) (by kernel_rfl) (by kernel_rfl) (fun _ _ _ h => h) (Or.inl ⟨by rfl, ?_⟩) (by assumption) ?_
  rotate_left
  · intro w hSw; (try dsimp only at hSw); go_simp; (try with_reducible rfl)
  try simp only [Act.put, List.setIfInBounds_toArray, List.set_cons_zero, List.set_cons_succ]
  refine wpAnyH_take (i := 3) (oi := ⟨_, _, _, _, _, _⟩) (v := ?_) rfl (by kernel_rfl) (by kernel_rfl) (by kernel_rfl) (fun _ _ _ h => h) (Or.inl ⟨by rfl, ?_⟩) (by assumption) ?_
  rotate_left
  · intro w hSw; (try dsimp only at hSw); go_simp; (try with_reducible rfl)
  try simp only [Act.put, List.setIfInBounds_toArray, List.set_cons_zero, List.set_cons_succ]
  refine wpAnyH_take (i := 4) (oi := ⟨_, _, _, _, _, _⟩) (v := ?_) rfl (by kernel_rfl) (by kernel_rfl) (by kernel_rfl) (fun _ _ _ h => h) (Or.inl ⟨by rfl, ?_⟩) (by assumption) ?_
  rotate_left
  · intro w hSw; (try dsimp only at hSw); go_simp; (try with_reducible rfl)
  try simp only [Act.put, List.setIfInBounds_toArray, List.set_cons_zero, List.set_cons_succ]
  refine wpAnyH_take (i := 5) (oi := ⟨_, _, _, _, _, _⟩) (v := ?_) rfl (by kernel_rfl) (by kernel_rfl) (by kernel_rfl) (fun _ _ _ h => h) (Or.inl ⟨by rfl, ?_⟩) (by assumption) ?_
  rotate_left
  · intro w hSw; (try dsimp only at hSw); go_simp; (try with_reducible rfl)
  try simp only [Act.put, List.setIfInBounds_toArray, List.set_cons_zero, List.set_cons_succ]
  refine wpAnyH_take (i := 6) (oi := ⟨_, _, _, _, _, _⟩) (v := ?_) rfl (by kernel_rfl) (by kernel_rfl) (by kernel_rfl) (fun _ _ _ h => h) (Or.inl ⟨by rfl, ?_⟩) (by assumption) ?_
  rotate_left
  · intro w hSw; (try dsimp only at hSw); go_simp; (try with_reducible rfl)
  try simp only [Act.put, List.setIfInBounds_toArray, List.set_cons_zero, List.set_cons_succ]
  refine wpAnyH_take (i := 7) (oi := ⟨_, _, _, _, _, _⟩) (v := ?_) rfl (by kernel_rfl) (by kernel_rfl) (by kernel_rfl) (fun _ _ _ h => h) (Or.inl ⟨by rfl, ?_⟩) (by assumption) ?_
  rotate_left
  · intro w hSw; (try dsimp only at hSw); go_simp; (try with_reducible rfl)
  try simp only [Act.put, List.setIfInBounds_toArray, List.set_cons_zero, List.set_cons_succ]
  refine wpAnyH_take (i := 8) (oi := ⟨_, _, _, _, _, _⟩) (v := ?_) rfl (by kernel_rfl) (by kernel_rfl) (by kernel_rfl) (fun _ _ _ h => h) (Or.inl ⟨by rfl, ?_⟩) (by assumption) ?_
  rotate_left
  · intro w hSw; (try dsimp only at hSw); go_simp; (try with_reducible rfl)
  try simp only [Act.put, List.setIfInBounds_toArray, List.set_cons_zero, List.set_cons_succ]
  refine wpAnyH_take (i := 9) (oi := ⟨_, _, _, _, _, _⟩) (v := ?_) rfl (by kernel_rfl) (by kernel_rfl) (by kernel_rfl) (fun _ _ _ h => h) (Or.inl ⟨by rfl, ?_⟩) (by assumption) ?_
  rotate_left
  · intro w hSw; (try dsimp only at hSw); go_simp; (try with_reducible rfl)
  try simp only [Act.put, List.setIfInBounds_toArray, List.set_cons_zero, List.set_cons_succ]
  refine wpAnyH_take (i := 10) (oi := ⟨_, _, _, _, _, _⟩) (v := ?_) rfl (by kernel_rfl) (by kernel_rfl) (by kernel_rfl) (fun _ _ _ h => h) (Or.inl ⟨by rfl, ?_⟩) (by assumption) ?_
  rotate_left
  · intro w hSw; (try dsimp only at hSw); go_simp; (try with_reducible rfl)
  try simp only [Act.put, List.setIfInBounds_toArray, List.set_cons_zero, List.set_cons_succ]
  refine wpAnyH_take (i := 11) (oi := ⟨_, _, _, _, _, _⟩) (v := ?_) rfl (by kernel_rfl) (by kernel_rfl) (by kernel_rfl) (fun _ _ _ h => h) (Or.inl ⟨by rfl, ?_⟩) (by assumption) ?_
  rotate_left
  · intro w hSw; (try dsimp only at hSw); go_simp; (try with_reducible rfl)
  try simp only [Act.put, List.setIfInBounds_toArray, List.set_cons_zero, List.set_cons_succ]
  refine wpAnyH_ready (rs := [12]) (by kernel_rfl) (by simp) ?_
  refine AllReadyH.cons rfl (fun K hK => ?_) (AllReadyH.nil)
  go_simp
  (try dsimp only)
  refine hK.out _ _ ?_ (fun hHeld => ?_)
  · exact ⟨pcell_up k1 (by repeat (first | with_reducible (first | exact World.gained_refl _ | exact ⟨_, rfl⟩ | apply gain_ext | apply gain_alloc | apply gain_drewN | apply gain_drew) | (refine gain_setCell ?_ (by first | exact Nat.le_refl _ | exact World.size_ext _ _ | (simp; done) | (simp; omega)) _))), pcell_up k3 (by repeat (first | with_reducible (first | exact World.gained_refl _ | exact ⟨_, rfl⟩ | apply gain_ext | apply gain_alloc | apply gain_drewN | apply gain_drew) | (refine gain_setCell ?_ (by first | exact Nat.le_refl _ | exact World.size_ext _ _ | (simp; done) | (simp; omega)) _)))⟩
  clear hK K
  try simp only [Act.put, List.setIfInBounds_toArray, List.set_cons_zero, List.set_cons_succ]
  have HB : Hid ((Y.alloc (.cells #[.int .i64 0, .string w1, .int .i64 0, .int .i64 0, .bool (!bm), .bool (!bsw), .int .i64 0, .int .i64 0] 25)).drew.heap[Y.heap.size]? = some (.cells #[.int .i64 0, .string w1, .int .i64 0, .int .i64 0, .bool (!bm), .bool (!bsw), .int .i64 0, .int .i64 0] 25 (0, 0))) := Lib.hid (heap_alloc_new Y _)
  have HGU : Hid (∃ d, (Y.alloc (.cells #[.int .i64 0, .string w1, .int .i64 0, .int .i64 0, .bool (!bm), .bool (!bsw), .int .i64 0, .int .i64 0] 25)).drew = Y.ext d) := Lib.hid (by repeat (first | with_reducible (first | exact World.gained_refl _ | exact ⟨_, rfl⟩ | apply gain_ext | apply gain_alloc | apply gain_drewN | apply gain_drew) | (refine gain_setCell ?_ (by first | exact Nat.le_refl _ | exact World.size_ext _ _ | (simp; done) | (simp; omega)) _)))
  refine wpAnyH_ready (rs := [13]) (by kernel_rfl) (by simp) ?_
  refine AllReadyH.cons rfl (fun K hK => ?_) (AllReadyH.nil)
  go_simp
  (try dsimp only)
  refine hK.out _ _ ?_ (fun hHeld => ?_)
  · exact ⟨pcell_up k1 HGU.out, pcell_up k3 HGU.out⟩
  clear hK K
  try simp only [Act.put, List.setIfInBounds_toArray, List.set_cons_zero, List.set_cons_succ]
  refine wpAnyH_done (by kernel_rfl) ?_ _
  clear hb0 hb1
  generalize (Y.alloc (.cells #[.int .i64 0, .string w1, .int .i64 0, .int .i64 0, .bool (!bm), .bool (!bsw), .int .i64 0, .int .i64 0] 25)).drew = U0 at HB HGU ⊢
  have hgB : w.heap.size ≤ Y.heap.size := gain_size HG.out
  generalize hgBe : Y.heap.size = gB at HB ⊢
  have HYB := Lib.hid (Nat.le_of_eq hgBe)
  clear hgBe hgB
  have c0 := pcell_up k0 HGU.out
  have oc0 := World.oldB_of_cell c0
  go_wp2_with fail
  refine (l1Read_any w0 _ (by have := HLE.out w0 (by simp); omega)).mono ?_
  rintro e w1 ⟨n0, q0, rfl, nb0, nc0, hk0, e0, rfl⟩
  have HK0 := Lib.hid hk0
  clear hk0
  have HBe := Lib.hid (prow_up HB.out (w' := (U0.ext e0)) ⟨_, rfl⟩)
  have x0 := World.cell_of_heap HBe.out 0
  have y0 := World.free_of_heap HBe.out 0
  simp only [List.getElem?_toArray, List.getElem?_cons_zero, List.getElem?_cons_succ] at x0
  have ox0 := World.oldB_of_cell x0
  have HB0 := World.heap_setCell_row HBe.out 0 (.int .i64 n0)
  simp only [List.setIfInBounds_toArray, List.set_cons_zero, List.set_cons_succ] at HB0
  have HG0 : Hid (∃ d, (U0.ext e0).setCell ⟨gB, 0, none⟩ (.int .i64 n0) = Y.ext d) := Lib.hid (gain_setCell (gain_trans HGU.out ⟨_, rfl⟩) (a := ⟨gB, 0, none⟩) HYB.out _)
  clear HB HGU
  have HB := Lib.hid HB0
  have HGU := HG0
  clear HB0 HG0
  go_upto_region 9 with fail
  clear c0 oc0 x0 y0 ox0 HBe
  generalize (U0.ext e0).setCell ⟨gB, 0, none⟩ (.int .i64 n0) = U1 at HB HGU ⊢
  have c1 := pcell_up j0 HGU.out
  have oc1 := World.oldB_of_cell c1
  go_wp2_with fail
  refine (l1Read_any a0 _ (by have := HLA.out a0 (by simp); have := HLE.out w2 (by simp); omega)).mono ?_
  rintro e w1 ⟨n1, q1, rfl, nb1, nc1, hk1, e1, rfl⟩
  have HK1 := Lib.hid hk1
  clear hk1
  have HBe := Lib.hid (prow_up HB.out (w' := (U1.ext e1)) ⟨_, rfl⟩)
  have x1 := World.cell_of_heap HBe.out 2
  have y1 := World.free_of_heap HBe.out 2
  simp only [List.getElem?_toArray, List.getElem?_cons_zero, List.getElem?_cons_succ] at x1
  have ox1 := World.oldB_of_cell x1
  have HB1 := World.heap_setCell_row HBe.out 2 (.int .i64 n1)
  simp only [List.setIfInBounds_toArray, List.set_cons_zero, List.set_cons_succ] at HB1
  have HG1 : Hid (∃ d, (U1.ext e1).setCell ⟨gB, 2, none⟩ (.int .i64 n1) = Y.ext d) := Lib.hid (gain_setCell (gain_trans HGU.out ⟨_, rfl⟩) (a := ⟨gB, 2, none⟩) HYB.out _)
  clear HB HGU
  have HB := Lib.hid HB1
  have HGU := HG1
  clear HB1 HG1
  go_upto_region 10 with fail
  clear c1 oc1 x1 y1 ox1 HBe
  generalize (U1.ext e1).setCell ⟨gB, 2, none⟩ (.int .i64 n1) = U2 at HB HGU ⊢
  have c2 := pcell_up j1 HGU.out
  have oc2 := World.oldB_of_cell c2
  go_wp2_with fail
  refine (l1Read_any a1 _ (by have := HLA.out a1 (by simp); have := HLE.out w2 (by simp); omega)).mono ?_
  rintro e w1 ⟨n2, q2, rfl, nb2, nc2, hk2, e2, rfl⟩
  have HK2 := Lib.hid hk2
  clear hk2
  have HBe := Lib.hid (prow_up HB.out (w' := (U2.ext e2)) ⟨_, rfl⟩)
  have x2 := World.cell_of_heap HBe.out 3
  have y2 := World.free_of_heap HBe.out 3
  simp only [List.getElem?_toArray, List.getElem?_cons_zero, List.getElem?_cons_succ] at x2
  have ox2 := World.oldB_of_cell x2
  have HB2 := World.heap_setCell_row HBe.out 3 (.int .i64 n2)
  simp only [List.setIfInBounds_toArray, List.set_cons_zero, List.set_cons_succ] at HB2
  have HG2 : Hid (∃ d, (U2.ext e2).setCell ⟨gB, 3, none⟩ (.int .i64 n2) = Y.ext d) := Lib.hid (gain_setCell (gain_trans HGU.out ⟨_, rfl⟩) (a := ⟨gB, 3, none⟩) HYB.out _)
  clear HB HGU
  have HB := Lib.hid HB2
  have HGU := HG2
  clear HB2 HG2
  go_upto_region 11 with fail
  clear c2 oc2 x2 y2 ox2 HBe
  generalize (U2.ext e2).setCell ⟨gB, 3, none⟩ (.int .i64 n2) = U3 at HB HGU ⊢
  have c3 := pcell_up k5 HGU.out
  have oc3 := World.oldB_of_cell c3
  go_wp2_with fail
  refine (l1Read_any w5 _ (by have := HLE.out w5 (by simp); omega)).mono ?_
  rintro e w1 ⟨n3, q3, rfl, nb3, nc3, hk3, e3, rfl⟩
  have HK3 := Lib.hid hk3
  clear hk3
  have HBe := Lib.hid (prow_up HB.out (w' := (U3.ext e3)) ⟨_, rfl⟩)
  have x3 := World.cell_of_heap HBe.out 6
  have y3 := World.free_of_heap HBe.out 6
  simp only [List.getElem?_toArray, List.getElem?_cons_zero, List.getElem?_cons_succ] at x3
  have ox3 := World.oldB_of_cell x3
  have HB3 := World.heap_setCell_row HBe.out 6 (.int .i64 n3)
  simp only [List.setIfInBounds_toArray, List.set_cons_zero, List.set_cons_succ] at HB3
  have HG3 : Hid (∃ d, (U3.ext e3).setCell ⟨gB, 6, none⟩ (.int .i64 n3) = Y.ext d) := Lib.hid (gain_setCell (gain_trans HGU.out ⟨_, rfl⟩) (a := ⟨gB, 6, none⟩) HYB.out _)
  clear HB HGU
  have HB := Lib.hid HB3
  have HGU := HG3
  clear HB3 HG3
  go_upto_region 12 with fail
  clear c3 oc3 x3 y3 ox3 HBe
  generalize (U3.ext e3).setCell ⟨gB, 6, none⟩ (.int .i64 n3) = U4 at HB HGU ⊢
  have c4 := pcell_up k7 HGU.out
  have oc4 := World.oldB_of_cell c4
  go_wp2_with fail
  refine (l1Read_any w7 _ (by have := HLE.out w7 (by simp); omega)).mono ?_
  rintro e w1 ⟨n4, q4, rfl, nb4, nc4, hk4, e4, rfl⟩
  have HK4 := Lib.hid hk4
  clear hk4
  have HBe := Lib.hid (prow_up HB.out (w' := (U4.ext e4)) ⟨_, rfl⟩)
  have x4 := World.cell_of_heap HBe.out 7
  have y4 := World.free_of_heap HBe.out 7
  simp only [List.getElem?_toArray, List.getElem?_cons_zero, List.getElem?_cons_succ] at x4
  have ox4 := World.oldB_of_cell x4
  have HB4 := World.heap_setCell_row HBe.out 7 (.int .i64 n4)
  simp only [List.setIfInBounds_toArray, List.set_cons_zero, List.set_cons_succ] at HB4
  have HG4 : Hid (∃ d, (U4.ext e4).setCell ⟨gB, 7, none⟩ (.int .i64 n4) = Y.ext d) := Lib.hid (gain_setCell (gain_trans HGU.out ⟨_, rfl⟩) (a := ⟨gB, 7, none⟩) HYB.out _)
  clear HB HGU
  have HB := Lib.hid HB4
  have HGU := HG4
  clear HB4 HG4
  go_upto_region 13 with fail
  clear c4 oc4 x4 y4 ox4 HBe
  generalize (U4.ext e4).setCell ⟨gB, 7, none⟩ (.int .i64 n4) = U5 at HB HGU ⊢
  have HCC : Hid (∀ c', classB c' = true → clsT c' = s → (⟨n0, w1, n1, n2, !bm, !bsw, n3, n4⟩ : Cls) = c') := Lib.hid (fun c' hc e => by
    obtain ⟨q0, q1, q2, q3, q5, q7⟩ := HW2.out c' hc e
    obtain ⟨z0, z1⟩ := HA2.out c' hc e
    have hx := sex_not c'.women c'.men (cls_sexes hc)
    exact cls_make hc (fun k hk h => HK0.out k hk (q0.trans h)) (fun k hk h => HK1.out k hk (z0.trans h)) (fun k hk h => HK2.out k hk (z1.trans h)) (fun k hk h => HK3.out k hk (q5.trans h)) (fun k hk h => HK4.out k hk (q7.trans h)) q1 (by rw [← hbm, q3]; exact hx.1) (by rw [← hbw, q3]; exact hx.2))
  have hw1 : w1.size ≤ 1048576 := by have := HLE.out w1 (by simp); omega
  have HR5 := Lib.hid (prow_up HR.out HGU.out)
  have HG5 := Lib.hid (gain_trans HG.out HGU.out)
  clear HR HG HW2 HA2 HLE HLA HGU hbm hbw k0 k1 k2 k3 k4 k5 k6 k7 j0 j1 HK0 HK1 HK2 HK3 HK4
  have HONE := Lib.hid (fun W => l7One_any (⟨n0, w1, n1, n2, !bm, !bsw, n3, n4⟩ : Cls) W hw1)
  have xc0 : U5.cell? ⟨gB, 0, none⟩ = some (.int .i64 n0) := World.cell_of_heap HB.out 0
  have xf0 : U5.frozen? ⟨gB, 0, none⟩ = false := World.free_of_heap HB.out 0
  have xc1 : U5.cell? ⟨gB, 1, none⟩ = some (.string w1) := World.cell_of_heap HB.out 1
  have xf1 : U5.frozen? ⟨gB, 1, none⟩ = false := World.free_of_heap HB.out 1
  have xc2 : U5.cell? ⟨gB, 2, none⟩ = some (.int .i64 n1) := World.cell_of_heap HB.out 2
  have xf2 : U5.frozen? ⟨gB, 2, none⟩ = false := World.free_of_heap HB.out 2
  have xc3 : U5.cell? ⟨gB, 3, none⟩ = some (.int .i64 n2) := World.cell_of_heap HB.out 3
  have xf3 : U5.frozen? ⟨gB, 3, none⟩ = false := World.free_of_heap HB.out 3
  have xc4 : U5.cell? ⟨gB, 4, none⟩ = some (.bool (!bm)) := World.cell_of_heap HB.out 4
  have xf4 : U5.frozen? ⟨gB, 4, none⟩ = false := World.free_of_heap HB.out 4
  have xc5 : U5.cell? ⟨gB, 5, none⟩ = some (.bool (!bsw)) := World.cell_of_heap HB.out 5
  have xf5 : U5.frozen? ⟨gB, 5, none⟩ = false := World.free_of_heap HB.out 5
  have xc6 : U5.cell? ⟨gB, 6, none⟩ = some (.int .i64 n3) := World.cell_of_heap HB.out 6
  have xf6 : U5.frozen? ⟨gB, 6, none⟩ = false := World.free_of_heap HB.out 6
  have xc7 : U5.cell? ⟨gB, 7, none⟩ = some (.int .i64 n4) := World.cell_of_heap HB.out 7
  have xf7 : U5.frozen? ⟨gB, 7, none⟩ = false := World.free_of_heap HB.out 7
  have xo := World.oldB_of_cell xc0
  cases hB : classB (⟨n0, w1, n1, n2, !bm, !bsw, n3, n4⟩ : Cls) with
  | false =>
    rw [hB] at HONE
    have HNO : Hid (∀ c', classB c' = true → clsT c' ≠ s) := Lib.hid (fun c' hc e => by rw [← HCC.out c' hc e, hB] at hc; cases hc)
    clear hB HCC
    go_upto_region 14 with (go_at_call 24; refine (HONE.out _).mono ?_; rintro e w1 ⟨rfl, d9, rfl⟩)
    clear xc0 xf0 xc1 xf1 xc2 xf2 xc3 xf3 xc4 xf4 xc5 xf5 xc6 xf6 xc7 xf7 xo
    have HR := Lib.hid (prow_up HR5.out (w' := U5.ext d9) (by repeat (first | with_reducible (first | exact World.gained_refl _ | exact ⟨_, rfl⟩ | apply gain_ext | apply gain_alloc | apply gain_drewN | apply gain_drew) | (refine gain_setCell ?_ (by first | exact Nat.le_refl _ | exact World.size_ext _ _ | (simp; done) | (simp; omega)) _))))
    have HG := Lib.hid (gain_trans HG5.out (w' := U5.ext d9) (by repeat (first | with_reducible (first | exact World.gained_refl _ | exact ⟨_, rfl⟩ | apply gain_ext | apply gain_alloc | apply gain_drewN | apply gain_drew) | (refine gain_setCell ?_ (by first | exact Nat.le_refl _ | exact World.size_ext _ _ | (simp; done) | (simp; omega)) _))))
    generalize U5.ext d9 = V at HR HG ⊢
    have yc0 : V.cell? ⟨w.heap.size, 0, none⟩ = some (.int .i64 0) := World.cell_of_heap HR.out 0
    have yf0 : V.frozen? ⟨w.heap.size, 0, none⟩ = false := World.free_of_heap HR.out 0
    have yc1 : V.cell? ⟨w.heap.size, 1, none⟩ = some (.string ⟨#[]⟩) := World.cell_of_heap HR.out 1
    have yf1 : V.frozen? ⟨w.heap.size, 1, none⟩ = false := World.free_of_heap HR.out 1
    have yc2 : V.cell? ⟨w.heap.size, 2, none⟩ = some (.int .i64 0) := World.cell_of_heap HR.out 2
    have yf2 : V.frozen? ⟨w.heap.size, 2, none⟩ = false := World.free_of_heap HR.out 2
    have yc3 : V.cell? ⟨w.heap.size, 3, none⟩ = some (.int .i64 0) := World.cell_of_heap HR.out 3
    have yf3 : V.frozen? ⟨w.heap.size, 3, none⟩ = false := World.free_of_heap HR.out 3
    have yc4 : V.cell? ⟨w.heap.size, 4, none⟩ = some (.bool false) := World.cell_of_heap HR.out 4
    have yf4 : V.frozen? ⟨w.heap.size, 4, none⟩ = false := World.free_of_heap HR.out 4
    have yc5 : V.cell? ⟨w.heap.size, 5, none⟩ = some (.bool false) := World.cell_of_heap HR.out 5
    have yf5 : V.frozen? ⟨w.heap.size, 5, none⟩ = false := World.free_of_heap HR.out 5
    have yc6 : V.cell? ⟨w.heap.size, 6, none⟩ = some (.int .i64 0) := World.cell_of_heap HR.out 6
    have yf6 : V.frozen? ⟨w.heap.size, 6, none⟩ = false := World.free_of_heap HR.out 6
    have yc7 : V.cell? ⟨w.heap.size, 7, none⟩ = some (.int .i64 0) := World.cell_of_heap HR.out 7
    have yf7 : V.frozen? ⟨w.heap.size, 7, none⟩ = false := World.free_of_heap HR.out 7
    have yo := World.oldB_of_cell yc0
    have zw0 := World.heap_setCell_row HR.out 0 (.int .i64 0)
    simp only [List.setIfInBounds_toArray, List.set_cons_zero, List.set_cons_succ] at zw0
    have zg0 : (V.setCell ⟨w.heap.size, 0, none⟩ (.int .i64 0)).cell? ⟨w.heap.size, 0, none⟩ = some (.int .i64 0) := World.cell_of_heap zw0 0
    have zw1 := World.heap_setCell_row zw0 1 (.string ⟨#[]⟩)
    simp only [List.setIfInBounds_toArray, List.set_cons_zero, List.set_cons_succ] at zw1
    have zg1 : ((V.setCell ⟨w.heap.size, 0, none⟩ (.int .i64 0)).setCell ⟨w.heap.size, 1, none⟩ (.string ⟨#[]⟩)).cell? ⟨w.heap.size, 1, none⟩ = some (.string ⟨#[]⟩) := World.cell_of_heap zw1 1
    have zw2 := World.heap_setCell_row zw1 2 (.int .i64 0)
    simp only [List.setIfInBounds_toArray, List.set_cons_zero, List.set_cons_succ] at zw2
    have zg2 : (((V.setCell ⟨w.heap.size, 0, none⟩ (.int .i64 0)).setCell ⟨w.heap.size, 1, none⟩ (.string ⟨#[]⟩)).setCell ⟨w.heap.size, 2, none⟩ (.int .i64 0)).cell? ⟨w.heap.size, 2, none⟩ = some (.int .i64 0) := World.cell_of_heap zw2 2
    have zw3 := World.heap_setCell_row zw2 3 (.int .i64 0)
    simp only [List.setIfInBounds_toArray, List.set_cons_zero, List.set_cons_succ] at zw3
    have zg3 : ((((V.setCell ⟨w.heap.size, 0, none⟩ (.int .i64 0)).setCell ⟨w.heap.size, 1, none⟩ (.string ⟨#[]⟩)).setCell ⟨w.heap.size, 2, none⟩ (.int .i64 0)).setCell ⟨w.heap.size, 3, none⟩ (.int .i64 0)).cell? ⟨w.heap.size, 3, none⟩ = some (.int .i64 0) := World.cell_of_heap zw3 3
    have zw4 := World.heap_setCell_row zw3 4 (.bool false)
    simp only [List.setIfInBounds_toArray, List.set_cons_zero, List.set_cons_succ] at zw4
    have zg4 : (((((V.setCell ⟨w.heap.size, 0, none⟩ (.int .i64 0)).setCell ⟨w.heap.size, 1, none⟩ (.string ⟨#[]⟩)).setCell ⟨w.heap.size, 2, none⟩ (.int .i64 0)).setCell ⟨w.heap.size, 3, none⟩ (.int .i64 0)).setCell ⟨w.heap.size, 4, none⟩ (.bool false)).cell? ⟨w.heap.size, 4, none⟩ = some (.bool false) := World.cell_of_heap zw4 4
    have zw5 := World.heap_setCell_row zw4 5 (.bool false)
    simp only [List.setIfInBounds_toArray, List.set_cons_zero, List.set_cons_succ] at zw5
    have zg5 : ((((((V.setCell ⟨w.heap.size, 0, none⟩ (.int .i64 0)).setCell ⟨w.heap.size, 1, none⟩ (.string ⟨#[]⟩)).setCell ⟨w.heap.size, 2, none⟩ (.int .i64 0)).setCell ⟨w.heap.size, 3, none⟩ (.int .i64 0)).setCell ⟨w.heap.size, 4, none⟩ (.bool false)).setCell ⟨w.heap.size, 5, none⟩ (.bool false)).cell? ⟨w.heap.size, 5, none⟩ = some (.bool false) := World.cell_of_heap zw5 5
    have zw6 := World.heap_setCell_row zw5 6 (.int .i64 0)
    simp only [List.setIfInBounds_toArray, List.set_cons_zero, List.set_cons_succ] at zw6
    have zg6 : (((((((V.setCell ⟨w.heap.size, 0, none⟩ (.int .i64 0)).setCell ⟨w.heap.size, 1, none⟩ (.string ⟨#[]⟩)).setCell ⟨w.heap.size, 2, none⟩ (.int .i64 0)).setCell ⟨w.heap.size, 3, none⟩ (.int .i64 0)).setCell ⟨w.heap.size, 4, none⟩ (.bool false)).setCell ⟨w.heap.size, 5, none⟩ (.bool false)).setCell ⟨w.heap.size, 6, none⟩ (.int .i64 0)).cell? ⟨w.heap.size, 6, none⟩ = some (.int .i64 0) := World.cell_of_heap zw6 6
    have zw7 := World.heap_setCell_row zw6 7 (.int .i64 0)
    simp only [List.setIfInBounds_toArray, List.set_cons_zero, List.set_cons_succ] at zw7
    have zg7 : ((((((((V.setCell ⟨w.heap.size, 0, none⟩ (.int .i64 0)).setCell ⟨w.heap.size, 1, none⟩ (.string ⟨#[]⟩)).setCell ⟨w.heap.size, 2, none⟩ (.int .i64 0)).setCell ⟨w.heap.size, 3, none⟩ (.int .i64 0)).setCell ⟨w.heap.size, 4, none⟩ (.bool false)).setCell ⟨w.heap.size, 5, none⟩ (.bool false)).setCell ⟨w.heap.size, 6, none⟩ (.int .i64 0)).setCell ⟨w.heap.size, 7, none⟩ (.int .i64 0)).cell? ⟨w.heap.size, 7, none⟩ = some (.int .i64 0) := World.cell_of_heap zw7 7
    clear zw0 zw1 zw2 zw3 zw4 zw5 zw6 zw7
    go_wp2_with fail
    refine bodyPost_ret (v := .tuple #[.agg #[.int .i64 0, .string ⟨#[]⟩, .int .i64 0, .int .i64 0, .bool false, .bool false, .int .i64 0, .int .i64 0], .bool false]) (by simp [results, Tryz.results11, go_sem, zg0, zg1, zg2, zg3, zg4, zg5, zg6, zg7]) rfl ?_
    exact ⟨zeroC, false, rfl, parsed_no HNO.out, (gain_setCell (gain_setCell (gain_setCell (gain_setCell (gain_setCell (gain_setCell (gain_setCell (gain_setCell HG.out (a := ⟨w.heap.size, 0, none⟩) (Nat.le_refl _) _) (a := ⟨w.heap.size, 1, none⟩) (Nat.le_refl _) _) (a := ⟨w.heap.size, 2, none⟩) (Nat.le_refl _) _) (a := ⟨w.heap.size, 3, none⟩) (Nat.le_refl _) _) (a := ⟨w.heap.size, 4, none⟩) (Nat.le_refl _) _) (a := ⟨w.heap.size, 5, none⟩) (Nat.le_refl _) _) (a := ⟨w.heap.size, 6, none⟩) (Nat.le_refl _) _) (a := ⟨w.heap.size, 7, none⟩) (Nat.le_refl _) _)⟩
  | true =>
  rw [hB] at HONE
  have HTX : Hid (∀ W : World, Calls Tryz.prog 25 #[.agg #[.int .i64 n0, .string w1, .int .i64 n1, .int .i64 n2, .bool (!bm), .bool (!bsw), .int .i64 n3, .int .i64 n4]] W fun x w' => x = .returned (.string (clsT (⟨n0, w1, n1, n2, !bm, !bsw, n3, n4⟩ : Cls))) ∧ ∃ d, w' = W.ext d) := Lib.hid (fun W => by
    obtain ⟨i, lo, hi, co, mo, e1, e2, e3, e4, e5, h1, h2, h3, h4, h5, h6⟩ := cls_nats hB
    simp only at e1 e2 e3 e4 e5
    rw [e1, e2, e3, e4, e5]
    exact l7Text_any i lo hi co mo w1 (!bm) (!bsw) W h1 h2 h3 h4 h5 hw1)
  have HBB := Lib.hid hB
  clear hB
  have hTz : (clsT (⟨n0, w1, n1, n2, !bm, !bsw, n3, n4⟩ : Cls)).size ≤ 60 := cls_size HBB.out
  generalize hT : clsT (⟨n0, w1, n1, n2, !bm, !bsw, n3, n4⟩ : Cls) = T at HTX hTz
  by_cases hTs : T = s
  · have hne : (T.toList == s.toList) = true := by rw [str_eq]; exact decide_eq_true hTs
    have HYS := Lib.hid (parsed_yes HBB.out (hT.trans hTs))
    clear hT hTs HCC HBB
    go_upto_region 15 with (first | (go_at_call 24; refine (HONE.out _).mono ?_; rintro e w1 ⟨rfl, d9, rfl⟩) | (go_at_call 25; refine (HTX.out _).mono ?_; rintro e w1 ⟨rfl, d10, rfl⟩))
    clear xc0 xf0 xc1 xf1 xc2 xf2 xc3 xf3 xc4 xf4 xc5 xf5 xc6 xf6 xc7 xf7 xo
    have HR := Lib.hid (prow_up HR5.out (w' := (U5.ext d9).ext d10) (by repeat (first | with_reducible (first | exact World.gained_refl _ | exact ⟨_, rfl⟩ | apply gain_ext | apply gain_alloc | apply gain_drewN | apply gain_drew) | (refine gain_setCell ?_ (by first | exact Nat.le_refl _ | exact World.size_ext _ _ | (simp; done) | (simp; omega)) _))))
    have HG := Lib.hid (gain_trans HG5.out (w' := (U5.ext d9).ext d10) (by repeat (first | with_reducible (first | exact World.gained_refl _ | exact ⟨_, rfl⟩ | apply gain_ext | apply gain_alloc | apply gain_drewN | apply gain_drew) | (refine gain_setCell ?_ (by first | exact Nat.le_refl _ | exact World.size_ext _ _ | (simp; done) | (simp; omega)) _))))
    have HBV := Lib.hid (prow_up HB.out (w' := (U5.ext d9).ext d10) (by repeat (first | with_reducible (first | exact World.gained_refl _ | exact ⟨_, rfl⟩ | apply gain_ext | apply gain_alloc | apply gain_drewN | apply gain_drew) | (refine gain_setCell ?_ (by first | exact Nat.le_refl _ | exact World.size_ext _ _ | (simp; done) | (simp; omega)) _))))
    generalize (U5.ext d9).ext d10 = V at HR HG HBV ⊢
    have xc0 : V.cell? ⟨gB, 0, none⟩ = some (.int .i64 n0) := World.cell_of_heap HBV.out 0
    have xf0 : V.frozen? ⟨gB, 0, none⟩ = false := World.free_of_heap HBV.out 0
    have xc1 : V.cell? ⟨gB, 1, none⟩ = some (.string w1) := World.cell_of_heap HBV.out 1
    have xf1 : V.frozen? ⟨gB, 1, none⟩ = false := World.free_of_heap HBV.out 1
    have xc2 : V.cell? ⟨gB, 2, none⟩ = some (.int .i64 n1) := World.cell_of_heap HBV.out 2
    have xf2 : V.frozen? ⟨gB, 2, none⟩ = false := World.free_of_heap HBV.out 2
    have xc3 : V.cell? ⟨gB, 3, none⟩ = some (.int .i64 n2) := World.cell_of_heap HBV.out 3
    have xf3 : V.frozen? ⟨gB, 3, none⟩ = false := World.free_of_heap HBV.out 3
    have xc4 : V.cell? ⟨gB, 4, none⟩ = some (.bool (!bm)) := World.cell_of_heap HBV.out 4
    have xf4 : V.frozen? ⟨gB, 4, none⟩ = false := World.free_of_heap HBV.out 4
    have xc5 : V.cell? ⟨gB, 5, none⟩ = some (.bool (!bsw)) := World.cell_of_heap HBV.out 5
    have xf5 : V.frozen? ⟨gB, 5, none⟩ = false := World.free_of_heap HBV.out 5
    have xc6 : V.cell? ⟨gB, 6, none⟩ = some (.int .i64 n3) := World.cell_of_heap HBV.out 6
    have xf6 : V.frozen? ⟨gB, 6, none⟩ = false := World.free_of_heap HBV.out 6
    have xc7 : V.cell? ⟨gB, 7, none⟩ = some (.int .i64 n4) := World.cell_of_heap HBV.out 7
    have xf7 : V.frozen? ⟨gB, 7, none⟩ = false := World.free_of_heap HBV.out 7
    have xo := World.oldB_of_cell xc0
    have yc0 : V.cell? ⟨w.heap.size, 0, none⟩ = some (.int .i64 0) := World.cell_of_heap HR.out 0
    have yf0 : V.frozen? ⟨w.heap.size, 0, none⟩ = false := World.free_of_heap HR.out 0
    have yc1 : V.cell? ⟨w.heap.size, 1, none⟩ = some (.string ⟨#[]⟩) := World.cell_of_heap HR.out 1
    have yf1 : V.frozen? ⟨w.heap.size, 1, none⟩ = false := World.free_of_heap HR.out 1
    have yc2 : V.cell? ⟨w.heap.size, 2, none⟩ = some (.int .i64 0) := World.cell_of_heap HR.out 2
    have yf2 : V.frozen? ⟨w.heap.size, 2, none⟩ = false := World.free_of_heap HR.out 2
    have yc3 : V.cell? ⟨w.heap.size, 3, none⟩ = some (.int .i64 0) := World.cell_of_heap HR.out 3
    have yf3 : V.frozen? ⟨w.heap.size, 3, none⟩ = false := World.free_of_heap HR.out 3
    have yc4 : V.cell? ⟨w.heap.size, 4, none⟩ = some (.bool false) := World.cell_of_heap HR.out 4
    have yf4 : V.frozen? ⟨w.heap.size, 4, none⟩ = false := World.free_of_heap HR.out 4
    have yc5 : V.cell? ⟨w.heap.size, 5, none⟩ = some (.bool false) := World.cell_of_heap HR.out 5
    have yf5 : V.frozen? ⟨w.heap.size, 5, none⟩ = false := World.free_of_heap HR.out 5
    have yc6 : V.cell? ⟨w.heap.size, 6, none⟩ = some (.int .i64 0) := World.cell_of_heap HR.out 6
    have yf6 : V.frozen? ⟨w.heap.size, 6, none⟩ = false := World.free_of_heap HR.out 6
    have yc7 : V.cell? ⟨w.heap.size, 7, none⟩ = some (.int .i64 0) := World.cell_of_heap HR.out 7
    have yf7 : V.frozen? ⟨w.heap.size, 7, none⟩ = false := World.free_of_heap HR.out 7
    have yo := World.oldB_of_cell yc0
    have zw0 := World.heap_setCell_row HR.out 0 (.int .i64 n0)
    simp only [List.setIfInBounds_toArray, List.set_cons_zero, List.set_cons_succ] at zw0
    have zg0 : (V.setCell ⟨w.heap.size, 0, none⟩ (.int .i64 n0)).cell? ⟨w.heap.size, 0, none⟩ = some (.int .i64 n0) := World.cell_of_heap zw0 0
    have zw1 := World.heap_setCell_row zw0 1 (.string w1)
    simp only [List.setIfInBounds_toArray, List.set_cons_zero, List.set_cons_succ] at zw1
    have zg1 : ((V.setCell ⟨w.heap.size, 0, none⟩ (.int .i64 n0)).setCell ⟨w.heap.size, 1, none⟩ (.string w1)).cell? ⟨w.heap.size, 1, none⟩ = some (.string w1) := World.cell_of_heap zw1 1
    have zw2 := World.heap_setCell_row zw1 2 (.int .i64 n1)
    simp only [List.setIfInBounds_toArray, List.set_cons_zero, List.set_cons_succ] at zw2
    have zg2 : (((V.setCell ⟨w.heap.size, 0, none⟩ (.int .i64 n0)).setCell ⟨w.heap.size, 1, none⟩ (.string w1)).setCell ⟨w.heap.size, 2, none⟩ (.int .i64 n1)).cell? ⟨w.heap.size, 2, none⟩ = some (.int .i64 n1) := World.cell_of_heap zw2 2
    have zw3 := World.heap_setCell_row zw2 3 (.int .i64 n2)
    simp only [List.setIfInBounds_toArray, List.set_cons_zero, List.set_cons_succ] at zw3
    have zg3 : ((((V.setCell ⟨w.heap.size, 0, none⟩ (.int .i64 n0)).setCell ⟨w.heap.size, 1, none⟩ (.string w1)).setCell ⟨w.heap.size, 2, none⟩ (.int .i64 n1)).setCell ⟨w.heap.size, 3, none⟩ (.int .i64 n2)).cell? ⟨w.heap.size, 3, none⟩ = some (.int .i64 n2) := World.cell_of_heap zw3 3
    have zw4 := World.heap_setCell_row zw3 4 (.bool (!bm))
    simp only [List.setIfInBounds_toArray, List.set_cons_zero, List.set_cons_succ] at zw4
    have zg4 : (((((V.setCell ⟨w.heap.size, 0, none⟩ (.int .i64 n0)).setCell ⟨w.heap.size, 1, none⟩ (.string w1)).setCell ⟨w.heap.size, 2, none⟩ (.int .i64 n1)).setCell ⟨w.heap.size, 3, none⟩ (.int .i64 n2)).setCell ⟨w.heap.size, 4, none⟩ (.bool (!bm))).cell? ⟨w.heap.size, 4, none⟩ = some (.bool (!bm)) := World.cell_of_heap zw4 4
    have zw5 := World.heap_setCell_row zw4 5 (.bool (!bsw))
    simp only [List.setIfInBounds_toArray, List.set_cons_zero, List.set_cons_succ] at zw5
    have zg5 : ((((((V.setCell ⟨w.heap.size, 0, none⟩ (.int .i64 n0)).setCell ⟨w.heap.size, 1, none⟩ (.string w1)).setCell ⟨w.heap.size, 2, none⟩ (.int .i64 n1)).setCell ⟨w.heap.size, 3, none⟩ (.int .i64 n2)).setCell ⟨w.heap.size, 4, none⟩ (.bool (!bm))).setCell ⟨w.heap.size, 5, none⟩ (.bool (!bsw))).cell? ⟨w.heap.size, 5, none⟩ = some (.bool (!bsw)) := World.cell_of_heap zw5 5
    have zw6 := World.heap_setCell_row zw5 6 (.int .i64 n3)
    simp only [List.setIfInBounds_toArray, List.set_cons_zero, List.set_cons_succ] at zw6
    have zg6 : (((((((V.setCell ⟨w.heap.size, 0, none⟩ (.int .i64 n0)).setCell ⟨w.heap.size, 1, none⟩ (.string w1)).setCell ⟨w.heap.size, 2, none⟩ (.int .i64 n1)).setCell ⟨w.heap.size, 3, none⟩ (.int .i64 n2)).setCell ⟨w.heap.size, 4, none⟩ (.bool (!bm))).setCell ⟨w.heap.size, 5, none⟩ (.bool (!bsw))).setCell ⟨w.heap.size, 6, none⟩ (.int .i64 n3)).cell? ⟨w.heap.size, 6, none⟩ = some (.int .i64 n3) := World.cell_of_heap zw6 6
    have zw7 := World.heap_setCell_row zw6 7 (.int .i64 n4)
    simp only [List.setIfInBounds_toArray, List.set_cons_zero, List.set_cons_succ] at zw7
    have zg7 : ((((((((V.setCell ⟨w.heap.size, 0, none⟩ (.int .i64 n0)).setCell ⟨w.heap.size, 1, none⟩ (.string w1)).setCell ⟨w.heap.size, 2, none⟩ (.int .i64 n1)).setCell ⟨w.heap.size, 3, none⟩ (.int .i64 n2)).setCell ⟨w.heap.size, 4, none⟩ (.bool (!bm))).setCell ⟨w.heap.size, 5, none⟩ (.bool (!bsw))).setCell ⟨w.heap.size, 6, none⟩ (.int .i64 n3)).setCell ⟨w.heap.size, 7, none⟩ (.int .i64 n4)).cell? ⟨w.heap.size, 7, none⟩ = some (.int .i64 n4) := World.cell_of_heap zw7 7
    clear zw0 zw1 zw2 zw3 zw4 zw5 zw6 zw7
    go_wp2_with fail
    refine bodyPost_ret (v := .tuple #[.agg #[.int .i64 n0, .string w1, .int .i64 n1, .int .i64 n2, .bool (!bm), .bool (!bsw), .int .i64 n3, .int .i64 n4], .bool true]) (by simp [results, Tryz.results11, go_sem, zg0, zg1, zg2, zg3, zg4, zg5, zg6, zg7]) rfl ?_
    exact ⟨_, true, rfl, HYS.out, (gain_setCell (gain_setCell (gain_setCell (gain_setCell (gain_setCell (gain_setCell (gain_setCell (gain_setCell HG.out (a := ⟨w.heap.size, 0, none⟩) (Nat.le_refl _) _) (a := ⟨w.heap.size, 1, none⟩) (Nat.le_refl _) _) (a := ⟨w.heap.size, 2, none⟩) (Nat.le_refl _) _) (a := ⟨w.heap.size, 3, none⟩) (Nat.le_refl _) _) (a := ⟨w.heap.size, 4, none⟩) (Nat.le_refl _) _) (a := ⟨w.heap.size, 5, none⟩) (Nat.le_refl _) _) (a := ⟨w.heap.size, 6, none⟩) (Nat.le_refl _) _) (a := ⟨w.heap.size, 7, none⟩) (Nat.le_refl _) _)⟩
  · have hne : (T.toList == s.toList) = false := by rw [str_eq]; exact decide_eq_false hTs
    have HNO : Hid (∀ c', classB c' = true → clsT c' ≠ s) := Lib.hid (fun c' hc e => by rw [← HCC.out c' hc e, hT] at e; exact hTs e)
    clear hT hTs HCC HBB
    go_upto_region 14 with (first | (go_at_call 24; refine (HONE.out _).mono ?_; rintro e w1 ⟨rfl, d9, rfl⟩) | (go_at_call 25; refine (HTX.out _).mono ?_; rintro e w1 ⟨rfl, d10, rfl⟩))
    clear xc0 xf0 xc1 xf1 xc2 xf2 xc3 xf3 xc4 xf4 xc5 xf5 xc6 xf6 xc7 xf7 xo
    have HR := Lib.hid (prow_up HR5.out (w' := (U5.ext d9).ext d10) (by repeat (first | with_reducible (first | exact World.gained_refl _ | exact ⟨_, rfl⟩ | apply gain_ext | apply gain_alloc | apply gain_drewN | apply gain_drew) | (refine gain_setCell ?_ (by first | exact Nat.le_refl _ | exact World.size_ext _ _ | (simp; done) | (simp; omega)) _))))
    have HG := Lib.hid (gain_trans HG5.out (w' := (U5.ext d9).ext d10) (by repeat (first | with_reducible (first | exact World.gained_refl _ | exact ⟨_, rfl⟩ | apply gain_ext | apply gain_alloc | apply gain_drewN | apply gain_drew) | (refine gain_setCell ?_ (by first | exact Nat.le_refl _ | exact World.size_ext _ _ | (simp; done) | (simp; omega)) _))))
    generalize (U5.ext d9).ext d10 = V at HR HG ⊢
    have yc0 : V.cell? ⟨w.heap.size, 0, none⟩ = some (.int .i64 0) := World.cell_of_heap HR.out 0
    have yf0 : V.frozen? ⟨w.heap.size, 0, none⟩ = false := World.free_of_heap HR.out 0
    have yc1 : V.cell? ⟨w.heap.size, 1, none⟩ = some (.string ⟨#[]⟩) := World.cell_of_heap HR.out 1
    have yf1 : V.frozen? ⟨w.heap.size, 1, none⟩ = false := World.free_of_heap HR.out 1
    have yc2 : V.cell? ⟨w.heap.size, 2, none⟩ = some (.int .i64 0) := World.cell_of_heap HR.out 2
    have yf2 : V.frozen? ⟨w.heap.size, 2, none⟩ = false := World.free_of_heap HR.out 2
    have yc3 : V.cell? ⟨w.heap.size, 3, none⟩ = some (.int .i64 0) := World.cell_of_heap HR.out 3
    have yf3 : V.frozen? ⟨w.heap.size, 3, none⟩ = false := World.free_of_heap HR.out 3
    have yc4 : V.cell? ⟨w.heap.size, 4, none⟩ = some (.bool false) := World.cell_of_heap HR.out 4
    have yf4 : V.frozen? ⟨w.heap.size, 4, none⟩ = false := World.free_of_heap HR.out 4
    have yc5 : V.cell? ⟨w.heap.size, 5, none⟩ = some (.bool false) := World.cell_of_heap HR.out 5
    have yf5 : V.frozen? ⟨w.heap.size, 5, none⟩ = false := World.free_of_heap HR.out 5
    have yc6 : V.cell? ⟨w.heap.size, 6, none⟩ = some (.int .i64 0) := World.cell_of_heap HR.out 6
    have yf6 : V.frozen? ⟨w.heap.size, 6, none⟩ = false := World.free_of_heap HR.out 6
    have yc7 : V.cell? ⟨w.heap.size, 7, none⟩ = some (.int .i64 0) := World.cell_of_heap HR.out 7
    have yf7 : V.frozen? ⟨w.heap.size, 7, none⟩ = false := World.free_of_heap HR.out 7
    have yo := World.oldB_of_cell yc0
    have zw0 := World.heap_setCell_row HR.out 0 (.int .i64 0)
    simp only [List.setIfInBounds_toArray, List.set_cons_zero, List.set_cons_succ] at zw0
    have zg0 : (V.setCell ⟨w.heap.size, 0, none⟩ (.int .i64 0)).cell? ⟨w.heap.size, 0, none⟩ = some (.int .i64 0) := World.cell_of_heap zw0 0
    have zw1 := World.heap_setCell_row zw0 1 (.string ⟨#[]⟩)
    simp only [List.setIfInBounds_toArray, List.set_cons_zero, List.set_cons_succ] at zw1
    have zg1 : ((V.setCell ⟨w.heap.size, 0, none⟩ (.int .i64 0)).setCell ⟨w.heap.size, 1, none⟩ (.string ⟨#[]⟩)).cell? ⟨w.heap.size, 1, none⟩ = some (.string ⟨#[]⟩) := World.cell_of_heap zw1 1
    have zw2 := World.heap_setCell_row zw1 2 (.int .i64 0)
    simp only [List.setIfInBounds_toArray, List.set_cons_zero, List.set_cons_succ] at zw2
    have zg2 : (((V.setCell ⟨w.heap.size, 0, none⟩ (.int .i64 0)).setCell ⟨w.heap.size, 1, none⟩ (.string ⟨#[]⟩)).setCell ⟨w.heap.size, 2, none⟩ (.int .i64 0)).cell? ⟨w.heap.size, 2, none⟩ = some (.int .i64 0) := World.cell_of_heap zw2 2
    have zw3 := World.heap_setCell_row zw2 3 (.int .i64 0)
    simp only [List.setIfInBounds_toArray, List.set_cons_zero, List.set_cons_succ] at zw3
    have zg3 : ((((V.setCell ⟨w.heap.size, 0, none⟩ (.int .i64 0)).setCell ⟨w.heap.size, 1, none⟩ (.string ⟨#[]⟩)).setCell ⟨w.heap.size, 2, none⟩ (.int .i64 0)).setCell ⟨w.heap.size, 3, none⟩ (.int .i64 0)).cell? ⟨w.heap.size, 3, none⟩ = some (.int .i64 0) := World.cell_of_heap zw3 3
    have zw4 := World.heap_setCell_row zw3 4 (.bool false)
    simp only [List.setIfInBounds_toArray, List.set_cons_zero, List.set_cons_succ] at zw4
    have zg4 : (((((V.setCell ⟨w.heap.size, 0, none⟩ (.int .i64 0)).setCell ⟨w.heap.size, 1, none⟩ (.string ⟨#[]⟩)).setCell ⟨w.heap.size, 2, none⟩ (.int .i64 0)).setCell ⟨w.heap.size, 3, none⟩ (.int .i64 0)).setCell ⟨w.heap.size, 4, none⟩ (.bool false)).cell? ⟨w.heap.size, 4, none⟩ = some (.bool false) := World.cell_of_heap zw4 4
    have zw5 := World.heap_setCell_row zw4 5 (.bool false)
    simp only [List.setIfInBounds_toArray, List.set_cons_zero, List.set_cons_succ] at zw5
    have zg5 : ((((((V.setCell ⟨w.heap.size, 0, none⟩ (.int .i64 0)).setCell ⟨w.heap.size, 1, none⟩ (.string ⟨#[]⟩)).setCell ⟨w.heap.size, 2, none⟩ (.int .i64 0)).setCell ⟨w.heap.size, 3, none⟩ (.int .i64 0)).setCell ⟨w.heap.size, 4, none⟩ (.bool false)).setCell ⟨w.heap.size, 5, none⟩ (.bool false)).cell? ⟨w.heap.size, 5, none⟩ = some (.bool false) := World.cell_of_heap zw5 5
    have zw6 := World.heap_setCell_row zw5 6 (.int .i64 0)
    simp only [List.setIfInBounds_toArray, List.set_cons_zero, List.set_cons_succ] at zw6
    have zg6 : (((((((V.setCell ⟨w.heap.size, 0, none⟩ (.int .i64 0)).setCell ⟨w.heap.size, 1, none⟩ (.string ⟨#[]⟩)).setCell ⟨w.heap.size, 2, none⟩ (.int .i64 0)).setCell ⟨w.heap.size, 3, none⟩ (.int .i64 0)).setCell ⟨w.heap.size, 4, none⟩ (.bool false)).setCell ⟨w.heap.size, 5, none⟩ (.bool false)).setCell ⟨w.heap.size, 6, none⟩ (.int .i64 0)).cell? ⟨w.heap.size, 6, none⟩ = some (.int .i64 0) := World.cell_of_heap zw6 6
    have zw7 := World.heap_setCell_row zw6 7 (.int .i64 0)
    simp only [List.setIfInBounds_toArray, List.set_cons_zero, List.set_cons_succ] at zw7
    have zg7 : ((((((((V.setCell ⟨w.heap.size, 0, none⟩ (.int .i64 0)).setCell ⟨w.heap.size, 1, none⟩ (.string ⟨#[]⟩)).setCell ⟨w.heap.size, 2, none⟩ (.int .i64 0)).setCell ⟨w.heap.size, 3, none⟩ (.int .i64 0)).setCell ⟨w.heap.size, 4, none⟩ (.bool false)).setCell ⟨w.heap.size, 5, none⟩ (.bool false)).setCell ⟨w.heap.size, 6, none⟩ (.int .i64 0)).setCell ⟨w.heap.size, 7, none⟩ (.int .i64 0)).cell? ⟨w.heap.size, 7, none⟩ = some (.int .i64 0) := World.cell_of_heap zw7 7
    clear zw0 zw1 zw2 zw3 zw4 zw5 zw6 zw7
    go_wp2_with fail
    refine bodyPost_ret (v := .tuple #[.agg #[.int .i64 0, .string ⟨#[]⟩, .int .i64 0, .int .i64 0, .bool false, .bool false, .int .i64 0, .int .i64 0], .bool false]) (by simp [results, Tryz.results11, go_sem, zg0, zg1, zg2, zg3, zg4, zg5, zg6, zg7]) rfl ?_
    exact ⟨zeroC, false, rfl, parsed_no HNO.out, (gain_setCell (gain_setCell (gain_setCell (gain_setCell (gain_setCell (gain_setCell (gain_setCell (gain_setCell HG.out (a := ⟨w.heap.size, 0, none⟩) (Nat.le_refl _) _) (a := ⟨w.heap.size, 1, none⟩) (Nat.le_refl _) _) (a := ⟨w.heap.size, 2, none⟩) (Nat.le_refl _) _) (a := ⟨w.heap.size, 3, none⟩) (Nat.le_refl _) _) (a := ⟨w.heap.size, 4, none⟩) (Nat.le_refl _) _) (a := ⟨w.heap.size, 5, none⟩) (Nat.le_refl _) _) (a := ⟨w.heap.size, 6, none⟩) (Nat.le_refl _) _) (a := ⟨w.heap.size, 7, none⟩) (Nat.le_refl _) _)⟩
end Go.Proofs.YtffkkchflohhaaaGreatDoor
