/- The draws of a class, of classes and a runner, of a class's text. Condition: at most 1048576 bytes. -/
import Derived.Test.YtffkkchflohhaaaGreatDoorDrawCls
import Derived.Test.YtffkkchflohhaaaGreatDoorDrawClss
import Derived.Test.YtffkkchflohhaaaGreatDoorDrawRun
import Derived.Test.YtffkkchflohhaaaGreatDoorCurN
import Derived.Test.YtffkkchflohhaaaGreatDoorParseS
import Derived.Test.YtffkkchflohhaaaGreatDoorTextS
namespace Go
open RowKit Go.Ori
theorem own_notd {α : Type} {w w' : World} {base g : Nat} {e : TypeId} {enc : α → List Value} {sz : Nat} {v : Value} {l : List α} (h : w.own base e enc sz v l) (hn : ∀ q, v.ownBlock = some q → q ≠ g) (hg : w.grownBy w' (some g)) : w'.own base e enc sz v l := by
  obtain ⟨h1, h2 | ⟨q, cap, cur, rfl, hb, hh, h3⟩⟩ := h
  · exact ⟨h1, .inl h2⟩
  · exact ⟨h1, .inr ⟨q, cap, cur, rfl, hb, (hg.block q (Array.getElem?_eq_some_iff.1 hh).1 (fun e => hn q rfl (Option.some.inj e))).trans hh, h3⟩⟩
end Go
namespace Go.Proofs.YtffkkchflohhaaaGreatDoor
open Go.RowKit Go.Ori
set_option maxHeartbeats 4000000 in
set_option maxRecDepth 100000 in
theorem drawIsClass_any (v : Value) (L : List Int) (w : World) (h : w.sl byteC 1 v L) (hq : ∀ x ∈ L, 0 ≤ x ∧ x ≤ 255) (hl : L.length ≤ 1048576) :
    Calls Tryz.prog 22 #[v] w fun x w' => ∃ c : Cls, x = .returned (.agg #[.int .i64 c.id, .string c.name, .int .i64 c.low, .int .i64 c.high, .bool c.women, .bool c.men, .int .i64 c.course, .int .i64 c.most]) ∧ c.name.size ≤ 1048576 ∧ ∃ d, w' = w.ext d := by
  have hs := Lib.hid h
  have HQ := Lib.hid hq
  obtain ⟨p, cp, rfl, _⟩ := h
  clear hq
  have HR00 := Lib.hid (heap_alloc_new w (.cells #[.int .i64 0, .string ⟨#[]⟩, .int .i64 0, .int .i64 0, .bool false, .bool false, .int .i64 0, .int .i64 0] 25))
  have HG0 : Hid (∃ d, w.alloc (.cells #[.int .i64 0, .string ⟨#[]⟩, .int .i64 0, .int .i64 0, .bool false, .bool false, .int .i64 0, .int .i64 0] 25) = w.ext d) := Lib.hid (by repeat (first | with_reducible (first | exact World.gained_refl _ | exact ⟨_, rfl⟩ | apply gain_ext | apply gain_alloc | apply gain_drewN | apply gain_drew) | (refine gain_setCell ?_ (by first | exact Nat.le_refl _ | exact World.size_ext _ _ | (simp; done) | (simp; omega)) _)))
  have hsz : (w.alloc (.cells #[.int .i64 0, .string ⟨#[]⟩, .int .i64 0, .int .i64 0, .bool false, .bool false, .int .i64 0, .int .i64 0] 25)).heap.size = w.heap.size + 1 := by simp only [World.size_alloc]
  have HCN := Lib.hid (cur_new (e := 62) (sl_up byteC_length hs.out HG0.out) HQ.out hl)
  go_enter Tryz.func22, Tryz.ntmps22
  go_wp2_with fail
  generalize hW1 : w.alloc (.cells #[.int .i64 0, .string ⟨#[]⟩, .int .i64 0, .int .i64 0, .bool false, .bool false, .int .i64 0, .int .i64 0] 25) = W1 at HG0 HCN hsz HR00 ⊢
  clear hW1
  rw [hsz] at HCN
  have hsc : (W1.alloc (.cells #[.slice p L.length cp, .int .i64 0, .int .u64 0] 62)).heap.size = w.heap.size + 2 := by rw [World.size_alloc, hsz]
  refine (among_any W1 _ (w.heap.size + 1) 0 _ [1, 42, 99] (w.heap.size + 2) (HCN.out.gain (by repeat (first | with_reducible (first | exact World.gained_refl _ | exact ⟨_, rfl⟩ | apply gain_ext | apply gain_alloc | apply gain_drewN | apply gain_drew) | (refine gain_setCell ?_ (by first | exact Nat.le_refl _ | exact World.size_ext _ _ | (simp; done) | (simp; omega)) _)))) (by omega) (own_lit' (w := (W1.alloc (.cells #[.slice p L.length cp, .int .i64 0, .int .u64 0] 62))) (e := 3) (base := w.heap.size + 2) (l := [1, 42, 99]) (C := #[.int .i64 1, .int .i64 42, .int .i64 99]) intC_length rfl (by first | rfl | omega) (Nat.le_of_eq hsc.symm)) (by omega) (by simp) (by simp)).mono ?_
  rintro e w2 ⟨q, rfl, hm, hc1, hg1⟩
  clear hm
  go_wp2_with fail
  refine (class_any W1 _ (w.heap.size + 1) _ q (hc1.gain (by repeat (first | with_reducible (first | exact World.gained_refl _ | exact ⟨_, rfl⟩ | apply gain_ext | apply gain_alloc | apply gain_drewN | apply gain_drew) | (refine gain_setCell ?_ (by first | exact Nat.le_refl _ | exact World.size_ext _ _ | (simp; done) | (simp; omega)) _)))) (by omega)).mono ?_
  rintro e w3 ⟨c, rfl, hz, hc2, hg2⟩
  have HR := Lib.hid (rowd_keep (rowd_up (rowd_keep (rowd_up HR00.out (w' := (W1.alloc (.cells #[.slice p L.length cp, .int .i64 0, .int .u64 0] 62)).alloc (.cells #[.int .i64 1, .int .i64 42, .int .i64 99] 3)) (by repeat (first | with_reducible (first | exact World.gained_refl _ | exact ⟨_, rfl⟩ | apply gain_ext | apply gain_alloc | apply gain_drewN | apply gain_drew) | (refine gain_setCell ?_ (by first | exact Nat.le_refl _ | exact World.size_ext _ _ | (simp; done) | (simp; omega)) _)))) hg1 (fun q e => by cases e; omega)) (by repeat (first | with_reducible (first | exact World.gained_refl _ | exact ⟨_, rfl⟩ | apply gain_ext | apply gain_alloc | apply gain_drewN | apply gain_drew) | (refine gain_setCell ?_ (by first | exact Nat.le_refl _ | exact World.size_ext _ _ | (simp; done) | (simp; omega)) _)))) hg2 (fun q e => by cases e; omega))
  have HG := Lib.hid (gain_trans HG0.out hc2.up)
  clear hc1 hg1 hc2 hg2 HR00 HCN HG0
  have yc0 : w3.cell? ⟨w.heap.size, 0, none⟩ = some (.int .i64 0) := World.cell_of_heap HR.out 0
  have yf0 : w3.frozen? ⟨w.heap.size, 0, none⟩ = false := World.free_of_heap HR.out 0
  have yc1 : w3.cell? ⟨w.heap.size, 1, none⟩ = some (.string ⟨#[]⟩) := World.cell_of_heap HR.out 1
  have yf1 : w3.frozen? ⟨w.heap.size, 1, none⟩ = false := World.free_of_heap HR.out 1
  have yc2 : w3.cell? ⟨w.heap.size, 2, none⟩ = some (.int .i64 0) := World.cell_of_heap HR.out 2
  have yf2 : w3.frozen? ⟨w.heap.size, 2, none⟩ = false := World.free_of_heap HR.out 2
  have yc3 : w3.cell? ⟨w.heap.size, 3, none⟩ = some (.int .i64 0) := World.cell_of_heap HR.out 3
  have yf3 : w3.frozen? ⟨w.heap.size, 3, none⟩ = false := World.free_of_heap HR.out 3
  have yc4 : w3.cell? ⟨w.heap.size, 4, none⟩ = some (.bool false) := World.cell_of_heap HR.out 4
  have yf4 : w3.frozen? ⟨w.heap.size, 4, none⟩ = false := World.free_of_heap HR.out 4
  have yc5 : w3.cell? ⟨w.heap.size, 5, none⟩ = some (.bool false) := World.cell_of_heap HR.out 5
  have yf5 : w3.frozen? ⟨w.heap.size, 5, none⟩ = false := World.free_of_heap HR.out 5
  have yc6 : w3.cell? ⟨w.heap.size, 6, none⟩ = some (.int .i64 0) := World.cell_of_heap HR.out 6
  have yf6 : w3.frozen? ⟨w.heap.size, 6, none⟩ = false := World.free_of_heap HR.out 6
  have yc7 : w3.cell? ⟨w.heap.size, 7, none⟩ = some (.int .i64 0) := World.cell_of_heap HR.out 7
  have yf7 : w3.frozen? ⟨w.heap.size, 7, none⟩ = false := World.free_of_heap HR.out 7
  have yo := World.oldB_of_cell yc0
  have zw0 := World.heap_setCell_row HR.out 0 (.int .i64 c.id)
  simp only [List.setIfInBounds_toArray, List.set_cons_zero, List.set_cons_succ] at zw0
  have zg0 : (w3.setCell ⟨w.heap.size, 0, none⟩ (.int .i64 c.id)).cell? ⟨w.heap.size, 0, none⟩ = some (.int .i64 c.id) := World.cell_of_heap zw0 0
  have zw1 := World.heap_setCell_row zw0 1 (.string c.name)
  simp only [List.setIfInBounds_toArray, List.set_cons_zero, List.set_cons_succ] at zw1
  have zg1 : ((w3.setCell ⟨w.heap.size, 0, none⟩ (.int .i64 c.id)).setCell ⟨w.heap.size, 1, none⟩ (.string c.name)).cell? ⟨w.heap.size, 1, none⟩ = some (.string c.name) := World.cell_of_heap zw1 1
  have zw2 := World.heap_setCell_row zw1 2 (.int .i64 c.low)
  simp only [List.setIfInBounds_toArray, List.set_cons_zero, List.set_cons_succ] at zw2
  have zg2 : (((w3.setCell ⟨w.heap.size, 0, none⟩ (.int .i64 c.id)).setCell ⟨w.heap.size, 1, none⟩ (.string c.name)).setCell ⟨w.heap.size, 2, none⟩ (.int .i64 c.low)).cell? ⟨w.heap.size, 2, none⟩ = some (.int .i64 c.low) := World.cell_of_heap zw2 2
  have zw3 := World.heap_setCell_row zw2 3 (.int .i64 c.high)
  simp only [List.setIfInBounds_toArray, List.set_cons_zero, List.set_cons_succ] at zw3
  have zg3 : ((((w3.setCell ⟨w.heap.size, 0, none⟩ (.int .i64 c.id)).setCell ⟨w.heap.size, 1, none⟩ (.string c.name)).setCell ⟨w.heap.size, 2, none⟩ (.int .i64 c.low)).setCell ⟨w.heap.size, 3, none⟩ (.int .i64 c.high)).cell? ⟨w.heap.size, 3, none⟩ = some (.int .i64 c.high) := World.cell_of_heap zw3 3
  have zw4 := World.heap_setCell_row zw3 4 (.bool c.women)
  simp only [List.setIfInBounds_toArray, List.set_cons_zero, List.set_cons_succ] at zw4
  have zg4 : (((((w3.setCell ⟨w.heap.size, 0, none⟩ (.int .i64 c.id)).setCell ⟨w.heap.size, 1, none⟩ (.string c.name)).setCell ⟨w.heap.size, 2, none⟩ (.int .i64 c.low)).setCell ⟨w.heap.size, 3, none⟩ (.int .i64 c.high)).setCell ⟨w.heap.size, 4, none⟩ (.bool c.women)).cell? ⟨w.heap.size, 4, none⟩ = some (.bool c.women) := World.cell_of_heap zw4 4
  have zw5 := World.heap_setCell_row zw4 5 (.bool c.men)
  simp only [List.setIfInBounds_toArray, List.set_cons_zero, List.set_cons_succ] at zw5
  have zg5 : ((((((w3.setCell ⟨w.heap.size, 0, none⟩ (.int .i64 c.id)).setCell ⟨w.heap.size, 1, none⟩ (.string c.name)).setCell ⟨w.heap.size, 2, none⟩ (.int .i64 c.low)).setCell ⟨w.heap.size, 3, none⟩ (.int .i64 c.high)).setCell ⟨w.heap.size, 4, none⟩ (.bool c.women)).setCell ⟨w.heap.size, 5, none⟩ (.bool c.men)).cell? ⟨w.heap.size, 5, none⟩ = some (.bool c.men) := World.cell_of_heap zw5 5
  have zw6 := World.heap_setCell_row zw5 6 (.int .i64 c.course)
  simp only [List.setIfInBounds_toArray, List.set_cons_zero, List.set_cons_succ] at zw6
  have zg6 : (((((((w3.setCell ⟨w.heap.size, 0, none⟩ (.int .i64 c.id)).setCell ⟨w.heap.size, 1, none⟩ (.string c.name)).setCell ⟨w.heap.size, 2, none⟩ (.int .i64 c.low)).setCell ⟨w.heap.size, 3, none⟩ (.int .i64 c.high)).setCell ⟨w.heap.size, 4, none⟩ (.bool c.women)).setCell ⟨w.heap.size, 5, none⟩ (.bool c.men)).setCell ⟨w.heap.size, 6, none⟩ (.int .i64 c.course)).cell? ⟨w.heap.size, 6, none⟩ = some (.int .i64 c.course) := World.cell_of_heap zw6 6
  have zw7 := World.heap_setCell_row zw6 7 (.int .i64 c.most)
  simp only [List.setIfInBounds_toArray, List.set_cons_zero, List.set_cons_succ] at zw7
  have zg7 : ((((((((w3.setCell ⟨w.heap.size, 0, none⟩ (.int .i64 c.id)).setCell ⟨w.heap.size, 1, none⟩ (.string c.name)).setCell ⟨w.heap.size, 2, none⟩ (.int .i64 c.low)).setCell ⟨w.heap.size, 3, none⟩ (.int .i64 c.high)).setCell ⟨w.heap.size, 4, none⟩ (.bool c.women)).setCell ⟨w.heap.size, 5, none⟩ (.bool c.men)).setCell ⟨w.heap.size, 6, none⟩ (.int .i64 c.course)).setCell ⟨w.heap.size, 7, none⟩ (.int .i64 c.most)).cell? ⟨w.heap.size, 7, none⟩ = some (.int .i64 c.most) := World.cell_of_heap zw7 7
  clear zw0 zw1 zw2 zw3 zw4 zw5 zw6 zw7
  go_wp2_with fail
  refine bodyPost_ret (v := .agg #[.int .i64 c.id, .string c.name, .int .i64 c.low, .int .i64 c.high, .bool c.women, .bool c.men, .int .i64 c.course, .int .i64 c.most]) (by simp [results, Tryz.results22, go_sem, zg0, zg1, zg2, zg3, zg4, zg5, zg6, zg7]) rfl ?_
  exact ⟨c, rfl, hz, (gain_setCell (gain_setCell (gain_setCell (gain_setCell (gain_setCell (gain_setCell (gain_setCell (gain_setCell HG.out (a := ⟨w.heap.size, 0, none⟩) (Nat.le_refl _) _) (a := ⟨w.heap.size, 1, none⟩) (Nat.le_refl _) _) (a := ⟨w.heap.size, 2, none⟩) (Nat.le_refl _) _) (a := ⟨w.heap.size, 3, none⟩) (Nat.le_refl _) _) (a := ⟨w.heap.size, 4, none⟩) (Nat.le_refl _) _) (a := ⟨w.heap.size, 5, none⟩) (Nat.le_refl _) _) (a := ⟨w.heap.size, 6, none⟩) (Nat.le_refl _) _) (a := ⟨w.heap.size, 7, none⟩) (Nat.le_refl _) _)⟩
set_option maxHeartbeats 4000000 in
set_option maxRecDepth 100000 in
theorem drawClassText_any (v : Value) (L : List Int) (w : World) (h : w.sl byteC 1 v L) (hq : ∀ x ∈ L, 0 ≤ x ∧ x ≤ 255) (hl : L.length ≤ 1048576) :
    Calls Tryz.prog 5 #[v] w fun x w' => ∃ c : Cls, x = .returned (.agg #[.int .i64 c.id, .string c.name, .int .i64 c.low, .int .i64 c.high, .bool c.women, .bool c.men, .int .i64 c.course, .int .i64 c.most]) ∧ c.name.size ≤ 1048576 ∧ ∃ d, w' = w.ext d := by
  have hs := Lib.hid h
  have HQ := Lib.hid hq
  obtain ⟨p, cp, rfl, _⟩ := h
  clear hq
  have HR00 := Lib.hid (heap_alloc_new w (.cells #[.int .i64 0, .string ⟨#[]⟩, .int .i64 0, .int .i64 0, .bool false, .bool false, .int .i64 0, .int .i64 0] 25))
  have HG0 : Hid (∃ d, w.alloc (.cells #[.int .i64 0, .string ⟨#[]⟩, .int .i64 0, .int .i64 0, .bool false, .bool false, .int .i64 0, .int .i64 0] 25) = w.ext d) := Lib.hid (by repeat (first | with_reducible (first | exact World.gained_refl _ | exact ⟨_, rfl⟩ | apply gain_ext | apply gain_alloc | apply gain_drewN | apply gain_drew) | (refine gain_setCell ?_ (by first | exact Nat.le_refl _ | exact World.size_ext _ _ | (simp; done) | (simp; omega)) _)))
  have hsz : (w.alloc (.cells #[.int .i64 0, .string ⟨#[]⟩, .int .i64 0, .int .i64 0, .bool false, .bool false, .int .i64 0, .int .i64 0] 25)).heap.size = w.heap.size + 1 := by simp only [World.size_alloc]
  go_enter Tryz.func5, Tryz.ntmps5
  go_wp2_with fail
  generalize hW1 : w.alloc (.cells #[.int .i64 0, .string ⟨#[]⟩, .int .i64 0, .int .i64 0, .bool false, .bool false, .int .i64 0, .int .i64 0] 25) = W1 at HG0 HR00 hsz ⊢
  clear hW1
  refine (drawIsClass_any _ L _ (sl_up byteC_length hs.out HG0.out) HQ.out hl).mono ?_
  rintro e w3 ⟨c, rfl, hz, hg⟩
  have HR := Lib.hid (rowd_up HR00.out hg)
  have HG := Lib.hid (gain_trans HG0.out hg)
  clear HR00 HG0 hg
  have yc0 : w3.cell? ⟨w.heap.size, 0, none⟩ = some (.int .i64 0) := World.cell_of_heap HR.out 0
  have yf0 : w3.frozen? ⟨w.heap.size, 0, none⟩ = false := World.free_of_heap HR.out 0
  have yc1 : w3.cell? ⟨w.heap.size, 1, none⟩ = some (.string ⟨#[]⟩) := World.cell_of_heap HR.out 1
  have yf1 : w3.frozen? ⟨w.heap.size, 1, none⟩ = false := World.free_of_heap HR.out 1
  have yc2 : w3.cell? ⟨w.heap.size, 2, none⟩ = some (.int .i64 0) := World.cell_of_heap HR.out 2
  have yf2 : w3.frozen? ⟨w.heap.size, 2, none⟩ = false := World.free_of_heap HR.out 2
  have yc3 : w3.cell? ⟨w.heap.size, 3, none⟩ = some (.int .i64 0) := World.cell_of_heap HR.out 3
  have yf3 : w3.frozen? ⟨w.heap.size, 3, none⟩ = false := World.free_of_heap HR.out 3
  have yc4 : w3.cell? ⟨w.heap.size, 4, none⟩ = some (.bool false) := World.cell_of_heap HR.out 4
  have yf4 : w3.frozen? ⟨w.heap.size, 4, none⟩ = false := World.free_of_heap HR.out 4
  have yc5 : w3.cell? ⟨w.heap.size, 5, none⟩ = some (.bool false) := World.cell_of_heap HR.out 5
  have yf5 : w3.frozen? ⟨w.heap.size, 5, none⟩ = false := World.free_of_heap HR.out 5
  have yc6 : w3.cell? ⟨w.heap.size, 6, none⟩ = some (.int .i64 0) := World.cell_of_heap HR.out 6
  have yf6 : w3.frozen? ⟨w.heap.size, 6, none⟩ = false := World.free_of_heap HR.out 6
  have yc7 : w3.cell? ⟨w.heap.size, 7, none⟩ = some (.int .i64 0) := World.cell_of_heap HR.out 7
  have yf7 : w3.frozen? ⟨w.heap.size, 7, none⟩ = false := World.free_of_heap HR.out 7
  have yo := World.oldB_of_cell yc0
  have zw0 := World.heap_setCell_row HR.out 0 (.int .i64 c.id)
  simp only [List.setIfInBounds_toArray, List.set_cons_zero, List.set_cons_succ] at zw0
  have zg0 : (w3.setCell ⟨w.heap.size, 0, none⟩ (.int .i64 c.id)).cell? ⟨w.heap.size, 0, none⟩ = some (.int .i64 c.id) := World.cell_of_heap zw0 0
  have zw1 := World.heap_setCell_row zw0 1 (.string c.name)
  simp only [List.setIfInBounds_toArray, List.set_cons_zero, List.set_cons_succ] at zw1
  have zg1 : ((w3.setCell ⟨w.heap.size, 0, none⟩ (.int .i64 c.id)).setCell ⟨w.heap.size, 1, none⟩ (.string c.name)).cell? ⟨w.heap.size, 1, none⟩ = some (.string c.name) := World.cell_of_heap zw1 1
  have zw2 := World.heap_setCell_row zw1 2 (.int .i64 c.low)
  simp only [List.setIfInBounds_toArray, List.set_cons_zero, List.set_cons_succ] at zw2
  have zg2 : (((w3.setCell ⟨w.heap.size, 0, none⟩ (.int .i64 c.id)).setCell ⟨w.heap.size, 1, none⟩ (.string c.name)).setCell ⟨w.heap.size, 2, none⟩ (.int .i64 c.low)).cell? ⟨w.heap.size, 2, none⟩ = some (.int .i64 c.low) := World.cell_of_heap zw2 2
  have zw3 := World.heap_setCell_row zw2 3 (.int .i64 c.high)
  simp only [List.setIfInBounds_toArray, List.set_cons_zero, List.set_cons_succ] at zw3
  have zg3 : ((((w3.setCell ⟨w.heap.size, 0, none⟩ (.int .i64 c.id)).setCell ⟨w.heap.size, 1, none⟩ (.string c.name)).setCell ⟨w.heap.size, 2, none⟩ (.int .i64 c.low)).setCell ⟨w.heap.size, 3, none⟩ (.int .i64 c.high)).cell? ⟨w.heap.size, 3, none⟩ = some (.int .i64 c.high) := World.cell_of_heap zw3 3
  have zw4 := World.heap_setCell_row zw3 4 (.bool c.women)
  simp only [List.setIfInBounds_toArray, List.set_cons_zero, List.set_cons_succ] at zw4
  have zg4 : (((((w3.setCell ⟨w.heap.size, 0, none⟩ (.int .i64 c.id)).setCell ⟨w.heap.size, 1, none⟩ (.string c.name)).setCell ⟨w.heap.size, 2, none⟩ (.int .i64 c.low)).setCell ⟨w.heap.size, 3, none⟩ (.int .i64 c.high)).setCell ⟨w.heap.size, 4, none⟩ (.bool c.women)).cell? ⟨w.heap.size, 4, none⟩ = some (.bool c.women) := World.cell_of_heap zw4 4
  have zw5 := World.heap_setCell_row zw4 5 (.bool c.men)
  simp only [List.setIfInBounds_toArray, List.set_cons_zero, List.set_cons_succ] at zw5
  have zg5 : ((((((w3.setCell ⟨w.heap.size, 0, none⟩ (.int .i64 c.id)).setCell ⟨w.heap.size, 1, none⟩ (.string c.name)).setCell ⟨w.heap.size, 2, none⟩ (.int .i64 c.low)).setCell ⟨w.heap.size, 3, none⟩ (.int .i64 c.high)).setCell ⟨w.heap.size, 4, none⟩ (.bool c.women)).setCell ⟨w.heap.size, 5, none⟩ (.bool c.men)).cell? ⟨w.heap.size, 5, none⟩ = some (.bool c.men) := World.cell_of_heap zw5 5
  have zw6 := World.heap_setCell_row zw5 6 (.int .i64 c.course)
  simp only [List.setIfInBounds_toArray, List.set_cons_zero, List.set_cons_succ] at zw6
  have zg6 : (((((((w3.setCell ⟨w.heap.size, 0, none⟩ (.int .i64 c.id)).setCell ⟨w.heap.size, 1, none⟩ (.string c.name)).setCell ⟨w.heap.size, 2, none⟩ (.int .i64 c.low)).setCell ⟨w.heap.size, 3, none⟩ (.int .i64 c.high)).setCell ⟨w.heap.size, 4, none⟩ (.bool c.women)).setCell ⟨w.heap.size, 5, none⟩ (.bool c.men)).setCell ⟨w.heap.size, 6, none⟩ (.int .i64 c.course)).cell? ⟨w.heap.size, 6, none⟩ = some (.int .i64 c.course) := World.cell_of_heap zw6 6
  have zw7 := World.heap_setCell_row zw6 7 (.int .i64 c.most)
  simp only [List.setIfInBounds_toArray, List.set_cons_zero, List.set_cons_succ] at zw7
  have zg7 : ((((((((w3.setCell ⟨w.heap.size, 0, none⟩ (.int .i64 c.id)).setCell ⟨w.heap.size, 1, none⟩ (.string c.name)).setCell ⟨w.heap.size, 2, none⟩ (.int .i64 c.low)).setCell ⟨w.heap.size, 3, none⟩ (.int .i64 c.high)).setCell ⟨w.heap.size, 4, none⟩ (.bool c.women)).setCell ⟨w.heap.size, 5, none⟩ (.bool c.men)).setCell ⟨w.heap.size, 6, none⟩ (.int .i64 c.course)).setCell ⟨w.heap.size, 7, none⟩ (.int .i64 c.most)).cell? ⟨w.heap.size, 7, none⟩ = some (.int .i64 c.most) := World.cell_of_heap zw7 7
  clear zw0 zw1 zw2 zw3 zw4 zw5 zw6 zw7
  go_wp2_with fail
  refine bodyPost_ret (v := .agg #[.int .i64 c.id, .string c.name, .int .i64 c.low, .int .i64 c.high, .bool c.women, .bool c.men, .int .i64 c.course, .int .i64 c.most]) (by simp [results, Tryz.results5, go_sem, zg0, zg1, zg2, zg3, zg4, zg5, zg6, zg7]) rfl ?_
  exact ⟨c, rfl, hz, (gain_setCell (gain_setCell (gain_setCell (gain_setCell (gain_setCell (gain_setCell (gain_setCell (gain_setCell HG.out (a := ⟨w.heap.size, 0, none⟩) (Nat.le_refl _) _) (a := ⟨w.heap.size, 1, none⟩) (Nat.le_refl _) _) (a := ⟨w.heap.size, 2, none⟩) (Nat.le_refl _) _) (a := ⟨w.heap.size, 3, none⟩) (Nat.le_refl _) _) (a := ⟨w.heap.size, 4, none⟩) (Nat.le_refl _) _) (a := ⟨w.heap.size, 5, none⟩) (Nat.le_refl _) _) (a := ⟨w.heap.size, 6, none⟩) (Nat.le_refl _) _) (a := ⟨w.heap.size, 7, none⟩) (Nat.le_refl _) _)⟩
set_option maxHeartbeats 4000000 in
set_option maxRecDepth 100000 in
theorem drawDoesAdmit_any (v : Value) (L : List Int) (w : World) (h : w.sl byteC 1 v L) (hq : ∀ x ∈ L, 0 ≤ x ∧ x ≤ 255) (hl : L.length ≤ 1048576) :
    Calls Tryz.prog 20 #[v] w fun x w' => ∃ (c : Cls) (r : Runner), x = .returned (.tuple #[.agg #[.int .i64 c.id, .string c.name, .int .i64 c.low, .int .i64 c.high, .bool c.women, .bool c.men, .int .i64 c.course, .int .i64 c.most], .agg #[.int .i64 r.id, .string r.name, .string r.club, .int .i64 r.born, .bool r.woman, .int .i64 r.card]]) ∧ c.name.size ≤ 1048576 ∧ r.name.size ≤ 1048576 ∧ r.club.size ≤ 1048576 ∧ ∃ d, w' = w.ext d := by
  have hs := Lib.hid h
  have HQ := Lib.hid hq
  obtain ⟨p, cp, rfl, _⟩ := h
  clear hq
  have HR00 := Lib.hid (heap_alloc_new w (.cells #[.int .i64 0, .string ⟨#[]⟩, .int .i64 0, .int .i64 0, .bool false, .bool false, .int .i64 0, .int .i64 0] 25))
  have HR10 := Lib.hid (heap_alloc_new (w.alloc (.cells #[.int .i64 0, .string ⟨#[]⟩, .int .i64 0, .int .i64 0, .bool false, .bool false, .int .i64 0, .int .i64 0] 25)) (.cells #[.int .i64 0, .string ⟨#[]⟩, .string ⟨#[]⟩, .int .i64 0, .bool false, .int .i64 0] 35))
  have HG0 : Hid (∃ d, (w.alloc (.cells #[.int .i64 0, .string ⟨#[]⟩, .int .i64 0, .int .i64 0, .bool false, .bool false, .int .i64 0, .int .i64 0] 25)).alloc (.cells #[.int .i64 0, .string ⟨#[]⟩, .string ⟨#[]⟩, .int .i64 0, .bool false, .int .i64 0] 35) = w.ext d) := Lib.hid (by repeat (first | with_reducible (first | exact World.gained_refl _ | exact ⟨_, rfl⟩ | apply gain_ext | apply gain_alloc | apply gain_drewN | apply gain_drew) | (refine gain_setCell ?_ (by first | exact Nat.le_refl _ | exact World.size_ext _ _ | (simp; done) | (simp; omega)) _)))
  have hsz : ((w.alloc (.cells #[.int .i64 0, .string ⟨#[]⟩, .int .i64 0, .int .i64 0, .bool false, .bool false, .int .i64 0, .int .i64 0] 25)).alloc (.cells #[.int .i64 0, .string ⟨#[]⟩, .string ⟨#[]⟩, .int .i64 0, .bool false, .int .i64 0] 35)).heap.size = w.heap.size + 2 := by simp only [World.size_alloc]
  have HR0x := Lib.hid (rowd_up HR00.out (w' := (w.alloc (.cells #[.int .i64 0, .string ⟨#[]⟩, .int .i64 0, .int .i64 0, .bool false, .bool false, .int .i64 0, .int .i64 0] 25)).alloc (.cells #[.int .i64 0, .string ⟨#[]⟩, .string ⟨#[]⟩, .int .i64 0, .bool false, .int .i64 0] 35)) (by repeat (first | with_reducible (first | exact World.gained_refl _ | exact ⟨_, rfl⟩ | apply gain_ext | apply gain_alloc | apply gain_drewN | apply gain_drew) | (refine gain_setCell ?_ (by first | exact Nat.le_refl _ | exact World.size_ext _ _ | (simp; done) | (simp; omega)) _))))
  have HCN := Lib.hid (cur_new (e := 62) (sl_up byteC_length hs.out HG0.out) HQ.out hl)
  go_enter Tryz.func20, Tryz.ntmps20
  go_wp2_with fail
  generalize hW1 : (w.alloc (.cells #[.int .i64 0, .string ⟨#[]⟩, .int .i64 0, .int .i64 0, .bool false, .bool false, .int .i64 0, .int .i64 0] 25)).alloc (.cells #[.int .i64 0, .string ⟨#[]⟩, .string ⟨#[]⟩, .int .i64 0, .bool false, .int .i64 0] 35) = W1 at HG0 HCN hsz HR0x HR10 ⊢
  clear hW1
  rw [hsz] at HCN
  have hs1 : (w.alloc (.cells #[.int .i64 0, .string ⟨#[]⟩, .int .i64 0, .int .i64 0, .bool false, .bool false, .int .i64 0, .int .i64 0] 25)).heap.size = w.heap.size + 1 := World.size_alloc _ _
  rw [hs1] at HR10
  refine (class_any W1 _ (w.heap.size + 2) _ 3 (HCN.out.gain (by repeat (first | with_reducible (first | exact World.gained_refl _ | exact ⟨_, rfl⟩ | apply gain_ext | apply gain_alloc | apply gain_drewN | apply gain_drew) | (refine gain_setCell ?_ (by first | exact Nat.le_refl _ | exact World.size_ext _ _ | (simp; done) | (simp; omega)) _)))) (by omega)).mono ?_
  rintro e w3 ⟨c, rfl, hz, hc2, hg2⟩
  have HR3 := Lib.hid (rowd_keep (rowd_up HR0x.out (by repeat (first | with_reducible (first | exact World.gained_refl _ | exact ⟨_, rfl⟩ | apply gain_ext | apply gain_alloc | apply gain_drewN | apply gain_drew) | (refine gain_setCell ?_ (by first | exact Nat.le_refl _ | exact World.size_ext _ _ | (simp; done) | (simp; omega)) _)))) hg2 (fun q e => by cases e; omega))
  have HS3 := Lib.hid (rowd_keep (rowd_up HR10.out (by repeat (first | with_reducible (first | exact World.gained_refl _ | exact ⟨_, rfl⟩ | apply gain_ext | apply gain_alloc | apply gain_drewN | apply gain_drew) | (refine gain_setCell ?_ (by first | exact Nat.le_refl _ | exact World.size_ext _ _ | (simp; done) | (simp; omega)) _)))) hg2 (fun q e => by cases e; omega))
  have hlt3 : w.heap.size + 1 < w3.heap.size := (Array.getElem?_eq_some_iff.1 HS3.out).1
  have hlg := hc2.lt
  clear hg2 HR0x HR10
  go_upto_region 3 with fail
  have HB : Hid ((w3.alloc (.cells #[.int .i64 c.id, .string c.name, .int .i64 c.low, .int .i64 c.high, .bool c.women, .bool c.men, .int .i64 c.course, .int .i64 c.most] 25)).heap[w3.heap.size]? = some (.cells #[.int .i64 c.id, .string c.name, .int .i64 c.low, .int .i64 c.high, .bool c.women, .bool c.men, .int .i64 c.course, .int .i64 c.most] 25 (0, 0))) := Lib.hid (heap_alloc_new w3 _)
  have HC := Lib.hid (hc2.gain (w' := (w3.alloc (.cells #[.int .i64 c.id, .string c.name, .int .i64 c.low, .int .i64 c.high, .bool c.women, .bool c.men, .int .i64 c.course, .int .i64 c.most] 25))) (by repeat (first | with_reducible (first | exact World.gained_refl _ | exact ⟨_, rfl⟩ | apply gain_ext | apply gain_alloc | apply gain_drewN | apply gain_drew) | (refine gain_setCell ?_ (by first | exact Nat.le_refl _ | exact World.size_ext _ _ | (simp; done) | (simp; omega)) _))))
  have HR4 := Lib.hid (rowd_up HR3.out (w' := (w3.alloc (.cells #[.int .i64 c.id, .string c.name, .int .i64 c.low, .int .i64 c.high, .bool c.women, .bool c.men, .int .i64 c.course, .int .i64 c.most] 25))) (by repeat (first | with_reducible (first | exact World.gained_refl _ | exact ⟨_, rfl⟩ | apply gain_ext | apply gain_alloc | apply gain_drewN | apply gain_drew) | (refine gain_setCell ?_ (by first | exact Nat.le_refl _ | exact World.size_ext _ _ | (simp; done) | (simp; omega)) _))))
  have HS4 := Lib.hid (rowd_up HS3.out (w' := (w3.alloc (.cells #[.int .i64 c.id, .string c.name, .int .i64 c.low, .int .i64 c.high, .bool c.women, .bool c.men, .int .i64 c.course, .int .i64 c.most] 25))) (by repeat (first | with_reducible (first | exact World.gained_refl _ | exact ⟨_, rfl⟩ | apply gain_ext | apply gain_alloc | apply gain_drewN | apply gain_drew) | (refine gain_setCell ?_ (by first | exact Nat.le_refl _ | exact World.size_ext _ _ | (simp; done) | (simp; omega)) _))))
  generalize (w3.alloc (.cells #[.int .i64 c.id, .string c.name, .int .i64 c.low, .int .i64 c.high, .bool c.women, .bool c.men, .int .i64 c.course, .int .i64 c.most] 25)) = w4 at HB HC HR4 HS4 ⊢
  clear hc2 HR3 HS3
  generalize w3.heap.size = gB at HB hlt3 hlg ⊢
  refine wp_region_held_drew (S := (fun w' => w'.cell? ⟨gB, 0, none⟩ = some (.int .i64 c.id) ∧ w'.cell? ⟨gB, 1, none⟩ = some (.string c.name) ∧ w'.cell? ⟨gB, 2, none⟩ = some (.int .i64 c.low) ∧ w'.cell? ⟨gB, 3, none⟩ = some (.int .i64 c.high) ∧ w'.cell? ⟨gB, 4, none⟩ = some (.bool c.women) ∧ w'.cell? ⟨gB, 5, none⟩ = some (.bool c.men) ∧ w'.cell? ⟨gB, 6, none⟩ = some (.int .i64 c.course) ∧ w'.cell? ⟨gB, 7, none⟩ = some (.int .i64 c.most))) (by kernel_rfl) ⟨World.cell_of_heap HB.out 0, World.cell_of_heap HB.out 1, World.cell_of_heap HB.out 2, World.cell_of_heap HB.out 3, World.cell_of_heap HB.out 4, World.cell_of_heap HB.out 5, World.cell_of_heap HB.out 6, World.cell_of_heap HB.out 7⟩ (fun hHeld => ?_)
  refine wpAnyH_take (i := 0) (oi := ⟨_, _, _, _, _, _⟩) (v := ?_) rfl (by kernel_rfl) (by kernel_rfl) (by kernel_rfl) (fun _ _ _ h => h) (Or.inl ⟨by rfl, ?_⟩) (by assumption) ?_
  rotate_left
  · intro w hSw; (try dsimp only at hSw); go_simp; (try with_reducible rfl)
  try simp only [Act.put, List.setIfInBounds_toArray, List.set_cons_zero, List.set_cons_succ]
  refine wpAnyH_take (i := 1) (oi := ⟨_, _, _, _, _, _⟩) (v := ?_) rfl (by kernel_rfl) (by kernel_rfl) (by kernel_rfl) (fun _ _ _ h => h) (Or.inl ⟨by rfl, ?_⟩) (by assumption) ?_
  rotate_left
  · intro w hSw; (try dsimp only at hSw); go_simp; (try with_reducible rfl)
  try simp only [Act.put, List.setIfInBounds_toArray, List.set_cons_zero, List.set_cons_succ]
  refine wpAnyH_ready (rs := [2]) (by kernel_rfl) (by simp) ?_
  refine AllReadyH.cons rfl (fun K hK => ?_) (AllReadyH.nil)
  go_simp
  go_wp2_with fail
  refine (runner_any W1 _ (w.heap.size + 2) _ 7 (HC.out.gain (by repeat (first | with_reducible (first | exact World.gained_refl _ | exact ⟨_, rfl⟩ | apply gain_ext | apply gain_alloc | apply gain_drewN | apply gain_drew) | (refine gain_setCell ?_ (by first | exact Nat.le_refl _ | exact World.size_ext _ _ | (simp; done) | (simp; omega)) _)))) (by omega)).mono ?_
  rintro e w5 ⟨r, rfl, hy1, hy2, hc3, hg3⟩
  have HB5 := Lib.hid (rowd_keep (rowd_up HB.out (by repeat (first | with_reducible (first | exact World.gained_refl _ | exact ⟨_, rfl⟩ | apply gain_ext | apply gain_alloc | apply gain_drewN | apply gain_drew) | (refine gain_setCell ?_ (by first | exact Nat.le_refl _ | exact World.size_ext _ _ | (simp; done) | (simp; omega)) _)))) hg3 (fun q e => by cases e; omega))
  have HR := Lib.hid (rowd_keep (rowd_up HR4.out (by repeat (first | with_reducible (first | exact World.gained_refl _ | exact ⟨_, rfl⟩ | apply gain_ext | apply gain_alloc | apply gain_drewN | apply gain_drew) | (refine gain_setCell ?_ (by first | exact Nat.le_refl _ | exact World.size_ext _ _ | (simp; done) | (simp; omega)) _)))) hg3 (fun q e => by cases e; omega))
  have HS := Lib.hid (rowd_keep (rowd_up HS4.out (by repeat (first | with_reducible (first | exact World.gained_refl _ | exact ⟨_, rfl⟩ | apply gain_ext | apply gain_alloc | apply gain_drewN | apply gain_drew) | (refine gain_setCell ?_ (by first | exact Nat.le_refl _ | exact World.size_ext _ _ | (simp; done) | (simp; omega)) _)))) hg3 (fun q e => by cases e; omega))
  have HG := Lib.hid (gain_trans HG0.out hc3.up)
  clear hc3 hg3 HC HR4 HS4 HB HG0 HCN
  (try dsimp only)
  refine hK.out _ _ ?_ (fun hHeld => ?_)
  · exact ⟨World.cell_of_heap HB5.out 0, World.cell_of_heap HB5.out 1, World.cell_of_heap HB5.out 2, World.cell_of_heap HB5.out 3, World.cell_of_heap HB5.out 4, World.cell_of_heap HB5.out 5, World.cell_of_heap HB5.out 6, World.cell_of_heap HB5.out 7⟩
  clear hK K
  try simp only [Act.put, List.setIfInBounds_toArray, List.set_cons_zero, List.set_cons_succ]
  have yc0 : w5.cell? ⟨w.heap.size, 0, none⟩ = some (.int .i64 0) := World.cell_of_heap HR.out 0
  have yf0 : w5.frozen? ⟨w.heap.size, 0, none⟩ = false := World.free_of_heap HR.out 0
  have yc1 : w5.cell? ⟨w.heap.size, 1, none⟩ = some (.string ⟨#[]⟩) := World.cell_of_heap HR.out 1
  have yf1 : w5.frozen? ⟨w.heap.size, 1, none⟩ = false := World.free_of_heap HR.out 1
  have yc2 : w5.cell? ⟨w.heap.size, 2, none⟩ = some (.int .i64 0) := World.cell_of_heap HR.out 2
  have yf2 : w5.frozen? ⟨w.heap.size, 2, none⟩ = false := World.free_of_heap HR.out 2
  have yc3 : w5.cell? ⟨w.heap.size, 3, none⟩ = some (.int .i64 0) := World.cell_of_heap HR.out 3
  have yf3 : w5.frozen? ⟨w.heap.size, 3, none⟩ = false := World.free_of_heap HR.out 3
  have yc4 : w5.cell? ⟨w.heap.size, 4, none⟩ = some (.bool false) := World.cell_of_heap HR.out 4
  have yf4 : w5.frozen? ⟨w.heap.size, 4, none⟩ = false := World.free_of_heap HR.out 4
  have yc5 : w5.cell? ⟨w.heap.size, 5, none⟩ = some (.bool false) := World.cell_of_heap HR.out 5
  have yf5 : w5.frozen? ⟨w.heap.size, 5, none⟩ = false := World.free_of_heap HR.out 5
  have yc6 : w5.cell? ⟨w.heap.size, 6, none⟩ = some (.int .i64 0) := World.cell_of_heap HR.out 6
  have yf6 : w5.frozen? ⟨w.heap.size, 6, none⟩ = false := World.free_of_heap HR.out 6
  have yc7 : w5.cell? ⟨w.heap.size, 7, none⟩ = some (.int .i64 0) := World.cell_of_heap HR.out 7
  have yf7 : w5.frozen? ⟨w.heap.size, 7, none⟩ = false := World.free_of_heap HR.out 7
  have yo := World.oldB_of_cell yc0
  have zw0 := World.heap_setCell_row HR.out 0 (.int .i64 c.id)
  simp only [List.setIfInBounds_toArray, List.set_cons_zero, List.set_cons_succ] at zw0
  have zg0 : (w5.setCell ⟨w.heap.size, 0, none⟩ (.int .i64 c.id)).cell? ⟨w.heap.size, 0, none⟩ = some (.int .i64 c.id) := World.cell_of_heap zw0 0
  have zw1 := World.heap_setCell_row zw0 1 (.string c.name)
  simp only [List.setIfInBounds_toArray, List.set_cons_zero, List.set_cons_succ] at zw1
  have zg1 : ((w5.setCell ⟨w.heap.size, 0, none⟩ (.int .i64 c.id)).setCell ⟨w.heap.size, 1, none⟩ (.string c.name)).cell? ⟨w.heap.size, 1, none⟩ = some (.string c.name) := World.cell_of_heap zw1 1
  have zw2 := World.heap_setCell_row zw1 2 (.int .i64 c.low)
  simp only [List.setIfInBounds_toArray, List.set_cons_zero, List.set_cons_succ] at zw2
  have zg2 : (((w5.setCell ⟨w.heap.size, 0, none⟩ (.int .i64 c.id)).setCell ⟨w.heap.size, 1, none⟩ (.string c.name)).setCell ⟨w.heap.size, 2, none⟩ (.int .i64 c.low)).cell? ⟨w.heap.size, 2, none⟩ = some (.int .i64 c.low) := World.cell_of_heap zw2 2
  have zw3 := World.heap_setCell_row zw2 3 (.int .i64 c.high)
  simp only [List.setIfInBounds_toArray, List.set_cons_zero, List.set_cons_succ] at zw3
  have zg3 : ((((w5.setCell ⟨w.heap.size, 0, none⟩ (.int .i64 c.id)).setCell ⟨w.heap.size, 1, none⟩ (.string c.name)).setCell ⟨w.heap.size, 2, none⟩ (.int .i64 c.low)).setCell ⟨w.heap.size, 3, none⟩ (.int .i64 c.high)).cell? ⟨w.heap.size, 3, none⟩ = some (.int .i64 c.high) := World.cell_of_heap zw3 3
  have zw4 := World.heap_setCell_row zw3 4 (.bool c.women)
  simp only [List.setIfInBounds_toArray, List.set_cons_zero, List.set_cons_succ] at zw4
  have zg4 : (((((w5.setCell ⟨w.heap.size, 0, none⟩ (.int .i64 c.id)).setCell ⟨w.heap.size, 1, none⟩ (.string c.name)).setCell ⟨w.heap.size, 2, none⟩ (.int .i64 c.low)).setCell ⟨w.heap.size, 3, none⟩ (.int .i64 c.high)).setCell ⟨w.heap.size, 4, none⟩ (.bool c.women)).cell? ⟨w.heap.size, 4, none⟩ = some (.bool c.women) := World.cell_of_heap zw4 4
  have zw5 := World.heap_setCell_row zw4 5 (.bool c.men)
  simp only [List.setIfInBounds_toArray, List.set_cons_zero, List.set_cons_succ] at zw5
  have zg5 : ((((((w5.setCell ⟨w.heap.size, 0, none⟩ (.int .i64 c.id)).setCell ⟨w.heap.size, 1, none⟩ (.string c.name)).setCell ⟨w.heap.size, 2, none⟩ (.int .i64 c.low)).setCell ⟨w.heap.size, 3, none⟩ (.int .i64 c.high)).setCell ⟨w.heap.size, 4, none⟩ (.bool c.women)).setCell ⟨w.heap.size, 5, none⟩ (.bool c.men)).cell? ⟨w.heap.size, 5, none⟩ = some (.bool c.men) := World.cell_of_heap zw5 5
  have zw6 := World.heap_setCell_row zw5 6 (.int .i64 c.course)
  simp only [List.setIfInBounds_toArray, List.set_cons_zero, List.set_cons_succ] at zw6
  have zg6 : (((((((w5.setCell ⟨w.heap.size, 0, none⟩ (.int .i64 c.id)).setCell ⟨w.heap.size, 1, none⟩ (.string c.name)).setCell ⟨w.heap.size, 2, none⟩ (.int .i64 c.low)).setCell ⟨w.heap.size, 3, none⟩ (.int .i64 c.high)).setCell ⟨w.heap.size, 4, none⟩ (.bool c.women)).setCell ⟨w.heap.size, 5, none⟩ (.bool c.men)).setCell ⟨w.heap.size, 6, none⟩ (.int .i64 c.course)).cell? ⟨w.heap.size, 6, none⟩ = some (.int .i64 c.course) := World.cell_of_heap zw6 6
  have zw7 := World.heap_setCell_row zw6 7 (.int .i64 c.most)
  simp only [List.setIfInBounds_toArray, List.set_cons_zero, List.set_cons_succ] at zw7
  have zg7 : ((((((((w5.setCell ⟨w.heap.size, 0, none⟩ (.int .i64 c.id)).setCell ⟨w.heap.size, 1, none⟩ (.string c.name)).setCell ⟨w.heap.size, 2, none⟩ (.int .i64 c.low)).setCell ⟨w.heap.size, 3, none⟩ (.int .i64 c.high)).setCell ⟨w.heap.size, 4, none⟩ (.bool c.women)).setCell ⟨w.heap.size, 5, none⟩ (.bool c.men)).setCell ⟨w.heap.size, 6, none⟩ (.int .i64 c.course)).setCell ⟨w.heap.size, 7, none⟩ (.int .i64 c.most)).cell? ⟨w.heap.size, 7, none⟩ = some (.int .i64 c.most) := World.cell_of_heap zw7 7
  have hon : World.grownBy w5 ((((((((w5.setCell ⟨w.heap.size, 0, none⟩ (.int .i64 c.id)).setCell ⟨w.heap.size, 1, none⟩ (.string c.name)).setCell ⟨w.heap.size, 2, none⟩ (.int .i64 c.low)).setCell ⟨w.heap.size, 3, none⟩ (.int .i64 c.high)).setCell ⟨w.heap.size, 4, none⟩ (.bool c.women)).setCell ⟨w.heap.size, 5, none⟩ (.bool c.men)).setCell ⟨w.heap.size, 6, none⟩ (.int .i64 c.course)).setCell ⟨w.heap.size, 7, none⟩ (.int .i64 c.most)) (some w.heap.size) := (only_setCell (only_setCell (only_setCell (only_setCell (only_setCell (only_setCell (only_setCell (only_setCell (only_refl _ _) (p := ⟨w.heap.size, 0, none⟩) rfl _) (p := ⟨w.heap.size, 1, none⟩) rfl _) (p := ⟨w.heap.size, 2, none⟩) rfl _) (p := ⟨w.heap.size, 3, none⟩) rfl _) (p := ⟨w.heap.size, 4, none⟩) rfl _) (p := ⟨w.heap.size, 5, none⟩) rfl _) (p := ⟨w.heap.size, 6, none⟩) rfl _) (p := ⟨w.heap.size, 7, none⟩) rfl _)
  have HB6 := Lib.hid (rowd_keep HB5.out hon (fun q e => by cases e; omega))
  have HS6 := Lib.hid (rowd_keep HS.out hon (fun q e => by cases e; omega))
  have HR6 := Lib.hid zw7
  have HG6 : Hid (∃ d, ((((((((w5.setCell ⟨w.heap.size, 0, none⟩ (.int .i64 c.id)).setCell ⟨w.heap.size, 1, none⟩ (.string c.name)).setCell ⟨w.heap.size, 2, none⟩ (.int .i64 c.low)).setCell ⟨w.heap.size, 3, none⟩ (.int .i64 c.high)).setCell ⟨w.heap.size, 4, none⟩ (.bool c.women)).setCell ⟨w.heap.size, 5, none⟩ (.bool c.men)).setCell ⟨w.heap.size, 6, none⟩ (.int .i64 c.course)).setCell ⟨w.heap.size, 7, none⟩ (.int .i64 c.most)) = w.ext d) := Lib.hid (gain_setCell (gain_setCell (gain_setCell (gain_setCell (gain_setCell (gain_setCell (gain_setCell (gain_setCell HG.out (a := ⟨w.heap.size, 0, none⟩) (Nat.le_refl _) _) (a := ⟨w.heap.size, 1, none⟩) (Nat.le_refl _) _) (a := ⟨w.heap.size, 2, none⟩) (Nat.le_refl _) _) (a := ⟨w.heap.size, 3, none⟩) (Nat.le_refl _) _) (a := ⟨w.heap.size, 4, none⟩) (Nat.le_refl _) _) (a := ⟨w.heap.size, 5, none⟩) (Nat.le_refl _) _) (a := ⟨w.heap.size, 6, none⟩) (Nat.le_refl _) _) (a := ⟨w.heap.size, 7, none⟩) (Nat.le_refl _) _)
  clear hon zw0 zw1 zw2 zw3 zw4 zw5 zw6 zw7
  refine wpAnyH_ready (rs := [3]) (by kernel_rfl) (by simp) ?_
  refine AllReadyH.cons rfl (fun K hK => ?_) (AllReadyH.nil)
  go_simp
  (try dsimp only)
  refine hK.out _ _ ?_ (fun hHeld => ?_)
  · exact ⟨World.cell_of_heap HB6.out 0, World.cell_of_heap HB6.out 1, World.cell_of_heap HB6.out 2, World.cell_of_heap HB6.out 3, World.cell_of_heap HB6.out 4, World.cell_of_heap HB6.out 5, World.cell_of_heap HB6.out 6, World.cell_of_heap HB6.out 7⟩
  clear hK K
  try simp only [Act.put, List.setIfInBounds_toArray, List.set_cons_zero, List.set_cons_succ]
  clear yc0 yf0 yc1 yf1 yc2 yf2 yc3 yf3 yc4 yf4 yc5 yf5 yc6 yf6 yc7 yf7 yo zg0 zg1 zg2 zg3 zg4 zg5 zg6 zg7 HB5 HR HS HG
  generalize ((((((((w5.setCell ⟨w.heap.size, 0, none⟩ (.int .i64 c.id)).setCell ⟨w.heap.size, 1, none⟩ (.string c.name)).setCell ⟨w.heap.size, 2, none⟩ (.int .i64 c.low)).setCell ⟨w.heap.size, 3, none⟩ (.int .i64 c.high)).setCell ⟨w.heap.size, 4, none⟩ (.bool c.women)).setCell ⟨w.heap.size, 5, none⟩ (.bool c.men)).setCell ⟨w.heap.size, 6, none⟩ (.int .i64 c.course)).setCell ⟨w.heap.size, 7, none⟩ (.int .i64 c.most)) = w6 at HB6 HS6 HR6 HG6 ⊢
  have yc0 : w6.cell? ⟨w.heap.size + 1, 0, none⟩ = some (.int .i64 0) := World.cell_of_heap HS6.out 0
  have yf0 : w6.frozen? ⟨w.heap.size + 1, 0, none⟩ = false := World.free_of_heap HS6.out 0
  have yc1 : w6.cell? ⟨w.heap.size + 1, 1, none⟩ = some (.string ⟨#[]⟩) := World.cell_of_heap HS6.out 1
  have yf1 : w6.frozen? ⟨w.heap.size + 1, 1, none⟩ = false := World.free_of_heap HS6.out 1
  have yc2 : w6.cell? ⟨w.heap.size + 1, 2, none⟩ = some (.string ⟨#[]⟩) := World.cell_of_heap HS6.out 2
  have yf2 : w6.frozen? ⟨w.heap.size + 1, 2, none⟩ = false := World.free_of_heap HS6.out 2
  have yc3 : w6.cell? ⟨w.heap.size + 1, 3, none⟩ = some (.int .i64 0) := World.cell_of_heap HS6.out 3
  have yf3 : w6.frozen? ⟨w.heap.size + 1, 3, none⟩ = false := World.free_of_heap HS6.out 3
  have yc4 : w6.cell? ⟨w.heap.size + 1, 4, none⟩ = some (.bool false) := World.cell_of_heap HS6.out 4
  have yf4 : w6.frozen? ⟨w.heap.size + 1, 4, none⟩ = false := World.free_of_heap HS6.out 4
  have yc5 : w6.cell? ⟨w.heap.size + 1, 5, none⟩ = some (.int .i64 0) := World.cell_of_heap HS6.out 5
  have yf5 : w6.frozen? ⟨w.heap.size + 1, 5, none⟩ = false := World.free_of_heap HS6.out 5
  have yo := World.oldB_of_cell yc0
  have zw0 := World.heap_setCell_row HS6.out 0 (.int .i64 r.id)
  simp only [List.setIfInBounds_toArray, List.set_cons_zero, List.set_cons_succ] at zw0
  have zg0 : (w6.setCell ⟨w.heap.size + 1, 0, none⟩ (.int .i64 r.id)).cell? ⟨w.heap.size + 1, 0, none⟩ = some (.int .i64 r.id) := World.cell_of_heap zw0 0
  have zw1 := World.heap_setCell_row zw0 1 (.string r.name)
  simp only [List.setIfInBounds_toArray, List.set_cons_zero, List.set_cons_succ] at zw1
  have zg1 : ((w6.setCell ⟨w.heap.size + 1, 0, none⟩ (.int .i64 r.id)).setCell ⟨w.heap.size + 1, 1, none⟩ (.string r.name)).cell? ⟨w.heap.size + 1, 1, none⟩ = some (.string r.name) := World.cell_of_heap zw1 1
  have zw2 := World.heap_setCell_row zw1 2 (.string r.club)
  simp only [List.setIfInBounds_toArray, List.set_cons_zero, List.set_cons_succ] at zw2
  have zg2 : (((w6.setCell ⟨w.heap.size + 1, 0, none⟩ (.int .i64 r.id)).setCell ⟨w.heap.size + 1, 1, none⟩ (.string r.name)).setCell ⟨w.heap.size + 1, 2, none⟩ (.string r.club)).cell? ⟨w.heap.size + 1, 2, none⟩ = some (.string r.club) := World.cell_of_heap zw2 2
  have zw3 := World.heap_setCell_row zw2 3 (.int .i64 r.born)
  simp only [List.setIfInBounds_toArray, List.set_cons_zero, List.set_cons_succ] at zw3
  have zg3 : ((((w6.setCell ⟨w.heap.size + 1, 0, none⟩ (.int .i64 r.id)).setCell ⟨w.heap.size + 1, 1, none⟩ (.string r.name)).setCell ⟨w.heap.size + 1, 2, none⟩ (.string r.club)).setCell ⟨w.heap.size + 1, 3, none⟩ (.int .i64 r.born)).cell? ⟨w.heap.size + 1, 3, none⟩ = some (.int .i64 r.born) := World.cell_of_heap zw3 3
  have zw4 := World.heap_setCell_row zw3 4 (.bool r.woman)
  simp only [List.setIfInBounds_toArray, List.set_cons_zero, List.set_cons_succ] at zw4
  have zg4 : (((((w6.setCell ⟨w.heap.size + 1, 0, none⟩ (.int .i64 r.id)).setCell ⟨w.heap.size + 1, 1, none⟩ (.string r.name)).setCell ⟨w.heap.size + 1, 2, none⟩ (.string r.club)).setCell ⟨w.heap.size + 1, 3, none⟩ (.int .i64 r.born)).setCell ⟨w.heap.size + 1, 4, none⟩ (.bool r.woman)).cell? ⟨w.heap.size + 1, 4, none⟩ = some (.bool r.woman) := World.cell_of_heap zw4 4
  have zw5 := World.heap_setCell_row zw4 5 (.int .i64 r.card)
  simp only [List.setIfInBounds_toArray, List.set_cons_zero, List.set_cons_succ] at zw5
  have zg5 : ((((((w6.setCell ⟨w.heap.size + 1, 0, none⟩ (.int .i64 r.id)).setCell ⟨w.heap.size + 1, 1, none⟩ (.string r.name)).setCell ⟨w.heap.size + 1, 2, none⟩ (.string r.club)).setCell ⟨w.heap.size + 1, 3, none⟩ (.int .i64 r.born)).setCell ⟨w.heap.size + 1, 4, none⟩ (.bool r.woman)).setCell ⟨w.heap.size + 1, 5, none⟩ (.int .i64 r.card)).cell? ⟨w.heap.size + 1, 5, none⟩ = some (.int .i64 r.card) := World.cell_of_heap zw5 5
  have hon2 : World.grownBy w6 ((((((w6.setCell ⟨w.heap.size + 1, 0, none⟩ (.int .i64 r.id)).setCell ⟨w.heap.size + 1, 1, none⟩ (.string r.name)).setCell ⟨w.heap.size + 1, 2, none⟩ (.string r.club)).setCell ⟨w.heap.size + 1, 3, none⟩ (.int .i64 r.born)).setCell ⟨w.heap.size + 1, 4, none⟩ (.bool r.woman)).setCell ⟨w.heap.size + 1, 5, none⟩ (.int .i64 r.card)) (some (w.heap.size + 1)) := (only_setCell (only_setCell (only_setCell (only_setCell (only_setCell (only_setCell (only_refl _ _) (p := ⟨w.heap.size + 1, 0, none⟩) rfl _) (p := ⟨w.heap.size + 1, 1, none⟩) rfl _) (p := ⟨w.heap.size + 1, 2, none⟩) rfl _) (p := ⟨w.heap.size + 1, 3, none⟩) rfl _) (p := ⟨w.heap.size + 1, 4, none⟩) rfl _) (p := ⟨w.heap.size + 1, 5, none⟩) rfl _)
  have HB7 := Lib.hid (rowd_keep HB6.out hon2 (fun q e => by cases e; omega))
  have HR7 := Lib.hid (rowd_keep HR6.out hon2 (fun q e => by cases e; omega))
  clear hon2 zw0 zw1 zw2 zw3 zw4 zw5
  have rg0 := World.cell_of_heap HR7.out 0
  have rg1 := World.cell_of_heap HR7.out 1
  have rg2 := World.cell_of_heap HR7.out 2
  have rg3 := World.cell_of_heap HR7.out 3
  have rg4 := World.cell_of_heap HR7.out 4
  have rg5 := World.cell_of_heap HR7.out 5
  have rg6 := World.cell_of_heap HR7.out 6
  have rg7 := World.cell_of_heap HR7.out 7
  simp only [List.getElem?_toArray, List.getElem?_cons_zero, List.getElem?_cons_succ] at rg0 rg1 rg2 rg3 rg4 rg5 rg6 rg7
  refine wpAnyH_ready (rs := [4]) (by kernel_rfl) (by simp) ?_
  refine AllReadyH.cons rfl (fun K hK => ?_) (AllReadyH.nil)
  go_simp
  (try dsimp only)
  refine hK.out _ _ ?_ (fun hHeld => ?_)
  · exact ⟨World.cell_of_heap HB7.out 0, World.cell_of_heap HB7.out 1, World.cell_of_heap HB7.out 2, World.cell_of_heap HB7.out 3, World.cell_of_heap HB7.out 4, World.cell_of_heap HB7.out 5, World.cell_of_heap HB7.out 6, World.cell_of_heap HB7.out 7⟩
  clear hK K
  try simp only [Act.put, List.setIfInBounds_toArray, List.set_cons_zero, List.set_cons_succ]
  refine wpAnyH_done (by kernel_rfl) ?_ _
  go_wp2_with fail
  refine bodyPost_ret (v := .tuple #[.agg #[.int .i64 c.id, .string c.name, .int .i64 c.low, .int .i64 c.high, .bool c.women, .bool c.men, .int .i64 c.course, .int .i64 c.most], .agg #[.int .i64 r.id, .string r.name, .string r.club, .int .i64 r.born, .bool r.woman, .int .i64 r.card]]) (by simp [results, Tryz.results20, go_sem, rg0, rg1, rg2, rg3, rg4, rg5, rg6, rg7, zg0, zg1, zg2, zg3, zg4, zg5]) rfl ?_
  exact ⟨c, r, rfl, hz, hy1, hy2, (gain_setCell (gain_setCell (gain_setCell (gain_setCell (gain_setCell (gain_setCell HG6.out (a := ⟨w.heap.size + 1, 0, none⟩) (Nat.le_succ _) _) (a := ⟨w.heap.size + 1, 1, none⟩) (Nat.le_succ _) _) (a := ⟨w.heap.size + 1, 2, none⟩) (Nat.le_succ _) _) (a := ⟨w.heap.size + 1, 3, none⟩) (Nat.le_succ _) _) (a := ⟨w.heap.size + 1, 4, none⟩) (Nat.le_succ _) _) (a := ⟨w.heap.size + 1, 5, none⟩) (Nat.le_succ _) _)⟩
set_option maxHeartbeats 4000000 in
set_option maxRecDepth 100000 in
theorem drawClassesFor_any (v : Value) (L : List Int) (w : World) (h : w.sl byteC 1 v L) (hq : ∀ x ∈ L, 0 ≤ x ∧ x ≤ 255) (hl : L.length ≤ 1048576) :
    Calls Tryz.prog 39 #[v] w fun x w' => ∃ (lv : Value) (l : List Cls) (r : Runner), x = .returned (.tuple #[lv, .agg #[.int .i64 r.id, .string r.name, .string r.club, .int .i64 r.born, .bool r.woman, .int .i64 r.card]]) ∧ (∃ d, w' = w.ext d) ∧ w'.own w.heap.size 25 Cls.cells 8 lv l ∧ l.length ≤ 20 ∧ (∀ x ∈ l, Cls.small x) ∧ r.name.size ≤ 1048576 ∧ r.club.size ≤ 1048576 := by
  have hs := Lib.hid h
  have HQ := Lib.hid hq
  obtain ⟨p, cp, rfl, _⟩ := h
  clear hq
  have HR00 := Lib.hid (heap_alloc_new w (.cells #[.int .i64 0, .string ⟨#[]⟩, .string ⟨#[]⟩, .int .i64 0, .bool false, .int .i64 0] 35))
  have HG0 : Hid (∃ d, w.alloc (.cells #[.int .i64 0, .string ⟨#[]⟩, .string ⟨#[]⟩, .int .i64 0, .bool false, .int .i64 0] 35) = w.ext d) := Lib.hid (by repeat (first | with_reducible (first | exact World.gained_refl _ | exact ⟨_, rfl⟩ | apply gain_ext | apply gain_alloc | apply gain_drewN | apply gain_drew) | (refine gain_setCell ?_ (by first | exact Nat.le_refl _ | exact World.size_ext _ _ | (simp; done) | (simp; omega)) _)))
  have hsz : (w.alloc (.cells #[.int .i64 0, .string ⟨#[]⟩, .string ⟨#[]⟩, .int .i64 0, .bool false, .int .i64 0] 35)).heap.size = w.heap.size + 1 := by simp only [World.size_alloc]
  have HCN := Lib.hid (cur_new (e := 62) (sl_up byteC_length hs.out HG0.out) HQ.out hl)
  go_enter Tryz.func39, Tryz.ntmps39
  go_wp2_with fail
  generalize hW1 : w.alloc (.cells #[.int .i64 0, .string ⟨#[]⟩, .string ⟨#[]⟩, .int .i64 0, .bool false, .int .i64 0] 35) = W1 at HG0 HCN hsz HR00 ⊢
  clear hW1
  rw [hsz] at HCN
  refine (classes_any W1 _ (w.heap.size + 1) 0 (HCN.out.gain (by repeat (first | with_reducible (first | exact World.gained_refl _ | exact ⟨_, rfl⟩ | apply gain_ext | apply gain_alloc | apply gain_drewN | apply gain_drew) | (refine gain_setCell ?_ (by first | exact Nat.le_refl _ | exact World.size_ext _ _ | (simp; done) | (simp; omega)) _)))) (by omega)).mono ?_
  rintro e w2 ⟨lv, l, rfl, hlst, hll⟩
  have HL := Lib.hid hlst
  have HSM := Lib.hid hlst.sm
  obtain ⟨pl, kl, rfl, _⟩ := sl_of_own Cls.cells_length hlst.own
  clear hlst
  go_wp2_with fail
  refine (runner_any W1 _ (w.heap.size + 1) _ 7 (HL.out.cur.gain (by repeat (first | with_reducible (first | exact World.gained_refl _ | exact ⟨_, rfl⟩ | apply gain_ext | apply gain_alloc | apply gain_drewN | apply gain_drew) | (refine gain_setCell ?_ (by first | exact Nat.le_refl _ | exact World.size_ext _ _ | (simp; done) | (simp; omega)) _)))) (by omega)).mono ?_
  rintro e w3 ⟨r, rfl, hy1, hy2, hc3, hg3⟩
  have HR := Lib.hid (rowd_keep (rowd_up (rowd_keep (rowd_up HR00.out (w' := (W1.alloc (.cells #[.slice p L.length cp, .int .i64 0, .int .u64 0] 62))) (by repeat (first | with_reducible (first | exact World.gained_refl _ | exact ⟨_, rfl⟩ | apply gain_ext | apply gain_alloc | apply gain_drewN | apply gain_drew) | (refine gain_setCell ?_ (by first | exact Nat.le_refl _ | exact World.size_ext _ _ | (simp; done) | (simp; omega)) _)))) HL.out.gr (fun q e => by cases e; omega)) (by repeat (first | with_reducible (first | exact World.gained_refl _ | exact ⟨_, rfl⟩ | apply gain_ext | apply gain_alloc | apply gain_drewN | apply gain_drew) | (refine gain_setCell ?_ (by first | exact Nat.le_refl _ | exact World.size_ext _ _ | (simp; done) | (simp; omega)) _)))) hg3 (fun q e => by cases e; omega))
  have HG := Lib.hid (gain_trans HG0.out hc3.up)
  have HLL := Lib.hid (own_cur (own_up HL.out.own (by repeat (first | with_reducible (first | exact World.gained_refl _ | exact ⟨_, rfl⟩ | apply gain_ext | apply gain_alloc | apply gain_drewN | apply gain_drew) | (refine gain_setCell ?_ (by first | exact Nat.le_refl _ | exact World.size_ext _ _ | (simp; done) | (simp; omega)) _)))) HL.out.g2 hg3)
  have hlt2 := HL.out.g2
  have hsc : (W1.alloc (.cells #[.slice p L.length cp, .int .i64 0, .int .u64 0] 62)).heap.size = w.heap.size + 2 := by rw [World.size_alloc, hsz]
  rw [hsc] at HLL
  clear hc3 hg3 HR00 HCN HG0 HL
  have yc0 : w3.cell? ⟨w.heap.size, 0, none⟩ = some (.int .i64 0) := World.cell_of_heap HR.out 0
  have yf0 : w3.frozen? ⟨w.heap.size, 0, none⟩ = false := World.free_of_heap HR.out 0
  have yc1 : w3.cell? ⟨w.heap.size, 1, none⟩ = some (.string ⟨#[]⟩) := World.cell_of_heap HR.out 1
  have yf1 : w3.frozen? ⟨w.heap.size, 1, none⟩ = false := World.free_of_heap HR.out 1
  have yc2 : w3.cell? ⟨w.heap.size, 2, none⟩ = some (.string ⟨#[]⟩) := World.cell_of_heap HR.out 2
  have yf2 : w3.frozen? ⟨w.heap.size, 2, none⟩ = false := World.free_of_heap HR.out 2
  have yc3 : w3.cell? ⟨w.heap.size, 3, none⟩ = some (.int .i64 0) := World.cell_of_heap HR.out 3
  have yf3 : w3.frozen? ⟨w.heap.size, 3, none⟩ = false := World.free_of_heap HR.out 3
  have yc4 : w3.cell? ⟨w.heap.size, 4, none⟩ = some (.bool false) := World.cell_of_heap HR.out 4
  have yf4 : w3.frozen? ⟨w.heap.size, 4, none⟩ = false := World.free_of_heap HR.out 4
  have yc5 : w3.cell? ⟨w.heap.size, 5, none⟩ = some (.int .i64 0) := World.cell_of_heap HR.out 5
  have yf5 : w3.frozen? ⟨w.heap.size, 5, none⟩ = false := World.free_of_heap HR.out 5
  have yo := World.oldB_of_cell yc0
  have zw0 := World.heap_setCell_row HR.out 0 (.int .i64 r.id)
  simp only [List.setIfInBounds_toArray, List.set_cons_zero, List.set_cons_succ] at zw0
  have zg0 : (w3.setCell ⟨w.heap.size, 0, none⟩ (.int .i64 r.id)).cell? ⟨w.heap.size, 0, none⟩ = some (.int .i64 r.id) := World.cell_of_heap zw0 0
  have zw1 := World.heap_setCell_row zw0 1 (.string r.name)
  simp only [List.setIfInBounds_toArray, List.set_cons_zero, List.set_cons_succ] at zw1
  have zg1 : ((w3.setCell ⟨w.heap.size, 0, none⟩ (.int .i64 r.id)).setCell ⟨w.heap.size, 1, none⟩ (.string r.name)).cell? ⟨w.heap.size, 1, none⟩ = some (.string r.name) := World.cell_of_heap zw1 1
  have zw2 := World.heap_setCell_row zw1 2 (.string r.club)
  simp only [List.setIfInBounds_toArray, List.set_cons_zero, List.set_cons_succ] at zw2
  have zg2 : (((w3.setCell ⟨w.heap.size, 0, none⟩ (.int .i64 r.id)).setCell ⟨w.heap.size, 1, none⟩ (.string r.name)).setCell ⟨w.heap.size, 2, none⟩ (.string r.club)).cell? ⟨w.heap.size, 2, none⟩ = some (.string r.club) := World.cell_of_heap zw2 2
  have zw3 := World.heap_setCell_row zw2 3 (.int .i64 r.born)
  simp only [List.setIfInBounds_toArray, List.set_cons_zero, List.set_cons_succ] at zw3
  have zg3 : ((((w3.setCell ⟨w.heap.size, 0, none⟩ (.int .i64 r.id)).setCell ⟨w.heap.size, 1, none⟩ (.string r.name)).setCell ⟨w.heap.size, 2, none⟩ (.string r.club)).setCell ⟨w.heap.size, 3, none⟩ (.int .i64 r.born)).cell? ⟨w.heap.size, 3, none⟩ = some (.int .i64 r.born) := World.cell_of_heap zw3 3
  have zw4 := World.heap_setCell_row zw3 4 (.bool r.woman)
  simp only [List.setIfInBounds_toArray, List.set_cons_zero, List.set_cons_succ] at zw4
  have zg4 : (((((w3.setCell ⟨w.heap.size, 0, none⟩ (.int .i64 r.id)).setCell ⟨w.heap.size, 1, none⟩ (.string r.name)).setCell ⟨w.heap.size, 2, none⟩ (.string r.club)).setCell ⟨w.heap.size, 3, none⟩ (.int .i64 r.born)).setCell ⟨w.heap.size, 4, none⟩ (.bool r.woman)).cell? ⟨w.heap.size, 4, none⟩ = some (.bool r.woman) := World.cell_of_heap zw4 4
  have zw5 := World.heap_setCell_row zw4 5 (.int .i64 r.card)
  simp only [List.setIfInBounds_toArray, List.set_cons_zero, List.set_cons_succ] at zw5
  have zg5 : ((((((w3.setCell ⟨w.heap.size, 0, none⟩ (.int .i64 r.id)).setCell ⟨w.heap.size, 1, none⟩ (.string r.name)).setCell ⟨w.heap.size, 2, none⟩ (.string r.club)).setCell ⟨w.heap.size, 3, none⟩ (.int .i64 r.born)).setCell ⟨w.heap.size, 4, none⟩ (.bool r.woman)).setCell ⟨w.heap.size, 5, none⟩ (.int .i64 r.card)).cell? ⟨w.heap.size, 5, none⟩ = some (.int .i64 r.card) := World.cell_of_heap zw5 5
  have hon : World.grownBy w3 ((((((w3.setCell ⟨w.heap.size, 0, none⟩ (.int .i64 r.id)).setCell ⟨w.heap.size, 1, none⟩ (.string r.name)).setCell ⟨w.heap.size, 2, none⟩ (.string r.club)).setCell ⟨w.heap.size, 3, none⟩ (.int .i64 r.born)).setCell ⟨w.heap.size, 4, none⟩ (.bool r.woman)).setCell ⟨w.heap.size, 5, none⟩ (.int .i64 r.card)) (some w.heap.size) := (only_setCell (only_setCell (only_setCell (only_setCell (only_setCell (only_setCell (only_refl _ _) (p := ⟨w.heap.size, 0, none⟩) rfl _) (p := ⟨w.heap.size, 1, none⟩) rfl _) (p := ⟨w.heap.size, 2, none⟩) rfl _) (p := ⟨w.heap.size, 3, none⟩) rfl _) (p := ⟨w.heap.size, 4, none⟩) rfl _) (p := ⟨w.heap.size, 5, none⟩) rfl _)
  have HLF := Lib.hid (own_notd HLL.out (fun q e => by have := (own_lt HLL.out q e).1; omega) hon)
  clear hon zw0 zw1 zw2 zw3 zw4 zw5
  go_wp2_with fail
  refine bodyPost_ret (v := .tuple #[.slice pl l.length kl, .agg #[.int .i64 r.id, .string r.name, .string r.club, .int .i64 r.born, .bool r.woman, .int .i64 r.card]]) (by simp [results, Tryz.results39, go_sem, zg0, zg1, zg2, zg3, zg4, zg5]) rfl ?_
  exact ⟨_, l, r, rfl, (gain_setCell (gain_setCell (gain_setCell (gain_setCell (gain_setCell (gain_setCell HG.out (a := ⟨w.heap.size, 0, none⟩) (Nat.le_refl _) _) (a := ⟨w.heap.size, 1, none⟩) (Nat.le_refl _) _) (a := ⟨w.heap.size, 2, none⟩) (Nat.le_refl _) _) (a := ⟨w.heap.size, 3, none⟩) (Nat.le_refl _) _) (a := ⟨w.heap.size, 4, none⟩) (Nat.le_refl _) _) (a := ⟨w.heap.size, 5, none⟩) (Nat.le_refl _) _), own_base HLF.out (by omega), hll, HSM.out, hy1, hy2⟩
set_option maxHeartbeats 4000000 in
set_option maxRecDepth 100000 in
theorem drawBestClass_any (v : Value) (L : List Int) (w : World) (h : w.sl byteC 1 v L) (hq : ∀ x ∈ L, 0 ≤ x ∧ x ≤ 255) (hl : L.length ≤ 1048576) :
    Calls Tryz.prog 12 #[v] w fun x w' => ∃ (lv : Value) (l : List Cls) (r : Runner), x = .returned (.tuple #[lv, .agg #[.int .i64 r.id, .string r.name, .string r.club, .int .i64 r.born, .bool r.woman, .int .i64 r.card]]) ∧ (∃ d, w' = w.ext d) ∧ w'.own w.heap.size 25 Cls.cells 8 lv l ∧ l.length ≤ 20 ∧ (∀ x ∈ l, Cls.small x) ∧ r.name.size ≤ 1048576 ∧ r.club.size ≤ 1048576 := by
  have hs := Lib.hid h
  have HQ := Lib.hid hq
  obtain ⟨p, cp, rfl, _⟩ := h
  clear hq
  have HR00 := Lib.hid (heap_alloc_new w (.cells #[.int .i64 0, .string ⟨#[]⟩, .string ⟨#[]⟩, .int .i64 0, .bool false, .int .i64 0] 35))
  have HG0 : Hid (∃ d, w.alloc (.cells #[.int .i64 0, .string ⟨#[]⟩, .string ⟨#[]⟩, .int .i64 0, .bool false, .int .i64 0] 35) = w.ext d) := Lib.hid (by repeat (first | with_reducible (first | exact World.gained_refl _ | exact ⟨_, rfl⟩ | apply gain_ext | apply gain_alloc | apply gain_drewN | apply gain_drew) | (refine gain_setCell ?_ (by first | exact Nat.le_refl _ | exact World.size_ext _ _ | (simp; done) | (simp; omega)) _)))
  have hsz : (w.alloc (.cells #[.int .i64 0, .string ⟨#[]⟩, .string ⟨#[]⟩, .int .i64 0, .bool false, .int .i64 0] 35)).heap.size = w.heap.size + 1 := by simp only [World.size_alloc]
  go_enter Tryz.func12, Tryz.ntmps12
  go_wp2_with fail
  generalize hW1 : w.alloc (.cells #[.int .i64 0, .string ⟨#[]⟩, .string ⟨#[]⟩, .int .i64 0, .bool false, .int .i64 0] 35) = W1 at HG0 HR00 hsz ⊢
  clear hW1
  refine (drawClassesFor_any _ L _ (sl_up byteC_length hs.out HG0.out) HQ.out hl).mono ?_
  rintro e w3 ⟨lv, l, r, rfl, hg, ho, hll, hsm, hy1, hy2⟩
  have HR := Lib.hid (rowd_up HR00.out hg)
  have HG := Lib.hid (gain_trans HG0.out hg)
  have HLL := Lib.hid (own_base ho (show w.heap.size + 1 ≤ W1.heap.size by omega))
  have HSM := Lib.hid hsm
  obtain ⟨pl, kl, rfl, _⟩ := sl_of_own Cls.cells_length ho
  clear HR00 HG0 hg ho hsm
  have yc0 : w3.cell? ⟨w.heap.size, 0, none⟩ = some (.int .i64 0) := World.cell_of_heap HR.out 0
  have yf0 : w3.frozen? ⟨w.heap.size, 0, none⟩ = false := World.free_of_heap HR.out 0
  have yc1 : w3.cell? ⟨w.heap.size, 1, none⟩ = some (.string ⟨#[]⟩) := World.cell_of_heap HR.out 1
  have yf1 : w3.frozen? ⟨w.heap.size, 1, none⟩ = false := World.free_of_heap HR.out 1
  have yc2 : w3.cell? ⟨w.heap.size, 2, none⟩ = some (.string ⟨#[]⟩) := World.cell_of_heap HR.out 2
  have yf2 : w3.frozen? ⟨w.heap.size, 2, none⟩ = false := World.free_of_heap HR.out 2
  have yc3 : w3.cell? ⟨w.heap.size, 3, none⟩ = some (.int .i64 0) := World.cell_of_heap HR.out 3
  have yf3 : w3.frozen? ⟨w.heap.size, 3, none⟩ = false := World.free_of_heap HR.out 3
  have yc4 : w3.cell? ⟨w.heap.size, 4, none⟩ = some (.bool false) := World.cell_of_heap HR.out 4
  have yf4 : w3.frozen? ⟨w.heap.size, 4, none⟩ = false := World.free_of_heap HR.out 4
  have yc5 : w3.cell? ⟨w.heap.size, 5, none⟩ = some (.int .i64 0) := World.cell_of_heap HR.out 5
  have yf5 : w3.frozen? ⟨w.heap.size, 5, none⟩ = false := World.free_of_heap HR.out 5
  have yo := World.oldB_of_cell yc0
  have zw0 := World.heap_setCell_row HR.out 0 (.int .i64 r.id)
  simp only [List.setIfInBounds_toArray, List.set_cons_zero, List.set_cons_succ] at zw0
  have zg0 : (w3.setCell ⟨w.heap.size, 0, none⟩ (.int .i64 r.id)).cell? ⟨w.heap.size, 0, none⟩ = some (.int .i64 r.id) := World.cell_of_heap zw0 0
  have zw1 := World.heap_setCell_row zw0 1 (.string r.name)
  simp only [List.setIfInBounds_toArray, List.set_cons_zero, List.set_cons_succ] at zw1
  have zg1 : ((w3.setCell ⟨w.heap.size, 0, none⟩ (.int .i64 r.id)).setCell ⟨w.heap.size, 1, none⟩ (.string r.name)).cell? ⟨w.heap.size, 1, none⟩ = some (.string r.name) := World.cell_of_heap zw1 1
  have zw2 := World.heap_setCell_row zw1 2 (.string r.club)
  simp only [List.setIfInBounds_toArray, List.set_cons_zero, List.set_cons_succ] at zw2
  have zg2 : (((w3.setCell ⟨w.heap.size, 0, none⟩ (.int .i64 r.id)).setCell ⟨w.heap.size, 1, none⟩ (.string r.name)).setCell ⟨w.heap.size, 2, none⟩ (.string r.club)).cell? ⟨w.heap.size, 2, none⟩ = some (.string r.club) := World.cell_of_heap zw2 2
  have zw3 := World.heap_setCell_row zw2 3 (.int .i64 r.born)
  simp only [List.setIfInBounds_toArray, List.set_cons_zero, List.set_cons_succ] at zw3
  have zg3 : ((((w3.setCell ⟨w.heap.size, 0, none⟩ (.int .i64 r.id)).setCell ⟨w.heap.size, 1, none⟩ (.string r.name)).setCell ⟨w.heap.size, 2, none⟩ (.string r.club)).setCell ⟨w.heap.size, 3, none⟩ (.int .i64 r.born)).cell? ⟨w.heap.size, 3, none⟩ = some (.int .i64 r.born) := World.cell_of_heap zw3 3
  have zw4 := World.heap_setCell_row zw3 4 (.bool r.woman)
  simp only [List.setIfInBounds_toArray, List.set_cons_zero, List.set_cons_succ] at zw4
  have zg4 : (((((w3.setCell ⟨w.heap.size, 0, none⟩ (.int .i64 r.id)).setCell ⟨w.heap.size, 1, none⟩ (.string r.name)).setCell ⟨w.heap.size, 2, none⟩ (.string r.club)).setCell ⟨w.heap.size, 3, none⟩ (.int .i64 r.born)).setCell ⟨w.heap.size, 4, none⟩ (.bool r.woman)).cell? ⟨w.heap.size, 4, none⟩ = some (.bool r.woman) := World.cell_of_heap zw4 4
  have zw5 := World.heap_setCell_row zw4 5 (.int .i64 r.card)
  simp only [List.setIfInBounds_toArray, List.set_cons_zero, List.set_cons_succ] at zw5
  have zg5 : ((((((w3.setCell ⟨w.heap.size, 0, none⟩ (.int .i64 r.id)).setCell ⟨w.heap.size, 1, none⟩ (.string r.name)).setCell ⟨w.heap.size, 2, none⟩ (.string r.club)).setCell ⟨w.heap.size, 3, none⟩ (.int .i64 r.born)).setCell ⟨w.heap.size, 4, none⟩ (.bool r.woman)).setCell ⟨w.heap.size, 5, none⟩ (.int .i64 r.card)).cell? ⟨w.heap.size, 5, none⟩ = some (.int .i64 r.card) := World.cell_of_heap zw5 5
  have hon : World.grownBy w3 ((((((w3.setCell ⟨w.heap.size, 0, none⟩ (.int .i64 r.id)).setCell ⟨w.heap.size, 1, none⟩ (.string r.name)).setCell ⟨w.heap.size, 2, none⟩ (.string r.club)).setCell ⟨w.heap.size, 3, none⟩ (.int .i64 r.born)).setCell ⟨w.heap.size, 4, none⟩ (.bool r.woman)).setCell ⟨w.heap.size, 5, none⟩ (.int .i64 r.card)) (some w.heap.size) := (only_setCell (only_setCell (only_setCell (only_setCell (only_setCell (only_setCell (only_refl _ _) (p := ⟨w.heap.size, 0, none⟩) rfl _) (p := ⟨w.heap.size, 1, none⟩) rfl _) (p := ⟨w.heap.size, 2, none⟩) rfl _) (p := ⟨w.heap.size, 3, none⟩) rfl _) (p := ⟨w.heap.size, 4, none⟩) rfl _) (p := ⟨w.heap.size, 5, none⟩) rfl _)
  have HLF := Lib.hid (own_notd HLL.out (fun q e => by have := (own_lt HLL.out q e).1; omega) hon)
  clear hon zw0 zw1 zw2 zw3 zw4 zw5
  go_wp2_with fail
  refine bodyPost_ret (v := .tuple #[.slice pl l.length kl, .agg #[.int .i64 r.id, .string r.name, .string r.club, .int .i64 r.born, .bool r.woman, .int .i64 r.card]]) (by simp [results, Tryz.results12, go_sem, zg0, zg1, zg2, zg3, zg4, zg5]) rfl ?_
  exact ⟨_, l, r, rfl, (gain_setCell (gain_setCell (gain_setCell (gain_setCell (gain_setCell (gain_setCell HG.out (a := ⟨w.heap.size, 0, none⟩) (Nat.le_refl _) _) (a := ⟨w.heap.size, 1, none⟩) (Nat.le_refl _) _) (a := ⟨w.heap.size, 2, none⟩) (Nat.le_refl _) _) (a := ⟨w.heap.size, 3, none⟩) (Nat.le_refl _) _) (a := ⟨w.heap.size, 4, none⟩) (Nat.le_refl _) _) (a := ⟨w.heap.size, 5, none⟩) (Nat.le_refl _) _), own_base HLF.out (by omega), hll, HSM.out, hy1, hy2⟩
set_option maxHeartbeats 4000000 in
theorem spoilt_any (W w : World) (g n : Nat) (t : ByteArray) (h : Cur 62 W w g n) (hn : n ≤ 100000) (ht : t.size ≤ 1000) :
    Calls Tryz.prog 36 #[.pointer (some ⟨g, 0, none⟩), .string t, .string ⟨#[48, 32, 45, 119, 109, 49]⟩] w fun x w' => ∃ r : ByteArray, x = .returned (.string r) ∧ r.size ≤ 3000 ∧ Cur 62 W w' g (n + 6) ∧ w.grownBy w' (some g) := by
  have HC := Lib.hid h
  clear h
  by_cases h0 : t = ⟨#[]⟩
  · subst h0
    go_enter Tryz.func36, Tryz.ntmps36
    go_wp2_with fail
    go_ret
    exact ⟨_, rfl, by decide, HC.out.le (by omega), only_refl _ _⟩
  have hne : (t.toList == []) = false := by
    have h1 := str_eq t ⟨#[]⟩
    rw [show (⟨#[]⟩ : ByteArray).toList = [] from by rw [Lib.toList_data]] at h1
    rw [h1]
    exact decide_eq_false h0
  have hp : 0 < t.size := by
    rcases Nat.eq_zero_or_pos t.size with h | h
    · exfalso
      apply h0
      apply ByteArray.ext
      exact Array.eq_empty_of_size_eq_zero h
    · exact h
  clear h0
  go_enter Tryz.func36, Tryz.ntmps36
  go_wp2_with fail
  refine (pick_any W _ g n _ HC.out (by omega)).mono ?_
  rintro e w1 ⟨r, rfl, q1, q2, hc1, hg1⟩
  obtain ⟨i, rfl⟩ : ∃ i : Nat, r = (i : Int) := ⟨r.toNat, by omega⟩
  have hi : i < t.size := by omega
  clear q1 q2
  go_wp2_with fail
  refine (pick_any W _ g _ _ hc1 (by omega)).mono ?_
  rintro e w2 ⟨r, rfl, q1, q2, hc2, hg2⟩
  obtain ⟨j, rfl⟩ : ∃ j : Nat, r = (j : Int) := ⟨r.toNat, by omega⟩
  have hj : j < 6 := by simp at q2; omega
  have hg12 := only_trans hg1 hg2
  clear q1 q2 hc1 hg1 hg2
  have hj0 : (0 : Int) ≤ (j : Int) := by omega
  have hj6 : (j : Int) ≤ 6 := by omega
  have hsw : ((⟨#[48, 32, 45, 119, 109, 49]⟩ : ByteArray).extract j 6).size = 6 - j := by rw [ByteArray.size_extract]; show min 6 6 - j = _; omega
  have hsw1 : (1 : Int) ≤ (((⟨#[48, 32, 45, 119, 109, 49]⟩ : ByteArray).extract j 6).size : Int) := by omega
  have hx1 : (((⟨#[48, 32, 45, 119, 109, 49]⟩ : ByteArray).extract j 6).extract 0 1).size = 1 := by rw [ByteArray.size_extract]; omega
  go_wp2_with fail
  refine (pick_any W _ g _ _ hc2 (by omega)).mono ?_
  rintro e w3 ⟨r, rfl, q1, q2, hc3, hg3⟩
  have hg := only_trans hg12 hg3
  have HC3 := Lib.hid hc3
  have HGG := Lib.hid hg
  clear hc2 hg12 hg3 hc3 hg HC hne
  generalize ((⟨#[48, 32, 45, 119, 109, 49]⟩ : ByteArray).extract j 6).extract 0 1 = z at hx1 ⊢
  clear hsw hsw1 hj0 hj6 hj
  have hi0 : (0 : Int) ≤ (i : Int) := by omega
  have hi1 : (i : Int) ≤ (t.size : Int) := by omega
  have hi2 : (i : Int) + 1 ≤ (t.size : Int) := by omega
  have hi3 : (0 : Int) ≤ (i : Int) + 1 := by omega
  have hwi : IntKind.i64.wrap ((i : Int) + 1) = (i : Int) + 1 := IntWalk.i64_in _ (by omega)
  have hni : ((i : Int) + 1).toNat = i + 1 := by omega
  have s1 : (t.extract 0 i).size ≤ 1000 := by rw [ByteArray.size_extract]; omega
  have s2 : (t.extract i t.size).size ≤ 1000 := by rw [ByteArray.size_extract]; omega
  have s3 : (t.extract (i + 1) t.size).size ≤ 1000 := by rw [ByteArray.size_extract]; omega
  rcases (by omega : r = 0 ∨ r = 1 ∨ r = 2) with rfl | rfl | rfl
  · go_wp2_with fail
    refine wp_region_gain (by kernel_rfl) (by kernel_rfl) ?_
    repeat (first | go_big_quiet_skip | (go_big_quiet_want; go_big_quiet_op; first | go_big_quiet_on))
    refine wpQuiet_nil ?_
    rintro _ ⟨d', rfl⟩
    go_wp2_with fail
    go_ret
    exact ⟨_, rfl, by simp only [ByteArray.size_append]; omega, (HC3.out.gain (by repeat (first | with_reducible (first | exact World.gained_refl _ | exact ⟨_, rfl⟩ | apply gain_ext | apply gain_alloc | apply gain_drewN | apply gain_drew) | (refine gain_setCell ?_ (by first | exact Nat.le_refl _ | exact World.size_ext _ _ | (simp; done) | (simp; omega)) _)))).le (by omega), only_gain HGG.out (by repeat (first | with_reducible (first | exact World.gained_refl _ | exact ⟨_, rfl⟩ | apply gain_ext | apply gain_alloc | apply gain_drewN | apply gain_drew) | (refine gain_setCell ?_ (by first | exact Nat.le_refl _ | exact World.size_ext _ _ | (simp; done) | (simp; omega)) _)))⟩
  · go_wp2_with fail
    refine wp_region_gain (by kernel_rfl) (by kernel_rfl) ?_
    repeat (first | go_big_quiet_skip | (go_big_quiet_want; go_big_quiet_op; first | go_big_quiet_on))
    refine wpQuiet_nil ?_
    rintro _ ⟨d', rfl⟩
    go_wp2_with fail
    go_ret
    exact ⟨_, rfl, by simp only [ByteArray.size_append]; omega, (HC3.out.gain (by repeat (first | with_reducible (first | exact World.gained_refl _ | exact ⟨_, rfl⟩ | apply gain_ext | apply gain_alloc | apply gain_drewN | apply gain_drew) | (refine gain_setCell ?_ (by first | exact Nat.le_refl _ | exact World.size_ext _ _ | (simp; done) | (simp; omega)) _)))).le (by omega), only_gain HGG.out (by repeat (first | with_reducible (first | exact World.gained_refl _ | exact ⟨_, rfl⟩ | apply gain_ext | apply gain_alloc | apply gain_drewN | apply gain_drew) | (refine gain_setCell ?_ (by first | exact Nat.le_refl _ | exact World.size_ext _ _ | (simp; done) | (simp; omega)) _)))⟩
  · go_wp2_with fail
    refine wp_region_gain (by kernel_rfl) (by kernel_rfl) ?_
    repeat (first | go_big_quiet_skip | (go_big_quiet_want; go_big_quiet_op; first | go_big_quiet_on))
    refine wpQuiet_nil ?_
    rintro _ ⟨d', rfl⟩
    go_wp2_with fail
    go_ret
    exact ⟨_, rfl, by simp only [ByteArray.size_append]; omega, (HC3.out.gain (by repeat (first | with_reducible (first | exact World.gained_refl _ | exact ⟨_, rfl⟩ | apply gain_ext | apply gain_alloc | apply gain_drewN | apply gain_drew) | (refine gain_setCell ?_ (by first | exact Nat.le_refl _ | exact World.size_ext _ _ | (simp; done) | (simp; omega)) _)))).le (by omega), only_gain HGG.out (by repeat (first | with_reducible (first | exact World.gained_refl _ | exact ⟨_, rfl⟩ | apply gain_ext | apply gain_alloc | apply gain_drewN | apply gain_drew) | (refine gain_setCell ?_ (by first | exact Nat.le_refl _ | exact World.size_ext _ _ | (simp; done) | (simp; omega)) _)))⟩
set_option maxHeartbeats 4000000 in
set_option maxRecDepth 100000 in
theorem drawParseClass_any (v : Value) (L : List Int) (w : World) (h : w.sl byteC 1 v L) (hq : ∀ x ∈ L, 0 ≤ x ∧ x ≤ 255) (hl : L.length ≤ 1048576) :
    Calls Tryz.prog 10 #[v] w fun x w' => ∃ t : ByteArray, x = .returned (.string t) ∧ t.size ≤ 3000 ∧ ∃ d, w' = w.ext d := by
  have hs := Lib.hid h
  have HQ := Lib.hid hq
  obtain ⟨p, cp, rfl, _⟩ := h
  clear hq
  have HCN := Lib.hid (cur_new (e := 62) hs.out HQ.out hl)
  have HG0 := Lib.hid (World.gained_refl w)
  have hsz : w.heap.size = w.heap.size := rfl
  go_enter Tryz.func10, Tryz.ntmps10
  go_wp2_with fail
  have hsc : (w.alloc (.cells #[.slice p L.length cp, .int .i64 0, .int .u64 0] 62)).heap.size = w.heap.size + 1 := by rw [World.size_alloc]
  refine (among_any w _ (w.heap.size) 0 _ [1, 42, 99] (w.heap.size + 1) (HCN.out.gain (by repeat (first | with_reducible (first | exact World.gained_refl _ | exact ⟨_, rfl⟩ | apply gain_ext | apply gain_alloc | apply gain_drewN | apply gain_drew) | (refine gain_setCell ?_ (by first | exact Nat.le_refl _ | exact World.size_ext _ _ | (simp; done) | (simp; omega)) _)))) (by omega) (own_lit' (w := (w.alloc (.cells #[.slice p L.length cp, .int .i64 0, .int .u64 0] 62))) (e := 3) (base := w.heap.size + 1) (l := [1, 42, 99]) (C := #[.int .i64 1, .int .i64 42, .int .i64 99]) intC_length rfl (by first | rfl | omega) (Nat.le_of_eq hsc.symm)) (by omega) (by simp) (by simp)).mono ?_
  rintro e w2 ⟨q, rfl, hm, hc1, hg1⟩
  clear hm
  go_wp2_with fail
  refine (class_any w _ (w.heap.size) _ q (hc1.gain (by repeat (first | with_reducible (first | exact World.gained_refl _ | exact ⟨_, rfl⟩ | apply gain_ext | apply gain_alloc | apply gain_drewN | apply gain_drew) | (refine gain_setCell ?_ (by first | exact Nat.le_refl _ | exact World.size_ext _ _ | (simp; done) | (simp; omega)) _)))) (by omega)).mono ?_
  rintro e w3 ⟨c, rfl, hz, hc2, hg2⟩
  go_wp2_with fail
  refine (specClassText_any c _ hz).mono ?_
  rintro e w4 ⟨rfl, d4, rfl⟩
  have hT : (if classB c = true then clsT c else ⟨#[]⟩ : ByteArray).size ≤ 60 := by
    split
    · rename_i hb; exact cls_size hb
    · decide
  generalize (if classB c = true then clsT c else ⟨#[]⟩ : ByteArray) = T at hT ⊢
  go_wp2_with fail
  refine (one_any w _ (w.heap.size) _ 4 (hc2.gain (by repeat (first | with_reducible (first | exact World.gained_refl _ | exact ⟨_, rfl⟩ | apply gain_ext | apply gain_alloc | apply gain_drewN | apply gain_drew) | (refine gain_setCell ?_ (by first | exact Nat.le_refl _ | exact World.size_ext _ _ | (simp; done) | (simp; omega)) _)))) (by omega)).mono ?_
  rintro e w5 ⟨b, rfl, hc5, hg5⟩
  cases b with
  | false =>
    go_wp2_with fail
    go_ret
    exact ⟨_, rfl, by omega, hc5.up⟩
  | true =>
    go_wp2_with fail
    refine (spoilt_any w _ (w.heap.size) _ T hc5 (by omega) (by omega)).mono ?_
    rintro e w6 ⟨t2, rfl, ht2, hc6, hg6⟩
    go_wp2_with fail
    go_ret
    exact ⟨_, rfl, ht2, hc6.up⟩
end Go.Proofs.YtffkkchflohhaaaGreatDoor
