/- impl.ParseClass. Conditions: at most 1048576 bytes; what the library's variables hold. -/
import Derived.Test.YtffkkchflohhaaaGreatDoorReadI
import Derived.Test.YtffkkchflohhaaaGreatDoorParseS
import Derived.Test.YtffkkchflohhaaaGreatDoorOwnAt
import Derived.Test.YtffkkchflohhaaaGreatDoorTextI
import Derived.Test.YtffkkchflohhaaaGreatDoorOneClass
import Derived.Deep.DeepCutAuto
namespace Go.Ori
theorem flat_str (l : List ByteArray) : (l.map Value.string).toArray.toList = l.flatMap strC := by
  rw [List.toList_toArray]
  induction l with
  | nil => rfl
  | cons a l ih => rw [List.map_cons, List.flatMap_cons, ih]; rfl
theorem cut_le (s sep : List UInt8) : (Lib.cut s sep).1.length ≤ s.length ∧ (Lib.cut s sep).2.1.length ≤ s.length := by
  unfold Lib.cut
  split
  · simp
    omega
  · simp
theorem five {L : List Int} (h : L.length = 5) : ∃ n0 n1 n2 n3 n4, L = [n0, n1, n2, n3, n4] := by
  match L, h with
  | [n0, n1, n2, n3, n4], _ => exact ⟨n0, n1, n2, n3, n4, rfl⟩
end Go.Ori
namespace Go.Proofs.YtffkkchflohhaaaGreatDoor
open Go.RowKit Go.Ori
set_option maxHeartbeats 16000000 in
set_option maxRecDepth 100000 in
theorem implParse_any (s : ByteArray) (w : World) (hs : s.size ≤ 1048576) (he : Env w) :
    Calls Tryz.prog 9 #[.string s] w fun x w' => ∃ (c : Cls) (ok : Bool), x = .returned (.tuple #[.agg #[.int .i64 c.id, .string c.name, .int .i64 c.low, .int .i64 c.high, .bool c.women, .bool c.men, .int .i64 c.course, .int .i64 c.most], .bool ok]) ∧ ParsedAs s c ok ∧ ∃ d, w' = w.ext d := by
  have HE := Lib.hid he
  clear he
  have HR0 := Lib.hid (heap_alloc_new w (.cells #[.int .i64 0, .string ⟨#[]⟩, .int .i64 0, .int .i64 0, .bool false, .bool false, .int .i64 0, .int .i64 0] 25))
  have HG0 : Hid (∃ d, w.alloc (.cells #[.int .i64 0, .string ⟨#[]⟩, .int .i64 0, .int .i64 0, .bool false, .bool false, .int .i64 0, .int .i64 0] 25) = w.ext d) := Lib.hid (by repeat (first | with_reducible (first | exact World.gained_refl _ | exact ⟨_, rfl⟩ | apply gain_ext | apply gain_alloc | apply gain_drewN | apply gain_drew) | (refine gain_setCell ?_ (by first | exact Nat.le_refl _ | exact World.size_ext _ _ | (simp; done) | (simp; omega)) _)))
  have HW := Lib.hid (splitB_is s 32)
  have HLN := Lib.hid (Lib.splitB_all ⟨#[32]⟩ (Nat.le_refl 1) 0 _ s rfl)
  have HSP := Lib.hid (fun (W : World) (hW : ∃ d, W = w.ext d) => (show Calls Tryz.prog 29 #[.string s, .string ⟨#[32]⟩] W fun e w' => e = .returned (.slice (some ⟨W.heap.size, 0, none⟩) (Lib.countB s ⟨#[32]⟩ + 1) (Lib.countB s ⟨#[32]⟩ + 1)) ∧ w' = W.alloc (.cells ((Lib.splitB ⟨#[32]⟩ 0 (Lib.countB s ⟨#[32]⟩) s).map Value.string).toArray 9) from by
    obtain ⟨m, hm⟩ := (HE.out.up hW).maxl
    exact Tryz.strings_Split s ⟨#[32]⟩ m W (by omega) hm (Nat.le_refl 1)))
  have HCU := Lib.hid (fun (t : ByteArray) (ht : t.size ≤ 1048576) (W : World) (hW : ∃ d, W = w.ext d) => (show Calls Tryz.prog 30 #[.string t, .string ⟨#[45]⟩] W _ from by
    obtain ⟨m, hm⟩ := (HE.out.up hW).maxl
    exact Tryz.strings_Cut t ⟨#[45]⟩ m W (by omega) hm))
  generalize hws : Lib.splitB ⟨#[32]⟩ 0 (Lib.countB s ⟨#[32]⟩) s = ws at HW HLN HSP
  generalize Lib.countB s ⟨#[32]⟩ = cn at HLN HSP
  clear hws
  go_enter Tryz.func9, Tryz.ntmps9
  go_wp2_with fail
  generalize w.alloc (.cells #[.int .i64 0, .string ⟨#[]⟩, .int .i64 0, .int .i64 0, .bool false, .bool false, .int .i64 0, .int .i64 0] 25) = W1 at HR0 HG0 ⊢
  refine (HSP.out _ HG0.out).mono ?_
  rintro e w1 ⟨rfl, rfl⟩
  have HR := Lib.hid (prow_up HR0.out (w' := W1.alloc (.cells (ws.map Value.string).toArray 9)) (by repeat (first | with_reducible (first | exact World.gained_refl _ | exact ⟨_, rfl⟩ | apply gain_ext | apply gain_alloc | apply gain_drewN | apply gain_drew) | (refine gain_setCell ?_ (by first | exact Nat.le_refl _ | exact World.size_ext _ _ | (simp; done) | (simp; omega)) _))))
  have HG := Lib.hid (gain_trans HG0.out (w' := W1.alloc (.cells (ws.map Value.string).toArray 9)) (by repeat (first | with_reducible (first | exact World.gained_refl _ | exact ⟨_, rfl⟩ | apply gain_ext | apply gain_alloc | apply gain_drewN | apply gain_drew) | (refine gain_setCell ?_ (by first | exact Nat.le_refl _ | exact World.size_ext _ _ | (simp; done) | (simp; omega)) _))))
  have HO8 := Lib.hid (fun (h : ws.length = 8) => sl_of_own strC_length (own_lit' (w := W1) (e := 9) (base := W1.heap.size) (C := (ws.map Value.string).toArray) (l := ws) (g := W1.heap.size) strC_length (flat_str ws) rfl (Nat.le_refl _) (by omega)))
  have HN8 : Hid (¬ ws.length = 8 → ∀ c', classB c' = true → clsT c' ≠ s) := Lib.hid (fun h c' hc e => h (by rw [cls_words hc e HW.out]; rfl))
  have hcn : cn ≤ 1048577 := by
    have h1 := HLN.out
    have h2 := congrArg List.length HW.out
    rw [List.length_map] at h2
    have h3 := splitU_len 32 (toL s)
    have h4 : (toL s).length = s.size := rfl
    omega
  clear HR0 HG0 HSP
  generalize W1.alloc (.cells (ws.map Value.string).toArray 9) = X at HR HG HO8 ⊢
  generalize W1.heap.size = gW at HO8 ⊢
  by_cases h8 : ws.length = 8
  case neg =>
    have hne : (((cn : Int) + 1) != 8) = true := by have := HLN.out; simp; omega
    have HNO := Lib.hid (HN8.out h8)
    clear HN8 HO8 h8
    have yc0 : X.cell? ⟨w.heap.size, 0, none⟩ = some (.int .i64 0) := World.cell_of_heap HR.out 0
    have yf0 : X.frozen? ⟨w.heap.size, 0, none⟩ = false := World.free_of_heap HR.out 0
    have yc1 : X.cell? ⟨w.heap.size, 1, none⟩ = some (.string ⟨#[]⟩) := World.cell_of_heap HR.out 1
    have yf1 : X.frozen? ⟨w.heap.size, 1, none⟩ = false := World.free_of_heap HR.out 1
    have yc2 : X.cell? ⟨w.heap.size, 2, none⟩ = some (.int .i64 0) := World.cell_of_heap HR.out 2
    have yf2 : X.frozen? ⟨w.heap.size, 2, none⟩ = false := World.free_of_heap HR.out 2
    have yc3 : X.cell? ⟨w.heap.size, 3, none⟩ = some (.int .i64 0) := World.cell_of_heap HR.out 3
    have yf3 : X.frozen? ⟨w.heap.size, 3, none⟩ = false := World.free_of_heap HR.out 3
    have yc4 : X.cell? ⟨w.heap.size, 4, none⟩ = some (.bool false) := World.cell_of_heap HR.out 4
    have yf4 : X.frozen? ⟨w.heap.size, 4, none⟩ = false := World.free_of_heap HR.out 4
    have yc5 : X.cell? ⟨w.heap.size, 5, none⟩ = some (.bool false) := World.cell_of_heap HR.out 5
    have yf5 : X.frozen? ⟨w.heap.size, 5, none⟩ = false := World.free_of_heap HR.out 5
    have yc6 : X.cell? ⟨w.heap.size, 6, none⟩ = some (.int .i64 0) := World.cell_of_heap HR.out 6
    have yf6 : X.frozen? ⟨w.heap.size, 6, none⟩ = false := World.free_of_heap HR.out 6
    have yc7 : X.cell? ⟨w.heap.size, 7, none⟩ = some (.int .i64 0) := World.cell_of_heap HR.out 7
    have yf7 : X.frozen? ⟨w.heap.size, 7, none⟩ = false := World.free_of_heap HR.out 7
    have yo := World.oldB_of_cell yc0
    have zw0 := World.heap_setCell_row HR.out 0 (.int .i64 0)
    simp only [List.setIfInBounds_toArray, List.set_cons_zero, List.set_cons_succ] at zw0
    have zg0 : (X.setCell ⟨w.heap.size, 0, none⟩ (.int .i64 0)).cell? ⟨w.heap.size, 0, none⟩ = some (.int .i64 0) := World.cell_of_heap zw0 0
    have zw1 := World.heap_setCell_row zw0 1 (.string ⟨#[]⟩)
    simp only [List.setIfInBounds_toArray, List.set_cons_zero, List.set_cons_succ] at zw1
    have zg1 : ((X.setCell ⟨w.heap.size, 0, none⟩ (.int .i64 0)).setCell ⟨w.heap.size, 1, none⟩ (.string ⟨#[]⟩)).cell? ⟨w.heap.size, 1, none⟩ = some (.string ⟨#[]⟩) := World.cell_of_heap zw1 1
    have zw2 := World.heap_setCell_row zw1 2 (.int .i64 0)
    simp only [List.setIfInBounds_toArray, List.set_cons_zero, List.set_cons_succ] at zw2
    have zg2 : (((X.setCell ⟨w.heap.size, 0, none⟩ (.int .i64 0)).setCell ⟨w.heap.size, 1, none⟩ (.string ⟨#[]⟩)).setCell ⟨w.heap.size, 2, none⟩ (.int .i64 0)).cell? ⟨w.heap.size, 2, none⟩ = some (.int .i64 0) := World.cell_of_heap zw2 2
    have zw3 := World.heap_setCell_row zw2 3 (.int .i64 0)
    simp only [List.setIfInBounds_toArray, List.set_cons_zero, List.set_cons_succ] at zw3
    have zg3 : ((((X.setCell ⟨w.heap.size, 0, none⟩ (.int .i64 0)).setCell ⟨w.heap.size, 1, none⟩ (.string ⟨#[]⟩)).setCell ⟨w.heap.size, 2, none⟩ (.int .i64 0)).setCell ⟨w.heap.size, 3, none⟩ (.int .i64 0)).cell? ⟨w.heap.size, 3, none⟩ = some (.int .i64 0) := World.cell_of_heap zw3 3
    have zw4 := World.heap_setCell_row zw3 4 (.bool false)
    simp only [List.setIfInBounds_toArray, List.set_cons_zero, List.set_cons_succ] at zw4
    have zg4 : (((((X.setCell ⟨w.heap.size, 0, none⟩ (.int .i64 0)).setCell ⟨w.heap.size, 1, none⟩ (.string ⟨#[]⟩)).setCell ⟨w.heap.size, 2, none⟩ (.int .i64 0)).setCell ⟨w.heap.size, 3, none⟩ (.int .i64 0)).setCell ⟨w.heap.size, 4, none⟩ (.bool false)).cell? ⟨w.heap.size, 4, none⟩ = some (.bool false) := World.cell_of_heap zw4 4
    have zw5 := World.heap_setCell_row zw4 5 (.bool false)
    simp only [List.setIfInBounds_toArray, List.set_cons_zero, List.set_cons_succ] at zw5
    have zg5 : ((((((X.setCell ⟨w.heap.size, 0, none⟩ (.int .i64 0)).setCell ⟨w.heap.size, 1, none⟩ (.string ⟨#[]⟩)).setCell ⟨w.heap.size, 2, none⟩ (.int .i64 0)).setCell ⟨w.heap.size, 3, none⟩ (.int .i64 0)).setCell ⟨w.heap.size, 4, none⟩ (.bool false)).setCell ⟨w.heap.size, 5, none⟩ (.bool false)).cell? ⟨w.heap.size, 5, none⟩ = some (.bool false) := World.cell_of_heap zw5 5
    have zw6 := World.heap_setCell_row zw5 6 (.int .i64 0)
    simp only [List.setIfInBounds_toArray, List.set_cons_zero, List.set_cons_succ] at zw6
    have zg6 : (((((((X.setCell ⟨w.heap.size, 0, none⟩ (.int .i64 0)).setCell ⟨w.heap.size, 1, none⟩ (.string ⟨#[]⟩)).setCell ⟨w.heap.size, 2, none⟩ (.int .i64 0)).setCell ⟨w.heap.size, 3, none⟩ (.int .i64 0)).setCell ⟨w.heap.size, 4, none⟩ (.bool false)).setCell ⟨w.heap.size, 5, none⟩ (.bool false)).setCell ⟨w.heap.size, 6, none⟩ (.int .i64 0)).cell? ⟨w.heap.size, 6, none⟩ = some (.int .i64 0) := World.cell_of_heap zw6 6
    have zw7 := World.heap_setCell_row zw6 7 (.int .i64 0)
    simp only [List.setIfInBounds_toArray, List.set_cons_zero, List.set_cons_succ] at zw7
    have zg7 : ((((((((X.setCell ⟨w.heap.size, 0, none⟩ (.int .i64 0)).setCell ⟨w.heap.size, 1, none⟩ (.string ⟨#[]⟩)).setCell ⟨w.heap.size, 2, none⟩ (.int .i64 0)).setCell ⟨w.heap.size, 3, none⟩ (.int .i64 0)).setCell ⟨w.heap.size, 4, none⟩ (.bool false)).setCell ⟨w.heap.size, 5, none⟩ (.bool false)).setCell ⟨w.heap.size, 6, none⟩ (.int .i64 0)).setCell ⟨w.heap.size, 7, none⟩ (.int .i64 0)).cell? ⟨w.heap.size, 7, none⟩ = some (.int .i64 0) := World.cell_of_heap zw7 7
    clear zw0 zw1 zw2 zw3 zw4 zw5 zw6 zw7
    go_wp2_with fail
    refine bodyPost_ret (v := .tuple #[.agg #[.int .i64 0, .string ⟨#[]⟩, .int .i64 0, .int .i64 0, .bool false, .bool false, .int .i64 0, .int .i64 0], .bool false]) (by simp [results, Tryz.results9, go_sem, zg0, zg1, zg2, zg3, zg4, zg5, zg6, zg7]) rfl ?_
    exact ⟨zeroC, false, rfl, parsed_no HNO.out, (gain_setCell (gain_setCell (gain_setCell (gain_setCell (gain_setCell (gain_setCell (gain_setCell (gain_setCell HG.out (a := ⟨w.heap.size, 0, none⟩) (Nat.le_refl _) _) (a := ⟨w.heap.size, 1, none⟩) (Nat.le_refl _) _) (a := ⟨w.heap.size, 2, none⟩) (Nat.le_refl _) _) (a := ⟨w.heap.size, 3, none⟩) (Nat.le_refl _) _) (a := ⟨w.heap.size, 4, none⟩) (Nat.le_refl _) _) (a := ⟨w.heap.size, 5, none⟩) (Nat.le_refl _) _) (a := ⟨w.heap.size, 6, none⟩) (Nat.le_refl _) _) (a := ⟨w.heap.size, 7, none⟩) (Nat.le_refl _) _)⟩
  obtain rfl : cn = 7 := by have := HLN.out; omega
  have HO := Lib.hid (HO8.out h8)
  clear HN8 HO8 HLN hcn
  obtain ⟨w0, w1, w2, w3, w4, w5, w6, w7, rfl⟩ := eight h8
  have k0 := sl_str HO.out (k := 0) (by simp)
  have k1 := sl_str HO.out (k := 1) (by simp)
  have k2 := sl_str HO.out (k := 2) (by simp)
  have k3 := sl_str HO.out (k := 3) (by simp)
  have k4 := sl_str HO.out (k := 4) (by simp)
  have k5 := sl_str HO.out (k := 5) (by simp)
  have k6 := sl_str HO.out (k := 6) (by simp)
  have k7 := sl_str HO.out (k := 7) (by simp)
  simp only [List.getElem_cons_zero, List.getElem_cons_succ, Nat.zero_add] at k0 k1 k2 k3 k4 k5 k6 k7
  have HLE := Lib.hid (part_le HW.out)
  have hb0 := World.oldB_of_cell k0
  have HW2 := Lib.hid (fun c' (hc : classB c' = true) (e : clsT c' = s) => words_eqs (cls_words hc e HW.out))
  clear h8 HO
  go_wp2_with fail
  refine (HCU.out w2 (by have := HLE.out w2 (by simp); omega) _ HG.out).mono ?_
  rintro e w1 ⟨rfl, dn, rfl⟩
  have HLO := Lib.hid (cut_le (toL w2) [45])
  have HA2 : Hid (∀ c', classB c' = true → clsT c' = s → (⟨(Lib.cut (toL w2) [45]).1.toArray⟩ : ByteArray) = decB c'.low.toNat ∧ (⟨(Lib.cut (toL w2) [45]).2.1.toArray⟩ : ByteArray) = decB c'.high.toNat) := Lib.hid (fun c' hc e => by
    rw [(HW2.out c' hc e).2.2.1, ages_cut]
    exact ⟨rfl, rfl⟩)
  have hz1 : (⟨(Lib.cut (toL w2) [45]).1.toArray⟩ : ByteArray).size ≤ 1048576 := by have h1 := HLO.out.1; have h2 := HLE.out w2 (by simp); have h3 : (toL w2).length = w2.size := rfl; show (Lib.cut (toL w2) [45]).1.toArray.size ≤ _; rw [List.size_toArray]; omega
  have hz2 : (⟨(Lib.cut (toL w2) [45]).2.1.toArray⟩ : ByteArray).size ≤ 1048576 := by have h1 := HLO.out.2; have h2 := HLE.out w2 (by simp); have h3 : (toL w2).length = w2.size := rfl; show (Lib.cut (toL w2) [45]).2.1.toArray.size ≤ _; rw [List.size_toArray]; omega
  generalize hlo : (⟨(Lib.cut (toL w2) [45]).1.toArray⟩ : ByteArray) = lo at HA2 hz1
  generalize hhi : (⟨(Lib.cut (toL w2) [45]).2.1.toArray⟩ : ByteArray) = hi at HA2 hz2
  generalize (Lib.cut w2.data.toList [45]).2.2 = fnd
  have HR2 := Lib.hid (prow_up HR.out (w' := X.drewN dn) (by repeat (first | with_reducible (first | exact World.gained_refl _ | exact ⟨_, rfl⟩ | apply gain_ext | apply gain_alloc | apply gain_drewN | apply gain_drew) | (refine gain_setCell ?_ (by first | exact Nat.le_refl _ | exact World.size_ext _ _ | (simp; done) | (simp; omega)) _))))
  have HG2 := Lib.hid (gain_trans HG.out (w' := X.drewN dn) (by repeat (first | with_reducible (first | exact World.gained_refl _ | exact ⟨_, rfl⟩ | apply gain_ext | apply gain_alloc | apply gain_drewN | apply gain_drew) | (refine gain_setCell ?_ (by first | exact Nat.le_refl _ | exact World.size_ext _ _ | (simp; done) | (simp; omega)) _))))
  replace k0 := pcell_up k0 (w' := X.drewN dn) (by repeat (first | with_reducible (first | exact World.gained_refl _ | exact ⟨_, rfl⟩ | apply gain_ext | apply gain_alloc | apply gain_drewN | apply gain_drew) | (refine gain_setCell ?_ (by first | exact Nat.le_refl _ | exact World.size_ext _ _ | (simp; done) | (simp; omega)) _)))
  replace k1 := pcell_up k1 (w' := X.drewN dn) (by repeat (first | with_reducible (first | exact World.gained_refl _ | exact ⟨_, rfl⟩ | apply gain_ext | apply gain_alloc | apply gain_drewN | apply gain_drew) | (refine gain_setCell ?_ (by first | exact Nat.le_refl _ | exact World.size_ext _ _ | (simp; done) | (simp; omega)) _)))
  replace k2 := pcell_up k2 (w' := X.drewN dn) (by repeat (first | with_reducible (first | exact World.gained_refl _ | exact ⟨_, rfl⟩ | apply gain_ext | apply gain_alloc | apply gain_drewN | apply gain_drew) | (refine gain_setCell ?_ (by first | exact Nat.le_refl _ | exact World.size_ext _ _ | (simp; done) | (simp; omega)) _)))
  replace k3 := pcell_up k3 (w' := X.drewN dn) (by repeat (first | with_reducible (first | exact World.gained_refl _ | exact ⟨_, rfl⟩ | apply gain_ext | apply gain_alloc | apply gain_drewN | apply gain_drew) | (refine gain_setCell ?_ (by first | exact Nat.le_refl _ | exact World.size_ext _ _ | (simp; done) | (simp; omega)) _)))
  replace k4 := pcell_up k4 (w' := X.drewN dn) (by repeat (first | with_reducible (first | exact World.gained_refl _ | exact ⟨_, rfl⟩ | apply gain_ext | apply gain_alloc | apply gain_drewN | apply gain_drew) | (refine gain_setCell ?_ (by first | exact Nat.le_refl _ | exact World.size_ext _ _ | (simp; done) | (simp; omega)) _)))
  replace k5 := pcell_up k5 (w' := X.drewN dn) (by repeat (first | with_reducible (first | exact World.gained_refl _ | exact ⟨_, rfl⟩ | apply gain_ext | apply gain_alloc | apply gain_drewN | apply gain_drew) | (refine gain_setCell ?_ (by first | exact Nat.le_refl _ | exact World.size_ext _ _ | (simp; done) | (simp; omega)) _)))
  replace k6 := pcell_up k6 (w' := X.drewN dn) (by repeat (first | with_reducible (first | exact World.gained_refl _ | exact ⟨_, rfl⟩ | apply gain_ext | apply gain_alloc | apply gain_drewN | apply gain_drew) | (refine gain_setCell ?_ (by first | exact Nat.le_refl _ | exact World.size_ext _ _ | (simp; done) | (simp; omega)) _)))
  replace k7 := pcell_up k7 (w' := X.drewN dn) (by repeat (first | with_reducible (first | exact World.gained_refl _ | exact ⟨_, rfl⟩ | apply gain_ext | apply gain_alloc | apply gain_drewN | apply gain_drew) | (refine gain_setCell ?_ (by first | exact Nat.le_refl _ | exact World.size_ext _ _ | (simp; done) | (simp; omega)) _)))
  replace hb0 := World.oldB_of_cell k0
  clear HR HG HCU HLO hlo hhi
  generalize X.drewN dn = Y at *
  replace HR := HR2
  replace HG := HG2
  clear HR2 HG2
  have hlx : ∀ x ∈ [w0, lo, hi, w5, w7], x.size ≤ 1048576 := fun x hx => by
    have q0 := HLE.out w0 (by simp)
    have q5 := HLE.out w5 (by simp)
    have q7 := HLE.out w7 (by simp)
    simp only [List.mem_cons, List.not_mem_nil, or_false] at hx
    rcases hx with rfl | rfl | rfl | rfl | rfl <;> omega
  have HLX := Lib.hid hlx
  clear hlx hz1 hz2
  go_upto_region 5 with fail
  go_cut [8, 9] (fun r_ o_ wx => ∃ (ok : Bool) (L : List Int), o_ = .bool ok ∧ (∃ d, wx = Y.ext d) ∧ wx.own Y.heap.size 3 intC 1 r_ L ∧ (∀ x ∈ L, -999999 ≤ x ∧ x ≤ 999999) ∧ (ok = true → L.length = 5 ∧ ∀ (j : Nat) (h1 : j < L.length) (h2 : j < [w0, lo, hi, w5, w7].length) (k : Nat), k < 1000 → [w0, lo, hi, w5, w7][j] = decB k → L[j] = k) ∧ (ok = false → ∃ (j : Nat) (h2 : j < [w0, lo, hi, w5, w7].length), ∀ k : Nat, k < 1000 → [w0, lo, hi, w5, w7][j] ≠ decB k))
  case first =>
    refine wp_region_held_drew (S := (fun w' => w'.cell? ⟨gW, 0, none⟩ = some (.string w0) ∧ w'.cell? ⟨gW, 5, none⟩ = some (.string w5) ∧ w'.cell? ⟨gW, 7, none⟩ = some (.string w7))) (by kernel_rfl) (by (try dsimp only); (refine ⟨?_, ?_, ?_⟩ <;> (with_reducible (repeat (first | assumption | refine cell_ext ?_ _ | refine cell_drew ?_ | refine cell_alloc ?_ _))))) (fun hHeld => ?_)
    refine wpAnyH_take (i := 0) (oi := ⟨_, _, _, _, _, _⟩) (v := ?_) rfl (by kernel_rfl) (by kernel_rfl) (by kernel_rfl) (fun _ _ _ h => h) (Or.inl ⟨by rfl, ?_⟩) (by assumption) ?_
    rotate_left
    · intro w hSw; (try dsimp only at hSw); go_simp; (try with_reducible rfl)
    try simp only [Act.put, List.setIfInBounds_toArray, List.set_cons_zero, List.set_cons_succ]
    refine wpAnyH_take (i := 1) (oi := ⟨_, _, _, _, _, _⟩) (v := ?_) rfl (by kernel_rfl) (by kernel_rfl) (by kernel_rfl) (fun _ _ _ h => h) (Or.inl ⟨by rfl, ?_⟩) (by assumption) ?_
    rotate_left
    · intro w hSw; (try dsimp only at hSw); go_simp; (try with_reducible rfl)
    try simp only [Act.put, List.setIfInBounds_toArray, List.set_cons_zero, List.set_cons_succ]
    refine wpAnyH_take (i := 2) (oi := ⟨_, _, _, _, _, _⟩) (v := ?_) rfl (by kernel_rfl) (by kernel_rfl) (by kernel_rfl) (fun _ _ _ h => h) (Or.inl ⟨by rfl, ?_⟩) (by assumption) ?_
    rotate_left
    · intro w hSw; (try dsimp only at hSw); go_simp; (try with_reducible rfl)
    try simp only [Act.put, List.setIfInBounds_toArray, List.set_cons_zero, List.set_cons_succ]
    refine wpAnyH_take (i := 3) (oi := ⟨_, _, _, _, _, _⟩) (v := ?_) rfl (by kernel_rfl) (by kernel_rfl) (by kernel_rfl) (fun _ _ _ h => h) (Or.inl ⟨by rfl, ?_⟩) (by assumption) ?_
    rotate_left
    · intro w hSw; (try dsimp only at hSw); go_simp; (try with_reducible rfl)
    try simp only [Act.put, List.setIfInBounds_toArray, List.set_cons_zero, List.set_cons_succ]
    refine wpAnyH_take (i := 4) (oi := ⟨_, _, _, _, _, _⟩) (v := ?_) rfl (by kernel_rfl) (by kernel_rfl) (by kernel_rfl) (fun _ _ _ h => h) (Or.inl ⟨by rfl, ?_⟩) (by assumption) ?_
    rotate_left
    · intro w hSw; (try dsimp only at hSw); go_simp; (try with_reducible rfl)
    try simp only [Act.put, List.setIfInBounds_toArray, List.set_cons_zero, List.set_cons_succ]
    refine wpAnyH_take (i := 5) (oi := ⟨_, _, _, _, _, _⟩) (v := ?_) rfl (by kernel_rfl) (by kernel_rfl) (by kernel_rfl) (fun _ _ _ h => h) (Or.inl ⟨by rfl, ?_⟩) (by assumption) ?_
    rotate_left
    · intro w hSw; (try dsimp only at hSw); go_simp; (try with_reducible rfl)
    try simp only [Act.put, List.setIfInBounds_toArray, List.set_cons_zero, List.set_cons_succ]
    refine wpAnyH_take (i := 6) (oi := ⟨_, _, _, _, _, _⟩) (v := ?_) rfl (by kernel_rfl) (by kernel_rfl) (by kernel_rfl) (fun _ _ _ h => h) (Or.inl ⟨by rfl, ?_⟩) (by assumption) ?_
    rotate_left
    · intro w hSw; (try dsimp only at hSw); go_simp; (try with_reducible rfl)
    try simp only [Act.put, List.setIfInBounds_toArray, List.set_cons_zero, List.set_cons_succ]
    refine wpAnyH_take (i := 7) (oi := ⟨_, _, _, _, _, _⟩) (v := ?_) rfl (by kernel_rfl) (by kernel_rfl) (by kernel_rfl) (fun _ _ _ h => h) (Or.inl ⟨by rfl, ?_⟩) (by assumption) ?_
    rotate_left
    · intro w hSw; (try dsimp only at hSw); go_simp; (try with_reducible rfl)
    try simp only [Act.put, List.setIfInBounds_toArray, List.set_cons_zero, List.set_cons_succ]
    refine wpAnyH_take (i := 8) (oi := ⟨_, _, _, _, _, _⟩) (v := ?_) rfl (by kernel_rfl) (by kernel_rfl) (by kernel_rfl) (fun _ _ _ h => h) (Or.inl ⟨by rfl, ?_⟩) (by assumption) ?_
    rotate_left
    · intro w hSw; (try dsimp only at hSw); go_simp; (try with_reducible rfl)
    try simp only [Act.put, List.setIfInBounds_toArray, List.set_cons_zero, List.set_cons_succ]
    refine wpAnyH_take (i := 9) (oi := ⟨_, _, _, _, _, _⟩) (v := ?_) rfl (by kernel_rfl) (by kernel_rfl) (by kernel_rfl) (fun _ _ _ h => h) (Or.inl ⟨by rfl, ?_⟩) (by assumption) ?_
    rotate_left
    · intro w hSw; (try dsimp only at hSw); go_simp; (try with_reducible rfl)
    try simp only [Act.put, List.setIfInBounds_toArray, List.set_cons_zero, List.set_cons_succ]
    refine wpAnyH_take (i := 10) (oi := ⟨_, _, _, _, _, _⟩) (v := ?_) rfl (by kernel_rfl) (by kernel_rfl) (by kernel_rfl) (fun _ _ _ h => h) (Or.inl ⟨by rfl, ?_⟩) (by assumption) ?_
    rotate_left
    · intro w hSw; (try dsimp only at hSw); go_simp; (try with_reducible rfl)
    try simp only [Act.put, List.setIfInBounds_toArray, List.set_cons_zero, List.set_cons_succ]
    refine wpAnyH_ready (rs := [11, 12]) (by kernel_rfl) (by simp) ?_
    refine AllReadyH.cons rfl (fun K hK => ?_) (AllReadyH.cons rfl (fun K hK => ?_) (AllReadyH.nil))
    · skip
      go_simp
      have LS : Hid ((World.alloc Y (.cells #[.string w0, .string lo, .string hi, .string w5, .string w7] 9)).sl strC 1 (.slice (some ⟨Y.heap.size, 0, none⟩) 5 5) [w0, lo, hi, w5, w7]) := Lib.hid (sl_lit (w := Y) (e := 9) (l := ([w0, lo, hi, w5, w7] : List ByteArray)) (C := #[.string w0, .string lo, .string hi, .string w5, .string w7]) (g := Y.heap.size) strC_length rfl rfl)
      (try dsimp only)
      refine hK.out _ _ ?_ (fun hHeld => ?_)
      · exact ⟨pcell_up k0 (by repeat (first | with_reducible (first | exact World.gained_refl _ | exact ⟨_, rfl⟩ | apply gain_ext | apply gain_alloc | apply gain_drewN | apply gain_drew) | (refine gain_setCell ?_ (by first | exact Nat.le_refl _ | exact World.size_ext _ _ | (simp; done) | (simp; omega)) _))), pcell_up k5 (by repeat (first | with_reducible (first | exact World.gained_refl _ | exact ⟨_, rfl⟩ | apply gain_ext | apply gain_alloc | apply gain_drewN | apply gain_drew) | (refine gain_setCell ?_ (by first | exact Nat.le_refl _ | exact World.size_ext _ _ | (simp; done) | (simp; omega)) _))), pcell_up k7 (by repeat (first | with_reducible (first | exact World.gained_refl _ | exact ⟨_, rfl⟩ | apply gain_ext | apply gain_alloc | apply gain_drewN | apply gain_drew) | (refine gain_setCell ?_ (by first | exact Nat.le_refl _ | exact World.size_ext _ _ | (simp; done) | (simp; omega)) _)))⟩
      clear hK K
      try simp only [Act.put, List.setIfInBounds_toArray, List.set_cons_zero, List.set_cons_succ]
      refine wpAnyH_ready (rs := [12]) (by kernel_rfl) (by simp) ?_
      refine AllReadyH.cons rfl (fun K hK => ?_) (AllReadyH.nil)
      go_simp
      have LI : Hid ((World.alloc (Y.alloc (.cells #[.string w0, .string lo, .string hi, .string w5, .string w7] 9)) (.cells #[.int .i64 0, .int .i64 1, .int .i64 2, .int .i64 3, .int .i64 4] 3)).sl intC 1 (.slice (some ⟨Y.heap.size + 1, 0, none⟩) 5 5) [0, 1, 2, 3, 4]) := Lib.hid (sl_lit (w := (Y.alloc (.cells #[.string w0, .string lo, .string hi, .string w5, .string w7] 9))) (e := 3) (l := ([0, 1, 2, 3, 4] : List Int)) (C := #[.int .i64 0, .int .i64 1, .int .i64 2, .int .i64 3, .int .i64 4]) (g := Y.heap.size + 1) intC_length rfl (World.size_alloc _ _).symm)
      (try dsimp only)
      refine hK.out _ _ ?_ (fun hHeld => ?_)
      · exact ⟨pcell_up k0 (by repeat (first | with_reducible (first | exact World.gained_refl _ | exact ⟨_, rfl⟩ | apply gain_ext | apply gain_alloc | apply gain_drewN | apply gain_drew) | (refine gain_setCell ?_ (by first | exact Nat.le_refl _ | exact World.size_ext _ _ | (simp; done) | (simp; omega)) _))), pcell_up k5 (by repeat (first | with_reducible (first | exact World.gained_refl _ | exact ⟨_, rfl⟩ | apply gain_ext | apply gain_alloc | apply gain_drewN | apply gain_drew) | (refine gain_setCell ?_ (by first | exact Nat.le_refl _ | exact World.size_ext _ _ | (simp; done) | (simp; omega)) _))), pcell_up k7 (by repeat (first | with_reducible (first | exact World.gained_refl _ | exact ⟨_, rfl⟩ | apply gain_ext | apply gain_alloc | apply gain_drewN | apply gain_drew) | (refine gain_setCell ?_ (by first | exact Nat.le_refl _ | exact World.size_ext _ _ | (simp; done) | (simp; omega)) _)))⟩
      clear hK K
      try simp only [Act.put, List.setIfInBounds_toArray, List.set_cons_zero, List.set_cons_succ]
      refine wpAnyH_ready (rs := [13]) (by kernel_rfl) (by simp) ?_
      refine AllReadyH.cons rfl (fun K hK => ?_) (AllReadyH.nil)
      go_simp
      go_wp2_with fail
      refine (numbersIn_any Y.heap.size 0 5 (Y.heap.size + 1) 0 5 [w0, lo, hi, w5, w7] ((Y.alloc (.cells #[.string w0, .string lo, .string hi, .string w5, .string w7] 9)).alloc (.cells #[.int .i64 0, .int .i64 1, .int .i64 2, .int .i64 3, .int .i64 4] 3)).drew rfl HLX.out (by with_reducible (repeat (first | exact LS.out | refine World.sl_ext strC_length ?_ _ | refine sl_alloc strC_length ?_ _ | refine sl_drew ?_))) (by with_reducible (repeat (first | exact LI.out | refine World.sl_ext intC_length ?_ _ | refine sl_alloc intC_length ?_ _ | refine sl_drew ?_))) (HE.out.up (gain_trans HG.out (by repeat (first | with_reducible (first | exact World.gained_refl _ | exact ⟨_, rfl⟩ | apply gain_ext | apply gain_alloc | apply gain_drewN | apply gain_drew) | (refine gain_setCell ?_ (by first | exact Nat.le_refl _ | exact World.size_ext _ _ | (simp; done) | (simp; omega)) _)))))).mono ?_
      rintro e w1 ⟨r, ok, L, rfl, ⟨dq, rfl⟩, ho, hb, hc⟩
      have HOO := Lib.hid (own_base (b := Y.heap.size) ho (gain_size (by repeat (first | with_reducible (first | exact World.gained_refl _ | exact ⟨_, rfl⟩ | apply gain_ext | apply gain_alloc | apply gain_drewN | apply gain_drew) | (refine gain_setCell ?_ (by first | exact Nat.le_refl _ | exact World.size_ext _ _ | (simp; done) | (simp; omega)) _)))))
      have HBB := Lib.hid hb
      have HCC := Lib.hid hc
      clear ho hb hc
      (try dsimp only)
      refine hK.out _ _ ?_ (fun hHeld => ?_)
      · exact ⟨pcell_up k0 (by repeat (first | with_reducible (first | exact World.gained_refl _ | exact ⟨_, rfl⟩ | apply gain_ext | apply gain_alloc | apply gain_drewN | apply gain_drew) | (refine gain_setCell ?_ (by first | exact Nat.le_refl _ | exact World.size_ext _ _ | (simp; done) | (simp; omega)) _))), pcell_up k5 (by repeat (first | with_reducible (first | exact World.gained_refl _ | exact ⟨_, rfl⟩ | apply gain_ext | apply gain_alloc | apply gain_drewN | apply gain_drew) | (refine gain_setCell ?_ (by first | exact Nat.le_refl _ | exact World.size_ext _ _ | (simp; done) | (simp; omega)) _))), pcell_up k7 (by repeat (first | with_reducible (first | exact World.gained_refl _ | exact ⟨_, rfl⟩ | apply gain_ext | apply gain_alloc | apply gain_drewN | apply gain_drew) | (refine gain_setCell ?_ (by first | exact Nat.le_refl _ | exact World.size_ext _ _ | (simp; done) | (simp; omega)) _)))⟩
      clear hK K
      try simp only [Act.put, List.setIfInBounds_toArray, List.set_cons_zero, List.set_cons_succ]
      refine wpAnyH_take (i := 14) (oi := ⟨_, _, _, _, _, _⟩) (v := ?_) rfl (by kernel_rfl) (by kernel_rfl) (by kernel_rfl) (fun _ _ _ h => h) (Or.inl ⟨by rfl, ?_⟩) (by assumption) ?_
      rotate_left
      · intro w hSw; (try dsimp only at hSw); go_simp; (try with_reducible rfl)
      try simp only [Act.put, List.setIfInBounds_toArray, List.set_cons_zero, List.set_cons_succ]
      refine wpAnyH_take (i := 15) (oi := ⟨_, _, _, _, _, _⟩) (v := ?_) rfl (by kernel_rfl) (by kernel_rfl) (by kernel_rfl) (fun _ _ _ h => h) (Or.inl ⟨by rfl, ?_⟩) (by assumption) ?_
      rotate_left
      · intro w hSw; (try dsimp only at hSw); go_simp; (try with_reducible rfl)
      try simp only [Act.put, List.setIfInBounds_toArray, List.set_cons_zero, List.set_cons_succ]
      refine wpAnyH_take (i := 16) (oi := ⟨_, _, _, _, _, _⟩) (v := ?_) rfl (by kernel_rfl) (by kernel_rfl) (by kernel_rfl) (fun _ _ _ h => h) (Or.inl ⟨by rfl, ?_⟩) (by assumption) ?_
      rotate_left
      · intro w hSw; (try dsimp only at hSw); go_simp; (try with_reducible rfl)
      try simp only [Act.put, List.setIfInBounds_toArray, List.set_cons_zero, List.set_cons_succ]
      refine wpAnyH_take (i := 17) (oi := ⟨_, _, _, _, _, _⟩) (v := ?_) rfl (by kernel_rfl) (by kernel_rfl) (by kernel_rfl) (fun _ _ _ h => h) (Or.inl ⟨by rfl, ?_⟩) (by assumption) ?_
      rotate_left
      · intro w hSw; (try dsimp only at hSw); go_simp; (try with_reducible rfl)
      try simp only [Act.put, List.setIfInBounds_toArray, List.set_cons_zero, List.set_cons_succ]
      refine wpAnyH_take (i := 18) (oi := ⟨_, _, _, _, _, _⟩) (v := ?_) rfl (by kernel_rfl) (by kernel_rfl) (by kernel_rfl) (fun _ _ _ h => h) (Or.inl ⟨by rfl, ?_⟩) (by assumption) ?_
      rotate_left
      · intro w hSw; (try dsimp only at hSw); go_simp; (try with_reducible rfl)
      try simp only [Act.put, List.setIfInBounds_toArray, List.set_cons_zero, List.set_cons_succ]
      refine wpAnyH_done (by kernel_rfl) ?_ _
      go_wp2_with fail
      go_meet
      exact ⟨ok, L, rfl, (by repeat (first | with_reducible (first | exact World.gained_refl _ | exact ⟨_, rfl⟩ | apply gain_ext | apply gain_alloc | apply gain_drewN | apply gain_drew) | (refine gain_setCell ?_ (by first | exact Nat.le_refl _ | exact World.size_ext _ _ | (simp; done) | (simp; omega)) _))), HOO.out, HBB.out, HCC.out⟩
    · skip
      go_simp
      have LI : Hid ((World.alloc Y (.cells #[.int .i64 0, .int .i64 1, .int .i64 2, .int .i64 3, .int .i64 4] 3)).sl intC 1 (.slice (some ⟨Y.heap.size, 0, none⟩) 5 5) [0, 1, 2, 3, 4]) := Lib.hid (sl_lit (w := Y) (e := 3) (l := ([0, 1, 2, 3, 4] : List Int)) (C := #[.int .i64 0, .int .i64 1, .int .i64 2, .int .i64 3, .int .i64 4]) (g := Y.heap.size) intC_length rfl rfl)
      (try dsimp only)
      refine hK.out _ _ ?_ (fun hHeld => ?_)
      · exact ⟨pcell_up k0 (by repeat (first | with_reducible (first | exact World.gained_refl _ | exact ⟨_, rfl⟩ | apply gain_ext | apply gain_alloc | apply gain_drewN | apply gain_drew) | (refine gain_setCell ?_ (by first | exact Nat.le_refl _ | exact World.size_ext _ _ | (simp; done) | (simp; omega)) _))), pcell_up k5 (by repeat (first | with_reducible (first | exact World.gained_refl _ | exact ⟨_, rfl⟩ | apply gain_ext | apply gain_alloc | apply gain_drewN | apply gain_drew) | (refine gain_setCell ?_ (by first | exact Nat.le_refl _ | exact World.size_ext _ _ | (simp; done) | (simp; omega)) _))), pcell_up k7 (by repeat (first | with_reducible (first | exact World.gained_refl _ | exact ⟨_, rfl⟩ | apply gain_ext | apply gain_alloc | apply gain_drewN | apply gain_drew) | (refine gain_setCell ?_ (by first | exact Nat.le_refl _ | exact World.size_ext _ _ | (simp; done) | (simp; omega)) _)))⟩
      clear hK K
      try simp only [Act.put, List.setIfInBounds_toArray, List.set_cons_zero, List.set_cons_succ]
      refine wpAnyH_ready (rs := [11]) (by kernel_rfl) (by simp) ?_
      refine AllReadyH.cons rfl (fun K hK => ?_) (AllReadyH.nil)
      go_simp
      have LS : Hid ((World.alloc (Y.alloc (.cells #[.int .i64 0, .int .i64 1, .int .i64 2, .int .i64 3, .int .i64 4] 3)) (.cells #[.string w0, .string lo, .string hi, .string w5, .string w7] 9)).sl strC 1 (.slice (some ⟨Y.heap.size + 1, 0, none⟩) 5 5) [w0, lo, hi, w5, w7]) := Lib.hid (sl_lit (w := (Y.alloc (.cells #[.int .i64 0, .int .i64 1, .int .i64 2, .int .i64 3, .int .i64 4] 3))) (e := 9) (l := ([w0, lo, hi, w5, w7] : List ByteArray)) (C := #[.string w0, .string lo, .string hi, .string w5, .string w7]) (g := Y.heap.size + 1) strC_length rfl (World.size_alloc _ _).symm)
      (try dsimp only)
      refine hK.out _ _ ?_ (fun hHeld => ?_)
      · exact ⟨pcell_up k0 (by repeat (first | with_reducible (first | exact World.gained_refl _ | exact ⟨_, rfl⟩ | apply gain_ext | apply gain_alloc | apply gain_drewN | apply gain_drew) | (refine gain_setCell ?_ (by first | exact Nat.le_refl _ | exact World.size_ext _ _ | (simp; done) | (simp; omega)) _))), pcell_up k5 (by repeat (first | with_reducible (first | exact World.gained_refl _ | exact ⟨_, rfl⟩ | apply gain_ext | apply gain_alloc | apply gain_drewN | apply gain_drew) | (refine gain_setCell ?_ (by first | exact Nat.le_refl _ | exact World.size_ext _ _ | (simp; done) | (simp; omega)) _))), pcell_up k7 (by repeat (first | with_reducible (first | exact World.gained_refl _ | exact ⟨_, rfl⟩ | apply gain_ext | apply gain_alloc | apply gain_drewN | apply gain_drew) | (refine gain_setCell ?_ (by first | exact Nat.le_refl _ | exact World.size_ext _ _ | (simp; done) | (simp; omega)) _)))⟩
      clear hK K
      try simp only [Act.put, List.setIfInBounds_toArray, List.set_cons_zero, List.set_cons_succ]
      refine wpAnyH_ready (rs := [13]) (by kernel_rfl) (by simp) ?_
      refine AllReadyH.cons rfl (fun K hK => ?_) (AllReadyH.nil)
      go_simp
      go_wp2_with fail
      refine (numbersIn_any (Y.heap.size + 1) 0 5 Y.heap.size 0 5 [w0, lo, hi, w5, w7] ((Y.alloc (.cells #[.int .i64 0, .int .i64 1, .int .i64 2, .int .i64 3, .int .i64 4] 3)).alloc (.cells #[.string w0, .string lo, .string hi, .string w5, .string w7] 9)).drew rfl HLX.out (by with_reducible (repeat (first | exact LS.out | refine World.sl_ext strC_length ?_ _ | refine sl_alloc strC_length ?_ _ | refine sl_drew ?_))) (by with_reducible (repeat (first | exact LI.out | refine World.sl_ext intC_length ?_ _ | refine sl_alloc intC_length ?_ _ | refine sl_drew ?_))) (HE.out.up (gain_trans HG.out (by repeat (first | with_reducible (first | exact World.gained_refl _ | exact ⟨_, rfl⟩ | apply gain_ext | apply gain_alloc | apply gain_drewN | apply gain_drew) | (refine gain_setCell ?_ (by first | exact Nat.le_refl _ | exact World.size_ext _ _ | (simp; done) | (simp; omega)) _)))))).mono ?_
      rintro e w1 ⟨r, ok, L, rfl, ⟨dq, rfl⟩, ho, hb, hc⟩
      have HOO := Lib.hid (own_base (b := Y.heap.size) ho (gain_size (by repeat (first | with_reducible (first | exact World.gained_refl _ | exact ⟨_, rfl⟩ | apply gain_ext | apply gain_alloc | apply gain_drewN | apply gain_drew) | (refine gain_setCell ?_ (by first | exact Nat.le_refl _ | exact World.size_ext _ _ | (simp; done) | (simp; omega)) _)))))
      have HBB := Lib.hid hb
      have HCC := Lib.hid hc
      clear ho hb hc
      (try dsimp only)
      refine hK.out _ _ ?_ (fun hHeld => ?_)
      · exact ⟨pcell_up k0 (by repeat (first | with_reducible (first | exact World.gained_refl _ | exact ⟨_, rfl⟩ | apply gain_ext | apply gain_alloc | apply gain_drewN | apply gain_drew) | (refine gain_setCell ?_ (by first | exact Nat.le_refl _ | exact World.size_ext _ _ | (simp; done) | (simp; omega)) _))), pcell_up k5 (by repeat (first | with_reducible (first | exact World.gained_refl _ | exact ⟨_, rfl⟩ | apply gain_ext | apply gain_alloc | apply gain_drewN | apply gain_drew) | (refine gain_setCell ?_ (by first | exact Nat.le_refl _ | exact World.size_ext _ _ | (simp; done) | (simp; omega)) _))), pcell_up k7 (by repeat (first | with_reducible (first | exact World.gained_refl _ | exact ⟨_, rfl⟩ | apply gain_ext | apply gain_alloc | apply gain_drewN | apply gain_drew) | (refine gain_setCell ?_ (by first | exact Nat.le_refl _ | exact World.size_ext _ _ | (simp; done) | (simp; omega)) _)))⟩
      clear hK K
      try simp only [Act.put, List.setIfInBounds_toArray, List.set_cons_zero, List.set_cons_succ]
      refine wpAnyH_take (i := 14) (oi := ⟨_, _, _, _, _, _⟩) (v := ?_) rfl (by kernel_rfl) (by kernel_rfl) (by kernel_rfl) (fun _ _ _ h => h) (Or.inl ⟨by rfl, ?_⟩) (by assumption) ?_
      rotate_left
      · intro w hSw; (try dsimp only at hSw); go_simp; (try with_reducible rfl)
      try simp only [Act.put, List.setIfInBounds_toArray, List.set_cons_zero, List.set_cons_succ]
      refine wpAnyH_take (i := 15) (oi := ⟨_, _, _, _, _, _⟩) (v := ?_) rfl (by kernel_rfl) (by kernel_rfl) (by kernel_rfl) (fun _ _ _ h => h) (Or.inl ⟨by rfl, ?_⟩) (by assumption) ?_
      rotate_left
      · intro w hSw; (try dsimp only at hSw); go_simp; (try with_reducible rfl)
      try simp only [Act.put, List.setIfInBounds_toArray, List.set_cons_zero, List.set_cons_succ]
      refine wpAnyH_take (i := 16) (oi := ⟨_, _, _, _, _, _⟩) (v := ?_) rfl (by kernel_rfl) (by kernel_rfl) (by kernel_rfl) (fun _ _ _ h => h) (Or.inl ⟨by rfl, ?_⟩) (by assumption) ?_
      rotate_left
      · intro w hSw; (try dsimp only at hSw); go_simp; (try with_reducible rfl)
      try simp only [Act.put, List.setIfInBounds_toArray, List.set_cons_zero, List.set_cons_succ]
      refine wpAnyH_take (i := 17) (oi := ⟨_, _, _, _, _, _⟩) (v := ?_) rfl (by kernel_rfl) (by kernel_rfl) (by kernel_rfl) (fun _ _ _ h => h) (Or.inl ⟨by rfl, ?_⟩) (by assumption) ?_
      rotate_left
      · intro w hSw; (try dsimp only at hSw); go_simp; (try with_reducible rfl)
      try simp only [Act.put, List.setIfInBounds_toArray, List.set_cons_zero, List.set_cons_succ]
      refine wpAnyH_take (i := 18) (oi := ⟨_, _, _, _, _, _⟩) (v := ?_) rfl (by kernel_rfl) (by kernel_rfl) (by kernel_rfl) (fun _ _ _ h => h) (Or.inl ⟨by rfl, ?_⟩) (by assumption) ?_
      rotate_left
      · intro w hSw; (try dsimp only at hSw); go_simp; (try with_reducible rfl)
      try simp only [Act.put, List.setIfInBounds_toArray, List.set_cons_zero, List.set_cons_succ]
      refine wpAnyH_done (by kernel_rfl) ?_ _
      go_wp2_with fail
      go_meet
      exact ⟨ok, L, rfl, (by repeat (first | with_reducible (first | exact World.gained_refl _ | exact ⟨_, rfl⟩ | apply gain_ext | apply gain_alloc | apply gain_drewN | apply gain_drew) | (refine gain_setCell ?_ (by first | exact Nat.le_refl _ | exact World.size_ext _ _ | (simp; done) | (simp; omega)) _))), HOO.out, HBB.out, HCC.out⟩
  obtain ⟨ok, L, rfl, ⟨dq, rfl⟩, ho, hb, hc⟩ := hcut
  have HOO := Lib.hid ho
  have HBB := Lib.hid hb
  have HCL := Lib.hid hc
  clear ho hb hc
  have HR3 := Lib.hid (prow_up HR.out (w' := Y.ext dq) ⟨_, rfl⟩)
  have HG3 := Lib.hid (gain_trans HG.out (w' := Y.ext dq) ⟨_, rfl⟩)
  replace k1 := cell_ext k1 dq
  replace k3 := cell_ext k3 dq
  have hb2 := World.oldB_of_cell k1
  clear HR HG hb0 HLX k0 k2 k4 k5 k6 k7
  generalize Y.ext dq = Z at *
  replace HR := HR3
  replace HG := HG3
  clear HR3 HG3
  generalize Y.heap.size = lY at HOO
  cases ok with
  | false =>
    have HNO : Hid (∀ c', classB c' = true → clsT c' ≠ s) := Lib.hid (fun c' hc e => by
      obtain ⟨j, hj, hno⟩ := HCL.out.2 rfl
      obtain ⟨q0, q1, q2, q3, q5, q7⟩ := HW2.out c' hc e
      obtain ⟨z0, z1⟩ := HA2.out c' hc e
      obtain ⟨i1, lo1, hi1, co1, mo1, a1, a2, a3, a4, a5, b1, b2, b3, b4, b5, _⟩ := cls_nats hc
      rw [a1, Int.toNat_natCast] at q0
      rw [a2, Int.toNat_natCast] at z0
      rw [a3, Int.toNat_natCast] at z1
      rw [a4, Int.toNat_natCast] at q5
      rw [a5, Int.toNat_natCast] at q7
      rcases (by simp only [List.length_cons, List.length_nil] at hj; omega : j = 0 ∨ j = 1 ∨ j = 2 ∨ j = 3 ∨ j = 4) with rfl | rfl | rfl | rfl | rfl
      · exact hno i1 b1 q0
      · exact hno lo1 b2 z0
      · exact hno hi1 b3 z1
      · exact hno co1 b4 q5
      · exact hno mo1 b5 q7)
    clear HCL HOO HBB
    have yc0 : Z.cell? ⟨w.heap.size, 0, none⟩ = some (.int .i64 0) := World.cell_of_heap HR.out 0
    have yf0 : Z.frozen? ⟨w.heap.size, 0, none⟩ = false := World.free_of_heap HR.out 0
    have yc1 : Z.cell? ⟨w.heap.size, 1, none⟩ = some (.string ⟨#[]⟩) := World.cell_of_heap HR.out 1
    have yf1 : Z.frozen? ⟨w.heap.size, 1, none⟩ = false := World.free_of_heap HR.out 1
    have yc2 : Z.cell? ⟨w.heap.size, 2, none⟩ = some (.int .i64 0) := World.cell_of_heap HR.out 2
    have yf2 : Z.frozen? ⟨w.heap.size, 2, none⟩ = false := World.free_of_heap HR.out 2
    have yc3 : Z.cell? ⟨w.heap.size, 3, none⟩ = some (.int .i64 0) := World.cell_of_heap HR.out 3
    have yf3 : Z.frozen? ⟨w.heap.size, 3, none⟩ = false := World.free_of_heap HR.out 3
    have yc4 : Z.cell? ⟨w.heap.size, 4, none⟩ = some (.bool false) := World.cell_of_heap HR.out 4
    have yf4 : Z.frozen? ⟨w.heap.size, 4, none⟩ = false := World.free_of_heap HR.out 4
    have yc5 : Z.cell? ⟨w.heap.size, 5, none⟩ = some (.bool false) := World.cell_of_heap HR.out 5
    have yf5 : Z.frozen? ⟨w.heap.size, 5, none⟩ = false := World.free_of_heap HR.out 5
    have yc6 : Z.cell? ⟨w.heap.size, 6, none⟩ = some (.int .i64 0) := World.cell_of_heap HR.out 6
    have yf6 : Z.frozen? ⟨w.heap.size, 6, none⟩ = false := World.free_of_heap HR.out 6
    have yc7 : Z.cell? ⟨w.heap.size, 7, none⟩ = some (.int .i64 0) := World.cell_of_heap HR.out 7
    have yf7 : Z.frozen? ⟨w.heap.size, 7, none⟩ = false := World.free_of_heap HR.out 7
    have yo := World.oldB_of_cell yc0
    have zw0 := World.heap_setCell_row HR.out 0 (.int .i64 0)
    simp only [List.setIfInBounds_toArray, List.set_cons_zero, List.set_cons_succ] at zw0
    have zg0 : (Z.setCell ⟨w.heap.size, 0, none⟩ (.int .i64 0)).cell? ⟨w.heap.size, 0, none⟩ = some (.int .i64 0) := World.cell_of_heap zw0 0
    have zw1 := World.heap_setCell_row zw0 1 (.string ⟨#[]⟩)
    simp only [List.setIfInBounds_toArray, List.set_cons_zero, List.set_cons_succ] at zw1
    have zg1 : ((Z.setCell ⟨w.heap.size, 0, none⟩ (.int .i64 0)).setCell ⟨w.heap.size, 1, none⟩ (.string ⟨#[]⟩)).cell? ⟨w.heap.size, 1, none⟩ = some (.string ⟨#[]⟩) := World.cell_of_heap zw1 1
    have zw2 := World.heap_setCell_row zw1 2 (.int .i64 0)
    simp only [List.setIfInBounds_toArray, List.set_cons_zero, List.set_cons_succ] at zw2
    have zg2 : (((Z.setCell ⟨w.heap.size, 0, none⟩ (.int .i64 0)).setCell ⟨w.heap.size, 1, none⟩ (.string ⟨#[]⟩)).setCell ⟨w.heap.size, 2, none⟩ (.int .i64 0)).cell? ⟨w.heap.size, 2, none⟩ = some (.int .i64 0) := World.cell_of_heap zw2 2
    have zw3 := World.heap_setCell_row zw2 3 (.int .i64 0)
    simp only [List.setIfInBounds_toArray, List.set_cons_zero, List.set_cons_succ] at zw3
    have zg3 : ((((Z.setCell ⟨w.heap.size, 0, none⟩ (.int .i64 0)).setCell ⟨w.heap.size, 1, none⟩ (.string ⟨#[]⟩)).setCell ⟨w.heap.size, 2, none⟩ (.int .i64 0)).setCell ⟨w.heap.size, 3, none⟩ (.int .i64 0)).cell? ⟨w.heap.size, 3, none⟩ = some (.int .i64 0) := World.cell_of_heap zw3 3
    have zw4 := World.heap_setCell_row zw3 4 (.bool false)
    simp only [List.setIfInBounds_toArray, List.set_cons_zero, List.set_cons_succ] at zw4
    have zg4 : (((((Z.setCell ⟨w.heap.size, 0, none⟩ (.int .i64 0)).setCell ⟨w.heap.size, 1, none⟩ (.string ⟨#[]⟩)).setCell ⟨w.heap.size, 2, none⟩ (.int .i64 0)).setCell ⟨w.heap.size, 3, none⟩ (.int .i64 0)).setCell ⟨w.heap.size, 4, none⟩ (.bool false)).cell? ⟨w.heap.size, 4, none⟩ = some (.bool false) := World.cell_of_heap zw4 4
    have zw5 := World.heap_setCell_row zw4 5 (.bool false)
    simp only [List.setIfInBounds_toArray, List.set_cons_zero, List.set_cons_succ] at zw5
    have zg5 : ((((((Z.setCell ⟨w.heap.size, 0, none⟩ (.int .i64 0)).setCell ⟨w.heap.size, 1, none⟩ (.string ⟨#[]⟩)).setCell ⟨w.heap.size, 2, none⟩ (.int .i64 0)).setCell ⟨w.heap.size, 3, none⟩ (.int .i64 0)).setCell ⟨w.heap.size, 4, none⟩ (.bool false)).setCell ⟨w.heap.size, 5, none⟩ (.bool false)).cell? ⟨w.heap.size, 5, none⟩ = some (.bool false) := World.cell_of_heap zw5 5
    have zw6 := World.heap_setCell_row zw5 6 (.int .i64 0)
    simp only [List.setIfInBounds_toArray, List.set_cons_zero, List.set_cons_succ] at zw6
    have zg6 : (((((((Z.setCell ⟨w.heap.size, 0, none⟩ (.int .i64 0)).setCell ⟨w.heap.size, 1, none⟩ (.string ⟨#[]⟩)).setCell ⟨w.heap.size, 2, none⟩ (.int .i64 0)).setCell ⟨w.heap.size, 3, none⟩ (.int .i64 0)).setCell ⟨w.heap.size, 4, none⟩ (.bool false)).setCell ⟨w.heap.size, 5, none⟩ (.bool false)).setCell ⟨w.heap.size, 6, none⟩ (.int .i64 0)).cell? ⟨w.heap.size, 6, none⟩ = some (.int .i64 0) := World.cell_of_heap zw6 6
    have zw7 := World.heap_setCell_row zw6 7 (.int .i64 0)
    simp only [List.setIfInBounds_toArray, List.set_cons_zero, List.set_cons_succ] at zw7
    have zg7 : ((((((((Z.setCell ⟨w.heap.size, 0, none⟩ (.int .i64 0)).setCell ⟨w.heap.size, 1, none⟩ (.string ⟨#[]⟩)).setCell ⟨w.heap.size, 2, none⟩ (.int .i64 0)).setCell ⟨w.heap.size, 3, none⟩ (.int .i64 0)).setCell ⟨w.heap.size, 4, none⟩ (.bool false)).setCell ⟨w.heap.size, 5, none⟩ (.bool false)).setCell ⟨w.heap.size, 6, none⟩ (.int .i64 0)).setCell ⟨w.heap.size, 7, none⟩ (.int .i64 0)).cell? ⟨w.heap.size, 7, none⟩ = some (.int .i64 0) := World.cell_of_heap zw7 7
    clear zw0 zw1 zw2 zw3 zw4 zw5 zw6 zw7
    go_wp2_with fail
    refine bodyPost_ret (v := .tuple #[.agg #[.int .i64 0, .string ⟨#[]⟩, .int .i64 0, .int .i64 0, .bool false, .bool false, .int .i64 0, .int .i64 0], .bool false]) (by simp [results, Tryz.results9, go_sem, zg0, zg1, zg2, zg3, zg4, zg5, zg6, zg7]) rfl ?_
    exact ⟨zeroC, false, rfl, parsed_no HNO.out, (gain_setCell (gain_setCell (gain_setCell (gain_setCell (gain_setCell (gain_setCell (gain_setCell (gain_setCell HG.out (a := ⟨w.heap.size, 0, none⟩) (Nat.le_refl _) _) (a := ⟨w.heap.size, 1, none⟩) (Nat.le_refl _) _) (a := ⟨w.heap.size, 2, none⟩) (Nat.le_refl _) _) (a := ⟨w.heap.size, 3, none⟩) (Nat.le_refl _) _) (a := ⟨w.heap.size, 4, none⟩) (Nat.le_refl _) _) (a := ⟨w.heap.size, 5, none⟩) (Nat.le_refl _) _) (a := ⟨w.heap.size, 6, none⟩) (Nat.le_refl _) _) (a := ⟨w.heap.size, 7, none⟩) (Nat.le_refl _) _)⟩
  | true =>
  obtain ⟨hl5, hcl⟩ := HCL.out.1 rfl
  clear HCL
  obtain ⟨n0, n1, n2, n3, n4, rfl⟩ := five hl5
  have HK0 : Hid (∀ k : Nat, k < 1000 → w0 = decB k → n0 = k) := Lib.hid (fun k hk e => hcl 0 (by simp) (by simp) k hk e)
  have nb0 := HBB.out n0 (by simp)
  have HK1 : Hid (∀ k : Nat, k < 1000 → lo = decB k → n1 = k) := Lib.hid (fun k hk e => hcl 1 (by simp) (by simp) k hk e)
  have nb1 := HBB.out n1 (by simp)
  have HK2 : Hid (∀ k : Nat, k < 1000 → hi = decB k → n2 = k) := Lib.hid (fun k hk e => hcl 2 (by simp) (by simp) k hk e)
  have nb2 := HBB.out n2 (by simp)
  have HK3 : Hid (∀ k : Nat, k < 1000 → w5 = decB k → n3 = k) := Lib.hid (fun k hk e => hcl 3 (by simp) (by simp) k hk e)
  have nb3 := HBB.out n3 (by simp)
  have HK4 : Hid (∀ k : Nat, k < 1000 → w7 = decB k → n4 = k) := Lib.hid (fun k hk e => hcl 4 (by simp) (by simp) k hk e)
  have nb4 := HBB.out n4 (by simp)
  obtain ⟨gl, kl, rfl, _, _⟩ := own_addr HOO.out (by simp)
  have m0 := sl_int (sl_of_own intC_length HOO.out) (k := 0) (by simp)
  have m1 := sl_int (sl_of_own intC_length HOO.out) (k := 1) (by simp)
  have m2 := sl_int (sl_of_own intC_length HOO.out) (k := 2) (by simp)
  have m3 := sl_int (sl_of_own intC_length HOO.out) (k := 3) (by simp)
  have m4 := sl_int (sl_of_own intC_length HOO.out) (k := 4) (by simp)
  simp only [List.getElem_cons_zero, List.getElem_cons_succ, Nat.zero_add] at m0 m1 m2 m3 m4
  simp only [List.length_cons, List.length_nil, Nat.zero_add, Nat.reduceAdd]
  have om0 := World.oldB_of_cell m0
  clear hcl hl5 HBB HOO
  obtain ⟨wo, hwo⟩ : ∃ b, decide (0 ≤ Lib.indexByte (toL w3) 119) = b := ⟨_, rfl⟩
  obtain ⟨me, hme⟩ : ∃ b, decide (0 ≤ Lib.indexByte (toL w3) 109) = b := ⟨_, rfl⟩
  have HCW := Lib.hid (fun W => (show Calls Tryz.prog 32 #[.string w3, .string ⟨#[119]⟩] W fun e w' => e = .returned (.bool wo) ∧ w' = W from by rw [← hwo]; exact Tryz.strings_Contains_one w3 119 W))
  have HCM := Lib.hid (fun W => (show Calls Tryz.prog 32 #[.string w3, .string ⟨#[109]⟩] W fun e w' => e = .returned (.bool me) ∧ w' = W from by rw [← hme]; exact Tryz.strings_Contains_one w3 109 W))
  have hw1 : w1.size ≤ 1048576 := by have := HLE.out w1 (by simp); omega
  have HCC : Hid (∀ c', classB c' = true → clsT c' = s → (⟨n0, w1, n1, n2, wo, me, n3, n4⟩ : Cls) = c') := Lib.hid (fun c' hc e => by
    obtain ⟨q0, q1, q2, q3, q5, q7⟩ := HW2.out c' hc e
    obtain ⟨z0, z1⟩ := HA2.out c' hc e
    have hx := sex_has c'.women c'.men (cls_sexes hc)
    exact cls_make hc (fun k hk h => HK0.out k hk (q0.trans h)) (fun k hk h => HK1.out k hk (z0.trans h)) (fun k hk h => HK2.out k hk (z1.trans h)) (fun k hk h => HK3.out k hk (q5.trans h)) (fun k hk h => HK4.out k hk (q7.trans h)) q1 (by rw [← hwo, q3]; exact hx.1) (by rw [← hme, q3]; exact hx.2))
  clear hwo hme HW2 HA2 HLE HK0 HK1 HK2 HK3 HK4
  go_upto_region 8 with fail
  go_cut [10] (fun p_ wx => p_ = .pointer (some ⟨Z.heap.size, 0, none⟩) ∧ wx.heap[Z.heap.size]? = some (.cells #[.int .i64 n0, .string w1, .int .i64 n1, .int .i64 n2, .bool wo, .bool me, .int .i64 n3, .int .i64 n4] 25 (0, 0)) ∧ ∃ d, wx = Z.ext d)
  case first =>
    refine wp_region_held_drew (S := (fun w' => w'.cell? ⟨gl, 0, none⟩ = some (.int .i64 n0) ∧ w'.cell? ⟨gl, 1, none⟩ = some (.int .i64 n1) ∧ w'.cell? ⟨gl, 2, none⟩ = some (.int .i64 n2) ∧ w'.cell? ⟨gl, 3, none⟩ = some (.int .i64 n3) ∧ w'.cell? ⟨gl, 4, none⟩ = some (.int .i64 n4) ∧ w'.cell? ⟨gW, 1, none⟩ = some (.string w1) ∧ w'.cell? ⟨gW, 3, none⟩ = some (.string w3))) (by kernel_rfl) (by (try dsimp only); (refine ⟨?_, ?_, ?_, ?_, ?_, ?_, ?_⟩ <;> (with_reducible (repeat (first | assumption | refine cell_ext ?_ _ | refine cell_drew ?_ | refine cell_alloc ?_ _))))) (fun hHeld => ?_)
    refine wpAnyH_take (i := 0) (oi := ⟨_, _, _, _, _, _⟩) (v := ?_) rfl (by kernel_rfl) (by kernel_rfl) (by kernel_rfl) (fun _ _ _ h => h) (Or.inl ⟨by rfl, ?_⟩) (by assumption) ?_
    rotate_left
    · intro w hSw; (try dsimp only at hSw); go_simp; (try with_reducible rfl)
    try simp only [Act.put, List.setIfInBounds_toArray, List.set_cons_zero, List.set_cons_succ]
    refine wpAnyH_take (i := 1) (oi := ⟨_, _, _, _, _, _⟩) (v := ?_) rfl (by kernel_rfl) (by kernel_rfl) (by kernel_rfl) (fun _ _ _ h => h) (Or.inl ⟨by rfl, ?_⟩) (by assumption) ?_
    rotate_left
    · intro w hSw; (try dsimp only at hSw); go_simp; (try with_reducible rfl)
    try simp only [Act.put, List.setIfInBounds_toArray, List.set_cons_zero, List.set_cons_succ]
    refine wpAnyH_take (i := 2) (oi := ⟨_, _, _, _, _, _⟩) (v := ?_) rfl (by kernel_rfl) (by kernel_rfl) (by kernel_rfl) (fun _ _ _ h => h) (Or.inl ⟨by rfl, ?_⟩) (by assumption) ?_
    rotate_left
    · intro w hSw; (try dsimp only at hSw); go_simp; (try with_reducible rfl)
    try simp only [Act.put, List.setIfInBounds_toArray, List.set_cons_zero, List.set_cons_succ]
    refine wpAnyH_take (i := 3) (oi := ⟨_, _, _, _, _, _⟩) (v := ?_) rfl (by kernel_rfl) (by kernel_rfl) (by kernel_rfl) (fun _ _ _ h => h) (Or.inl ⟨by rfl, ?_⟩) (by assumption) ?_
    rotate_left
    · intro w hSw; (try dsimp only at hSw); go_simp; (try with_reducible rfl)
    try simp only [Act.put, List.setIfInBounds_toArray, List.set_cons_zero, List.set_cons_succ]
    refine wpAnyH_take (i := 4) (oi := ⟨_, _, _, _, _, _⟩) (v := ?_) rfl (by kernel_rfl) (by kernel_rfl) (by kernel_rfl) (fun _ _ _ h => h) (Or.inl ⟨by rfl, ?_⟩) (by assumption) ?_
    rotate_left
    · intro w hSw; (try dsimp only at hSw); go_simp; (try with_reducible rfl)
    try simp only [Act.put, List.setIfInBounds_toArray, List.set_cons_zero, List.set_cons_succ]
    refine wpAnyH_take (i := 5) (oi := ⟨_, _, _, _, _, _⟩) (v := ?_) rfl (by kernel_rfl) (by kernel_rfl) (by kernel_rfl) (fun _ _ _ h => h) (Or.inl ⟨by rfl, ?_⟩) (by assumption) ?_
    rotate_left
    · intro w hSw; (try dsimp only at hSw); go_simp; (try with_reducible rfl)
    try simp only [Act.put, List.setIfInBounds_toArray, List.set_cons_zero, List.set_cons_succ]
    refine wpAnyH_take (i := 6) (oi := ⟨_, _, _, _, _, _⟩) (v := ?_) rfl (by kernel_rfl) (by kernel_rfl) (by kernel_rfl) (fun _ _ _ h => h) (Or.inl ⟨by rfl, ?_⟩) (by assumption) ?_
    rotate_left
    · intro w hSw; (try dsimp only at hSw); go_simp; (try with_reducible rfl)
    try simp only [Act.put, List.setIfInBounds_toArray, List.set_cons_zero, List.set_cons_succ]
    refine wpAnyH_take (i := 7) (oi := ⟨_, _, _, _, _, _⟩) (v := ?_) rfl (by kernel_rfl) (by kernel_rfl) (by kernel_rfl) (fun _ _ _ h => h) (Or.inl ⟨by rfl, ?_⟩) (by assumption) ?_
    rotate_left
    · intro w hSw; (try dsimp only at hSw); go_simp; (try with_reducible rfl)
    try simp only [Act.put, List.setIfInBounds_toArray, List.set_cons_zero, List.set_cons_succ]
    refine wpAnyH_take (i := 8) (oi := ⟨_, _, _, _, _, _⟩) (v := ?_) rfl (by kernel_rfl) (by kernel_rfl) (by kernel_rfl) (fun _ _ _ h => h) (Or.inl ⟨by rfl, ?_⟩) (by assumption) ?_
    rotate_left
    · intro w hSw; (try dsimp only at hSw); go_simp; (try with_reducible rfl)
    try simp only [Act.put, List.setIfInBounds_toArray, List.set_cons_zero, List.set_cons_succ]
    refine wpAnyH_take (i := 9) (oi := ⟨_, _, _, _, _, _⟩) (v := ?_) rfl (by kernel_rfl) (by kernel_rfl) (by kernel_rfl) (fun _ _ _ h => h) (Or.inl ⟨by rfl, ?_⟩) (by assumption) ?_
    rotate_left
    · intro w hSw; (try dsimp only at hSw); go_simp; (try with_reducible rfl)
    try simp only [Act.put, List.setIfInBounds_toArray, List.set_cons_zero, List.set_cons_succ]
    refine wpAnyH_take (i := 10) (oi := ⟨_, _, _, _, _, _⟩) (v := ?_) rfl (by kernel_rfl) (by kernel_rfl) (by kernel_rfl) (fun _ _ _ h => h) (Or.inl ⟨by rfl, ?_⟩) (by assumption) ?_
    rotate_left
    · intro w hSw; (try dsimp only at hSw); go_simp; (try with_reducible rfl)
    try simp only [Act.put, List.setIfInBounds_toArray, List.set_cons_zero, List.set_cons_succ]
    refine wpAnyH_take (i := 11) (oi := ⟨_, _, _, _, _, _⟩) (v := ?_) rfl (by kernel_rfl) (by kernel_rfl) (by kernel_rfl) (fun _ _ _ h => h) (Or.inl ⟨by rfl, ?_⟩) (by assumption) ?_
    rotate_left
    · intro w hSw; (try dsimp only at hSw); go_simp; (try with_reducible rfl)
    try simp only [Act.put, List.setIfInBounds_toArray, List.set_cons_zero, List.set_cons_succ]
    refine wpAnyH_take (i := 12) (oi := ⟨_, _, _, _, _, _⟩) (v := ?_) rfl (by kernel_rfl) (by kernel_rfl) (by kernel_rfl) (fun _ _ _ h => h) (Or.inl ⟨by rfl, ?_⟩) (by assumption) ?_
    rotate_left
    · intro w hSw; (try dsimp only at hSw); go_simp; (try with_reducible rfl)
    try simp only [Act.put, List.setIfInBounds_toArray, List.set_cons_zero, List.set_cons_succ]
    refine wpAnyH_take (i := 13) (oi := ⟨_, _, _, _, _, _⟩) (v := ?_) rfl (by kernel_rfl) (by kernel_rfl) (by kernel_rfl) (fun _ _ _ h => h) (Or.inl ⟨by rfl, ?_⟩) (by assumption) ?_
    rotate_left
    · intro w hSw; (try dsimp only at hSw); go_simp; (try with_reducible rfl)
    try simp only [Act.put, List.setIfInBounds_toArray, List.set_cons_zero, List.set_cons_succ]
    refine wpAnyH_take (i := 14) (oi := ⟨_, _, _, _, _, _⟩) (v := ?_) rfl (by kernel_rfl) (by kernel_rfl) (by kernel_rfl) (fun _ _ _ h => h) (Or.inl ⟨by rfl, ?_⟩) (by assumption) ?_
    rotate_left
    · intro w hSw; (try dsimp only at hSw); go_simp; (try with_reducible rfl)
    try simp only [Act.put, List.setIfInBounds_toArray, List.set_cons_zero, List.set_cons_succ]
    refine wpAnyH_take (i := 16) (oi := ⟨_, _, _, _, _, _⟩) (v := ?_) rfl (by kernel_rfl) (by kernel_rfl) (by kernel_rfl) (fun _ _ _ h => h) (Or.inl ⟨by rfl, ?_⟩) (by assumption) ?_
    rotate_left
    · intro w hSw; (try dsimp only at hSw); go_simp; (try with_reducible rfl)
    try simp only [Act.put, List.setIfInBounds_toArray, List.set_cons_zero, List.set_cons_succ]
    refine wpAnyH_take (i := 17) (oi := ⟨_, _, _, _, _, _⟩) (v := ?_) rfl (by kernel_rfl) (by kernel_rfl) (by kernel_rfl) (fun _ _ _ h => h) (Or.inl ⟨by rfl, ?_⟩) (by assumption) ?_
    rotate_left
    · intro w hSw; (try dsimp only at hSw); go_simp; (try with_reducible rfl)
    try simp only [Act.put, List.setIfInBounds_toArray, List.set_cons_zero, List.set_cons_succ]
    refine wpAnyH_take (i := 18) (oi := ⟨_, _, _, _, _, _⟩) (v := ?_) rfl (by kernel_rfl) (by kernel_rfl) (by kernel_rfl) (fun _ _ _ h => h) (Or.inl ⟨by rfl, ?_⟩) (by assumption) ?_
    rotate_left
    · intro w hSw; (try dsimp only at hSw); go_simp; (try with_reducible rfl)
    try simp only [Act.put, List.setIfInBounds_toArray, List.set_cons_zero, List.set_cons_succ]
    refine wpAnyH_take (i := 20) (oi := ⟨_, _, _, _, _, _⟩) (v := ?_) rfl (by kernel_rfl) (by kernel_rfl) (by kernel_rfl) (fun _ _ _ h => h) (Or.inl ⟨by rfl, ?_⟩) (by assumption) ?_
    rotate_left
    · intro w hSw; (try dsimp only at hSw); go_simp; (try with_reducible rfl)
    try simp only [Act.put, List.setIfInBounds_toArray, List.set_cons_zero, List.set_cons_succ]
    refine wpAnyH_take (i := 21) (oi := ⟨_, _, _, _, _, _⟩) (v := ?_) rfl (by kernel_rfl) (by kernel_rfl) (by kernel_rfl) (fun _ _ _ h => h) (Or.inl ⟨by rfl, ?_⟩) (by assumption) ?_
    rotate_left
    · intro w hSw; (try dsimp only at hSw); go_simp; (try with_reducible rfl)
    try simp only [Act.put, List.setIfInBounds_toArray, List.set_cons_zero, List.set_cons_succ]
    refine wpAnyH_take (i := 22) (oi := ⟨_, _, _, _, _, _⟩) (v := ?_) rfl (by kernel_rfl) (by kernel_rfl) (by kernel_rfl) (fun _ _ _ h => h) (Or.inl ⟨by rfl, ?_⟩) (by assumption) ?_
    rotate_left
    · intro w hSw; (try dsimp only at hSw); go_simp; (try with_reducible rfl)
    try simp only [Act.put, List.setIfInBounds_toArray, List.set_cons_zero, List.set_cons_succ]
    refine wpAnyH_take (i := 23) (oi := ⟨_, _, _, _, _, _⟩) (v := ?_) rfl (by kernel_rfl) (by kernel_rfl) (by kernel_rfl) (fun _ _ _ h => h) (Or.inl ⟨by rfl, ?_⟩) (by assumption) ?_
    rotate_left
    · intro w hSw; (try dsimp only at hSw); go_simp; (try with_reducible rfl)
    try simp only [Act.put, List.setIfInBounds_toArray, List.set_cons_zero, List.set_cons_succ]
    refine wpAnyH_take (i := 24) (oi := ⟨_, _, _, _, _, _⟩) (v := ?_) rfl (by kernel_rfl) (by kernel_rfl) (by kernel_rfl) (fun _ _ _ h => h) (Or.inl ⟨by rfl, ?_⟩) (by assumption) ?_
    rotate_left
    · intro w hSw; (try dsimp only at hSw); go_simp; (try with_reducible rfl)
    try simp only [Act.put, List.setIfInBounds_toArray, List.set_cons_zero, List.set_cons_succ]
    refine wpAnyH_take (i := 25) (oi := ⟨_, _, _, _, _, _⟩) (v := ?_) rfl (by kernel_rfl) (by kernel_rfl) (by kernel_rfl) (fun _ _ _ h => h) (Or.inl ⟨by rfl, ?_⟩) (by assumption) ?_
    rotate_left
    · intro w hSw; (try dsimp only at hSw); go_simp; (try with_reducible rfl)
    try simp only [Act.put, List.setIfInBounds_toArray, List.set_cons_zero, List.set_cons_succ]
    refine wpAnyH_ready (rs := [15, 27]) (by kernel_rfl) (by simp) ?_
    refine AllReadyH.cons rfl (fun K hK => ?_) (AllReadyH.cons rfl (fun K hK => ?_) (AllReadyH.nil))
    · skip
      go_simp
      go_wp2_with fail
      refine (HCW.out _).mono ?_
      rintro e w1 ⟨rfl, rfl⟩
      (try dsimp only)
      refine hK.out _ _ ?_ (fun hHeld => ?_)
      · exact ⟨pcell_up m0 (by repeat (first | with_reducible (first | exact World.gained_refl _ | exact ⟨_, rfl⟩ | apply gain_ext | apply gain_alloc | apply gain_drewN | apply gain_drew) | (refine gain_setCell ?_ (by first | exact Nat.le_refl _ | exact World.size_ext _ _ | (simp; done) | (simp; omega)) _))), pcell_up m1 (by repeat (first | with_reducible (first | exact World.gained_refl _ | exact ⟨_, rfl⟩ | apply gain_ext | apply gain_alloc | apply gain_drewN | apply gain_drew) | (refine gain_setCell ?_ (by first | exact Nat.le_refl _ | exact World.size_ext _ _ | (simp; done) | (simp; omega)) _))), pcell_up m2 (by repeat (first | with_reducible (first | exact World.gained_refl _ | exact ⟨_, rfl⟩ | apply gain_ext | apply gain_alloc | apply gain_drewN | apply gain_drew) | (refine gain_setCell ?_ (by first | exact Nat.le_refl _ | exact World.size_ext _ _ | (simp; done) | (simp; omega)) _))), pcell_up m3 (by repeat (first | with_reducible (first | exact World.gained_refl _ | exact ⟨_, rfl⟩ | apply gain_ext | apply gain_alloc | apply gain_drewN | apply gain_drew) | (refine gain_setCell ?_ (by first | exact Nat.le_refl _ | exact World.size_ext _ _ | (simp; done) | (simp; omega)) _))), pcell_up m4 (by repeat (first | with_reducible (first | exact World.gained_refl _ | exact ⟨_, rfl⟩ | apply gain_ext | apply gain_alloc | apply gain_drewN | apply gain_drew) | (refine gain_setCell ?_ (by first | exact Nat.le_refl _ | exact World.size_ext _ _ | (simp; done) | (simp; omega)) _))), pcell_up k1 (by repeat (first | with_reducible (first | exact World.gained_refl _ | exact ⟨_, rfl⟩ | apply gain_ext | apply gain_alloc | apply gain_drewN | apply gain_drew) | (refine gain_setCell ?_ (by first | exact Nat.le_refl _ | exact World.size_ext _ _ | (simp; done) | (simp; omega)) _))), pcell_up k3 (by repeat (first | with_reducible (first | exact World.gained_refl _ | exact ⟨_, rfl⟩ | apply gain_ext | apply gain_alloc | apply gain_drewN | apply gain_drew) | (refine gain_setCell ?_ (by first | exact Nat.le_refl _ | exact World.size_ext _ _ | (simp; done) | (simp; omega)) _)))⟩
      clear hK K
      try simp only [Act.put, List.setIfInBounds_toArray, List.set_cons_zero, List.set_cons_succ]
      refine wpAnyH_ready (rs := [19, 27]) (by kernel_rfl) (by simp) ?_
      refine AllReadyH.cons rfl (fun K hK => ?_) (AllReadyH.cons rfl (fun K hK => ?_) (AllReadyH.nil))
      · skip
        go_simp
        go_wp2_with fail
        refine (HCM.out _).mono ?_
        rintro e w1 ⟨rfl, rfl⟩
        (try dsimp only)
        refine hK.out _ _ ?_ (fun hHeld => ?_)
        · exact ⟨pcell_up m0 (by repeat (first | with_reducible (first | exact World.gained_refl _ | exact ⟨_, rfl⟩ | apply gain_ext | apply gain_alloc | apply gain_drewN | apply gain_drew) | (refine gain_setCell ?_ (by first | exact Nat.le_refl _ | exact World.size_ext _ _ | (simp; done) | (simp; omega)) _))), pcell_up m1 (by repeat (first | with_reducible (first | exact World.gained_refl _ | exact ⟨_, rfl⟩ | apply gain_ext | apply gain_alloc | apply gain_drewN | apply gain_drew) | (refine gain_setCell ?_ (by first | exact Nat.le_refl _ | exact World.size_ext _ _ | (simp; done) | (simp; omega)) _))), pcell_up m2 (by repeat (first | with_reducible (first | exact World.gained_refl _ | exact ⟨_, rfl⟩ | apply gain_ext | apply gain_alloc | apply gain_drewN | apply gain_drew) | (refine gain_setCell ?_ (by first | exact Nat.le_refl _ | exact World.size_ext _ _ | (simp; done) | (simp; omega)) _))), pcell_up m3 (by repeat (first | with_reducible (first | exact World.gained_refl _ | exact ⟨_, rfl⟩ | apply gain_ext | apply gain_alloc | apply gain_drewN | apply gain_drew) | (refine gain_setCell ?_ (by first | exact Nat.le_refl _ | exact World.size_ext _ _ | (simp; done) | (simp; omega)) _))), pcell_up m4 (by repeat (first | with_reducible (first | exact World.gained_refl _ | exact ⟨_, rfl⟩ | apply gain_ext | apply gain_alloc | apply gain_drewN | apply gain_drew) | (refine gain_setCell ?_ (by first | exact Nat.le_refl _ | exact World.size_ext _ _ | (simp; done) | (simp; omega)) _))), pcell_up k1 (by repeat (first | with_reducible (first | exact World.gained_refl _ | exact ⟨_, rfl⟩ | apply gain_ext | apply gain_alloc | apply gain_drewN | apply gain_drew) | (refine gain_setCell ?_ (by first | exact Nat.le_refl _ | exact World.size_ext _ _ | (simp; done) | (simp; omega)) _))), pcell_up k3 (by repeat (first | with_reducible (first | exact World.gained_refl _ | exact ⟨_, rfl⟩ | apply gain_ext | apply gain_alloc | apply gain_drewN | apply gain_drew) | (refine gain_setCell ?_ (by first | exact Nat.le_refl _ | exact World.size_ext _ _ | (simp; done) | (simp; omega)) _)))⟩
        clear hK K
        try simp only [Act.put, List.setIfInBounds_toArray, List.set_cons_zero, List.set_cons_succ]
        refine wpAnyH_take (i := 26) (oi := ⟨_, _, _, _, _, _⟩) (v := ?_) rfl (by kernel_rfl) (by kernel_rfl) (by kernel_rfl) (fun _ _ _ h => h) (Or.inl ⟨by rfl, ?_⟩) (by assumption) ?_
        rotate_left
        · intro w hSw; (try dsimp only at hSw); go_simp; (try with_reducible rfl)
        try simp only [Act.put, List.setIfInBounds_toArray, List.set_cons_zero, List.set_cons_succ]
        refine wpAnyH_ready (rs := [27]) (by kernel_rfl) (by simp) ?_
        refine AllReadyH.cons rfl (fun K hK => ?_) (AllReadyH.nil)
        go_simp
        (try dsimp only)
        refine hK.out _ _ ?_ (fun hHeld => ?_)
        · exact ⟨pcell_up m0 (by repeat (first | with_reducible (first | exact World.gained_refl _ | exact ⟨_, rfl⟩ | apply gain_ext | apply gain_alloc | apply gain_drewN | apply gain_drew) | (refine gain_setCell ?_ (by first | exact Nat.le_refl _ | exact World.size_ext _ _ | (simp; done) | (simp; omega)) _))), pcell_up m1 (by repeat (first | with_reducible (first | exact World.gained_refl _ | exact ⟨_, rfl⟩ | apply gain_ext | apply gain_alloc | apply gain_drewN | apply gain_drew) | (refine gain_setCell ?_ (by first | exact Nat.le_refl _ | exact World.size_ext _ _ | (simp; done) | (simp; omega)) _))), pcell_up m2 (by repeat (first | with_reducible (first | exact World.gained_refl _ | exact ⟨_, rfl⟩ | apply gain_ext | apply gain_alloc | apply gain_drewN | apply gain_drew) | (refine gain_setCell ?_ (by first | exact Nat.le_refl _ | exact World.size_ext _ _ | (simp; done) | (simp; omega)) _))), pcell_up m3 (by repeat (first | with_reducible (first | exact World.gained_refl _ | exact ⟨_, rfl⟩ | apply gain_ext | apply gain_alloc | apply gain_drewN | apply gain_drew) | (refine gain_setCell ?_ (by first | exact Nat.le_refl _ | exact World.size_ext _ _ | (simp; done) | (simp; omega)) _))), pcell_up m4 (by repeat (first | with_reducible (first | exact World.gained_refl _ | exact ⟨_, rfl⟩ | apply gain_ext | apply gain_alloc | apply gain_drewN | apply gain_drew) | (refine gain_setCell ?_ (by first | exact Nat.le_refl _ | exact World.size_ext _ _ | (simp; done) | (simp; omega)) _))), pcell_up k1 (by repeat (first | with_reducible (first | exact World.gained_refl _ | exact ⟨_, rfl⟩ | apply gain_ext | apply gain_alloc | apply gain_drewN | apply gain_drew) | (refine gain_setCell ?_ (by first | exact Nat.le_refl _ | exact World.size_ext _ _ | (simp; done) | (simp; omega)) _))), pcell_up k3 (by repeat (first | with_reducible (first | exact World.gained_refl _ | exact ⟨_, rfl⟩ | apply gain_ext | apply gain_alloc | apply gain_drewN | apply gain_drew) | (refine gain_setCell ?_ (by first | exact Nat.le_refl _ | exact World.size_ext _ _ | (simp; done) | (simp; omega)) _)))⟩
        clear hK K
        try simp only [Act.put, List.setIfInBounds_toArray, List.set_cons_zero, List.set_cons_succ]
        refine wpAnyH_ready (rs := [28]) (by kernel_rfl) (by simp) ?_
        refine AllReadyH.cons rfl (fun K hK => ?_) (AllReadyH.nil)
        go_simp
        (try dsimp only)
        refine hK.out _ _ ?_ (fun hHeld => ?_)
        · exact ⟨pcell_up m0 (by repeat (first | with_reducible (first | exact World.gained_refl _ | exact ⟨_, rfl⟩ | apply gain_ext | apply gain_alloc | apply gain_drewN | apply gain_drew) | (refine gain_setCell ?_ (by first | exact Nat.le_refl _ | exact World.size_ext _ _ | (simp; done) | (simp; omega)) _))), pcell_up m1 (by repeat (first | with_reducible (first | exact World.gained_refl _ | exact ⟨_, rfl⟩ | apply gain_ext | apply gain_alloc | apply gain_drewN | apply gain_drew) | (refine gain_setCell ?_ (by first | exact Nat.le_refl _ | exact World.size_ext _ _ | (simp; done) | (simp; omega)) _))), pcell_up m2 (by repeat (first | with_reducible (first | exact World.gained_refl _ | exact ⟨_, rfl⟩ | apply gain_ext | apply gain_alloc | apply gain_drewN | apply gain_drew) | (refine gain_setCell ?_ (by first | exact Nat.le_refl _ | exact World.size_ext _ _ | (simp; done) | (simp; omega)) _))), pcell_up m3 (by repeat (first | with_reducible (first | exact World.gained_refl _ | exact ⟨_, rfl⟩ | apply gain_ext | apply gain_alloc | apply gain_drewN | apply gain_drew) | (refine gain_setCell ?_ (by first | exact Nat.le_refl _ | exact World.size_ext _ _ | (simp; done) | (simp; omega)) _))), pcell_up m4 (by repeat (first | with_reducible (first | exact World.gained_refl _ | exact ⟨_, rfl⟩ | apply gain_ext | apply gain_alloc | apply gain_drewN | apply gain_drew) | (refine gain_setCell ?_ (by first | exact Nat.le_refl _ | exact World.size_ext _ _ | (simp; done) | (simp; omega)) _))), pcell_up k1 (by repeat (first | with_reducible (first | exact World.gained_refl _ | exact ⟨_, rfl⟩ | apply gain_ext | apply gain_alloc | apply gain_drewN | apply gain_drew) | (refine gain_setCell ?_ (by first | exact Nat.le_refl _ | exact World.size_ext _ _ | (simp; done) | (simp; omega)) _))), pcell_up k3 (by repeat (first | with_reducible (first | exact World.gained_refl _ | exact ⟨_, rfl⟩ | apply gain_ext | apply gain_alloc | apply gain_drewN | apply gain_drew) | (refine gain_setCell ?_ (by first | exact Nat.le_refl _ | exact World.size_ext _ _ | (simp; done) | (simp; omega)) _)))⟩
        clear hK K
        try simp only [Act.put, List.setIfInBounds_toArray, List.set_cons_zero, List.set_cons_succ]
        refine wpAnyH_done (by kernel_rfl) ?_ _
        go_wp2_with fail
        go_meet
        exact ⟨rfl, heap_alloc_new Z _, (by repeat (first | with_reducible (first | exact World.gained_refl _ | exact ⟨_, rfl⟩ | apply gain_ext | apply gain_alloc | apply gain_drewN | apply gain_drew) | (refine gain_setCell ?_ (by first | exact Nat.le_refl _ | exact World.size_ext _ _ | (simp; done) | (simp; omega)) _)))⟩
      · skip
        go_simp
        (try dsimp only)
        refine hK.out _ _ ?_ (fun hHeld => ?_)
        · exact ⟨pcell_up m0 (by repeat (first | with_reducible (first | exact World.gained_refl _ | exact ⟨_, rfl⟩ | apply gain_ext | apply gain_alloc | apply gain_drewN | apply gain_drew) | (refine gain_setCell ?_ (by first | exact Nat.le_refl _ | exact World.size_ext _ _ | (simp; done) | (simp; omega)) _))), pcell_up m1 (by repeat (first | with_reducible (first | exact World.gained_refl _ | exact ⟨_, rfl⟩ | apply gain_ext | apply gain_alloc | apply gain_drewN | apply gain_drew) | (refine gain_setCell ?_ (by first | exact Nat.le_refl _ | exact World.size_ext _ _ | (simp; done) | (simp; omega)) _))), pcell_up m2 (by repeat (first | with_reducible (first | exact World.gained_refl _ | exact ⟨_, rfl⟩ | apply gain_ext | apply gain_alloc | apply gain_drewN | apply gain_drew) | (refine gain_setCell ?_ (by first | exact Nat.le_refl _ | exact World.size_ext _ _ | (simp; done) | (simp; omega)) _))), pcell_up m3 (by repeat (first | with_reducible (first | exact World.gained_refl _ | exact ⟨_, rfl⟩ | apply gain_ext | apply gain_alloc | apply gain_drewN | apply gain_drew) | (refine gain_setCell ?_ (by first | exact Nat.le_refl _ | exact World.size_ext _ _ | (simp; done) | (simp; omega)) _))), pcell_up m4 (by repeat (first | with_reducible (first | exact World.gained_refl _ | exact ⟨_, rfl⟩ | apply gain_ext | apply gain_alloc | apply gain_drewN | apply gain_drew) | (refine gain_setCell ?_ (by first | exact Nat.le_refl _ | exact World.size_ext _ _ | (simp; done) | (simp; omega)) _))), pcell_up k1 (by repeat (first | with_reducible (first | exact World.gained_refl _ | exact ⟨_, rfl⟩ | apply gain_ext | apply gain_alloc | apply gain_drewN | apply gain_drew) | (refine gain_setCell ?_ (by first | exact Nat.le_refl _ | exact World.size_ext _ _ | (simp; done) | (simp; omega)) _))), pcell_up k3 (by repeat (first | with_reducible (first | exact World.gained_refl _ | exact ⟨_, rfl⟩ | apply gain_ext | apply gain_alloc | apply gain_drewN | apply gain_drew) | (refine gain_setCell ?_ (by first | exact Nat.le_refl _ | exact World.size_ext _ _ | (simp; done) | (simp; omega)) _)))⟩
        clear hK K
        try simp only [Act.put, List.setIfInBounds_toArray, List.set_cons_zero, List.set_cons_succ]
        refine wpAnyH_ready (rs := [19]) (by kernel_rfl) (by simp) ?_
        refine AllReadyH.cons rfl (fun K hK => ?_) (AllReadyH.nil)
        go_simp
        go_wp2_with fail
        refine (HCM.out _).mono ?_
        rintro e w1 ⟨rfl, rfl⟩
        (try dsimp only)
        refine hK.out _ _ ?_ (fun hHeld => ?_)
        · exact ⟨pcell_up m0 (by repeat (first | with_reducible (first | exact World.gained_refl _ | exact ⟨_, rfl⟩ | apply gain_ext | apply gain_alloc | apply gain_drewN | apply gain_drew) | (refine gain_setCell ?_ (by first | exact Nat.le_refl _ | exact World.size_ext _ _ | (simp; done) | (simp; omega)) _))), pcell_up m1 (by repeat (first | with_reducible (first | exact World.gained_refl _ | exact ⟨_, rfl⟩ | apply gain_ext | apply gain_alloc | apply gain_drewN | apply gain_drew) | (refine gain_setCell ?_ (by first | exact Nat.le_refl _ | exact World.size_ext _ _ | (simp; done) | (simp; omega)) _))), pcell_up m2 (by repeat (first | with_reducible (first | exact World.gained_refl _ | exact ⟨_, rfl⟩ | apply gain_ext | apply gain_alloc | apply gain_drewN | apply gain_drew) | (refine gain_setCell ?_ (by first | exact Nat.le_refl _ | exact World.size_ext _ _ | (simp; done) | (simp; omega)) _))), pcell_up m3 (by repeat (first | with_reducible (first | exact World.gained_refl _ | exact ⟨_, rfl⟩ | apply gain_ext | apply gain_alloc | apply gain_drewN | apply gain_drew) | (refine gain_setCell ?_ (by first | exact Nat.le_refl _ | exact World.size_ext _ _ | (simp; done) | (simp; omega)) _))), pcell_up m4 (by repeat (first | with_reducible (first | exact World.gained_refl _ | exact ⟨_, rfl⟩ | apply gain_ext | apply gain_alloc | apply gain_drewN | apply gain_drew) | (refine gain_setCell ?_ (by first | exact Nat.le_refl _ | exact World.size_ext _ _ | (simp; done) | (simp; omega)) _))), pcell_up k1 (by repeat (first | with_reducible (first | exact World.gained_refl _ | exact ⟨_, rfl⟩ | apply gain_ext | apply gain_alloc | apply gain_drewN | apply gain_drew) | (refine gain_setCell ?_ (by first | exact Nat.le_refl _ | exact World.size_ext _ _ | (simp; done) | (simp; omega)) _))), pcell_up k3 (by repeat (first | with_reducible (first | exact World.gained_refl _ | exact ⟨_, rfl⟩ | apply gain_ext | apply gain_alloc | apply gain_drewN | apply gain_drew) | (refine gain_setCell ?_ (by first | exact Nat.le_refl _ | exact World.size_ext _ _ | (simp; done) | (simp; omega)) _)))⟩
        clear hK K
        try simp only [Act.put, List.setIfInBounds_toArray, List.set_cons_zero, List.set_cons_succ]
        refine wpAnyH_take (i := 26) (oi := ⟨_, _, _, _, _, _⟩) (v := ?_) rfl (by kernel_rfl) (by kernel_rfl) (by kernel_rfl) (fun _ _ _ h => h) (Or.inl ⟨by rfl, ?_⟩) (by assumption) ?_
        rotate_left
        · intro w hSw; (try dsimp only at hSw); go_simp; (try with_reducible rfl)
        try simp only [Act.put, List.setIfInBounds_toArray, List.set_cons_zero, List.set_cons_succ]
        refine wpAnyH_ready (rs := [28]) (by kernel_rfl) (by simp) ?_
        refine AllReadyH.cons rfl (fun K hK => ?_) (AllReadyH.nil)
        go_simp
        (try dsimp only)
        refine hK.out _ _ ?_ (fun hHeld => ?_)
        · exact ⟨pcell_up m0 (by repeat (first | with_reducible (first | exact World.gained_refl _ | exact ⟨_, rfl⟩ | apply gain_ext | apply gain_alloc | apply gain_drewN | apply gain_drew) | (refine gain_setCell ?_ (by first | exact Nat.le_refl _ | exact World.size_ext _ _ | (simp; done) | (simp; omega)) _))), pcell_up m1 (by repeat (first | with_reducible (first | exact World.gained_refl _ | exact ⟨_, rfl⟩ | apply gain_ext | apply gain_alloc | apply gain_drewN | apply gain_drew) | (refine gain_setCell ?_ (by first | exact Nat.le_refl _ | exact World.size_ext _ _ | (simp; done) | (simp; omega)) _))), pcell_up m2 (by repeat (first | with_reducible (first | exact World.gained_refl _ | exact ⟨_, rfl⟩ | apply gain_ext | apply gain_alloc | apply gain_drewN | apply gain_drew) | (refine gain_setCell ?_ (by first | exact Nat.le_refl _ | exact World.size_ext _ _ | (simp; done) | (simp; omega)) _))), pcell_up m3 (by repeat (first | with_reducible (first | exact World.gained_refl _ | exact ⟨_, rfl⟩ | apply gain_ext | apply gain_alloc | apply gain_drewN | apply gain_drew) | (refine gain_setCell ?_ (by first | exact Nat.le_refl _ | exact World.size_ext _ _ | (simp; done) | (simp; omega)) _))), pcell_up m4 (by repeat (first | with_reducible (first | exact World.gained_refl _ | exact ⟨_, rfl⟩ | apply gain_ext | apply gain_alloc | apply gain_drewN | apply gain_drew) | (refine gain_setCell ?_ (by first | exact Nat.le_refl _ | exact World.size_ext _ _ | (simp; done) | (simp; omega)) _))), pcell_up k1 (by repeat (first | with_reducible (first | exact World.gained_refl _ | exact ⟨_, rfl⟩ | apply gain_ext | apply gain_alloc | apply gain_drewN | apply gain_drew) | (refine gain_setCell ?_ (by first | exact Nat.le_refl _ | exact World.size_ext _ _ | (simp; done) | (simp; omega)) _))), pcell_up k3 (by repeat (first | with_reducible (first | exact World.gained_refl _ | exact ⟨_, rfl⟩ | apply gain_ext | apply gain_alloc | apply gain_drewN | apply gain_drew) | (refine gain_setCell ?_ (by first | exact Nat.le_refl _ | exact World.size_ext _ _ | (simp; done) | (simp; omega)) _)))⟩
        clear hK K
        try simp only [Act.put, List.setIfInBounds_toArray, List.set_cons_zero, List.set_cons_succ]
        refine wpAnyH_done (by kernel_rfl) ?_ _
        go_wp2_with fail
        go_meet
        exact ⟨rfl, heap_alloc_new Z _, (by repeat (first | with_reducible (first | exact World.gained_refl _ | exact ⟨_, rfl⟩ | apply gain_ext | apply gain_alloc | apply gain_drewN | apply gain_drew) | (refine gain_setCell ?_ (by first | exact Nat.le_refl _ | exact World.size_ext _ _ | (simp; done) | (simp; omega)) _)))⟩
    · skip
      go_simp
      (try dsimp only)
      refine hK.out _ _ ?_ (fun hHeld => ?_)
      · exact ⟨pcell_up m0 (by repeat (first | with_reducible (first | exact World.gained_refl _ | exact ⟨_, rfl⟩ | apply gain_ext | apply gain_alloc | apply gain_drewN | apply gain_drew) | (refine gain_setCell ?_ (by first | exact Nat.le_refl _ | exact World.size_ext _ _ | (simp; done) | (simp; omega)) _))), pcell_up m1 (by repeat (first | with_reducible (first | exact World.gained_refl _ | exact ⟨_, rfl⟩ | apply gain_ext | apply gain_alloc | apply gain_drewN | apply gain_drew) | (refine gain_setCell ?_ (by first | exact Nat.le_refl _ | exact World.size_ext _ _ | (simp; done) | (simp; omega)) _))), pcell_up m2 (by repeat (first | with_reducible (first | exact World.gained_refl _ | exact ⟨_, rfl⟩ | apply gain_ext | apply gain_alloc | apply gain_drewN | apply gain_drew) | (refine gain_setCell ?_ (by first | exact Nat.le_refl _ | exact World.size_ext _ _ | (simp; done) | (simp; omega)) _))), pcell_up m3 (by repeat (first | with_reducible (first | exact World.gained_refl _ | exact ⟨_, rfl⟩ | apply gain_ext | apply gain_alloc | apply gain_drewN | apply gain_drew) | (refine gain_setCell ?_ (by first | exact Nat.le_refl _ | exact World.size_ext _ _ | (simp; done) | (simp; omega)) _))), pcell_up m4 (by repeat (first | with_reducible (first | exact World.gained_refl _ | exact ⟨_, rfl⟩ | apply gain_ext | apply gain_alloc | apply gain_drewN | apply gain_drew) | (refine gain_setCell ?_ (by first | exact Nat.le_refl _ | exact World.size_ext _ _ | (simp; done) | (simp; omega)) _))), pcell_up k1 (by repeat (first | with_reducible (first | exact World.gained_refl _ | exact ⟨_, rfl⟩ | apply gain_ext | apply gain_alloc | apply gain_drewN | apply gain_drew) | (refine gain_setCell ?_ (by first | exact Nat.le_refl _ | exact World.size_ext _ _ | (simp; done) | (simp; omega)) _))), pcell_up k3 (by repeat (first | with_reducible (first | exact World.gained_refl _ | exact ⟨_, rfl⟩ | apply gain_ext | apply gain_alloc | apply gain_drewN | apply gain_drew) | (refine gain_setCell ?_ (by first | exact Nat.le_refl _ | exact World.size_ext _ _ | (simp; done) | (simp; omega)) _)))⟩
      clear hK K
      try simp only [Act.put, List.setIfInBounds_toArray, List.set_cons_zero, List.set_cons_succ]
      refine wpAnyH_ready (rs := [15]) (by kernel_rfl) (by simp) ?_
      refine AllReadyH.cons rfl (fun K hK => ?_) (AllReadyH.nil)
      go_simp
      go_wp2_with fail
      refine (HCW.out _).mono ?_
      rintro e w1 ⟨rfl, rfl⟩
      (try dsimp only)
      refine hK.out _ _ ?_ (fun hHeld => ?_)
      · exact ⟨pcell_up m0 (by repeat (first | with_reducible (first | exact World.gained_refl _ | exact ⟨_, rfl⟩ | apply gain_ext | apply gain_alloc | apply gain_drewN | apply gain_drew) | (refine gain_setCell ?_ (by first | exact Nat.le_refl _ | exact World.size_ext _ _ | (simp; done) | (simp; omega)) _))), pcell_up m1 (by repeat (first | with_reducible (first | exact World.gained_refl _ | exact ⟨_, rfl⟩ | apply gain_ext | apply gain_alloc | apply gain_drewN | apply gain_drew) | (refine gain_setCell ?_ (by first | exact Nat.le_refl _ | exact World.size_ext _ _ | (simp; done) | (simp; omega)) _))), pcell_up m2 (by repeat (first | with_reducible (first | exact World.gained_refl _ | exact ⟨_, rfl⟩ | apply gain_ext | apply gain_alloc | apply gain_drewN | apply gain_drew) | (refine gain_setCell ?_ (by first | exact Nat.le_refl _ | exact World.size_ext _ _ | (simp; done) | (simp; omega)) _))), pcell_up m3 (by repeat (first | with_reducible (first | exact World.gained_refl _ | exact ⟨_, rfl⟩ | apply gain_ext | apply gain_alloc | apply gain_drewN | apply gain_drew) | (refine gain_setCell ?_ (by first | exact Nat.le_refl _ | exact World.size_ext _ _ | (simp; done) | (simp; omega)) _))), pcell_up m4 (by repeat (first | with_reducible (first | exact World.gained_refl _ | exact ⟨_, rfl⟩ | apply gain_ext | apply gain_alloc | apply gain_drewN | apply gain_drew) | (refine gain_setCell ?_ (by first | exact Nat.le_refl _ | exact World.size_ext _ _ | (simp; done) | (simp; omega)) _))), pcell_up k1 (by repeat (first | with_reducible (first | exact World.gained_refl _ | exact ⟨_, rfl⟩ | apply gain_ext | apply gain_alloc | apply gain_drewN | apply gain_drew) | (refine gain_setCell ?_ (by first | exact Nat.le_refl _ | exact World.size_ext _ _ | (simp; done) | (simp; omega)) _))), pcell_up k3 (by repeat (first | with_reducible (first | exact World.gained_refl _ | exact ⟨_, rfl⟩ | apply gain_ext | apply gain_alloc | apply gain_drewN | apply gain_drew) | (refine gain_setCell ?_ (by first | exact Nat.le_refl _ | exact World.size_ext _ _ | (simp; done) | (simp; omega)) _)))⟩
      clear hK K
      try simp only [Act.put, List.setIfInBounds_toArray, List.set_cons_zero, List.set_cons_succ]
      refine wpAnyH_ready (rs := [19]) (by kernel_rfl) (by simp) ?_
      refine AllReadyH.cons rfl (fun K hK => ?_) (AllReadyH.nil)
      go_simp
      go_wp2_with fail
      refine (HCM.out _).mono ?_
      rintro e w1 ⟨rfl, rfl⟩
      (try dsimp only)
      refine hK.out _ _ ?_ (fun hHeld => ?_)
      · exact ⟨pcell_up m0 (by repeat (first | with_reducible (first | exact World.gained_refl _ | exact ⟨_, rfl⟩ | apply gain_ext | apply gain_alloc | apply gain_drewN | apply gain_drew) | (refine gain_setCell ?_ (by first | exact Nat.le_refl _ | exact World.size_ext _ _ | (simp; done) | (simp; omega)) _))), pcell_up m1 (by repeat (first | with_reducible (first | exact World.gained_refl _ | exact ⟨_, rfl⟩ | apply gain_ext | apply gain_alloc | apply gain_drewN | apply gain_drew) | (refine gain_setCell ?_ (by first | exact Nat.le_refl _ | exact World.size_ext _ _ | (simp; done) | (simp; omega)) _))), pcell_up m2 (by repeat (first | with_reducible (first | exact World.gained_refl _ | exact ⟨_, rfl⟩ | apply gain_ext | apply gain_alloc | apply gain_drewN | apply gain_drew) | (refine gain_setCell ?_ (by first | exact Nat.le_refl _ | exact World.size_ext _ _ | (simp; done) | (simp; omega)) _))), pcell_up m3 (by repeat (first | with_reducible (first | exact World.gained_refl _ | exact ⟨_, rfl⟩ | apply gain_ext | apply gain_alloc | apply gain_drewN | apply gain_drew) | (refine gain_setCell ?_ (by first | exact Nat.le_refl _ | exact World.size_ext _ _ | (simp; done) | (simp; omega)) _))), pcell_up m4 (by repeat (first | with_reducible (first | exact World.gained_refl _ | exact ⟨_, rfl⟩ | apply gain_ext | apply gain_alloc | apply gain_drewN | apply gain_drew) | (refine gain_setCell ?_ (by first | exact Nat.le_refl _ | exact World.size_ext _ _ | (simp; done) | (simp; omega)) _))), pcell_up k1 (by repeat (first | with_reducible (first | exact World.gained_refl _ | exact ⟨_, rfl⟩ | apply gain_ext | apply gain_alloc | apply gain_drewN | apply gain_drew) | (refine gain_setCell ?_ (by first | exact Nat.le_refl _ | exact World.size_ext _ _ | (simp; done) | (simp; omega)) _))), pcell_up k3 (by repeat (first | with_reducible (first | exact World.gained_refl _ | exact ⟨_, rfl⟩ | apply gain_ext | apply gain_alloc | apply gain_drewN | apply gain_drew) | (refine gain_setCell ?_ (by first | exact Nat.le_refl _ | exact World.size_ext _ _ | (simp; done) | (simp; omega)) _)))⟩
      clear hK K
      try simp only [Act.put, List.setIfInBounds_toArray, List.set_cons_zero, List.set_cons_succ]
      refine wpAnyH_take (i := 26) (oi := ⟨_, _, _, _, _, _⟩) (v := ?_) rfl (by kernel_rfl) (by kernel_rfl) (by kernel_rfl) (fun _ _ _ h => h) (Or.inl ⟨by rfl, ?_⟩) (by assumption) ?_
      rotate_left
      · intro w hSw; (try dsimp only at hSw); go_simp; (try with_reducible rfl)
      try simp only [Act.put, List.setIfInBounds_toArray, List.set_cons_zero, List.set_cons_succ]
      refine wpAnyH_ready (rs := [28]) (by kernel_rfl) (by simp) ?_
      refine AllReadyH.cons rfl (fun K hK => ?_) (AllReadyH.nil)
      go_simp
      (try dsimp only)
      refine hK.out _ _ ?_ (fun hHeld => ?_)
      · exact ⟨pcell_up m0 (by repeat (first | with_reducible (first | exact World.gained_refl _ | exact ⟨_, rfl⟩ | apply gain_ext | apply gain_alloc | apply gain_drewN | apply gain_drew) | (refine gain_setCell ?_ (by first | exact Nat.le_refl _ | exact World.size_ext _ _ | (simp; done) | (simp; omega)) _))), pcell_up m1 (by repeat (first | with_reducible (first | exact World.gained_refl _ | exact ⟨_, rfl⟩ | apply gain_ext | apply gain_alloc | apply gain_drewN | apply gain_drew) | (refine gain_setCell ?_ (by first | exact Nat.le_refl _ | exact World.size_ext _ _ | (simp; done) | (simp; omega)) _))), pcell_up m2 (by repeat (first | with_reducible (first | exact World.gained_refl _ | exact ⟨_, rfl⟩ | apply gain_ext | apply gain_alloc | apply gain_drewN | apply gain_drew) | (refine gain_setCell ?_ (by first | exact Nat.le_refl _ | exact World.size_ext _ _ | (simp; done) | (simp; omega)) _))), pcell_up m3 (by repeat (first | with_reducible (first | exact World.gained_refl _ | exact ⟨_, rfl⟩ | apply gain_ext | apply gain_alloc | apply gain_drewN | apply gain_drew) | (refine gain_setCell ?_ (by first | exact Nat.le_refl _ | exact World.size_ext _ _ | (simp; done) | (simp; omega)) _))), pcell_up m4 (by repeat (first | with_reducible (first | exact World.gained_refl _ | exact ⟨_, rfl⟩ | apply gain_ext | apply gain_alloc | apply gain_drewN | apply gain_drew) | (refine gain_setCell ?_ (by first | exact Nat.le_refl _ | exact World.size_ext _ _ | (simp; done) | (simp; omega)) _))), pcell_up k1 (by repeat (first | with_reducible (first | exact World.gained_refl _ | exact ⟨_, rfl⟩ | apply gain_ext | apply gain_alloc | apply gain_drewN | apply gain_drew) | (refine gain_setCell ?_ (by first | exact Nat.le_refl _ | exact World.size_ext _ _ | (simp; done) | (simp; omega)) _))), pcell_up k3 (by repeat (first | with_reducible (first | exact World.gained_refl _ | exact ⟨_, rfl⟩ | apply gain_ext | apply gain_alloc | apply gain_drewN | apply gain_drew) | (refine gain_setCell ?_ (by first | exact Nat.le_refl _ | exact World.size_ext _ _ | (simp; done) | (simp; omega)) _)))⟩
      clear hK K
      try simp only [Act.put, List.setIfInBounds_toArray, List.set_cons_zero, List.set_cons_succ]
      refine wpAnyH_done (by kernel_rfl) ?_ _
      go_wp2_with fail
      go_meet
      exact ⟨rfl, heap_alloc_new Z _, (by repeat (first | with_reducible (first | exact World.gained_refl _ | exact ⟨_, rfl⟩ | apply gain_ext | apply gain_alloc | apply gain_drewN | apply gain_drew) | (refine gain_setCell ?_ (by first | exact Nat.le_refl _ | exact World.size_ext _ _ | (simp; done) | (simp; omega)) _)))⟩
  obtain ⟨rfl, hbx, dz, rfl⟩ := hcut
  have HR5 := Lib.hid (prow_up HR.out (w' := Z.ext dz) ⟨_, rfl⟩)
  have HG5 := Lib.hid (gain_trans HG.out (w' := Z.ext dz) ⟨_, rfl⟩)
  have HB := Lib.hid hbx
  clear hbx HR HG m0 m1 m2 m3 m4 k1 k3 om0 HCW HCM hb2
  generalize Z.ext dz = U5 at *
  generalize Z.heap.size = gB at HB ⊢
  have HONE := Lib.hid (fun W => isClass_any (⟨n0, w1, n1, n2, wo, me, n3, n4⟩ : Cls) W hw1)
  have xc0 : U5.cell? ⟨gB, 0, none⟩ = some (.int .i64 n0) := World.cell_of_heap HB.out 0
  have xf0 : U5.frozen? ⟨gB, 0, none⟩ = false := World.free_of_heap HB.out 0
  have xc1 : U5.cell? ⟨gB, 1, none⟩ = some (.string w1) := World.cell_of_heap HB.out 1
  have xf1 : U5.frozen? ⟨gB, 1, none⟩ = false := World.free_of_heap HB.out 1
  have xc2 : U5.cell? ⟨gB, 2, none⟩ = some (.int .i64 n1) := World.cell_of_heap HB.out 2
  have xf2 : U5.frozen? ⟨gB, 2, none⟩ = false := World.free_of_heap HB.out 2
  have xc3 : U5.cell? ⟨gB, 3, none⟩ = some (.int .i64 n2) := World.cell_of_heap HB.out 3
  have xf3 : U5.frozen? ⟨gB, 3, none⟩ = false := World.free_of_heap HB.out 3
  have xc4 : U5.cell? ⟨gB, 4, none⟩ = some (.bool wo) := World.cell_of_heap HB.out 4
  have xf4 : U5.frozen? ⟨gB, 4, none⟩ = false := World.free_of_heap HB.out 4
  have xc5 : U5.cell? ⟨gB, 5, none⟩ = some (.bool me) := World.cell_of_heap HB.out 5
  have xf5 : U5.frozen? ⟨gB, 5, none⟩ = false := World.free_of_heap HB.out 5
  have xc6 : U5.cell? ⟨gB, 6, none⟩ = some (.int .i64 n3) := World.cell_of_heap HB.out 6
  have xf6 : U5.frozen? ⟨gB, 6, none⟩ = false := World.free_of_heap HB.out 6
  have xc7 : U5.cell? ⟨gB, 7, none⟩ = some (.int .i64 n4) := World.cell_of_heap HB.out 7
  have xf7 : U5.frozen? ⟨gB, 7, none⟩ = false := World.free_of_heap HB.out 7
  have xo := World.oldB_of_cell xc0
  cases hB : classB (⟨n0, w1, n1, n2, wo, me, n3, n4⟩ : Cls) with
  | false =>
    rw [hB] at HONE
    have HNO : Hid (∀ c', classB c' = true → clsT c' ≠ s) := Lib.hid (fun c' hc e => by rw [← HCC.out c' hc e, hB] at hc; cases hc)
    clear hB HCC
    go_upto_region 10 with (go_at_call 8; refine (HONE.out _).mono ?_; rintro e w1 ⟨rfl, d9, rfl⟩)
    clear xc0 xf0 xc1 xf1 xc2 xf2 xc3 xf3 xc4 xf4 xc5 xf5 xc6 xf6 xc7 xf7 xo
    have HR := Lib.hid (prow_up HR5.out (w' := U5.ext d9) (by repeat (first | with_reducible (first | exact World.gained_refl _ | exact ⟨_, rfl⟩ | apply gain_ext | apply gain_alloc | apply gain_drewN | apply gain_drew) | (refine gain_setCell ?_ (by first | exact Nat.le_refl _ | exact World.size_ext _ _ | (simp; done) | (simp; omega)) _))))
    have HG := Lib.hid (gain_trans HG5.out (w' := U5.ext d9) (by repeat (first | with_reducible (first | exact World.gained_refl _ | exact ⟨_, rfl⟩ | apply gain_ext | apply gain_alloc | apply gain_drewN | apply gain_drew) | (refine gain_setCell ?_ (by first | exact Nat.le_refl _ | exact World.size_ext _ _ | (simp; done) | (simp; omega)) _))))
    generalize U5.ext d9 = V at HR HG ⊢
    have yc0 : V.cell? ⟨w.heap.size, 0, none⟩ = some (.int .i64 0) := World.cell_of_heap HR.out 0
    have yf0 : V.frozen? ⟨w.heap.size, 0, none⟩ = false := World.free_of_heap HR.out 0
    have yc1 : V.cell? ⟨w.heap.size, 1, none⟩ = some (.string ⟨#[]⟩) := World.cell_of_heap HR.out 1
    have yf1 : V.frozen? ⟨w.heap.size, 1, none⟩ = false := World.free_of_heap HR.out 1
    have yc2 : V.cell? ⟨w.heap.size, 2, none⟩ = some (.int .i64 0) := World.cell_of_heap HR.out 2
    have yf2 : V.frozen? ⟨w.heap.size, 2, none⟩ = false := World.free_of_heap HR.out 2
    have yc3 : V.cell? ⟨w.heap.size, 3, none⟩ = some (.int .i64 0) := World.cell_of_heap HR.out 3
    have yf3 : V.frozen? ⟨w.heap.size, 3, none⟩ = false := World.free_of_heap HR.out 3
    have yc4 : V.cell? ⟨w.heap.size, 4, none⟩ = some (.bool false) := World.cell_of_heap HR.out 4
    have yf4 : V.frozen? ⟨w.heap.size, 4, none⟩ = false := World.free_of_heap HR.out 4
    have yc5 : V.cell? ⟨w.heap.size, 5, none⟩ = some (.bool false) := World.cell_of_heap HR.out 5
    have yf5 : V.frozen? ⟨w.heap.size, 5, none⟩ = false := World.free_of_heap HR.out 5
    have yc6 : V.cell? ⟨w.heap.size, 6, none⟩ = some (.int .i64 0) := World.cell_of_heap HR.out 6
    have yf6 : V.frozen? ⟨w.heap.size, 6, none⟩ = false := World.free_of_heap HR.out 6
    have yc7 : V.cell? ⟨w.heap.size, 7, none⟩ = some (.int .i64 0) := World.cell_of_heap HR.out 7
    have yf7 : V.frozen? ⟨w.heap.size, 7, none⟩ = false := World.free_of_heap HR.out 7
    have yo := World.oldB_of_cell yc0
    have zw0 := World.heap_setCell_row HR.out 0 (.int .i64 0)
    simp only [List.setIfInBounds_toArray, List.set_cons_zero, List.set_cons_succ] at zw0
    have zg0 : (V.setCell ⟨w.heap.size, 0, none⟩ (.int .i64 0)).cell? ⟨w.heap.size, 0, none⟩ = some (.int .i64 0) := World.cell_of_heap zw0 0
    have zw1 := World.heap_setCell_row zw0 1 (.string ⟨#[]⟩)
    simp only [List.setIfInBounds_toArray, List.set_cons_zero, List.set_cons_succ] at zw1
    have zg1 : ((V.setCell ⟨w.heap.size, 0, none⟩ (.int .i64 0)).setCell ⟨w.heap.size, 1, none⟩ (.string ⟨#[]⟩)).cell? ⟨w.heap.size, 1, none⟩ = some (.string ⟨#[]⟩) := World.cell_of_heap zw1 1
    have zw2 := World.heap_setCell_row zw1 2 (.int .i64 0)
    simp only [List.setIfInBounds_toArray, List.set_cons_zero, List.set_cons_succ] at zw2
    have zg2 : (((V.setCell ⟨w.heap.size, 0, none⟩ (.int .i64 0)).setCell ⟨w.heap.size, 1, none⟩ (.string ⟨#[]⟩)).setCell ⟨w.heap.size, 2, none⟩ (.int .i64 0)).cell? ⟨w.heap.size, 2, none⟩ = some (.int .i64 0) := World.cell_of_heap zw2 2
    have zw3 := World.heap_setCell_row zw2 3 (.int .i64 0)
    simp only [List.setIfInBounds_toArray, List.set_cons_zero, List.set_cons_succ] at zw3
    have zg3 : ((((V.setCell ⟨w.heap.size, 0, none⟩ (.int .i64 0)).setCell ⟨w.heap.size, 1, none⟩ (.string ⟨#[]⟩)).setCell ⟨w.heap.size, 2, none⟩ (.int .i64 0)).setCell ⟨w.heap.size, 3, none⟩ (.int .i64 0)).cell? ⟨w.heap.size, 3, none⟩ = some (.int .i64 0) := World.cell_of_heap zw3 3
    have zw4 := World.heap_setCell_row zw3 4 (.bool false)
    simp only [List.setIfInBounds_toArray, List.set_cons_zero, List.set_cons_succ] at zw4
    have zg4 : (((((V.setCell ⟨w.heap.size, 0, none⟩ (.int .i64 0)).setCell ⟨w.heap.size, 1, none⟩ (.string ⟨#[]⟩)).setCell ⟨w.heap.size, 2, none⟩ (.int .i64 0)).setCell ⟨w.heap.size, 3, none⟩ (.int .i64 0)).setCell ⟨w.heap.size, 4, none⟩ (.bool false)).cell? ⟨w.heap.size, 4, none⟩ = some (.bool false) := World.cell_of_heap zw4 4
    have zw5 := World.heap_setCell_row zw4 5 (.bool false)
    simp only [List.setIfInBounds_toArray, List.set_cons_zero, List.set_cons_succ] at zw5
    have zg5 : ((((((V.setCell ⟨w.heap.size, 0, none⟩ (.int .i64 0)).setCell ⟨w.heap.size, 1, none⟩ (.string ⟨#[]⟩)).setCell ⟨w.heap.size, 2, none⟩ (.int .i64 0)).setCell ⟨w.heap.size, 3, none⟩ (.int .i64 0)).setCell ⟨w.heap.size, 4, none⟩ (.bool false)).setCell ⟨w.heap.size, 5, none⟩ (.bool false)).cell? ⟨w.heap.size, 5, none⟩ = some (.bool false) := World.cell_of_heap zw5 5
    have zw6 := World.heap_setCell_row zw5 6 (.int .i64 0)
    simp only [List.setIfInBounds_toArray, List.set_cons_zero, List.set_cons_succ] at zw6
    have zg6 : (((((((V.setCell ⟨w.heap.size, 0, none⟩ (.int .i64 0)).setCell ⟨w.heap.size, 1, none⟩ (.string ⟨#[]⟩)).setCell ⟨w.heap.size, 2, none⟩ (.int .i64 0)).setCell ⟨w.heap.size, 3, none⟩ (.int .i64 0)).setCell ⟨w.heap.size, 4, none⟩ (.bool false)).setCell ⟨w.heap.size, 5, none⟩ (.bool false)).setCell ⟨w.heap.size, 6, none⟩ (.int .i64 0)).cell? ⟨w.heap.size, 6, none⟩ = some (.int .i64 0) := World.cell_of_heap zw6 6
    have zw7 := World.heap_setCell_row zw6 7 (.int .i64 0)
    simp only [List.setIfInBounds_toArray, List.set_cons_zero, List.set_cons_succ] at zw7
    have zg7 : ((((((((V.setCell ⟨w.heap.size, 0, none⟩ (.int .i64 0)).setCell ⟨w.heap.size, 1, none⟩ (.string ⟨#[]⟩)).setCell ⟨w.heap.size, 2, none⟩ (.int .i64 0)).setCell ⟨w.heap.size, 3, none⟩ (.int .i64 0)).setCell ⟨w.heap.size, 4, none⟩ (.bool false)).setCell ⟨w.heap.size, 5, none⟩ (.bool false)).setCell ⟨w.heap.size, 6, none⟩ (.int .i64 0)).setCell ⟨w.heap.size, 7, none⟩ (.int .i64 0)).cell? ⟨w.heap.size, 7, none⟩ = some (.int .i64 0) := World.cell_of_heap zw7 7
    clear zw0 zw1 zw2 zw3 zw4 zw5 zw6 zw7
    go_wp2_with fail
    refine bodyPost_ret (v := .tuple #[.agg #[.int .i64 0, .string ⟨#[]⟩, .int .i64 0, .int .i64 0, .bool false, .bool false, .int .i64 0, .int .i64 0], .bool false]) (by simp [results, Tryz.results9, go_sem, zg0, zg1, zg2, zg3, zg4, zg5, zg6, zg7]) rfl ?_
    exact ⟨zeroC, false, rfl, parsed_no HNO.out, (gain_setCell (gain_setCell (gain_setCell (gain_setCell (gain_setCell (gain_setCell (gain_setCell (gain_setCell HG.out (a := ⟨w.heap.size, 0, none⟩) (Nat.le_refl _) _) (a := ⟨w.heap.size, 1, none⟩) (Nat.le_refl _) _) (a := ⟨w.heap.size, 2, none⟩) (Nat.le_refl _) _) (a := ⟨w.heap.size, 3, none⟩) (Nat.le_refl _) _) (a := ⟨w.heap.size, 4, none⟩) (Nat.le_refl _) _) (a := ⟨w.heap.size, 5, none⟩) (Nat.le_refl _) _) (a := ⟨w.heap.size, 6, none⟩) (Nat.le_refl _) _) (a := ⟨w.heap.size, 7, none⟩) (Nat.le_refl _) _)⟩
  | true =>
  rw [hB] at HONE
  have HTX : Hid (∀ W : World, (∃ d, W = U5.ext d) → Calls Tryz.prog 23 #[.agg #[.int .i64 n0, .string w1, .int .i64 n1, .int .i64 n2, .bool wo, .bool me, .int .i64 n3, .int .i64 n4]] W fun x w' => x = .returned (.string (clsT (⟨n0, w1, n1, n2, wo, me, n3, n4⟩ : Cls))) ∧ ∃ d, w' = W.ext d) := Lib.hid (fun W hW => by
    obtain ⟨i, lo1, hi1, co, mo, e1, e2, e3, e4, e5, h1, h2, h3, h4, h5, h6⟩ := cls_nats hB
    simp only at e1 e2 e3 e4 e5 h6
    rw [e1, e2, e3, e4, e5]
    exact classText_any i lo1 hi1 co mo w1 wo me W (HE.out.up (gain_trans HG5.out hW)).tab h1 h2 h3 h4 h5 hw1 h6)
  have HBB := Lib.hid hB
  clear hB
  have hTz : (clsT (⟨n0, w1, n1, n2, wo, me, n3, n4⟩ : Cls)).size ≤ 60 := cls_size HBB.out
  generalize hT : clsT (⟨n0, w1, n1, n2, wo, me, n3, n4⟩ : Cls) = T at HTX hTz
  by_cases hTs : T = s
  · have hne : (T.toList == s.toList) = true := by rw [str_eq]; exact decide_eq_true hTs
    have HYS := Lib.hid (parsed_yes HBB.out (hT.trans hTs))
    clear hT hTs HCC HBB
    go_upto_region 11 with (first | (go_at_call 8; refine (HONE.out _).mono ?_; rintro e w1 ⟨rfl, d9, rfl⟩) | (go_at_call 23; refine (HTX.out _ (by repeat (first | with_reducible (first | exact World.gained_refl _ | exact ⟨_, rfl⟩ | apply gain_ext | apply gain_alloc | apply gain_drewN | apply gain_drew) | (refine gain_setCell ?_ (by first | exact Nat.le_refl _ | exact World.size_ext _ _ | (simp; done) | (simp; omega)) _)))).mono ?_; rintro e w1 ⟨rfl, d10, rfl⟩))
    clear xc0 xf0 xc1 xf1 xc2 xf2 xc3 xf3 xc4 xf4 xc5 xf5 xc6 xf6 xc7 xf7 xo
    have HR := Lib.hid (prow_up HR5.out (w' := (U5.ext d9).ext d10) (by repeat (first | with_reducible (first | exact World.gained_refl _ | exact ⟨_, rfl⟩ | apply gain_ext | apply gain_alloc | apply gain_drewN | apply gain_drew) | (refine gain_setCell ?_ (by first | exact Nat.le_refl _ | exact World.size_ext _ _ | (simp; done) | (simp; omega)) _))))
    have HG := Lib.hid (gain_trans HG5.out (w' := (U5.ext d9).ext d10) (by repeat (first | with_reducible (first | exact World.gained_refl _ | exact ⟨_, rfl⟩ | apply gain_ext | apply gain_alloc | apply gain_drewN | apply gain_drew) | (refine gain_setCell ?_ (by first | exact Nat.le_refl _ | exact World.size_ext _ _ | (simp; done) | (simp; omega)) _))))
    have HBV := Lib.hid (prow_up HB.out (w' := (U5.ext d9).ext d10) (by repeat (first | with_reducible (first | exact World.gained_refl _ | exact ⟨_, rfl⟩ | apply gain_ext | apply gain_alloc | apply gain_drewN | apply gain_drew) | (refine gain_setCell ?_ (by first | exact Nat.le_refl _ | exact World.size_ext _ _ | (simp; done) | (simp; omega)) _))))
    generalize (U5.ext d9).ext d10 = V at HR HG HBV ⊢
    have xc0 : V.cell? ⟨gB, 0, none⟩ = some (.int .i64 n0) := World.cell_of_heap HBV.out 0
    have xf0 : V.frozen? ⟨gB, 0, none⟩ = false := World.free_of_heap HBV.out 0
    have xc1 : V.cell? ⟨gB, 1, none⟩ = some (.string w1) := World.cell_of_heap HBV.out 1
    have xf1 : V.frozen? ⟨gB, 1, none⟩ = false := World.free_of_heap HBV.out 1
    have xc2 : V.cell? ⟨gB, 2, none⟩ = some (.int .i64 n1) := World.cell_of_heap HBV.out 2
    have xf2 : V.frozen? ⟨gB, 2, none⟩ = false := World.free_of_heap HBV.out 2
    have xc3 : V.cell? ⟨gB, 3, none⟩ = some (.int .i64 n2) := World.cell_of_heap HBV.out 3
    have xf3 : V.frozen? ⟨gB, 3, none⟩ = false := World.free_of_heap HBV.out 3
    have xc4 : V.cell? ⟨gB, 4, none⟩ = some (.bool wo) := World.cell_of_heap HBV.out 4
    have xf4 : V.frozen? ⟨gB, 4, none⟩ = false := World.free_of_heap HBV.out 4
    have xc5 : V.cell? ⟨gB, 5, none⟩ = some (.bool me) := World.cell_of_heap HBV.out 5
    have xf5 : V.frozen? ⟨gB, 5, none⟩ = false := World.free_of_heap HBV.out 5
    have xc6 : V.cell? ⟨gB, 6, none⟩ = some (.int .i64 n3) := World.cell_of_heap HBV.out 6
    have xf6 : V.frozen? ⟨gB, 6, none⟩ = false := World.free_of_heap HBV.out 6
    have xc7 : V.cell? ⟨gB, 7, none⟩ = some (.int .i64 n4) := World.cell_of_heap HBV.out 7
    have xf7 : V.frozen? ⟨gB, 7, none⟩ = false := World.free_of_heap HBV.out 7
    have xo := World.oldB_of_cell xc0
    have yc0 : V.cell? ⟨w.heap.size, 0, none⟩ = some (.int .i64 0) := World.cell_of_heap HR.out 0
    have yf0 : V.frozen? ⟨w.heap.size, 0, none⟩ = false := World.free_of_heap HR.out 0
    have yc1 : V.cell? ⟨w.heap.size, 1, none⟩ = some (.string ⟨#[]⟩) := World.cell_of_heap HR.out 1
    have yf1 : V.frozen? ⟨w.heap.size, 1, none⟩ = false := World.free_of_heap HR.out 1
    have yc2 : V.cell? ⟨w.heap.size, 2, none⟩ = some (.int .i64 0) := World.cell_of_heap HR.out 2
    have yf2 : V.frozen? ⟨w.heap.size, 2, none⟩ = false := World.free_of_heap HR.out 2
    have yc3 : V.cell? ⟨w.heap.size, 3, none⟩ = some (.int .i64 0) := World.cell_of_heap HR.out 3
    have yf3 : V.frozen? ⟨w.heap.size, 3, none⟩ = false := World.free_of_heap HR.out 3
    have yc4 : V.cell? ⟨w.heap.size, 4, none⟩ = some (.bool false) := World.cell_of_heap HR.out 4
    have yf4 : V.frozen? ⟨w.heap.size, 4, none⟩ = false := World.free_of_heap HR.out 4
    have yc5 : V.cell? ⟨w.heap.size, 5, none⟩ = some (.bool false) := World.cell_of_heap HR.out 5
    have yf5 : V.frozen? ⟨w.heap.size, 5, none⟩ = false := World.free_of_heap HR.out 5
    have yc6 : V.cell? ⟨w.heap.size, 6, none⟩ = some (.int .i64 0) := World.cell_of_heap HR.out 6
    have yf6 : V.frozen? ⟨w.heap.size, 6, none⟩ = false := World.free_of_heap HR.out 6
    have yc7 : V.cell? ⟨w.heap.size, 7, none⟩ = some (.int .i64 0) := World.cell_of_heap HR.out 7
    have yf7 : V.frozen? ⟨w.heap.size, 7, none⟩ = false := World.free_of_heap HR.out 7
    have yo := World.oldB_of_cell yc0
    have zw0 := World.heap_setCell_row HR.out 0 (.int .i64 n0)
    simp only [List.setIfInBounds_toArray, List.set_cons_zero, List.set_cons_succ] at zw0
    have zg0 : (V.setCell ⟨w.heap.size, 0, none⟩ (.int .i64 n0)).cell? ⟨w.heap.size, 0, none⟩ = some (.int .i64 n0) := World.cell_of_heap zw0 0
    have zw1 := World.heap_setCell_row zw0 1 (.string w1)
    simp only [List.setIfInBounds_toArray, List.set_cons_zero, List.set_cons_succ] at zw1
    have zg1 : ((V.setCell ⟨w.heap.size, 0, none⟩ (.int .i64 n0)).setCell ⟨w.heap.size, 1, none⟩ (.string w1)).cell? ⟨w.heap.size, 1, none⟩ = some (.string w1) := World.cell_of_heap zw1 1
    have zw2 := World.heap_setCell_row zw1 2 (.int .i64 n1)
    simp only [List.setIfInBounds_toArray, List.set_cons_zero, List.set_cons_succ] at zw2
    have zg2 : (((V.setCell ⟨w.heap.size, 0, none⟩ (.int .i64 n0)).setCell ⟨w.heap.size, 1, none⟩ (.string w1)).setCell ⟨w.heap.size, 2, none⟩ (.int .i64 n1)).cell? ⟨w.heap.size, 2, none⟩ = some (.int .i64 n1) := World.cell_of_heap zw2 2
    have zw3 := World.heap_setCell_row zw2 3 (.int .i64 n2)
    simp only [List.setIfInBounds_toArray, List.set_cons_zero, List.set_cons_succ] at zw3
    have zg3 : ((((V.setCell ⟨w.heap.size, 0, none⟩ (.int .i64 n0)).setCell ⟨w.heap.size, 1, none⟩ (.string w1)).setCell ⟨w.heap.size, 2, none⟩ (.int .i64 n1)).setCell ⟨w.heap.size, 3, none⟩ (.int .i64 n2)).cell? ⟨w.heap.size, 3, none⟩ = some (.int .i64 n2) := World.cell_of_heap zw3 3
    have zw4 := World.heap_setCell_row zw3 4 (.bool wo)
    simp only [List.setIfInBounds_toArray, List.set_cons_zero, List.set_cons_succ] at zw4
    have zg4 : (((((V.setCell ⟨w.heap.size, 0, none⟩ (.int .i64 n0)).setCell ⟨w.heap.size, 1, none⟩ (.string w1)).setCell ⟨w.heap.size, 2, none⟩ (.int .i64 n1)).setCell ⟨w.heap.size, 3, none⟩ (.int .i64 n2)).setCell ⟨w.heap.size, 4, none⟩ (.bool wo)).cell? ⟨w.heap.size, 4, none⟩ = some (.bool wo) := World.cell_of_heap zw4 4
    have zw5 := World.heap_setCell_row zw4 5 (.bool me)
    simp only [List.setIfInBounds_toArray, List.set_cons_zero, List.set_cons_succ] at zw5
    have zg5 : ((((((V.setCell ⟨w.heap.size, 0, none⟩ (.int .i64 n0)).setCell ⟨w.heap.size, 1, none⟩ (.string w1)).setCell ⟨w.heap.size, 2, none⟩ (.int .i64 n1)).setCell ⟨w.heap.size, 3, none⟩ (.int .i64 n2)).setCell ⟨w.heap.size, 4, none⟩ (.bool wo)).setCell ⟨w.heap.size, 5, none⟩ (.bool me)).cell? ⟨w.heap.size, 5, none⟩ = some (.bool me) := World.cell_of_heap zw5 5
    have zw6 := World.heap_setCell_row zw5 6 (.int .i64 n3)
    simp only [List.setIfInBounds_toArray, List.set_cons_zero, List.set_cons_succ] at zw6
    have zg6 : (((((((V.setCell ⟨w.heap.size, 0, none⟩ (.int .i64 n0)).setCell ⟨w.heap.size, 1, none⟩ (.string w1)).setCell ⟨w.heap.size, 2, none⟩ (.int .i64 n1)).setCell ⟨w.heap.size, 3, none⟩ (.int .i64 n2)).setCell ⟨w.heap.size, 4, none⟩ (.bool wo)).setCell ⟨w.heap.size, 5, none⟩ (.bool me)).setCell ⟨w.heap.size, 6, none⟩ (.int .i64 n3)).cell? ⟨w.heap.size, 6, none⟩ = some (.int .i64 n3) := World.cell_of_heap zw6 6
    have zw7 := World.heap_setCell_row zw6 7 (.int .i64 n4)
    simp only [List.setIfInBounds_toArray, List.set_cons_zero, List.set_cons_succ] at zw7
    have zg7 : ((((((((V.setCell ⟨w.heap.size, 0, none⟩ (.int .i64 n0)).setCell ⟨w.heap.size, 1, none⟩ (.string w1)).setCell ⟨w.heap.size, 2, none⟩ (.int .i64 n1)).setCell ⟨w.heap.size, 3, none⟩ (.int .i64 n2)).setCell ⟨w.heap.size, 4, none⟩ (.bool wo)).setCell ⟨w.heap.size, 5, none⟩ (.bool me)).setCell ⟨w.heap.size, 6, none⟩ (.int .i64 n3)).setCell ⟨w.heap.size, 7, none⟩ (.int .i64 n4)).cell? ⟨w.heap.size, 7, none⟩ = some (.int .i64 n4) := World.cell_of_heap zw7 7
    clear zw0 zw1 zw2 zw3 zw4 zw5 zw6 zw7
    go_wp2_with fail
    refine bodyPost_ret (v := .tuple #[.agg #[.int .i64 n0, .string w1, .int .i64 n1, .int .i64 n2, .bool wo, .bool me, .int .i64 n3, .int .i64 n4], .bool true]) (by simp [results, Tryz.results9, go_sem, zg0, zg1, zg2, zg3, zg4, zg5, zg6, zg7]) rfl ?_
    exact ⟨_, true, rfl, HYS.out, (gain_setCell (gain_setCell (gain_setCell (gain_setCell (gain_setCell (gain_setCell (gain_setCell (gain_setCell HG.out (a := ⟨w.heap.size, 0, none⟩) (Nat.le_refl _) _) (a := ⟨w.heap.size, 1, none⟩) (Nat.le_refl _) _) (a := ⟨w.heap.size, 2, none⟩) (Nat.le_refl _) _) (a := ⟨w.heap.size, 3, none⟩) (Nat.le_refl _) _) (a := ⟨w.heap.size, 4, none⟩) (Nat.le_refl _) _) (a := ⟨w.heap.size, 5, none⟩) (Nat.le_refl _) _) (a := ⟨w.heap.size, 6, none⟩) (Nat.le_refl _) _) (a := ⟨w.heap.size, 7, none⟩) (Nat.le_refl _) _)⟩
  · have hne : (T.toList == s.toList) = false := by rw [str_eq]; exact decide_eq_false hTs
    have HNO : Hid (∀ c', classB c' = true → clsT c' ≠ s) := Lib.hid (fun c' hc e => by rw [← HCC.out c' hc e, hT] at e; exact hTs e)
    clear hT hTs HCC HBB
    go_upto_region 10 with (first | (go_at_call 8; refine (HONE.out _).mono ?_; rintro e w1 ⟨rfl, d9, rfl⟩) | (go_at_call 23; refine (HTX.out _ (by repeat (first | with_reducible (first | exact World.gained_refl _ | exact ⟨_, rfl⟩ | apply gain_ext | apply gain_alloc | apply gain_drewN | apply gain_drew) | (refine gain_setCell ?_ (by first | exact Nat.le_refl _ | exact World.size_ext _ _ | (simp; done) | (simp; omega)) _)))).mono ?_; rintro e w1 ⟨rfl, d10, rfl⟩))
    clear xc0 xf0 xc1 xf1 xc2 xf2 xc3 xf3 xc4 xf4 xc5 xf5 xc6 xf6 xc7 xf7 xo
    have HR := Lib.hid (prow_up HR5.out (w' := (U5.ext d9).ext d10) (by repeat (first | with_reducible (first | exact World.gained_refl _ | exact ⟨_, rfl⟩ | apply gain_ext | apply gain_alloc | apply gain_drewN | apply gain_drew) | (refine gain_setCell ?_ (by first | exact Nat.le_refl _ | exact World.size_ext _ _ | (simp; done) | (simp; omega)) _))))
    have HG := Lib.hid (gain_trans HG5.out (w' := (U5.ext d9).ext d10) (by repeat (first | with_reducible (first | exact World.gained_refl _ | exact ⟨_, rfl⟩ | apply gain_ext | apply gain_alloc | apply gain_drewN | apply gain_drew) | (refine gain_setCell ?_ (by first | exact Nat.le_refl _ | exact World.size_ext _ _ | (simp; done) | (simp; omega)) _))))
    generalize (U5.ext d9).ext d10 = V at HR HG ⊢
    have yc0 : V.cell? ⟨w.heap.size, 0, none⟩ = some (.int .i64 0) := World.cell_of_heap HR.out 0
    have yf0 : V.frozen? ⟨w.heap.size, 0, none⟩ = false := World.free_of_heap HR.out 0
    have yc1 : V.cell? ⟨w.heap.size, 1, none⟩ = some (.string ⟨#[]⟩) := World.cell_of_heap HR.out 1
    have yf1 : V.frozen? ⟨w.heap.size, 1, none⟩ = false := World.free_of_heap HR.out 1
    have yc2 : V.cell? ⟨w.heap.size, 2, none⟩ = some (.int .i64 0) := World.cell_of_heap HR.out 2
    have yf2 : V.frozen? ⟨w.heap.size, 2, none⟩ = false := World.free_of_heap HR.out 2
    have yc3 : V.cell? ⟨w.heap.size, 3, none⟩ = some (.int .i64 0) := World.cell_of_heap HR.out 3
    have yf3 : V.frozen? ⟨w.heap.size, 3, none⟩ = false := World.free_of_heap HR.out 3
    have yc4 : V.cell? ⟨w.heap.size, 4, none⟩ = some (.bool false) := World.cell_of_heap HR.out 4
    have yf4 : V.frozen? ⟨w.heap.size, 4, none⟩ = false := World.free_of_heap HR.out 4
    have yc5 : V.cell? ⟨w.heap.size, 5, none⟩ = some (.bool false) := World.cell_of_heap HR.out 5
    have yf5 : V.frozen? ⟨w.heap.size, 5, none⟩ = false := World.free_of_heap HR.out 5
    have yc6 : V.cell? ⟨w.heap.size, 6, none⟩ = some (.int .i64 0) := World.cell_of_heap HR.out 6
    have yf6 : V.frozen? ⟨w.heap.size, 6, none⟩ = false := World.free_of_heap HR.out 6
    have yc7 : V.cell? ⟨w.heap.size, 7, none⟩ = some (.int .i64 0) := World.cell_of_heap HR.out 7
    have yf7 : V.frozen? ⟨w.heap.size, 7, none⟩ = false := World.free_of_heap HR.out 7
    have yo := World.oldB_of_cell yc0
    have zw0 := World.heap_setCell_row HR.out 0 (.int .i64 0)
    simp only [List.setIfInBounds_toArray, List.set_cons_zero, List.set_cons_succ] at zw0
    have zg0 : (V.setCell ⟨w.heap.size, 0, none⟩ (.int .i64 0)).cell? ⟨w.heap.size, 0, none⟩ = some (.int .i64 0) := World.cell_of_heap zw0 0
    have zw1 := World.heap_setCell_row zw0 1 (.string ⟨#[]⟩)
    simp only [List.setIfInBounds_toArray, List.set_cons_zero, List.set_cons_succ] at zw1
    have zg1 : ((V.setCell ⟨w.heap.size, 0, none⟩ (.int .i64 0)).setCell ⟨w.heap.size, 1, none⟩ (.string ⟨#[]⟩)).cell? ⟨w.heap.size, 1, none⟩ = some (.string ⟨#[]⟩) := World.cell_of_heap zw1 1
    have zw2 := World.heap_setCell_row zw1 2 (.int .i64 0)
    simp only [List.setIfInBounds_toArray, List.set_cons_zero, List.set_cons_succ] at zw2
    have zg2 : (((V.setCell ⟨w.heap.size, 0, none⟩ (.int .i64 0)).setCell ⟨w.heap.size, 1, none⟩ (.string ⟨#[]⟩)).setCell ⟨w.heap.size, 2, none⟩ (.int .i64 0)).cell? ⟨w.heap.size, 2, none⟩ = some (.int .i64 0) := World.cell_of_heap zw2 2
    have zw3 := World.heap_setCell_row zw2 3 (.int .i64 0)
    simp only [List.setIfInBounds_toArray, List.set_cons_zero, List.set_cons_succ] at zw3
    have zg3 : ((((V.setCell ⟨w.heap.size, 0, none⟩ (.int .i64 0)).setCell ⟨w.heap.size, 1, none⟩ (.string ⟨#[]⟩)).setCell ⟨w.heap.size, 2, none⟩ (.int .i64 0)).setCell ⟨w.heap.size, 3, none⟩ (.int .i64 0)).cell? ⟨w.heap.size, 3, none⟩ = some (.int .i64 0) := World.cell_of_heap zw3 3
    have zw4 := World.heap_setCell_row zw3 4 (.bool false)
    simp only [List.setIfInBounds_toArray, List.set_cons_zero, List.set_cons_succ] at zw4
    have zg4 : (((((V.setCell ⟨w.heap.size, 0, none⟩ (.int .i64 0)).setCell ⟨w.heap.size, 1, none⟩ (.string ⟨#[]⟩)).setCell ⟨w.heap.size, 2, none⟩ (.int .i64 0)).setCell ⟨w.heap.size, 3, none⟩ (.int .i64 0)).setCell ⟨w.heap.size, 4, none⟩ (.bool false)).cell? ⟨w.heap.size, 4, none⟩ = some (.bool false) := World.cell_of_heap zw4 4
    have zw5 := World.heap_setCell_row zw4 5 (.bool false)
    simp only [List.setIfInBounds_toArray, List.set_cons_zero, List.set_cons_succ] at zw5
    have zg5 : ((((((V.setCell ⟨w.heap.size, 0, none⟩ (.int .i64 0)).setCell ⟨w.heap.size, 1, none⟩ (.string ⟨#[]⟩)).setCell ⟨w.heap.size, 2, none⟩ (.int .i64 0)).setCell ⟨w.heap.size, 3, none⟩ (.int .i64 0)).setCell ⟨w.heap.size, 4, none⟩ (.bool false)).setCell ⟨w.heap.size, 5, none⟩ (.bool false)).cell? ⟨w.heap.size, 5, none⟩ = some (.bool false) := World.cell_of_heap zw5 5
    have zw6 := World.heap_setCell_row zw5 6 (.int .i64 0)
    simp only [List.setIfInBounds_toArray, List.set_cons_zero, List.set_cons_succ] at zw6
    have zg6 : (((((((V.setCell ⟨w.heap.size, 0, none⟩ (.int .i64 0)).setCell ⟨w.heap.size, 1, none⟩ (.string ⟨#[]⟩)).setCell ⟨w.heap.size, 2, none⟩ (.int .i64 0)).setCell ⟨w.heap.size, 3, none⟩ (.int .i64 0)).setCell ⟨w.heap.size, 4, none⟩ (.bool false)).setCell ⟨w.heap.size, 5, none⟩ (.bool false)).setCell ⟨w.heap.size, 6, none⟩ (.int .i64 0)).cell? ⟨w.heap.size, 6, none⟩ = some (.int .i64 0) := World.cell_of_heap zw6 6
    have zw7 := World.heap_setCell_row zw6 7 (.int .i64 0)
    simp only [List.setIfInBounds_toArray, List.set_cons_zero, List.set_cons_succ] at zw7
    have zg7 : ((((((((V.setCell ⟨w.heap.size, 0, none⟩ (.int .i64 0)).setCell ⟨w.heap.size, 1, none⟩ (.string ⟨#[]⟩)).setCell ⟨w.heap.size, 2, none⟩ (.int .i64 0)).setCell ⟨w.heap.size, 3, none⟩ (.int .i64 0)).setCell ⟨w.heap.size, 4, none⟩ (.bool false)).setCell ⟨w.heap.size, 5, none⟩ (.bool false)).setCell ⟨w.heap.size, 6, none⟩ (.int .i64 0)).setCell ⟨w.heap.size, 7, none⟩ (.int .i64 0)).cell? ⟨w.heap.size, 7, none⟩ = some (.int .i64 0) := World.cell_of_heap zw7 7
    clear zw0 zw1 zw2 zw3 zw4 zw5 zw6 zw7
    go_wp2_with fail
    refine bodyPost_ret (v := .tuple #[.agg #[.int .i64 0, .string ⟨#[]⟩, .int .i64 0, .int .i64 0, .bool false, .bool false, .int .i64 0, .int .i64 0], .bool false]) (by simp [results, Tryz.results9, go_sem, zg0, zg1, zg2, zg3, zg4, zg5, zg6, zg7]) rfl ?_
    exact ⟨zeroC, false, rfl, parsed_no HNO.out, (gain_setCell (gain_setCell (gain_setCell (gain_setCell (gain_setCell (gain_setCell (gain_setCell (gain_setCell HG.out (a := ⟨w.heap.size, 0, none⟩) (Nat.le_refl _) _) (a := ⟨w.heap.size, 1, none⟩) (Nat.le_refl _) _) (a := ⟨w.heap.size, 2, none⟩) (Nat.le_refl _) _) (a := ⟨w.heap.size, 3, none⟩) (Nat.le_refl _) _) (a := ⟨w.heap.size, 4, none⟩) (Nat.le_refl _) _) (a := ⟨w.heap.size, 5, none⟩) (Nat.le_refl _) _) (a := ⟨w.heap.size, 6, none⟩) (Nat.le_refl _) _) (a := ⟨w.heap.size, 7, none⟩) (Nat.le_refl _) _)⟩
end Go.Proofs.YtffkkchflohhaaaGreatDoor
