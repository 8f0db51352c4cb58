/- spec.l1Cur's class. Condition: the reader has been asked less than a hundred thousand times. -/
import Derived.Test.YtffkkchflohhaaaGreatDoorDrawOf
import Derived.Test.YtffkkchflohhaaaGreatDoorPlain
import Derived.Deep.DeepCutAuto
namespace Go.Proofs.YtffkkchflohhaaaGreatDoor
open Go.RowKit Go.Ori
theorem l1Least_some (a b : Int) (w : World) : Calls Tryz.prog 64 #[.int .i64 a, .int .i64 b] w fun x w' => ∃ r : Int, x = .returned (.int .i64 r) ∧ w = w' := by
  by_cases h : a < b
  · go_enter Tryz.func64, Tryz.ntmps64
    go_wp2
    go_ret
    first | exact ⟨a, rfl, rfl⟩ | exact ⟨⟨a, rfl⟩, rfl⟩
  · go_enter Tryz.func64, Tryz.ntmps64
    go_wp2
    go_ret
    first | exact ⟨b, rfl, rfl⟩ | exact ⟨⟨b, rfl⟩, rfl⟩
set_option maxHeartbeats 8000000 in
set_option maxRecDepth 100000 in
theorem class_any (W w : World) (g n : Nat) (id : Int) (h : Cur 62 W w g n) (hn : n ≤ 100000) :
    Calls Tryz.prog 33 #[.pointer (some ⟨g, 0, none⟩), .int .i64 id] w fun x w' => ∃ c : Cls, x = .returned (.agg #[.int .i64 (c.id), .string c.name, .int .i64 (c.low), .int .i64 (c.high), .bool c.women, .bool c.men, .int .i64 (c.course), .int .i64 (c.most)]) ∧ c.name.size ≤ 1048576 ∧ Cur 62 W w' g (n + 70) ∧ w.grownBy w' (some g) := by
  have HP0 := Lib.hid (PreSt.start (tC := 25) (Z := #[.int .i64 0, .string ⟨#[]⟩, .int .i64 0, .int .i64 0, .bool false, .bool false, .int .i64 0, .int .i64 0]) h)
  have hsz : (w.alloc (.cells #[.int .i64 0, .string ⟨#[]⟩, .int .i64 0, .int .i64 0, .bool false, .bool false, .int .i64 0, .int .i64 0] 25)).heap.size = w.heap.size + 1 := World.size_alloc _ _
  clear h
  go_enter Tryz.func33, Tryz.ntmps33
  go_wp2_with fail
  generalize w.alloc (.cells #[.int .i64 0, .string ⟨#[]⟩, .int .i64 0, .int .i64 0, .bool false, .bool false, .int .i64 0, .int .i64 0] 25) = w0 at HP0 hsz ⊢
  generalize hgR : w.heap.size = gR at HP0 hsz ⊢
  rw [← hsz]
  clear hgR hsz
  refine (of_any W _ g _ _ [(⟨#[101, 108, 105, 116, 101]⟩ : ByteArray), (⟨#[106, 117, 110, 105, 111, 114]⟩ : ByteArray), (⟨#[115, 101, 110, 105, 111, 114]⟩ : ByteArray), (⟨#[111, 112, 101, 110]⟩ : ByteArray), (⟨#[115, 104, 111, 114, 116]⟩ : ByteArray), (⟨#[108, 111, 110, 103]⟩ : ByteArray)] w0.heap.size (HP0.out.cur.gain (by repeat (first | with_reducible (first | exact World.gained_refl _ | exact ⟨_, rfl⟩ | apply gain_ext | apply gain_alloc | apply gain_drewN | apply gain_drew) | (refine gain_setCell ?_ (by first | exact Nat.le_refl _ | exact World.size_ext _ _ | (simp; done) | (simp; omega)) _)))) (by omega) (own_lit' (w := w0) (e := 9) (base := w0.heap.size) (C := #[.string ⟨#[101, 108, 105, 116, 101]⟩, .string ⟨#[106, 117, 110, 105, 111, 114]⟩, .string ⟨#[115, 101, 110, 105, 111, 114]⟩, .string ⟨#[111, 112, 101, 110]⟩, .string ⟨#[115, 104, 111, 114, 116]⟩, .string ⟨#[108, 111, 110, 103]⟩]) (l := [(⟨#[101, 108, 105, 116, 101]⟩ : ByteArray), (⟨#[106, 117, 110, 105, 111, 114]⟩ : ByteArray), (⟨#[115, 101, 110, 105, 111, 114]⟩ : ByteArray), (⟨#[111, 112, 101, 110]⟩ : ByteArray), (⟨#[115, 104, 111, 114, 116]⟩ : ByteArray), (⟨#[108, 111, 110, 103]⟩ : ByteArray)]) strC_length rfl rfl (Nat.le_refl _)) HP0.out.cur.lt (by simp) (by simp)).mono ?_
  rintro e w1 ⟨x_name, rfl, hm, hc1, hg1⟩
  have HP1 := Lib.hid ((HP0.out.up (wr' := w0.alloc (.cells #[.string ⟨#[101, 108, 105, 116, 101]⟩, .string ⟨#[106, 117, 110, 105, 111, 114]⟩, .string ⟨#[115, 101, 110, 105, 111, 114]⟩, .string ⟨#[111, 112, 101, 110]⟩, .string ⟨#[115, 104, 111, 114, 116]⟩, .string ⟨#[108, 111, 110, 103]⟩] 9)) (by repeat (first | with_reducible (first | exact World.gained_refl _ | exact ⟨_, rfl⟩ | apply gain_ext | apply gain_alloc | apply gain_drewN | apply gain_drew) | (refine gain_setCell ?_ (by first | exact Nat.le_refl _ | exact World.size_ext _ _ | (simp; done) | (simp; omega)) _)))).on hc1 hg1)
  have hz_x_name : x_name.size ≤ 1048576 := (show ∀ s ∈ [(⟨#[101, 108, 105, 116, 101]⟩ : ByteArray), (⟨#[106, 117, 110, 105, 111, 114]⟩ : ByteArray), (⟨#[115, 101, 110, 105, 111, 114]⟩ : ByteArray), (⟨#[111, 112, 101, 110]⟩ : ByteArray), (⟨#[115, 104, 111, 114, 116]⟩ : ByteArray), (⟨#[108, 111, 110, 103]⟩ : ByteArray)], s.size ≤ 1048576 by decide) _ hm
  clear hm hc1 hg1 HP0
  go_wp2_with fail
  refine (among_any W _ g _ _ [(0 : Int), (6 : Int), (18 : Int), (36 : Int), (60 : Int)] w1.heap.size (HP1.out.cur.gain (by repeat (first | with_reducible (first | exact World.gained_refl _ | exact ⟨_, rfl⟩ | apply gain_ext | apply gain_alloc | apply gain_drewN | apply gain_drew) | (refine gain_setCell ?_ (by first | exact Nat.le_refl _ | exact World.size_ext _ _ | (simp; done) | (simp; omega)) _)))) (by omega) (own_lit' (w := w1) (e := 3) (base := w1.heap.size) (C := #[.int .i64 (0), .int .i64 (6), .int .i64 (18), .int .i64 (36), .int .i64 (60)]) (l := [(0 : Int), (6 : Int), (18 : Int), (36 : Int), (60 : Int)]) intC_length rfl rfl (Nat.le_refl _)) HP1.out.cur.lt (by simp) (by simp)).mono ?_
  rintro e w2 ⟨x_low, rfl, hm, hc1, hg1⟩
  have HP2 := Lib.hid ((HP1.out.up (wr' := w1.alloc (.cells #[.int .i64 (0), .int .i64 (6), .int .i64 (18), .int .i64 (36), .int .i64 (60)] 3)) (by repeat (first | with_reducible (first | exact World.gained_refl _ | exact ⟨_, rfl⟩ | apply gain_ext | apply gain_alloc | apply gain_drewN | apply gain_drew) | (refine gain_setCell ?_ (by first | exact Nat.le_refl _ | exact World.size_ext _ _ | (simp; done) | (simp; omega)) _)))).on hc1 hg1)
  clear hm hc1 hg1 HP1
  go_wp2_with fail
  refine (one_any W _ g _ _ (HP2.out.cur.gain (by repeat (first | with_reducible (first | exact World.gained_refl _ | exact ⟨_, rfl⟩ | apply gain_ext | apply gain_alloc | apply gain_drewN | apply gain_drew) | (refine gain_setCell ?_ (by first | exact Nat.le_refl _ | exact World.size_ext _ _ | (simp; done) | (simp; omega)) _)))) (by omega)).mono ?_
  rintro e w3 ⟨x_women, rfl, hc1, hg1⟩
  have HP3 := Lib.hid ((HP2.out.up (wr' := w2) (by repeat (first | with_reducible (first | exact World.gained_refl _ | exact ⟨_, rfl⟩ | apply gain_ext | apply gain_alloc | apply gain_drewN | apply gain_drew) | (refine gain_setCell ?_ (by first | exact Nat.le_refl _ | exact World.size_ext _ _ | (simp; done) | (simp; omega)) _)))).on hc1 hg1)
  clear hc1 hg1 HP2
  go_wp2_with fail
  refine (one_any W _ g _ _ (HP3.out.cur.gain (by repeat (first | with_reducible (first | exact World.gained_refl _ | exact ⟨_, rfl⟩ | apply gain_ext | apply gain_alloc | apply gain_drewN | apply gain_drew) | (refine gain_setCell ?_ (by first | exact Nat.le_refl _ | exact World.size_ext _ _ | (simp; done) | (simp; omega)) _)))) (by omega)).mono ?_
  rintro e w4 ⟨x_men, rfl, hc1, hg1⟩
  have HP4 := Lib.hid ((HP3.out.up (wr' := w3) (by repeat (first | with_reducible (first | exact World.gained_refl _ | exact ⟨_, rfl⟩ | apply gain_ext | apply gain_alloc | apply gain_drewN | apply gain_drew) | (refine gain_setCell ?_ (by first | exact Nat.le_refl _ | exact World.size_ext _ _ | (simp; done) | (simp; omega)) _)))).on hc1 hg1)
  clear hc1 hg1 HP3
  go_wp2_with fail
  refine (among_any W _ g _ _ [(1 : Int), (2 : Int), (2 : Int), (20 : Int)] w4.heap.size (HP4.out.cur.gain (by repeat (first | with_reducible (first | exact World.gained_refl _ | exact ⟨_, rfl⟩ | apply gain_ext | apply gain_alloc | apply gain_drewN | apply gain_drew) | (refine gain_setCell ?_ (by first | exact Nat.le_refl _ | exact World.size_ext _ _ | (simp; done) | (simp; omega)) _)))) (by omega) (own_lit' (w := w4) (e := 3) (base := w4.heap.size) (C := #[.int .i64 (1), .int .i64 (2), .int .i64 (2), .int .i64 (20)]) (l := [(1 : Int), (2 : Int), (2 : Int), (20 : Int)]) intC_length rfl rfl (Nat.le_refl _)) HP4.out.cur.lt (by simp) (by simp)).mono ?_
  rintro e w5 ⟨x_course, rfl, hm, hc1, hg1⟩
  have HP5 := Lib.hid ((HP4.out.up (wr' := w4.alloc (.cells #[.int .i64 (1), .int .i64 (2), .int .i64 (2), .int .i64 (20)] 3)) (by repeat (first | with_reducible (first | exact World.gained_refl _ | exact ⟨_, rfl⟩ | apply gain_ext | apply gain_alloc | apply gain_drewN | apply gain_drew) | (refine gain_setCell ?_ (by first | exact Nat.le_refl _ | exact World.size_ext _ _ | (simp; done) | (simp; omega)) _)))).on hc1 hg1)
  clear hm hc1 hg1 HP4
  go_wp2_with fail
  refine (among_any W _ g _ _ [(1 : Int), (1 : Int), (2 : Int), (500 : Int)] w5.heap.size (HP5.out.cur.gain (by repeat (first | with_reducible (first | exact World.gained_refl _ | exact ⟨_, rfl⟩ | apply gain_ext | apply gain_alloc | apply gain_drewN | apply gain_drew) | (refine gain_setCell ?_ (by first | exact Nat.le_refl _ | exact World.size_ext _ _ | (simp; done) | (simp; omega)) _)))) (by omega) (own_lit' (w := w5) (e := 3) (base := w5.heap.size) (C := #[.int .i64 (1), .int .i64 (1), .int .i64 (2), .int .i64 (500)]) (l := [(1 : Int), (1 : Int), (2 : Int), (500 : Int)]) intC_length rfl rfl (Nat.le_refl _)) HP5.out.cur.lt (by simp) (by simp)).mono ?_
  rintro e w6 ⟨x_most, rfl, hm, hc1, hg1⟩
  have HP6 := Lib.hid ((HP5.out.up (wr' := w5.alloc (.cells #[.int .i64 (1), .int .i64 (1), .int .i64 (2), .int .i64 (500)] 3)) (by repeat (first | with_reducible (first | exact World.gained_refl _ | exact ⟨_, rfl⟩ | apply gain_ext | apply gain_alloc | apply gain_drewN | apply gain_drew) | (refine gain_setCell ?_ (by first | exact Nat.le_refl _ | exact World.size_ext _ _ | (simp; done) | (simp; omega)) _)))).on hc1 hg1)
  clear hm hc1 hg1 HP5
  go_upto_region 2 with fail
  have HB0 := Lib.hid (HP6.out.box #[.int .i64 (id), .string x_name, .int .i64 (x_low), .int .i64 0, .bool x_women, .bool x_men, .int .i64 (x_course), .int .i64 (x_most)])
  generalize w6.alloc (.cells #[.int .i64 (id), .string x_name, .int .i64 (x_low), .int .i64 0, .bool x_women, .bool x_men, .int .i64 (x_course), .int .i64 (x_most)] 25) = v0 at HB0 ⊢
  generalize w6.heap.size = gB at HB0 ⊢
  clear HP6
  refine wp_region_held_drew (S := (fun w' => w'.cell? ⟨gB, 2, none⟩ = some (.int .i64 x_low))) (by kernel_rfl) (World.cell_of_heap HB0.out.box 2) (fun hHeld => ?_)
  refine wpAnyH_take (i := 0) (oi := ⟨_, _, _, _, _, _⟩) (v := ?_) rfl (by kernel_rfl) (by kernel_rfl) (by kernel_rfl) (fun _ _ _ h => h) (Or.inl ⟨by rfl, ?_⟩) (by assumption) ?_
  rotate_left
  · intro w hSw; (try dsimp only at hSw); go_simp; (try with_reducible rfl)
  try simp only [Act.put, List.setIfInBounds_toArray, List.set_cons_zero, List.set_cons_succ]
  refine wpAnyH_take (i := 1) (oi := ⟨_, _, _, _, _, _⟩) (v := ?_) rfl (by kernel_rfl) (by kernel_rfl) (by kernel_rfl) (fun _ _ _ h => h) (Or.inl ⟨by rfl, ?_⟩) (by assumption) ?_
  rotate_left
  · intro w hSw; (try dsimp only at hSw); go_simp; (try with_reducible rfl)
  try simp only [Act.put, List.setIfInBounds_toArray, List.set_cons_zero, List.set_cons_succ]
  refine wpAnyH_take (i := 2) (oi := ⟨_, _, _, _, _, _⟩) (v := ?_) rfl (by kernel_rfl) (by kernel_rfl) (by kernel_rfl) (fun _ _ _ h => h) (Or.inl ⟨by rfl, ?_⟩) (by assumption) ?_
  rotate_left
  · intro w hSw; (try dsimp only at hSw); go_simp; (try with_reducible rfl)
  try simp only [Act.put, List.setIfInBounds_toArray, List.set_cons_zero, List.set_cons_succ]
  refine wpAnyH_ready (rs := [3]) (by kernel_rfl) (by simp) ?_
  refine AllReadyH.cons rfl (fun K hK => ?_) (AllReadyH.nil)
  go_simp
  have HL0 := Lib.hid (own_lit' (w := v0) (e := 3) (base := v0.heap.size) (C := #[.int .i64 (0), .int .i64 (14), .int .i64 (60), .int .i64 (120)]) (l := [(0 : Int), (14 : Int), (60 : Int), (120 : Int)]) intC_length rfl rfl (Nat.le_refl _))
  refine hK.out _ _ ?_ (fun hHeld => ?_)
  · exact World.cell_of_heap (rowd_up HB0.out.box (by repeat (first | with_reducible (first | exact World.gained_refl _ | exact ⟨_, rfl⟩ | apply gain_ext | apply gain_alloc | apply gain_drewN | apply gain_drew) | (refine gain_setCell ?_ (by first | exact Nat.le_refl _ | exact World.size_ext _ _ | (simp; done) | (simp; omega)) _)))) 2
  clear hK K
  try simp only [Act.put, List.setIfInBounds_toArray, List.set_cons_zero, List.set_cons_succ]
  refine wpAnyH_ready (rs := [4]) (by kernel_rfl) (by simp) ?_
  refine AllReadyH.cons rfl (fun K hK => ?_) (AllReadyH.nil)
  go_simp
  go_wp2_with fail
  refine (among_any W _ g _ _ [(0 : Int), (14 : Int), (60 : Int), (120 : Int)] v0.heap.size (HB0.out.pre.cur.gain (by repeat (first | with_reducible (first | exact World.gained_refl _ | exact ⟨_, rfl⟩ | apply gain_ext | apply gain_alloc | apply gain_drewN | apply gain_drew) | (refine gain_setCell ?_ (by first | exact Nat.le_refl _ | exact World.size_ext _ _ | (simp; done) | (simp; omega)) _)))) (by omega) (own_up HL0.out (by repeat (first | with_reducible (first | exact World.gained_refl _ | exact ⟨_, rfl⟩ | apply gain_ext | apply gain_alloc | apply gain_drewN | apply gain_drew) | (refine gain_setCell ?_ (by first | exact Nat.le_refl _ | exact World.size_ext _ _ | (simp; done) | (simp; omega)) _)))) HB0.out.lt (by simp) (by simp)).mono ?_
  rintro e v1 ⟨x9, rfl, hm, hc1, hg1⟩
  have HB1 := Lib.hid ((HB0.out.up (by repeat (first | with_reducible (first | exact World.gained_refl _ | exact ⟨_, rfl⟩ | apply gain_ext | apply gain_alloc | apply gain_drewN | apply gain_drew) | (refine gain_setCell ?_ (by first | exact Nat.le_refl _ | exact World.size_ext _ _ | (simp; done) | (simp; omega)) _)))).on hc1 hg1)
  clear hm hc1 hg1 HB0 HL0
  (try dsimp only)
  refine hK.out _ _ ?_ (fun hHeld => ?_)
  · exact World.cell_of_heap HB1.out.box 2
  clear hK K
  try simp only [Act.put, List.setIfInBounds_toArray, List.set_cons_zero, List.set_cons_succ]
  refine wpAnyH_take (i := 5) (oi := ⟨_, _, _, _, _, _⟩) (v := ?_) rfl (by kernel_rfl) (by kernel_rfl) (by kernel_rfl) (fun _ _ _ h => h) (Or.inl ⟨by rfl, ?_⟩) (by assumption) ?_
  rotate_left
  · intro w hSw; (try dsimp only at hSw); go_simp; (try with_reducible rfl)
  try simp only [Act.put, List.setIfInBounds_toArray, List.set_cons_zero, List.set_cons_succ]
  refine wpAnyH_ready (rs := [6]) (by kernel_rfl) (by simp) ?_
  refine AllReadyH.cons rfl (fun K hK => ?_) (AllReadyH.nil)
  go_simp
  go_wp2_with fail
  refine (l1Least_some _ _ _).mono ?_
  rintro e vL ⟨x_high, rfl, rfl⟩
  (try dsimp only)
  refine hK.out _ _ ?_ (fun hHeld => ?_)
  · exact World.cell_of_heap HB1.out.box 2
  clear hK K
  try simp only [Act.put, List.setIfInBounds_toArray, List.set_cons_zero, List.set_cons_succ]
  refine wpAnyH_take (i := 7) (oi := ⟨_, _, _, _, _, _⟩) (v := ?_) rfl (by kernel_rfl) (by kernel_rfl) (by kernel_rfl) (fun _ _ _ h => h) (Or.inl ⟨by rfl, ?_⟩) (by assumption) ?_
  rotate_left
  · intro w hSw; (try dsimp only at hSw); go_simp; (try with_reducible rfl)
  try simp only [Act.put, List.setIfInBounds_toArray, List.set_cons_zero, List.set_cons_succ]
  have ex0 : v1.cell? ⟨gB, 0, none⟩ = some (.int .i64 (id)) := World.cell_of_heap HB1.out.box 0
  have ef0 : v1.frozen? ⟨gB, 0, none⟩ = false := World.free_of_heap HB1.out.box 0
  have ex1 : v1.cell? ⟨gB, 1, none⟩ = some (.string x_name) := World.cell_of_heap HB1.out.box 1
  have ef1 : v1.frozen? ⟨gB, 1, none⟩ = false := World.free_of_heap HB1.out.box 1
  have ex2 : v1.cell? ⟨gB, 2, none⟩ = some (.int .i64 (x_low)) := World.cell_of_heap HB1.out.box 2
  have ef2 : v1.frozen? ⟨gB, 2, none⟩ = false := World.free_of_heap HB1.out.box 2
  have ex3 : v1.cell? ⟨gB, 3, none⟩ = some (.int .i64 0) := World.cell_of_heap HB1.out.box 3
  have ef3 : v1.frozen? ⟨gB, 3, none⟩ = false := World.free_of_heap HB1.out.box 3
  have ex4 : v1.cell? ⟨gB, 4, none⟩ = some (.bool x_women) := World.cell_of_heap HB1.out.box 4
  have ef4 : v1.frozen? ⟨gB, 4, none⟩ = false := World.free_of_heap HB1.out.box 4
  have ex5 : v1.cell? ⟨gB, 5, none⟩ = some (.bool x_men) := World.cell_of_heap HB1.out.box 5
  have ef5 : v1.frozen? ⟨gB, 5, none⟩ = false := World.free_of_heap HB1.out.box 5
  have ex6 : v1.cell? ⟨gB, 6, none⟩ = some (.int .i64 (x_course)) := World.cell_of_heap HB1.out.box 6
  have ef6 : v1.frozen? ⟨gB, 6, none⟩ = false := World.free_of_heap HB1.out.box 6
  have ex7 : v1.cell? ⟨gB, 7, none⟩ = some (.int .i64 (x_most)) := World.cell_of_heap HB1.out.box 7
  have ef7 : v1.frozen? ⟨gB, 7, none⟩ = false := World.free_of_heap HB1.out.box 7
  have eob := World.oldB_of_cell ex0
  refine wpAnyH_ready (rs := [8]) (by kernel_rfl) (by simp) ?_
  refine AllReadyH.cons rfl (fun K hK => ?_) (AllReadyH.nil)
  go_simp
  have HB2 := Lib.hid (HB1.out.put 3 (.int .i64 x_high))
  refine hK.out _ _ ?_ (fun hHeld => ?_)
  · exact World.cell_of_heap HB2.out.box 2
  clear hK K
  try simp only [Act.put, List.setIfInBounds_toArray, List.set_cons_zero, List.set_cons_succ]
  refine wpAnyH_done (by kernel_rfl) ?_ _
  simp only [List.setIfInBounds_toArray, List.set_cons_zero, List.set_cons_succ] at HB2
  clear HB1 ex0 ef0 ex1 ef1 ex2 ef2 ex3 ef3 ex4 ef4 ex5 ef5 ex6 ef6 ex7 ef7 eob
  generalize v1.setCell ⟨gB, 3, none⟩ (.int .i64 x_high) = v2 at HB2 ⊢
  go_upto_region 3 with fail
  have ex0 : v2.cell? ⟨gB, 0, none⟩ = some (.int .i64 (id)) := World.cell_of_heap HB2.out.box 0
  have ef0 : v2.frozen? ⟨gB, 0, none⟩ = false := World.free_of_heap HB2.out.box 0
  have ex1 : v2.cell? ⟨gB, 1, none⟩ = some (.string x_name) := World.cell_of_heap HB2.out.box 1
  have ef1 : v2.frozen? ⟨gB, 1, none⟩ = false := World.free_of_heap HB2.out.box 1
  have ex2 : v2.cell? ⟨gB, 2, none⟩ = some (.int .i64 (x_low)) := World.cell_of_heap HB2.out.box 2
  have ef2 : v2.frozen? ⟨gB, 2, none⟩ = false := World.free_of_heap HB2.out.box 2
  have ex3 : v2.cell? ⟨gB, 3, none⟩ = some (.int .i64 (x_high)) := World.cell_of_heap HB2.out.box 3
  have ef3 : v2.frozen? ⟨gB, 3, none⟩ = false := World.free_of_heap HB2.out.box 3
  have ex4 : v2.cell? ⟨gB, 4, none⟩ = some (.bool x_women) := World.cell_of_heap HB2.out.box 4
  have ef4 : v2.frozen? ⟨gB, 4, none⟩ = false := World.free_of_heap HB2.out.box 4
  have ex5 : v2.cell? ⟨gB, 5, none⟩ = some (.bool x_men) := World.cell_of_heap HB2.out.box 5
  have ef5 : v2.frozen? ⟨gB, 5, none⟩ = false := World.free_of_heap HB2.out.box 5
  have ex6 : v2.cell? ⟨gB, 6, none⟩ = some (.int .i64 (x_course)) := World.cell_of_heap HB2.out.box 6
  have ef6 : v2.frozen? ⟨gB, 6, none⟩ = false := World.free_of_heap HB2.out.box 6
  have ex7 : v2.cell? ⟨gB, 7, none⟩ = some (.int .i64 (x_most)) := World.cell_of_heap HB2.out.box 7
  have ef7 : v2.frozen? ⟨gB, 7, none⟩ = false := World.free_of_heap HB2.out.box 7
  have eob := World.oldB_of_cell ex0
  go_cut [44] (fun t wx => ∃ b : Bool, t = .bool b ∧ RowSt 62 25 W w wx g gR gB (n + 60) #[.int .i64 0, .string ⟨#[]⟩, .int .i64 0, .int .i64 0, .bool false, .bool false, .int .i64 0, .int .i64 0] #[.int .i64 (id), .string x_name, .int .i64 (x_low), .int .i64 (x_high), .bool x_women, .bool x_men, .int .i64 (x_course), .int .i64 (x_most)])
  case first =>
    cases hwo : x_women with
    | true =>
      rw [hwo] at ex4
      go_wp2_with fail
      go_meet
      exact ⟨false, rfl, RowSt.le (n' := n + 60) HB2.out (by omega)⟩
    | false =>
      rw [hwo] at ex4
      cases hme : x_men with
      | true =>
        rw [hme] at ex5
        go_wp2_with fail
        go_meet
        exact ⟨false, rfl, RowSt.le (n' := n + 60) HB2.out (by omega)⟩
      | false =>
        rw [hme] at ex5
        go_wp2_with fail
        refine (one_any W _ g _ _ (HB2.out.pre.cur.gain (by repeat (first | with_reducible (first | exact World.gained_refl _ | exact ⟨_, rfl⟩ | apply gain_ext | apply gain_alloc | apply gain_drewN | apply gain_drew) | (refine gain_setCell ?_ (by first | exact Nat.le_refl _ | exact World.size_ext _ _ | (simp; done) | (simp; omega)) _)))) (by omega)).mono ?_
        rintro e v3 ⟨r, rfl, hc1, hg1⟩
        have HB3 := Lib.hid ((HB2.out.up (wr' := v2) (by repeat (first | with_reducible (first | exact World.gained_refl _ | exact ⟨_, rfl⟩ | apply gain_ext | apply gain_alloc | apply gain_drewN | apply gain_drew) | (refine gain_setCell ?_ (by first | exact Nat.le_refl _ | exact World.size_ext _ _ | (simp; done) | (simp; omega)) _)))).on hc1 hg1)
        go_wp2_with fail
        go_meet
        exact ⟨!r, rfl, RowSt.le (n' := n + 60) HB3.out (by omega)⟩
  obtain ⟨b, rfl, hb4⟩ := hcut
  have HB4 := Lib.hid hb4
  clear hb4 HB2 ex0 ef0 ex1 ef1 ex2 ef2 ex3 ef3 ex4 ef4 ex5 ef5 ex6 ef6 ex7 ef7 eob
  have ex0 : wc.cell? ⟨gB, 0, none⟩ = some (.int .i64 (id)) := World.cell_of_heap HB4.out.box 0
  have ef0 : wc.frozen? ⟨gB, 0, none⟩ = false := World.free_of_heap HB4.out.box 0
  have ex1 : wc.cell? ⟨gB, 1, none⟩ = some (.string x_name) := World.cell_of_heap HB4.out.box 1
  have ef1 : wc.frozen? ⟨gB, 1, none⟩ = false := World.free_of_heap HB4.out.box 1
  have ex2 : wc.cell? ⟨gB, 2, none⟩ = some (.int .i64 (x_low)) := World.cell_of_heap HB4.out.box 2
  have ef2 : wc.frozen? ⟨gB, 2, none⟩ = false := World.free_of_heap HB4.out.box 2
  have ex3 : wc.cell? ⟨gB, 3, none⟩ = some (.int .i64 (x_high)) := World.cell_of_heap HB4.out.box 3
  have ef3 : wc.frozen? ⟨gB, 3, none⟩ = false := World.free_of_heap HB4.out.box 3
  have ex4 : wc.cell? ⟨gB, 4, none⟩ = some (.bool x_women) := World.cell_of_heap HB4.out.box 4
  have ef4 : wc.frozen? ⟨gB, 4, none⟩ = false := World.free_of_heap HB4.out.box 4
  have ex5 : wc.cell? ⟨gB, 5, none⟩ = some (.bool x_men) := World.cell_of_heap HB4.out.box 5
  have ef5 : wc.frozen? ⟨gB, 5, none⟩ = false := World.free_of_heap HB4.out.box 5
  have ex6 : wc.cell? ⟨gB, 6, none⟩ = some (.int .i64 (x_course)) := World.cell_of_heap HB4.out.box 6
  have ef6 : wc.frozen? ⟨gB, 6, none⟩ = false := World.free_of_heap HB4.out.box 6
  have ex7 : wc.cell? ⟨gB, 7, none⟩ = some (.int .i64 (x_most)) := World.cell_of_heap HB4.out.box 7
  have ef7 : wc.frozen? ⟨gB, 7, none⟩ = false := World.free_of_heap HB4.out.box 7
  have eob := World.oldB_of_cell ex0
  go_upto_if 44 with fail
  go_cut [] (fun wx => ∃ x_men2 : Bool, RowSt 62 25 W w wx g gR gB (n + 60) #[.int .i64 0, .string ⟨#[]⟩, .int .i64 0, .int .i64 0, .bool false, .bool false, .int .i64 0, .int .i64 0] #[.int .i64 (id), .string x_name, .int .i64 (x_low), .int .i64 (x_high), .bool x_women, .bool x_men2, .int .i64 (x_course), .int .i64 (x_most)])
  case first =>
    cases b with
    | true =>
      go_wp2_with fail
      go_meet
      have hq := HB4.out.put 5 (.bool true)
      simp only [List.setIfInBounds_toArray, List.set_cons_zero, List.set_cons_succ] at hq
      exact ⟨true, hq⟩
    | false =>
      go_wp2_with fail
      go_meet
      exact ⟨x_men, HB4.out⟩
  obtain ⟨x_men2, hb5⟩ := hcut
  have HB5 := Lib.hid hb5
  clear hb5 HB4 ex0 ef0 ex1 ef1 ex2 ef2 ex3 ef3 ex4 ef4 ex5 ef5 ex6 ef6 ex7 ef7 eob
  go_wp2_with fail
  refine (pick_any W _ g _ _ (HB5.out.pre.cur.gain (by repeat (first | with_reducible (first | exact World.gained_refl _ | exact ⟨_, rfl⟩ | apply gain_ext | apply gain_alloc | apply gain_drewN | apply gain_drew) | (refine gain_setCell ?_ (by first | exact Nat.le_refl _ | exact World.size_ext _ _ | (simp; done) | (simp; omega)) _)))) (by omega)).mono ?_
  rintro e u0 ⟨r, rfl, -, -, hc1, hg1⟩
  have HU := Lib.hid ((HB5.out.up (by repeat (first | with_reducible (first | exact World.gained_refl _ | exact ⟨_, rfl⟩ | apply gain_ext | apply gain_alloc | apply gain_drewN | apply gain_drew) | (refine gain_setCell ?_ (by first | exact Nat.le_refl _ | exact World.size_ext _ _ | (simp; done) | (simp; omega)) _)))).on hc1 hg1)
  clear hc1 hg1 HB5
  by_cases h0 : r = 0
  · subst h0
    have ex0 : u0.cell? ⟨gB, 0, none⟩ = some (.int .i64 (id)) := World.cell_of_heap HU.out.box 0
    have ef0 : u0.frozen? ⟨gB, 0, none⟩ = false := World.free_of_heap HU.out.box 0
    have ex1 : u0.cell? ⟨gB, 1, none⟩ = some (.string x_name) := World.cell_of_heap HU.out.box 1
    have ef1 : u0.frozen? ⟨gB, 1, none⟩ = false := World.free_of_heap HU.out.box 1
    have ex2 : u0.cell? ⟨gB, 2, none⟩ = some (.int .i64 (x_low)) := World.cell_of_heap HU.out.box 2
    have ef2 : u0.frozen? ⟨gB, 2, none⟩ = false := World.free_of_heap HU.out.box 2
    have ex3 : u0.cell? ⟨gB, 3, none⟩ = some (.int .i64 (x_high)) := World.cell_of_heap HU.out.box 3
    have ef3 : u0.frozen? ⟨gB, 3, none⟩ = false := World.free_of_heap HU.out.box 3
    have ex4 : u0.cell? ⟨gB, 4, none⟩ = some (.bool x_women) := World.cell_of_heap HU.out.box 4
    have ef4 : u0.frozen? ⟨gB, 4, none⟩ = false := World.free_of_heap HU.out.box 4
    have ex5 : u0.cell? ⟨gB, 5, none⟩ = some (.bool x_men2) := World.cell_of_heap HU.out.box 5
    have ef5 : u0.frozen? ⟨gB, 5, none⟩ = false := World.free_of_heap HU.out.box 5
    have ex6 : u0.cell? ⟨gB, 6, none⟩ = some (.int .i64 (x_course)) := World.cell_of_heap HU.out.box 6
    have ef6 : u0.frozen? ⟨gB, 6, none⟩ = false := World.free_of_heap HU.out.box 6
    have ex7 : u0.cell? ⟨gB, 7, none⟩ = some (.int .i64 (x_most)) := World.cell_of_heap HU.out.box 7
    have ef7 : u0.frozen? ⟨gB, 7, none⟩ = false := World.free_of_heap HU.out.box 7
    have eob := World.oldB_of_cell ex0
    go_wp2_with fail
    refine (among_any W _ g _ _ [(0 : Int), (99 : Int), (100 : Int)] u0.heap.size (HU.out.pre.cur.gain (by repeat (first | with_reducible (first | exact World.gained_refl _ | exact ⟨_, rfl⟩ | apply gain_ext | apply gain_alloc | apply gain_drewN | apply gain_drew) | (refine gain_setCell ?_ (by first | exact Nat.le_refl _ | exact World.size_ext _ _ | (simp; done) | (simp; omega)) _)))) (by omega) (own_lit' (w := u0) (e := 3) (base := u0.heap.size) (C := #[.int .i64 (0), .int .i64 (99), .int .i64 (100)]) (l := [(0 : Int), (99 : Int), (100 : Int)]) intC_length rfl rfl (Nat.le_refl _)) HU.out.lt (by simp) (by simp)).mono ?_
    rintro e u1 ⟨y, rfl, hm, hc1, hg1⟩
    have HV := Lib.hid ((HU.out.up (wr' := u0.alloc (.cells #[.int .i64 (0), .int .i64 (99), .int .i64 (100)] 3)) (by repeat (first | with_reducible (first | exact World.gained_refl _ | exact ⟨_, rfl⟩ | apply gain_ext | apply gain_alloc | apply gain_drewN | apply gain_drew) | (refine gain_setCell ?_ (by first | exact Nat.le_refl _ | exact World.size_ext _ _ | (simp; done) | (simp; omega)) _)))).on hc1 hg1)
    clear hm hc1 hg1 ex0 ef0 ex1 ef1 ex2 ef2 ex3 ef3 ex4 ef4 ex5 ef5 ex6 ef6 ex7 ef7 eob
    have ex0 : u1.cell? ⟨gB, 0, none⟩ = some (.int .i64 (id)) := World.cell_of_heap HV.out.box 0
    have ef0 : u1.frozen? ⟨gB, 0, none⟩ = false := World.free_of_heap HV.out.box 0
    have ex1 : u1.cell? ⟨gB, 1, none⟩ = some (.string x_name) := World.cell_of_heap HV.out.box 1
    have ef1 : u1.frozen? ⟨gB, 1, none⟩ = false := World.free_of_heap HV.out.box 1
    have ex2 : u1.cell? ⟨gB, 2, none⟩ = some (.int .i64 (x_low)) := World.cell_of_heap HV.out.box 2
    have ef2 : u1.frozen? ⟨gB, 2, none⟩ = false := World.free_of_heap HV.out.box 2
    have ex3 : u1.cell? ⟨gB, 3, none⟩ = some (.int .i64 (x_high)) := World.cell_of_heap HV.out.box 3
    have ef3 : u1.frozen? ⟨gB, 3, none⟩ = false := World.free_of_heap HV.out.box 3
    have ex4 : u1.cell? ⟨gB, 4, none⟩ = some (.bool x_women) := World.cell_of_heap HV.out.box 4
    have ef4 : u1.frozen? ⟨gB, 4, none⟩ = false := World.free_of_heap HV.out.box 4
    have ex5 : u1.cell? ⟨gB, 5, none⟩ = some (.bool x_men2) := World.cell_of_heap HV.out.box 5
    have ef5 : u1.frozen? ⟨gB, 5, none⟩ = false := World.free_of_heap HV.out.box 5
    have ex6 : u1.cell? ⟨gB, 6, none⟩ = some (.int .i64 (x_course)) := World.cell_of_heap HV.out.box 6
    have ef6 : u1.frozen? ⟨gB, 6, none⟩ = false := World.free_of_heap HV.out.box 6
    have ex7 : u1.cell? ⟨gB, 7, none⟩ = some (.int .i64 (x_most)) := World.cell_of_heap HV.out.box 7
    have ef7 : u1.frozen? ⟨gB, 7, none⟩ = false := World.free_of_heap HV.out.box 7
    have eob := World.oldB_of_cell ex0
    go_upto_region 18 with fail
    have HQ := Lib.hid (HV.out.put 0 (.int .i64 (y)))
    simp only [List.setIfInBounds_toArray, List.set_cons_zero, List.set_cons_succ] at HQ
    generalize u1.setCell ⟨gB, 0, none⟩ (.int .i64 (y)) = wq at HQ ⊢
    clear ex0 ef0 ex1 ef1 ex2 ef2 ex3 ef3 ex4 ef4 ex5 ef5 ex6 ef6 ex7 ef7 eob
    have ey0 : wq.cell? ⟨gR, 0, none⟩ = some (.int .i64 0) := World.cell_of_heap HQ.out.pre.res 0
    have ez0 : wq.frozen? ⟨gR, 0, none⟩ = false := World.free_of_heap HQ.out.pre.res 0
    have ey1 : wq.cell? ⟨gR, 1, none⟩ = some (.string ⟨#[]⟩) := World.cell_of_heap HQ.out.pre.res 1
    have ez1 : wq.frozen? ⟨gR, 1, none⟩ = false := World.free_of_heap HQ.out.pre.res 1
    have ey2 : wq.cell? ⟨gR, 2, none⟩ = some (.int .i64 0) := World.cell_of_heap HQ.out.pre.res 2
    have ez2 : wq.frozen? ⟨gR, 2, none⟩ = false := World.free_of_heap HQ.out.pre.res 2
    have ey3 : wq.cell? ⟨gR, 3, none⟩ = some (.int .i64 0) := World.cell_of_heap HQ.out.pre.res 3
    have ez3 : wq.frozen? ⟨gR, 3, none⟩ = false := World.free_of_heap HQ.out.pre.res 3
    have ey4 : wq.cell? ⟨gR, 4, none⟩ = some (.bool false) := World.cell_of_heap HQ.out.pre.res 4
    have ez4 : wq.frozen? ⟨gR, 4, none⟩ = false := World.free_of_heap HQ.out.pre.res 4
    have ey5 : wq.cell? ⟨gR, 5, none⟩ = some (.bool false) := World.cell_of_heap HQ.out.pre.res 5
    have ez5 : wq.frozen? ⟨gR, 5, none⟩ = false := World.free_of_heap HQ.out.pre.res 5
    have ey6 : wq.cell? ⟨gR, 6, none⟩ = some (.int .i64 0) := World.cell_of_heap HQ.out.pre.res 6
    have ez6 : wq.frozen? ⟨gR, 6, none⟩ = false := World.free_of_heap HQ.out.pre.res 6
    have ey7 : wq.cell? ⟨gR, 7, none⟩ = some (.int .i64 0) := World.cell_of_heap HQ.out.pre.res 7
    have ez7 : wq.frozen? ⟨gR, 7, none⟩ = false := World.free_of_heap HQ.out.pre.res 7
    have eoc := World.oldB_of_cell ey0
    have ex0 : wq.cell? ⟨gB, 0, none⟩ = some (.int .i64 (y)) := World.cell_of_heap HQ.out.box 0
    have ef0 : wq.frozen? ⟨gB, 0, none⟩ = false := World.free_of_heap HQ.out.box 0
    have ex1 : wq.cell? ⟨gB, 1, none⟩ = some (.string x_name) := World.cell_of_heap HQ.out.box 1
    have ef1 : wq.frozen? ⟨gB, 1, none⟩ = false := World.free_of_heap HQ.out.box 1
    have ex2 : wq.cell? ⟨gB, 2, none⟩ = some (.int .i64 (x_low)) := World.cell_of_heap HQ.out.box 2
    have ef2 : wq.frozen? ⟨gB, 2, none⟩ = false := World.free_of_heap HQ.out.box 2
    have ex3 : wq.cell? ⟨gB, 3, none⟩ = some (.int .i64 (x_high)) := World.cell_of_heap HQ.out.box 3
    have ef3 : wq.frozen? ⟨gB, 3, none⟩ = false := World.free_of_heap HQ.out.box 3
    have ex4 : wq.cell? ⟨gB, 4, none⟩ = some (.bool x_women) := World.cell_of_heap HQ.out.box 4
    have ef4 : wq.frozen? ⟨gB, 4, none⟩ = false := World.free_of_heap HQ.out.box 4
    have ex5 : wq.cell? ⟨gB, 5, none⟩ = some (.bool x_men2) := World.cell_of_heap HQ.out.box 5
    have ef5 : wq.frozen? ⟨gB, 5, none⟩ = false := World.free_of_heap HQ.out.box 5
    have ex6 : wq.cell? ⟨gB, 6, none⟩ = some (.int .i64 (x_course)) := World.cell_of_heap HQ.out.box 6
    have ef6 : wq.frozen? ⟨gB, 6, none⟩ = false := World.free_of_heap HQ.out.box 6
    have ex7 : wq.cell? ⟨gB, 7, none⟩ = some (.int .i64 (x_most)) := World.cell_of_heap HQ.out.box 7
    have ef7 : wq.frozen? ⟨gB, 7, none⟩ = false := World.free_of_heap HQ.out.box 7
    have eob := World.oldB_of_cell ex0
    have gw0 := World.heap_setCell_row HQ.out.pre.res 0 (.int .i64 (y))
    simp only [List.setIfInBounds_toArray, List.set_cons_zero, List.set_cons_succ] at gw0
    have gc0 : (wq.setCell ⟨gR, 0, none⟩ (.int .i64 (y))).cell? ⟨gR, 0, none⟩ = some (.int .i64 (y)) := World.cell_of_heap gw0 0
    have gw1 := World.heap_setCell_row gw0 1 (.string x_name)
    simp only [List.setIfInBounds_toArray, List.set_cons_zero, List.set_cons_succ] at gw1
    have gc1 : ((wq.setCell ⟨gR, 0, none⟩ (.int .i64 (y))).setCell ⟨gR, 1, none⟩ (.string x_name)).cell? ⟨gR, 1, none⟩ = some (.string x_name) := World.cell_of_heap gw1 1
    have gw2 := World.heap_setCell_row gw1 2 (.int .i64 (x_low))
    simp only [List.setIfInBounds_toArray, List.set_cons_zero, List.set_cons_succ] at gw2
    have gc2 : (((wq.setCell ⟨gR, 0, none⟩ (.int .i64 (y))).setCell ⟨gR, 1, none⟩ (.string x_name)).setCell ⟨gR, 2, none⟩ (.int .i64 (x_low))).cell? ⟨gR, 2, none⟩ = some (.int .i64 (x_low)) := World.cell_of_heap gw2 2
    have gw3 := World.heap_setCell_row gw2 3 (.int .i64 (x_high))
    simp only [List.setIfInBounds_toArray, List.set_cons_zero, List.set_cons_succ] at gw3
    have gc3 : ((((wq.setCell ⟨gR, 0, none⟩ (.int .i64 (y))).setCell ⟨gR, 1, none⟩ (.string x_name)).setCell ⟨gR, 2, none⟩ (.int .i64 (x_low))).setCell ⟨gR, 3, none⟩ (.int .i64 (x_high))).cell? ⟨gR, 3, none⟩ = some (.int .i64 (x_high)) := World.cell_of_heap gw3 3
    have gw4 := World.heap_setCell_row gw3 4 (.bool x_women)
    simp only [List.setIfInBounds_toArray, List.set_cons_zero, List.set_cons_succ] at gw4
    have gc4 : (((((wq.setCell ⟨gR, 0, none⟩ (.int .i64 (y))).setCell ⟨gR, 1, none⟩ (.string x_name)).setCell ⟨gR, 2, none⟩ (.int .i64 (x_low))).setCell ⟨gR, 3, none⟩ (.int .i64 (x_high))).setCell ⟨gR, 4, none⟩ (.bool x_women)).cell? ⟨gR, 4, none⟩ = some (.bool x_women) := World.cell_of_heap gw4 4
    have gw5 := World.heap_setCell_row gw4 5 (.bool x_men2)
    simp only [List.setIfInBounds_toArray, List.set_cons_zero, List.set_cons_succ] at gw5
    have gc5 : ((((((wq.setCell ⟨gR, 0, none⟩ (.int .i64 (y))).setCell ⟨gR, 1, none⟩ (.string x_name)).setCell ⟨gR, 2, none⟩ (.int .i64 (x_low))).setCell ⟨gR, 3, none⟩ (.int .i64 (x_high))).setCell ⟨gR, 4, none⟩ (.bool x_women)).setCell ⟨gR, 5, none⟩ (.bool x_men2)).cell? ⟨gR, 5, none⟩ = some (.bool x_men2) := World.cell_of_heap gw5 5
    have gw6 := World.heap_setCell_row gw5 6 (.int .i64 (x_course))
    simp only [List.setIfInBounds_toArray, List.set_cons_zero, List.set_cons_succ] at gw6
    have gc6 : (((((((wq.setCell ⟨gR, 0, none⟩ (.int .i64 (y))).setCell ⟨gR, 1, none⟩ (.string x_name)).setCell ⟨gR, 2, none⟩ (.int .i64 (x_low))).setCell ⟨gR, 3, none⟩ (.int .i64 (x_high))).setCell ⟨gR, 4, none⟩ (.bool x_women)).setCell ⟨gR, 5, none⟩ (.bool x_men2)).setCell ⟨gR, 6, none⟩ (.int .i64 (x_course))).cell? ⟨gR, 6, none⟩ = some (.int .i64 (x_course)) := World.cell_of_heap gw6 6
    have gw7 := World.heap_setCell_row gw6 7 (.int .i64 (x_most))
    simp only [List.setIfInBounds_toArray, List.set_cons_zero, List.set_cons_succ] at gw7
    have gc7 : ((((((((wq.setCell ⟨gR, 0, none⟩ (.int .i64 (y))).setCell ⟨gR, 1, none⟩ (.string x_name)).setCell ⟨gR, 2, none⟩ (.int .i64 (x_low))).setCell ⟨gR, 3, none⟩ (.int .i64 (x_high))).setCell ⟨gR, 4, none⟩ (.bool x_women)).setCell ⟨gR, 5, none⟩ (.bool x_men2)).setCell ⟨gR, 6, none⟩ (.int .i64 (x_course))).setCell ⟨gR, 7, none⟩ (.int .i64 (x_most))).cell? ⟨gR, 7, none⟩ = some (.int .i64 (x_most)) := World.cell_of_heap gw7 7
    clear gw0 gw1 gw2 gw3 gw4 gw5 gw6 gw7
    have hon : World.grownBy wq ((((((((wq.setCell ⟨gR, 0, none⟩ (.int .i64 (y))).setCell ⟨gR, 1, none⟩ (.string x_name)).setCell ⟨gR, 2, none⟩ (.int .i64 (x_low))).setCell ⟨gR, 3, none⟩ (.int .i64 (x_high))).setCell ⟨gR, 4, none⟩ (.bool x_women)).setCell ⟨gR, 5, none⟩ (.bool x_men2)).setCell ⟨gR, 6, none⟩ (.int .i64 (x_course))).setCell ⟨gR, 7, none⟩ (.int .i64 (x_most))) (some gR) := only_setCell (p := ⟨gR, 7, none⟩) (only_setCell (p := ⟨gR, 6, none⟩) (only_setCell (p := ⟨gR, 5, none⟩) (only_setCell (p := ⟨gR, 4, none⟩) (only_setCell (p := ⟨gR, 3, none⟩) (only_setCell (p := ⟨gR, 2, none⟩) (only_setCell (p := ⟨gR, 1, none⟩) (only_setCell (p := ⟨gR, 0, none⟩) (only_refl _ _) rfl _) rfl _) rfl _) rfl _) rfl _) rfl _) rfl _) rfl _
    have HF := Lib.hid (HQ.out.fin hon)
    clear hon
    go_wp2
    refine bodyPost_ret (v := .agg #[.int .i64 (y), .string x_name, .int .i64 (x_low), .int .i64 (x_high), .bool x_women, .bool x_men2, .int .i64 (x_course), .int .i64 (x_most)]) (by simp [results, Tryz.results33, go_sem, gc0, gc1, gc2, gc3, gc4, gc5, gc6, gc7]) rfl ?_
    exact ⟨⟨y, x_name, x_low, x_high, x_women, x_men2, x_course, x_most⟩, rfl, hz_x_name, HF.out.1.le (by omega), HF.out.2⟩
  by_cases h1 : r = 1
  · subst h1
    have ex0 : u0.cell? ⟨gB, 0, none⟩ = some (.int .i64 (id)) := World.cell_of_heap HU.out.box 0
    have ef0 : u0.frozen? ⟨gB, 0, none⟩ = false := World.free_of_heap HU.out.box 0
    have ex1 : u0.cell? ⟨gB, 1, none⟩ = some (.string x_name) := World.cell_of_heap HU.out.box 1
    have ef1 : u0.frozen? ⟨gB, 1, none⟩ = false := World.free_of_heap HU.out.box 1
    have ex2 : u0.cell? ⟨gB, 2, none⟩ = some (.int .i64 (x_low)) := World.cell_of_heap HU.out.box 2
    have ef2 : u0.frozen? ⟨gB, 2, none⟩ = false := World.free_of_heap HU.out.box 2
    have ex3 : u0.cell? ⟨gB, 3, none⟩ = some (.int .i64 (x_high)) := World.cell_of_heap HU.out.box 3
    have ef3 : u0.frozen? ⟨gB, 3, none⟩ = false := World.free_of_heap HU.out.box 3
    have ex4 : u0.cell? ⟨gB, 4, none⟩ = some (.bool x_women) := World.cell_of_heap HU.out.box 4
    have ef4 : u0.frozen? ⟨gB, 4, none⟩ = false := World.free_of_heap HU.out.box 4
    have ex5 : u0.cell? ⟨gB, 5, none⟩ = some (.bool x_men2) := World.cell_of_heap HU.out.box 5
    have ef5 : u0.frozen? ⟨gB, 5, none⟩ = false := World.free_of_heap HU.out.box 5
    have ex6 : u0.cell? ⟨gB, 6, none⟩ = some (.int .i64 (x_course)) := World.cell_of_heap HU.out.box 6
    have ef6 : u0.frozen? ⟨gB, 6, none⟩ = false := World.free_of_heap HU.out.box 6
    have ex7 : u0.cell? ⟨gB, 7, none⟩ = some (.int .i64 (x_most)) := World.cell_of_heap HU.out.box 7
    have ef7 : u0.frozen? ⟨gB, 7, none⟩ = false := World.free_of_heap HU.out.box 7
    have eob := World.oldB_of_cell ex0
    go_wp2_with fail
    refine (of_any W _ g _ _ [(⟨#[]⟩ : ByteArray), (⟨#[65]⟩ : ByteArray), (⟨#[97, 98, 99, 100, 101, 102, 103, 104, 105, 106, 107]⟩ : ByteArray)] u0.heap.size (HU.out.pre.cur.gain (by repeat (first | with_reducible (first | exact World.gained_refl _ | exact ⟨_, rfl⟩ | apply gain_ext | apply gain_alloc | apply gain_drewN | apply gain_drew) | (refine gain_setCell ?_ (by first | exact Nat.le_refl _ | exact World.size_ext _ _ | (simp; done) | (simp; omega)) _)))) (by omega) (own_lit' (w := u0) (e := 9) (base := u0.heap.size) (C := #[.string ⟨#[]⟩, .string ⟨#[65]⟩, .string ⟨#[97, 98, 99, 100, 101, 102, 103, 104, 105, 106, 107]⟩]) (l := [(⟨#[]⟩ : ByteArray), (⟨#[65]⟩ : ByteArray), (⟨#[97, 98, 99, 100, 101, 102, 103, 104, 105, 106, 107]⟩ : ByteArray)]) strC_length rfl rfl (Nat.le_refl _)) HU.out.lt (by simp) (by simp)).mono ?_
    rintro e u1 ⟨y, rfl, hm, hc1, hg1⟩
    have HV := Lib.hid ((HU.out.up (wr' := u0.alloc (.cells #[.string ⟨#[]⟩, .string ⟨#[65]⟩, .string ⟨#[97, 98, 99, 100, 101, 102, 103, 104, 105, 106, 107]⟩] 9)) (by repeat (first | with_reducible (first | exact World.gained_refl _ | exact ⟨_, rfl⟩ | apply gain_ext | apply gain_alloc | apply gain_drewN | apply gain_drew) | (refine gain_setCell ?_ (by first | exact Nat.le_refl _ | exact World.size_ext _ _ | (simp; done) | (simp; omega)) _)))).on hc1 hg1)
    have hz_y : y.size ≤ 1048576 := (show ∀ s ∈ [(⟨#[]⟩ : ByteArray), (⟨#[65]⟩ : ByteArray), (⟨#[97, 98, 99, 100, 101, 102, 103, 104, 105, 106, 107]⟩ : ByteArray)], s.size ≤ 1048576 by decide) _ hm
    clear hm hc1 hg1 ex0 ef0 ex1 ef1 ex2 ef2 ex3 ef3 ex4 ef4 ex5 ef5 ex6 ef6 ex7 ef7 eob
    have ex0 : u1.cell? ⟨gB, 0, none⟩ = some (.int .i64 (id)) := World.cell_of_heap HV.out.box 0
    have ef0 : u1.frozen? ⟨gB, 0, none⟩ = false := World.free_of_heap HV.out.box 0
    have ex1 : u1.cell? ⟨gB, 1, none⟩ = some (.string x_name) := World.cell_of_heap HV.out.box 1
    have ef1 : u1.frozen? ⟨gB, 1, none⟩ = false := World.free_of_heap HV.out.box 1
    have ex2 : u1.cell? ⟨gB, 2, none⟩ = some (.int .i64 (x_low)) := World.cell_of_heap HV.out.box 2
    have ef2 : u1.frozen? ⟨gB, 2, none⟩ = false := World.free_of_heap HV.out.box 2
    have ex3 : u1.cell? ⟨gB, 3, none⟩ = some (.int .i64 (x_high)) := World.cell_of_heap HV.out.box 3
    have ef3 : u1.frozen? ⟨gB, 3, none⟩ = false := World.free_of_heap HV.out.box 3
    have ex4 : u1.cell? ⟨gB, 4, none⟩ = some (.bool x_women) := World.cell_of_heap HV.out.box 4
    have ef4 : u1.frozen? ⟨gB, 4, none⟩ = false := World.free_of_heap HV.out.box 4
    have ex5 : u1.cell? ⟨gB, 5, none⟩ = some (.bool x_men2) := World.cell_of_heap HV.out.box 5
    have ef5 : u1.frozen? ⟨gB, 5, none⟩ = false := World.free_of_heap HV.out.box 5
    have ex6 : u1.cell? ⟨gB, 6, none⟩ = some (.int .i64 (x_course)) := World.cell_of_heap HV.out.box 6
    have ef6 : u1.frozen? ⟨gB, 6, none⟩ = false := World.free_of_heap HV.out.box 6
    have ex7 : u1.cell? ⟨gB, 7, none⟩ = some (.int .i64 (x_most)) := World.cell_of_heap HV.out.box 7
    have ef7 : u1.frozen? ⟨gB, 7, none⟩ = false := World.free_of_heap HV.out.box 7
    have eob := World.oldB_of_cell ex0
    go_upto_region 18 with fail
    have HQ := Lib.hid (HV.out.put 1 (.string y))
    simp only [List.setIfInBounds_toArray, List.set_cons_zero, List.set_cons_succ] at HQ
    generalize u1.setCell ⟨gB, 1, none⟩ (.string y) = wq at HQ ⊢
    clear ex0 ef0 ex1 ef1 ex2 ef2 ex3 ef3 ex4 ef4 ex5 ef5 ex6 ef6 ex7 ef7 eob
    have ey0 : wq.cell? ⟨gR, 0, none⟩ = some (.int .i64 0) := World.cell_of_heap HQ.out.pre.res 0
    have ez0 : wq.frozen? ⟨gR, 0, none⟩ = false := World.free_of_heap HQ.out.pre.res 0
    have ey1 : wq.cell? ⟨gR, 1, none⟩ = some (.string ⟨#[]⟩) := World.cell_of_heap HQ.out.pre.res 1
    have ez1 : wq.frozen? ⟨gR, 1, none⟩ = false := World.free_of_heap HQ.out.pre.res 1
    have ey2 : wq.cell? ⟨gR, 2, none⟩ = some (.int .i64 0) := World.cell_of_heap HQ.out.pre.res 2
    have ez2 : wq.frozen? ⟨gR, 2, none⟩ = false := World.free_of_heap HQ.out.pre.res 2
    have ey3 : wq.cell? ⟨gR, 3, none⟩ = some (.int .i64 0) := World.cell_of_heap HQ.out.pre.res 3
    have ez3 : wq.frozen? ⟨gR, 3, none⟩ = false := World.free_of_heap HQ.out.pre.res 3
    have ey4 : wq.cell? ⟨gR, 4, none⟩ = some (.bool false) := World.cell_of_heap HQ.out.pre.res 4
    have ez4 : wq.frozen? ⟨gR, 4, none⟩ = false := World.free_of_heap HQ.out.pre.res 4
    have ey5 : wq.cell? ⟨gR, 5, none⟩ = some (.bool false) := World.cell_of_heap HQ.out.pre.res 5
    have ez5 : wq.frozen? ⟨gR, 5, none⟩ = false := World.free_of_heap HQ.out.pre.res 5
    have ey6 : wq.cell? ⟨gR, 6, none⟩ = some (.int .i64 0) := World.cell_of_heap HQ.out.pre.res 6
    have ez6 : wq.frozen? ⟨gR, 6, none⟩ = false := World.free_of_heap HQ.out.pre.res 6
    have ey7 : wq.cell? ⟨gR, 7, none⟩ = some (.int .i64 0) := World.cell_of_heap HQ.out.pre.res 7
    have ez7 : wq.frozen? ⟨gR, 7, none⟩ = false := World.free_of_heap HQ.out.pre.res 7
    have eoc := World.oldB_of_cell ey0
    have ex0 : wq.cell? ⟨gB, 0, none⟩ = some (.int .i64 (id)) := World.cell_of_heap HQ.out.box 0
    have ef0 : wq.frozen? ⟨gB, 0, none⟩ = false := World.free_of_heap HQ.out.box 0
    have ex1 : wq.cell? ⟨gB, 1, none⟩ = some (.string y) := World.cell_of_heap HQ.out.box 1
    have ef1 : wq.frozen? ⟨gB, 1, none⟩ = false := World.free_of_heap HQ.out.box 1
    have ex2 : wq.cell? ⟨gB, 2, none⟩ = some (.int .i64 (x_low)) := World.cell_of_heap HQ.out.box 2
    have ef2 : wq.frozen? ⟨gB, 2, none⟩ = false := World.free_of_heap HQ.out.box 2
    have ex3 : wq.cell? ⟨gB, 3, none⟩ = some (.int .i64 (x_high)) := World.cell_of_heap HQ.out.box 3
    have ef3 : wq.frozen? ⟨gB, 3, none⟩ = false := World.free_of_heap HQ.out.box 3
    have ex4 : wq.cell? ⟨gB, 4, none⟩ = some (.bool x_women) := World.cell_of_heap HQ.out.box 4
    have ef4 : wq.frozen? ⟨gB, 4, none⟩ = false := World.free_of_heap HQ.out.box 4
    have ex5 : wq.cell? ⟨gB, 5, none⟩ = some (.bool x_men2) := World.cell_of_heap HQ.out.box 5
    have ef5 : wq.frozen? ⟨gB, 5, none⟩ = false := World.free_of_heap HQ.out.box 5
    have ex6 : wq.cell? ⟨gB, 6, none⟩ = some (.int .i64 (x_course)) := World.cell_of_heap HQ.out.box 6
    have ef6 : wq.frozen? ⟨gB, 6, none⟩ = false := World.free_of_heap HQ.out.box 6
    have ex7 : wq.cell? ⟨gB, 7, none⟩ = some (.int .i64 (x_most)) := World.cell_of_heap HQ.out.box 7
    have ef7 : wq.frozen? ⟨gB, 7, none⟩ = false := World.free_of_heap HQ.out.box 7
    have eob := World.oldB_of_cell ex0
    have gw0 := World.heap_setCell_row HQ.out.pre.res 0 (.int .i64 (id))
    simp only [List.setIfInBounds_toArray, List.set_cons_zero, List.set_cons_succ] at gw0
    have gc0 : (wq.setCell ⟨gR, 0, none⟩ (.int .i64 (id))).cell? ⟨gR, 0, none⟩ = some (.int .i64 (id)) := World.cell_of_heap gw0 0
    have gw1 := World.heap_setCell_row gw0 1 (.string y)
    simp only [List.setIfInBounds_toArray, List.set_cons_zero, List.set_cons_succ] at gw1
    have gc1 : ((wq.setCell ⟨gR, 0, none⟩ (.int .i64 (id))).setCell ⟨gR, 1, none⟩ (.string y)).cell? ⟨gR, 1, none⟩ = some (.string y) := World.cell_of_heap gw1 1
    have gw2 := World.heap_setCell_row gw1 2 (.int .i64 (x_low))
    simp only [List.setIfInBounds_toArray, List.set_cons_zero, List.set_cons_succ] at gw2
    have gc2 : (((wq.setCell ⟨gR, 0, none⟩ (.int .i64 (id))).setCell ⟨gR, 1, none⟩ (.string y)).setCell ⟨gR, 2, none⟩ (.int .i64 (x_low))).cell? ⟨gR, 2, none⟩ = some (.int .i64 (x_low)) := World.cell_of_heap gw2 2
    have gw3 := World.heap_setCell_row gw2 3 (.int .i64 (x_high))
    simp only [List.setIfInBounds_toArray, List.set_cons_zero, List.set_cons_succ] at gw3
    have gc3 : ((((wq.setCell ⟨gR, 0, none⟩ (.int .i64 (id))).setCell ⟨gR, 1, none⟩ (.string y)).setCell ⟨gR, 2, none⟩ (.int .i64 (x_low))).setCell ⟨gR, 3, none⟩ (.int .i64 (x_high))).cell? ⟨gR, 3, none⟩ = some (.int .i64 (x_high)) := World.cell_of_heap gw3 3
    have gw4 := World.heap_setCell_row gw3 4 (.bool x_women)
    simp only [List.setIfInBounds_toArray, List.set_cons_zero, List.set_cons_succ] at gw4
    have gc4 : (((((wq.setCell ⟨gR, 0, none⟩ (.int .i64 (id))).setCell ⟨gR, 1, none⟩ (.string y)).setCell ⟨gR, 2, none⟩ (.int .i64 (x_low))).setCell ⟨gR, 3, none⟩ (.int .i64 (x_high))).setCell ⟨gR, 4, none⟩ (.bool x_women)).cell? ⟨gR, 4, none⟩ = some (.bool x_women) := World.cell_of_heap gw4 4
    have gw5 := World.heap_setCell_row gw4 5 (.bool x_men2)
    simp only [List.setIfInBounds_toArray, List.set_cons_zero, List.set_cons_succ] at gw5
    have gc5 : ((((((wq.setCell ⟨gR, 0, none⟩ (.int .i64 (id))).setCell ⟨gR, 1, none⟩ (.string y)).setCell ⟨gR, 2, none⟩ (.int .i64 (x_low))).setCell ⟨gR, 3, none⟩ (.int .i64 (x_high))).setCell ⟨gR, 4, none⟩ (.bool x_women)).setCell ⟨gR, 5, none⟩ (.bool x_men2)).cell? ⟨gR, 5, none⟩ = some (.bool x_men2) := World.cell_of_heap gw5 5
    have gw6 := World.heap_setCell_row gw5 6 (.int .i64 (x_course))
    simp only [List.setIfInBounds_toArray, List.set_cons_zero, List.set_cons_succ] at gw6
    have gc6 : (((((((wq.setCell ⟨gR, 0, none⟩ (.int .i64 (id))).setCell ⟨gR, 1, none⟩ (.string y)).setCell ⟨gR, 2, none⟩ (.int .i64 (x_low))).setCell ⟨gR, 3, none⟩ (.int .i64 (x_high))).setCell ⟨gR, 4, none⟩ (.bool x_women)).setCell ⟨gR, 5, none⟩ (.bool x_men2)).setCell ⟨gR, 6, none⟩ (.int .i64 (x_course))).cell? ⟨gR, 6, none⟩ = some (.int .i64 (x_course)) := World.cell_of_heap gw6 6
    have gw7 := World.heap_setCell_row gw6 7 (.int .i64 (x_most))
    simp only [List.setIfInBounds_toArray, List.set_cons_zero, List.set_cons_succ] at gw7
    have gc7 : ((((((((wq.setCell ⟨gR, 0, none⟩ (.int .i64 (id))).setCell ⟨gR, 1, none⟩ (.string y)).setCell ⟨gR, 2, none⟩ (.int .i64 (x_low))).setCell ⟨gR, 3, none⟩ (.int .i64 (x_high))).setCell ⟨gR, 4, none⟩ (.bool x_women)).setCell ⟨gR, 5, none⟩ (.bool x_men2)).setCell ⟨gR, 6, none⟩ (.int .i64 (x_course))).setCell ⟨gR, 7, none⟩ (.int .i64 (x_most))).cell? ⟨gR, 7, none⟩ = some (.int .i64 (x_most)) := World.cell_of_heap gw7 7
    clear gw0 gw1 gw2 gw3 gw4 gw5 gw6 gw7
    have hon : World.grownBy wq ((((((((wq.setCell ⟨gR, 0, none⟩ (.int .i64 (id))).setCell ⟨gR, 1, none⟩ (.string y)).setCell ⟨gR, 2, none⟩ (.int .i64 (x_low))).setCell ⟨gR, 3, none⟩ (.int .i64 (x_high))).setCell ⟨gR, 4, none⟩ (.bool x_women)).setCell ⟨gR, 5, none⟩ (.bool x_men2)).setCell ⟨gR, 6, none⟩ (.int .i64 (x_course))).setCell ⟨gR, 7, none⟩ (.int .i64 (x_most))) (some gR) := only_setCell (p := ⟨gR, 7, none⟩) (only_setCell (p := ⟨gR, 6, none⟩) (only_setCell (p := ⟨gR, 5, none⟩) (only_setCell (p := ⟨gR, 4, none⟩) (only_setCell (p := ⟨gR, 3, none⟩) (only_setCell (p := ⟨gR, 2, none⟩) (only_setCell (p := ⟨gR, 1, none⟩) (only_setCell (p := ⟨gR, 0, none⟩) (only_refl _ _) rfl _) rfl _) rfl _) rfl _) rfl _) rfl _) rfl _) rfl _
    have HF := Lib.hid (HQ.out.fin hon)
    clear hon
    go_wp2
    refine bodyPost_ret (v := .agg #[.int .i64 (id), .string y, .int .i64 (x_low), .int .i64 (x_high), .bool x_women, .bool x_men2, .int .i64 (x_course), .int .i64 (x_most)]) (by simp [results, Tryz.results33, go_sem, gc0, gc1, gc2, gc3, gc4, gc5, gc6, gc7]) rfl ?_
    exact ⟨⟨id, y, x_low, x_high, x_women, x_men2, x_course, x_most⟩, rfl, hz_y, HF.out.1.le (by omega), HF.out.2⟩
  by_cases h2 : r = 2
  · subst h2
    have ex0 : u0.cell? ⟨gB, 0, none⟩ = some (.int .i64 (id)) := World.cell_of_heap HU.out.box 0
    have ef0 : u0.frozen? ⟨gB, 0, none⟩ = false := World.free_of_heap HU.out.box 0
    have ex1 : u0.cell? ⟨gB, 1, none⟩ = some (.string x_name) := World.cell_of_heap HU.out.box 1
    have ef1 : u0.frozen? ⟨gB, 1, none⟩ = false := World.free_of_heap HU.out.box 1
    have ex2 : u0.cell? ⟨gB, 2, none⟩ = some (.int .i64 (x_low)) := World.cell_of_heap HU.out.box 2
    have ef2 : u0.frozen? ⟨gB, 2, none⟩ = false := World.free_of_heap HU.out.box 2
    have ex3 : u0.cell? ⟨gB, 3, none⟩ = some (.int .i64 (x_high)) := World.cell_of_heap HU.out.box 3
    have ef3 : u0.frozen? ⟨gB, 3, none⟩ = false := World.free_of_heap HU.out.box 3
    have ex4 : u0.cell? ⟨gB, 4, none⟩ = some (.bool x_women) := World.cell_of_heap HU.out.box 4
    have ef4 : u0.frozen? ⟨gB, 4, none⟩ = false := World.free_of_heap HU.out.box 4
    have ex5 : u0.cell? ⟨gB, 5, none⟩ = some (.bool x_men2) := World.cell_of_heap HU.out.box 5
    have ef5 : u0.frozen? ⟨gB, 5, none⟩ = false := World.free_of_heap HU.out.box 5
    have ex6 : u0.cell? ⟨gB, 6, none⟩ = some (.int .i64 (x_course)) := World.cell_of_heap HU.out.box 6
    have ef6 : u0.frozen? ⟨gB, 6, none⟩ = false := World.free_of_heap HU.out.box 6
    have ex7 : u0.cell? ⟨gB, 7, none⟩ = some (.int .i64 (x_most)) := World.cell_of_heap HU.out.box 7
    have ef7 : u0.frozen? ⟨gB, 7, none⟩ = false := World.free_of_heap HU.out.box 7
    have eob := World.oldB_of_cell ex0
    go_wp2_with fail
    refine (among_any W _ g _ _ [(-1 : Int), (wrap64 (x_high + 1) : Int)] u0.heap.size (HU.out.pre.cur.gain (by repeat (first | with_reducible (first | exact World.gained_refl _ | exact ⟨_, rfl⟩ | apply gain_ext | apply gain_alloc | apply gain_drewN | apply gain_drew) | (refine gain_setCell ?_ (by first | exact Nat.le_refl _ | exact World.size_ext _ _ | (simp; done) | (simp; omega)) _)))) (by omega) (own_lit' (w := u0) (e := 3) (base := u0.heap.size) (C := #[.int .i64 (-1), .int .i64 (wrap64 (x_high + 1))]) (l := [(-1 : Int), (wrap64 (x_high + 1) : Int)]) intC_length rfl rfl (Nat.le_refl _)) HU.out.lt (by simp) (by simp)).mono ?_
    rintro e u1 ⟨y, rfl, hm, hc1, hg1⟩
    have HV := Lib.hid ((HU.out.up (wr' := u0.alloc (.cells #[.int .i64 (-1), .int .i64 (wrap64 (x_high + 1))] 3)) (by repeat (first | with_reducible (first | exact World.gained_refl _ | exact ⟨_, rfl⟩ | apply gain_ext | apply gain_alloc | apply gain_drewN | apply gain_drew) | (refine gain_setCell ?_ (by first | exact Nat.le_refl _ | exact World.size_ext _ _ | (simp; done) | (simp; omega)) _)))).on hc1 hg1)
    clear hm hc1 hg1 ex0 ef0 ex1 ef1 ex2 ef2 ex3 ef3 ex4 ef4 ex5 ef5 ex6 ef6 ex7 ef7 eob
    have ex0 : u1.cell? ⟨gB, 0, none⟩ = some (.int .i64 (id)) := World.cell_of_heap HV.out.box 0
    have ef0 : u1.frozen? ⟨gB, 0, none⟩ = false := World.free_of_heap HV.out.box 0
    have ex1 : u1.cell? ⟨gB, 1, none⟩ = some (.string x_name) := World.cell_of_heap HV.out.box 1
    have ef1 : u1.frozen? ⟨gB, 1, none⟩ = false := World.free_of_heap HV.out.box 1
    have ex2 : u1.cell? ⟨gB, 2, none⟩ = some (.int .i64 (x_low)) := World.cell_of_heap HV.out.box 2
    have ef2 : u1.frozen? ⟨gB, 2, none⟩ = false := World.free_of_heap HV.out.box 2
    have ex3 : u1.cell? ⟨gB, 3, none⟩ = some (.int .i64 (x_high)) := World.cell_of_heap HV.out.box 3
    have ef3 : u1.frozen? ⟨gB, 3, none⟩ = false := World.free_of_heap HV.out.box 3
    have ex4 : u1.cell? ⟨gB, 4, none⟩ = some (.bool x_women) := World.cell_of_heap HV.out.box 4
    have ef4 : u1.frozen? ⟨gB, 4, none⟩ = false := World.free_of_heap HV.out.box 4
    have ex5 : u1.cell? ⟨gB, 5, none⟩ = some (.bool x_men2) := World.cell_of_heap HV.out.box 5
    have ef5 : u1.frozen? ⟨gB, 5, none⟩ = false := World.free_of_heap HV.out.box 5
    have ex6 : u1.cell? ⟨gB, 6, none⟩ = some (.int .i64 (x_course)) := World.cell_of_heap HV.out.box 6
    have ef6 : u1.frozen? ⟨gB, 6, none⟩ = false := World.free_of_heap HV.out.box 6
    have ex7 : u1.cell? ⟨gB, 7, none⟩ = some (.int .i64 (x_most)) := World.cell_of_heap HV.out.box 7
    have ef7 : u1.frozen? ⟨gB, 7, none⟩ = false := World.free_of_heap HV.out.box 7
    have eob := World.oldB_of_cell ex0
    go_upto_region 18 with fail
    have HQ := Lib.hid (HV.out.put 2 (.int .i64 (y)))
    simp only [List.setIfInBounds_toArray, List.set_cons_zero, List.set_cons_succ] at HQ
    generalize u1.setCell ⟨gB, 2, none⟩ (.int .i64 (y)) = wq at HQ ⊢
    clear ex0 ef0 ex1 ef1 ex2 ef2 ex3 ef3 ex4 ef4 ex5 ef5 ex6 ef6 ex7 ef7 eob
    have ey0 : wq.cell? ⟨gR, 0, none⟩ = some (.int .i64 0) := World.cell_of_heap HQ.out.pre.res 0
    have ez0 : wq.frozen? ⟨gR, 0, none⟩ = false := World.free_of_heap HQ.out.pre.res 0
    have ey1 : wq.cell? ⟨gR, 1, none⟩ = some (.string ⟨#[]⟩) := World.cell_of_heap HQ.out.pre.res 1
    have ez1 : wq.frozen? ⟨gR, 1, none⟩ = false := World.free_of_heap HQ.out.pre.res 1
    have ey2 : wq.cell? ⟨gR, 2, none⟩ = some (.int .i64 0) := World.cell_of_heap HQ.out.pre.res 2
    have ez2 : wq.frozen? ⟨gR, 2, none⟩ = false := World.free_of_heap HQ.out.pre.res 2
    have ey3 : wq.cell? ⟨gR, 3, none⟩ = some (.int .i64 0) := World.cell_of_heap HQ.out.pre.res 3
    have ez3 : wq.frozen? ⟨gR, 3, none⟩ = false := World.free_of_heap HQ.out.pre.res 3
    have ey4 : wq.cell? ⟨gR, 4, none⟩ = some (.bool false) := World.cell_of_heap HQ.out.pre.res 4
    have ez4 : wq.frozen? ⟨gR, 4, none⟩ = false := World.free_of_heap HQ.out.pre.res 4
    have ey5 : wq.cell? ⟨gR, 5, none⟩ = some (.bool false) := World.cell_of_heap HQ.out.pre.res 5
    have ez5 : wq.frozen? ⟨gR, 5, none⟩ = false := World.free_of_heap HQ.out.pre.res 5
    have ey6 : wq.cell? ⟨gR, 6, none⟩ = some (.int .i64 0) := World.cell_of_heap HQ.out.pre.res 6
    have ez6 : wq.frozen? ⟨gR, 6, none⟩ = false := World.free_of_heap HQ.out.pre.res 6
    have ey7 : wq.cell? ⟨gR, 7, none⟩ = some (.int .i64 0) := World.cell_of_heap HQ.out.pre.res 7
    have ez7 : wq.frozen? ⟨gR, 7, none⟩ = false := World.free_of_heap HQ.out.pre.res 7
    have eoc := World.oldB_of_cell ey0
    have ex0 : wq.cell? ⟨gB, 0, none⟩ = some (.int .i64 (id)) := World.cell_of_heap HQ.out.box 0
    have ef0 : wq.frozen? ⟨gB, 0, none⟩ = false := World.free_of_heap HQ.out.box 0
    have ex1 : wq.cell? ⟨gB, 1, none⟩ = some (.string x_name) := World.cell_of_heap HQ.out.box 1
    have ef1 : wq.frozen? ⟨gB, 1, none⟩ = false := World.free_of_heap HQ.out.box 1
    have ex2 : wq.cell? ⟨gB, 2, none⟩ = some (.int .i64 (y)) := World.cell_of_heap HQ.out.box 2
    have ef2 : wq.frozen? ⟨gB, 2, none⟩ = false := World.free_of_heap HQ.out.box 2
    have ex3 : wq.cell? ⟨gB, 3, none⟩ = some (.int .i64 (x_high)) := World.cell_of_heap HQ.out.box 3
    have ef3 : wq.frozen? ⟨gB, 3, none⟩ = false := World.free_of_heap HQ.out.box 3
    have ex4 : wq.cell? ⟨gB, 4, none⟩ = some (.bool x_women) := World.cell_of_heap HQ.out.box 4
    have ef4 : wq.frozen? ⟨gB, 4, none⟩ = false := World.free_of_heap HQ.out.box 4
    have ex5 : wq.cell? ⟨gB, 5, none⟩ = some (.bool x_men2) := World.cell_of_heap HQ.out.box 5
    have ef5 : wq.frozen? ⟨gB, 5, none⟩ = false := World.free_of_heap HQ.out.box 5
    have ex6 : wq.cell? ⟨gB, 6, none⟩ = some (.int .i64 (x_course)) := World.cell_of_heap HQ.out.box 6
    have ef6 : wq.frozen? ⟨gB, 6, none⟩ = false := World.free_of_heap HQ.out.box 6
    have ex7 : wq.cell? ⟨gB, 7, none⟩ = some (.int .i64 (x_most)) := World.cell_of_heap HQ.out.box 7
    have ef7 : wq.frozen? ⟨gB, 7, none⟩ = false := World.free_of_heap HQ.out.box 7
    have eob := World.oldB_of_cell ex0
    have gw0 := World.heap_setCell_row HQ.out.pre.res 0 (.int .i64 (id))
    simp only [List.setIfInBounds_toArray, List.set_cons_zero, List.set_cons_succ] at gw0
    have gc0 : (wq.setCell ⟨gR, 0, none⟩ (.int .i64 (id))).cell? ⟨gR, 0, none⟩ = some (.int .i64 (id)) := World.cell_of_heap gw0 0
    have gw1 := World.heap_setCell_row gw0 1 (.string x_name)
    simp only [List.setIfInBounds_toArray, List.set_cons_zero, List.set_cons_succ] at gw1
    have gc1 : ((wq.setCell ⟨gR, 0, none⟩ (.int .i64 (id))).setCell ⟨gR, 1, none⟩ (.string x_name)).cell? ⟨gR, 1, none⟩ = some (.string x_name) := World.cell_of_heap gw1 1
    have gw2 := World.heap_setCell_row gw1 2 (.int .i64 (y))
    simp only [List.setIfInBounds_toArray, List.set_cons_zero, List.set_cons_succ] at gw2
    have gc2 : (((wq.setCell ⟨gR, 0, none⟩ (.int .i64 (id))).setCell ⟨gR, 1, none⟩ (.string x_name)).setCell ⟨gR, 2, none⟩ (.int .i64 (y))).cell? ⟨gR, 2, none⟩ = some (.int .i64 (y)) := World.cell_of_heap gw2 2
    have gw3 := World.heap_setCell_row gw2 3 (.int .i64 (x_high))
    simp only [List.setIfInBounds_toArray, List.set_cons_zero, List.set_cons_succ] at gw3
    have gc3 : ((((wq.setCell ⟨gR, 0, none⟩ (.int .i64 (id))).setCell ⟨gR, 1, none⟩ (.string x_name)).setCell ⟨gR, 2, none⟩ (.int .i64 (y))).setCell ⟨gR, 3, none⟩ (.int .i64 (x_high))).cell? ⟨gR, 3, none⟩ = some (.int .i64 (x_high)) := World.cell_of_heap gw3 3
    have gw4 := World.heap_setCell_row gw3 4 (.bool x_women)
    simp only [List.setIfInBounds_toArray, List.set_cons_zero, List.set_cons_succ] at gw4
    have gc4 : (((((wq.setCell ⟨gR, 0, none⟩ (.int .i64 (id))).setCell ⟨gR, 1, none⟩ (.string x_name)).setCell ⟨gR, 2, none⟩ (.int .i64 (y))).setCell ⟨gR, 3, none⟩ (.int .i64 (x_high))).setCell ⟨gR, 4, none⟩ (.bool x_women)).cell? ⟨gR, 4, none⟩ = some (.bool x_women) := World.cell_of_heap gw4 4
    have gw5 := World.heap_setCell_row gw4 5 (.bool x_men2)
    simp only [List.setIfInBounds_toArray, List.set_cons_zero, List.set_cons_succ] at gw5
    have gc5 : ((((((wq.setCell ⟨gR, 0, none⟩ (.int .i64 (id))).setCell ⟨gR, 1, none⟩ (.string x_name)).setCell ⟨gR, 2, none⟩ (.int .i64 (y))).setCell ⟨gR, 3, none⟩ (.int .i64 (x_high))).setCell ⟨gR, 4, none⟩ (.bool x_women)).setCell ⟨gR, 5, none⟩ (.bool x_men2)).cell? ⟨gR, 5, none⟩ = some (.bool x_men2) := World.cell_of_heap gw5 5
    have gw6 := World.heap_setCell_row gw5 6 (.int .i64 (x_course))
    simp only [List.setIfInBounds_toArray, List.set_cons_zero, List.set_cons_succ] at gw6
    have gc6 : (((((((wq.setCell ⟨gR, 0, none⟩ (.int .i64 (id))).setCell ⟨gR, 1, none⟩ (.string x_name)).setCell ⟨gR, 2, none⟩ (.int .i64 (y))).setCell ⟨gR, 3, none⟩ (.int .i64 (x_high))).setCell ⟨gR, 4, none⟩ (.bool x_women)).setCell ⟨gR, 5, none⟩ (.bool x_men2)).setCell ⟨gR, 6, none⟩ (.int .i64 (x_course))).cell? ⟨gR, 6, none⟩ = some (.int .i64 (x_course)) := World.cell_of_heap gw6 6
    have gw7 := World.heap_setCell_row gw6 7 (.int .i64 (x_most))
    simp only [List.setIfInBounds_toArray, List.set_cons_zero, List.set_cons_succ] at gw7
    have gc7 : ((((((((wq.setCell ⟨gR, 0, none⟩ (.int .i64 (id))).setCell ⟨gR, 1, none⟩ (.string x_name)).setCell ⟨gR, 2, none⟩ (.int .i64 (y))).setCell ⟨gR, 3, none⟩ (.int .i64 (x_high))).setCell ⟨gR, 4, none⟩ (.bool x_women)).setCell ⟨gR, 5, none⟩ (.bool x_men2)).setCell ⟨gR, 6, none⟩ (.int .i64 (x_course))).setCell ⟨gR, 7, none⟩ (.int .i64 (x_most))).cell? ⟨gR, 7, none⟩ = some (.int .i64 (x_most)) := World.cell_of_heap gw7 7
    clear gw0 gw1 gw2 gw3 gw4 gw5 gw6 gw7
    have hon : World.grownBy wq ((((((((wq.setCell ⟨gR, 0, none⟩ (.int .i64 (id))).setCell ⟨gR, 1, none⟩ (.string x_name)).setCell ⟨gR, 2, none⟩ (.int .i64 (y))).setCell ⟨gR, 3, none⟩ (.int .i64 (x_high))).setCell ⟨gR, 4, none⟩ (.bool x_women)).setCell ⟨gR, 5, none⟩ (.bool x_men2)).setCell ⟨gR, 6, none⟩ (.int .i64 (x_course))).setCell ⟨gR, 7, none⟩ (.int .i64 (x_most))) (some gR) := only_setCell (p := ⟨gR, 7, none⟩) (only_setCell (p := ⟨gR, 6, none⟩) (only_setCell (p := ⟨gR, 5, none⟩) (only_setCell (p := ⟨gR, 4, none⟩) (only_setCell (p := ⟨gR, 3, none⟩) (only_setCell (p := ⟨gR, 2, none⟩) (only_setCell (p := ⟨gR, 1, none⟩) (only_setCell (p := ⟨gR, 0, none⟩) (only_refl _ _) rfl _) rfl _) rfl _) rfl _) rfl _) rfl _) rfl _) rfl _
    have HF := Lib.hid (HQ.out.fin hon)
    clear hon
    go_wp2
    refine bodyPost_ret (v := .agg #[.int .i64 (id), .string x_name, .int .i64 (y), .int .i64 (x_high), .bool x_women, .bool x_men2, .int .i64 (x_course), .int .i64 (x_most)]) (by simp [results, Tryz.results33, go_sem, gc0, gc1, gc2, gc3, gc4, gc5, gc6, gc7]) rfl ?_
    exact ⟨⟨id, x_name, y, x_high, x_women, x_men2, x_course, x_most⟩, rfl, hz_x_name, HF.out.1.le (by omega), HF.out.2⟩
  by_cases h3 : r = 3
  · subst h3
    have ex0 : u0.cell? ⟨gB, 0, none⟩ = some (.int .i64 (id)) := World.cell_of_heap HU.out.box 0
    have ef0 : u0.frozen? ⟨gB, 0, none⟩ = false := World.free_of_heap HU.out.box 0
    have ex1 : u0.cell? ⟨gB, 1, none⟩ = some (.string x_name) := World.cell_of_heap HU.out.box 1
    have ef1 : u0.frozen? ⟨gB, 1, none⟩ = false := World.free_of_heap HU.out.box 1
    have ex2 : u0.cell? ⟨gB, 2, none⟩ = some (.int .i64 (x_low)) := World.cell_of_heap HU.out.box 2
    have ef2 : u0.frozen? ⟨gB, 2, none⟩ = false := World.free_of_heap HU.out.box 2
    have ex3 : u0.cell? ⟨gB, 3, none⟩ = some (.int .i64 (x_high)) := World.cell_of_heap HU.out.box 3
    have ef3 : u0.frozen? ⟨gB, 3, none⟩ = false := World.free_of_heap HU.out.box 3
    have ex4 : u0.cell? ⟨gB, 4, none⟩ = some (.bool x_women) := World.cell_of_heap HU.out.box 4
    have ef4 : u0.frozen? ⟨gB, 4, none⟩ = false := World.free_of_heap HU.out.box 4
    have ex5 : u0.cell? ⟨gB, 5, none⟩ = some (.bool x_men2) := World.cell_of_heap HU.out.box 5
    have ef5 : u0.frozen? ⟨gB, 5, none⟩ = false := World.free_of_heap HU.out.box 5
    have ex6 : u0.cell? ⟨gB, 6, none⟩ = some (.int .i64 (x_course)) := World.cell_of_heap HU.out.box 6
    have ef6 : u0.frozen? ⟨gB, 6, none⟩ = false := World.free_of_heap HU.out.box 6
    have ex7 : u0.cell? ⟨gB, 7, none⟩ = some (.int .i64 (x_most)) := World.cell_of_heap HU.out.box 7
    have ef7 : u0.frozen? ⟨gB, 7, none⟩ = false := World.free_of_heap HU.out.box 7
    have eob := World.oldB_of_cell ex0
    go_upto_region 18 with fail
    have HQ := Lib.hid (HU.out.put 3 (.int .i64 (121)))
    simp only [List.setIfInBounds_toArray, List.set_cons_zero, List.set_cons_succ] at HQ
    generalize u0.setCell ⟨gB, 3, none⟩ (.int .i64 (121)) = wq at HQ ⊢
    clear ex0 ef0 ex1 ef1 ex2 ef2 ex3 ef3 ex4 ef4 ex5 ef5 ex6 ef6 ex7 ef7 eob
    have ey0 : wq.cell? ⟨gR, 0, none⟩ = some (.int .i64 0) := World.cell_of_heap HQ.out.pre.res 0
    have ez0 : wq.frozen? ⟨gR, 0, none⟩ = false := World.free_of_heap HQ.out.pre.res 0
    have ey1 : wq.cell? ⟨gR, 1, none⟩ = some (.string ⟨#[]⟩) := World.cell_of_heap HQ.out.pre.res 1
    have ez1 : wq.frozen? ⟨gR, 1, none⟩ = false := World.free_of_heap HQ.out.pre.res 1
    have ey2 : wq.cell? ⟨gR, 2, none⟩ = some (.int .i64 0) := World.cell_of_heap HQ.out.pre.res 2
    have ez2 : wq.frozen? ⟨gR, 2, none⟩ = false := World.free_of_heap HQ.out.pre.res 2
    have ey3 : wq.cell? ⟨gR, 3, none⟩ = some (.int .i64 0) := World.cell_of_heap HQ.out.pre.res 3
    have ez3 : wq.frozen? ⟨gR, 3, none⟩ = false := World.free_of_heap HQ.out.pre.res 3
    have ey4 : wq.cell? ⟨gR, 4, none⟩ = some (.bool false) := World.cell_of_heap HQ.out.pre.res 4
    have ez4 : wq.frozen? ⟨gR, 4, none⟩ = false := World.free_of_heap HQ.out.pre.res 4
    have ey5 : wq.cell? ⟨gR, 5, none⟩ = some (.bool false) := World.cell_of_heap HQ.out.pre.res 5
    have ez5 : wq.frozen? ⟨gR, 5, none⟩ = false := World.free_of_heap HQ.out.pre.res 5
    have ey6 : wq.cell? ⟨gR, 6, none⟩ = some (.int .i64 0) := World.cell_of_heap HQ.out.pre.res 6
    have ez6 : wq.frozen? ⟨gR, 6, none⟩ = false := World.free_of_heap HQ.out.pre.res 6
    have ey7 : wq.cell? ⟨gR, 7, none⟩ = some (.int .i64 0) := World.cell_of_heap HQ.out.pre.res 7
    have ez7 : wq.frozen? ⟨gR, 7, none⟩ = false := World.free_of_heap HQ.out.pre.res 7
    have eoc := World.oldB_of_cell ey0
    have ex0 : wq.cell? ⟨gB, 0, none⟩ = some (.int .i64 (id)) := World.cell_of_heap HQ.out.box 0
    have ef0 : wq.frozen? ⟨gB, 0, none⟩ = false := World.free_of_heap HQ.out.box 0
    have ex1 : wq.cell? ⟨gB, 1, none⟩ = some (.string x_name) := World.cell_of_heap HQ.out.box 1
    have ef1 : wq.frozen? ⟨gB, 1, none⟩ = false := World.free_of_heap HQ.out.box 1
    have ex2 : wq.cell? ⟨gB, 2, none⟩ = some (.int .i64 (x_low)) := World.cell_of_heap HQ.out.box 2
    have ef2 : wq.frozen? ⟨gB, 2, none⟩ = false := World.free_of_heap HQ.out.box 2
    have ex3 : wq.cell? ⟨gB, 3, none⟩ = some (.int .i64 (121)) := World.cell_of_heap HQ.out.box 3
    have ef3 : wq.frozen? ⟨gB, 3, none⟩ = false := World.free_of_heap HQ.out.box 3
    have ex4 : wq.cell? ⟨gB, 4, none⟩ = some (.bool x_women) := World.cell_of_heap HQ.out.box 4
    have ef4 : wq.frozen? ⟨gB, 4, none⟩ = false := World.free_of_heap HQ.out.box 4
    have ex5 : wq.cell? ⟨gB, 5, none⟩ = some (.bool x_men2) := World.cell_of_heap HQ.out.box 5
    have ef5 : wq.frozen? ⟨gB, 5, none⟩ = false := World.free_of_heap HQ.out.box 5
    have ex6 : wq.cell? ⟨gB, 6, none⟩ = some (.int .i64 (x_course)) := World.cell_of_heap HQ.out.box 6
    have ef6 : wq.frozen? ⟨gB, 6, none⟩ = false := World.free_of_heap HQ.out.box 6
    have ex7 : wq.cell? ⟨gB, 7, none⟩ = some (.int .i64 (x_most)) := World.cell_of_heap HQ.out.box 7
    have ef7 : wq.frozen? ⟨gB, 7, none⟩ = false := World.free_of_heap HQ.out.box 7
    have eob := World.oldB_of_cell ex0
    have gw0 := World.heap_setCell_row HQ.out.pre.res 0 (.int .i64 (id))
    simp only [List.setIfInBounds_toArray, List.set_cons_zero, List.set_cons_succ] at gw0
    have gc0 : (wq.setCell ⟨gR, 0, none⟩ (.int .i64 (id))).cell? ⟨gR, 0, none⟩ = some (.int .i64 (id)) := World.cell_of_heap gw0 0
    have gw1 := World.heap_setCell_row gw0 1 (.string x_name)
    simp only [List.setIfInBounds_toArray, List.set_cons_zero, List.set_cons_succ] at gw1
    have gc1 : ((wq.setCell ⟨gR, 0, none⟩ (.int .i64 (id))).setCell ⟨gR, 1, none⟩ (.string x_name)).cell? ⟨gR, 1, none⟩ = some (.string x_name) := World.cell_of_heap gw1 1
    have gw2 := World.heap_setCell_row gw1 2 (.int .i64 (x_low))
    simp only [List.setIfInBounds_toArray, List.set_cons_zero, List.set_cons_succ] at gw2
    have gc2 : (((wq.setCell ⟨gR, 0, none⟩ (.int .i64 (id))).setCell ⟨gR, 1, none⟩ (.string x_name)).setCell ⟨gR, 2, none⟩ (.int .i64 (x_low))).cell? ⟨gR, 2, none⟩ = some (.int .i64 (x_low)) := World.cell_of_heap gw2 2
    have gw3 := World.heap_setCell_row gw2 3 (.int .i64 (121))
    simp only [List.setIfInBounds_toArray, List.set_cons_zero, List.set_cons_succ] at gw3
    have gc3 : ((((wq.setCell ⟨gR, 0, none⟩ (.int .i64 (id))).setCell ⟨gR, 1, none⟩ (.string x_name)).setCell ⟨gR, 2, none⟩ (.int .i64 (x_low))).setCell ⟨gR, 3, none⟩ (.int .i64 (121))).cell? ⟨gR, 3, none⟩ = some (.int .i64 (121)) := World.cell_of_heap gw3 3
    have gw4 := World.heap_setCell_row gw3 4 (.bool x_women)
    simp only [List.setIfInBounds_toArray, List.set_cons_zero, List.set_cons_succ] at gw4
    have gc4 : (((((wq.setCell ⟨gR, 0, none⟩ (.int .i64 (id))).setCell ⟨gR, 1, none⟩ (.string x_name)).setCell ⟨gR, 2, none⟩ (.int .i64 (x_low))).setCell ⟨gR, 3, none⟩ (.int .i64 (121))).setCell ⟨gR, 4, none⟩ (.bool x_women)).cell? ⟨gR, 4, none⟩ = some (.bool x_women) := World.cell_of_heap gw4 4
    have gw5 := World.heap_setCell_row gw4 5 (.bool x_men2)
    simp only [List.setIfInBounds_toArray, List.set_cons_zero, List.set_cons_succ] at gw5
    have gc5 : ((((((wq.setCell ⟨gR, 0, none⟩ (.int .i64 (id))).setCell ⟨gR, 1, none⟩ (.string x_name)).setCell ⟨gR, 2, none⟩ (.int .i64 (x_low))).setCell ⟨gR, 3, none⟩ (.int .i64 (121))).setCell ⟨gR, 4, none⟩ (.bool x_women)).setCell ⟨gR, 5, none⟩ (.bool x_men2)).cell? ⟨gR, 5, none⟩ = some (.bool x_men2) := World.cell_of_heap gw5 5
    have gw6 := World.heap_setCell_row gw5 6 (.int .i64 (x_course))
    simp only [List.setIfInBounds_toArray, List.set_cons_zero, List.set_cons_succ] at gw6
    have gc6 : (((((((wq.setCell ⟨gR, 0, none⟩ (.int .i64 (id))).setCell ⟨gR, 1, none⟩ (.string x_name)).setCell ⟨gR, 2, none⟩ (.int .i64 (x_low))).setCell ⟨gR, 3, none⟩ (.int .i64 (121))).setCell ⟨gR, 4, none⟩ (.bool x_women)).setCell ⟨gR, 5, none⟩ (.bool x_men2)).setCell ⟨gR, 6, none⟩ (.int .i64 (x_course))).cell? ⟨gR, 6, none⟩ = some (.int .i64 (x_course)) := World.cell_of_heap gw6 6
    have gw7 := World.heap_setCell_row gw6 7 (.int .i64 (x_most))
    simp only [List.setIfInBounds_toArray, List.set_cons_zero, List.set_cons_succ] at gw7
    have gc7 : ((((((((wq.setCell ⟨gR, 0, none⟩ (.int .i64 (id))).setCell ⟨gR, 1, none⟩ (.string x_name)).setCell ⟨gR, 2, none⟩ (.int .i64 (x_low))).setCell ⟨gR, 3, none⟩ (.int .i64 (121))).setCell ⟨gR, 4, none⟩ (.bool x_women)).setCell ⟨gR, 5, none⟩ (.bool x_men2)).setCell ⟨gR, 6, none⟩ (.int .i64 (x_course))).setCell ⟨gR, 7, none⟩ (.int .i64 (x_most))).cell? ⟨gR, 7, none⟩ = some (.int .i64 (x_most)) := World.cell_of_heap gw7 7
    clear gw0 gw1 gw2 gw3 gw4 gw5 gw6 gw7
    have hon : World.grownBy wq ((((((((wq.setCell ⟨gR, 0, none⟩ (.int .i64 (id))).setCell ⟨gR, 1, none⟩ (.string x_name)).setCell ⟨gR, 2, none⟩ (.int .i64 (x_low))).setCell ⟨gR, 3, none⟩ (.int .i64 (121))).setCell ⟨gR, 4, none⟩ (.bool x_women)).setCell ⟨gR, 5, none⟩ (.bool x_men2)).setCell ⟨gR, 6, none⟩ (.int .i64 (x_course))).setCell ⟨gR, 7, none⟩ (.int .i64 (x_most))) (some gR) := only_setCell (p := ⟨gR, 7, none⟩) (only_setCell (p := ⟨gR, 6, none⟩) (only_setCell (p := ⟨gR, 5, none⟩) (only_setCell (p := ⟨gR, 4, none⟩) (only_setCell (p := ⟨gR, 3, none⟩) (only_setCell (p := ⟨gR, 2, none⟩) (only_setCell (p := ⟨gR, 1, none⟩) (only_setCell (p := ⟨gR, 0, none⟩) (only_refl _ _) rfl _) rfl _) rfl _) rfl _) rfl _) rfl _) rfl _) rfl _
    have HF := Lib.hid (HQ.out.fin hon)
    clear hon
    go_wp2
    refine bodyPost_ret (v := .agg #[.int .i64 (id), .string x_name, .int .i64 (x_low), .int .i64 (121), .bool x_women, .bool x_men2, .int .i64 (x_course), .int .i64 (x_most)]) (by simp [results, Tryz.results33, go_sem, gc0, gc1, gc2, gc3, gc4, gc5, gc6, gc7]) rfl ?_
    exact ⟨⟨id, x_name, x_low, 121, x_women, x_men2, x_course, x_most⟩, rfl, hz_x_name, HF.out.1.le (by omega), HF.out.2⟩
  by_cases h4 : r = 4
  · subst h4
    have ex0 : u0.cell? ⟨gB, 0, none⟩ = some (.int .i64 (id)) := World.cell_of_heap HU.out.box 0
    have ef0 : u0.frozen? ⟨gB, 0, none⟩ = false := World.free_of_heap HU.out.box 0
    have ex1 : u0.cell? ⟨gB, 1, none⟩ = some (.string x_name) := World.cell_of_heap HU.out.box 1
    have ef1 : u0.frozen? ⟨gB, 1, none⟩ = false := World.free_of_heap HU.out.box 1
    have ex2 : u0.cell? ⟨gB, 2, none⟩ = some (.int .i64 (x_low)) := World.cell_of_heap HU.out.box 2
    have ef2 : u0.frozen? ⟨gB, 2, none⟩ = false := World.free_of_heap HU.out.box 2
    have ex3 : u0.cell? ⟨gB, 3, none⟩ = some (.int .i64 (x_high)) := World.cell_of_heap HU.out.box 3
    have ef3 : u0.frozen? ⟨gB, 3, none⟩ = false := World.free_of_heap HU.out.box 3
    have ex4 : u0.cell? ⟨gB, 4, none⟩ = some (.bool x_women) := World.cell_of_heap HU.out.box 4
    have ef4 : u0.frozen? ⟨gB, 4, none⟩ = false := World.free_of_heap HU.out.box 4
    have ex5 : u0.cell? ⟨gB, 5, none⟩ = some (.bool x_men2) := World.cell_of_heap HU.out.box 5
    have ef5 : u0.frozen? ⟨gB, 5, none⟩ = false := World.free_of_heap HU.out.box 5
    have ex6 : u0.cell? ⟨gB, 6, none⟩ = some (.int .i64 (x_course)) := World.cell_of_heap HU.out.box 6
    have ef6 : u0.frozen? ⟨gB, 6, none⟩ = false := World.free_of_heap HU.out.box 6
    have ex7 : u0.cell? ⟨gB, 7, none⟩ = some (.int .i64 (x_most)) := World.cell_of_heap HU.out.box 7
    have ef7 : u0.frozen? ⟨gB, 7, none⟩ = false := World.free_of_heap HU.out.box 7
    have eob := World.oldB_of_cell ex0
    go_wp2_with fail
    refine (among_any W _ g _ _ [(0 : Int), (21 : Int)] u0.heap.size (HU.out.pre.cur.gain (by repeat (first | with_reducible (first | exact World.gained_refl _ | exact ⟨_, rfl⟩ | apply gain_ext | apply gain_alloc | apply gain_drewN | apply gain_drew) | (refine gain_setCell ?_ (by first | exact Nat.le_refl _ | exact World.size_ext _ _ | (simp; done) | (simp; omega)) _)))) (by omega) (own_lit' (w := u0) (e := 3) (base := u0.heap.size) (C := #[.int .i64 (0), .int .i64 (21)]) (l := [(0 : Int), (21 : Int)]) intC_length rfl rfl (Nat.le_refl _)) HU.out.lt (by simp) (by simp)).mono ?_
    rintro e u1 ⟨y, rfl, hm, hc1, hg1⟩
    have HV := Lib.hid ((HU.out.up (wr' := u0.alloc (.cells #[.int .i64 (0), .int .i64 (21)] 3)) (by repeat (first | with_reducible (first | exact World.gained_refl _ | exact ⟨_, rfl⟩ | apply gain_ext | apply gain_alloc | apply gain_drewN | apply gain_drew) | (refine gain_setCell ?_ (by first | exact Nat.le_refl _ | exact World.size_ext _ _ | (simp; done) | (simp; omega)) _)))).on hc1 hg1)
    clear hm hc1 hg1 ex0 ef0 ex1 ef1 ex2 ef2 ex3 ef3 ex4 ef4 ex5 ef5 ex6 ef6 ex7 ef7 eob
    have ex0 : u1.cell? ⟨gB, 0, none⟩ = some (.int .i64 (id)) := World.cell_of_heap HV.out.box 0
    have ef0 : u1.frozen? ⟨gB, 0, none⟩ = false := World.free_of_heap HV.out.box 0
    have ex1 : u1.cell? ⟨gB, 1, none⟩ = some (.string x_name) := World.cell_of_heap HV.out.box 1
    have ef1 : u1.frozen? ⟨gB, 1, none⟩ = false := World.free_of_heap HV.out.box 1
    have ex2 : u1.cell? ⟨gB, 2, none⟩ = some (.int .i64 (x_low)) := World.cell_of_heap HV.out.box 2
    have ef2 : u1.frozen? ⟨gB, 2, none⟩ = false := World.free_of_heap HV.out.box 2
    have ex3 : u1.cell? ⟨gB, 3, none⟩ = some (.int .i64 (x_high)) := World.cell_of_heap HV.out.box 3
    have ef3 : u1.frozen? ⟨gB, 3, none⟩ = false := World.free_of_heap HV.out.box 3
    have ex4 : u1.cell? ⟨gB, 4, none⟩ = some (.bool x_women) := World.cell_of_heap HV.out.box 4
    have ef4 : u1.frozen? ⟨gB, 4, none⟩ = false := World.free_of_heap HV.out.box 4
    have ex5 : u1.cell? ⟨gB, 5, none⟩ = some (.bool x_men2) := World.cell_of_heap HV.out.box 5
    have ef5 : u1.frozen? ⟨gB, 5, none⟩ = false := World.free_of_heap HV.out.box 5
    have ex6 : u1.cell? ⟨gB, 6, none⟩ = some (.int .i64 (x_course)) := World.cell_of_heap HV.out.box 6
    have ef6 : u1.frozen? ⟨gB, 6, none⟩ = false := World.free_of_heap HV.out.box 6
    have ex7 : u1.cell? ⟨gB, 7, none⟩ = some (.int .i64 (x_most)) := World.cell_of_heap HV.out.box 7
    have ef7 : u1.frozen? ⟨gB, 7, none⟩ = false := World.free_of_heap HV.out.box 7
    have eob := World.oldB_of_cell ex0
    go_upto_region 18 with fail
    have HQ := Lib.hid (HV.out.put 6 (.int .i64 (y)))
    simp only [List.setIfInBounds_toArray, List.set_cons_zero, List.set_cons_succ] at HQ
    generalize u1.setCell ⟨gB, 6, none⟩ (.int .i64 (y)) = wq at HQ ⊢
    clear ex0 ef0 ex1 ef1 ex2 ef2 ex3 ef3 ex4 ef4 ex5 ef5 ex6 ef6 ex7 ef7 eob
    have ey0 : wq.cell? ⟨gR, 0, none⟩ = some (.int .i64 0) := World.cell_of_heap HQ.out.pre.res 0
    have ez0 : wq.frozen? ⟨gR, 0, none⟩ = false := World.free_of_heap HQ.out.pre.res 0
    have ey1 : wq.cell? ⟨gR, 1, none⟩ = some (.string ⟨#[]⟩) := World.cell_of_heap HQ.out.pre.res 1
    have ez1 : wq.frozen? ⟨gR, 1, none⟩ = false := World.free_of_heap HQ.out.pre.res 1
    have ey2 : wq.cell? ⟨gR, 2, none⟩ = some (.int .i64 0) := World.cell_of_heap HQ.out.pre.res 2
    have ez2 : wq.frozen? ⟨gR, 2, none⟩ = false := World.free_of_heap HQ.out.pre.res 2
    have ey3 : wq.cell? ⟨gR, 3, none⟩ = some (.int .i64 0) := World.cell_of_heap HQ.out.pre.res 3
    have ez3 : wq.frozen? ⟨gR, 3, none⟩ = false := World.free_of_heap HQ.out.pre.res 3
    have ey4 : wq.cell? ⟨gR, 4, none⟩ = some (.bool false) := World.cell_of_heap HQ.out.pre.res 4
    have ez4 : wq.frozen? ⟨gR, 4, none⟩ = false := World.free_of_heap HQ.out.pre.res 4
    have ey5 : wq.cell? ⟨gR, 5, none⟩ = some (.bool false) := World.cell_of_heap HQ.out.pre.res 5
    have ez5 : wq.frozen? ⟨gR, 5, none⟩ = false := World.free_of_heap HQ.out.pre.res 5
    have ey6 : wq.cell? ⟨gR, 6, none⟩ = some (.int .i64 0) := World.cell_of_heap HQ.out.pre.res 6
    have ez6 : wq.frozen? ⟨gR, 6, none⟩ = false := World.free_of_heap HQ.out.pre.res 6
    have ey7 : wq.cell? ⟨gR, 7, none⟩ = some (.int .i64 0) := World.cell_of_heap HQ.out.pre.res 7
    have ez7 : wq.frozen? ⟨gR, 7, none⟩ = false := World.free_of_heap HQ.out.pre.res 7
    have eoc := World.oldB_of_cell ey0
    have ex0 : wq.cell? ⟨gB, 0, none⟩ = some (.int .i64 (id)) := World.cell_of_heap HQ.out.box 0
    have ef0 : wq.frozen? ⟨gB, 0, none⟩ = false := World.free_of_heap HQ.out.box 0
    have ex1 : wq.cell? ⟨gB, 1, none⟩ = some (.string x_name) := World.cell_of_heap HQ.out.box 1
    have ef1 : wq.frozen? ⟨gB, 1, none⟩ = false := World.free_of_heap HQ.out.box 1
    have ex2 : wq.cell? ⟨gB, 2, none⟩ = some (.int .i64 (x_low)) := World.cell_of_heap HQ.out.box 2
    have ef2 : wq.frozen? ⟨gB, 2, none⟩ = false := World.free_of_heap HQ.out.box 2
    have ex3 : wq.cell? ⟨gB, 3, none⟩ = some (.int .i64 (x_high)) := World.cell_of_heap HQ.out.box 3
    have ef3 : wq.frozen? ⟨gB, 3, none⟩ = false := World.free_of_heap HQ.out.box 3
    have ex4 : wq.cell? ⟨gB, 4, none⟩ = some (.bool x_women) := World.cell_of_heap HQ.out.box 4
    have ef4 : wq.frozen? ⟨gB, 4, none⟩ = false := World.free_of_heap HQ.out.box 4
    have ex5 : wq.cell? ⟨gB, 5, none⟩ = some (.bool x_men2) := World.cell_of_heap HQ.out.box 5
    have ef5 : wq.frozen? ⟨gB, 5, none⟩ = false := World.free_of_heap HQ.out.box 5
    have ex6 : wq.cell? ⟨gB, 6, none⟩ = some (.int .i64 (y)) := World.cell_of_heap HQ.out.box 6
    have ef6 : wq.frozen? ⟨gB, 6, none⟩ = false := World.free_of_heap HQ.out.box 6
    have ex7 : wq.cell? ⟨gB, 7, none⟩ = some (.int .i64 (x_most)) := World.cell_of_heap HQ.out.box 7
    have ef7 : wq.frozen? ⟨gB, 7, none⟩ = false := World.free_of_heap HQ.out.box 7
    have eob := World.oldB_of_cell ex0
    have gw0 := World.heap_setCell_row HQ.out.pre.res 0 (.int .i64 (id))
    simp only [List.setIfInBounds_toArray, List.set_cons_zero, List.set_cons_succ] at gw0
    have gc0 : (wq.setCell ⟨gR, 0, none⟩ (.int .i64 (id))).cell? ⟨gR, 0, none⟩ = some (.int .i64 (id)) := World.cell_of_heap gw0 0
    have gw1 := World.heap_setCell_row gw0 1 (.string x_name)
    simp only [List.setIfInBounds_toArray, List.set_cons_zero, List.set_cons_succ] at gw1
    have gc1 : ((wq.setCell ⟨gR, 0, none⟩ (.int .i64 (id))).setCell ⟨gR, 1, none⟩ (.string x_name)).cell? ⟨gR, 1, none⟩ = some (.string x_name) := World.cell_of_heap gw1 1
    have gw2 := World.heap_setCell_row gw1 2 (.int .i64 (x_low))
    simp only [List.setIfInBounds_toArray, List.set_cons_zero, List.set_cons_succ] at gw2
    have gc2 : (((wq.setCell ⟨gR, 0, none⟩ (.int .i64 (id))).setCell ⟨gR, 1, none⟩ (.string x_name)).setCell ⟨gR, 2, none⟩ (.int .i64 (x_low))).cell? ⟨gR, 2, none⟩ = some (.int .i64 (x_low)) := World.cell_of_heap gw2 2
    have gw3 := World.heap_setCell_row gw2 3 (.int .i64 (x_high))
    simp only [List.setIfInBounds_toArray, List.set_cons_zero, List.set_cons_succ] at gw3
    have gc3 : ((((wq.setCell ⟨gR, 0, none⟩ (.int .i64 (id))).setCell ⟨gR, 1, none⟩ (.string x_name)).setCell ⟨gR, 2, none⟩ (.int .i64 (x_low))).setCell ⟨gR, 3, none⟩ (.int .i64 (x_high))).cell? ⟨gR, 3, none⟩ = some (.int .i64 (x_high)) := World.cell_of_heap gw3 3
    have gw4 := World.heap_setCell_row gw3 4 (.bool x_women)
    simp only [List.setIfInBounds_toArray, List.set_cons_zero, List.set_cons_succ] at gw4
    have gc4 : (((((wq.setCell ⟨gR, 0, none⟩ (.int .i64 (id))).setCell ⟨gR, 1, none⟩ (.string x_name)).setCell ⟨gR, 2, none⟩ (.int .i64 (x_low))).setCell ⟨gR, 3, none⟩ (.int .i64 (x_high))).setCell ⟨gR, 4, none⟩ (.bool x_women)).cell? ⟨gR, 4, none⟩ = some (.bool x_women) := World.cell_of_heap gw4 4
    have gw5 := World.heap_setCell_row gw4 5 (.bool x_men2)
    simp only [List.setIfInBounds_toArray, List.set_cons_zero, List.set_cons_succ] at gw5
    have gc5 : ((((((wq.setCell ⟨gR, 0, none⟩ (.int .i64 (id))).setCell ⟨gR, 1, none⟩ (.string x_name)).setCell ⟨gR, 2, none⟩ (.int .i64 (x_low))).setCell ⟨gR, 3, none⟩ (.int .i64 (x_high))).setCell ⟨gR, 4, none⟩ (.bool x_women)).setCell ⟨gR, 5, none⟩ (.bool x_men2)).cell? ⟨gR, 5, none⟩ = some (.bool x_men2) := World.cell_of_heap gw5 5
    have gw6 := World.heap_setCell_row gw5 6 (.int .i64 (y))
    simp only [List.setIfInBounds_toArray, List.set_cons_zero, List.set_cons_succ] at gw6
    have gc6 : (((((((wq.setCell ⟨gR, 0, none⟩ (.int .i64 (id))).setCell ⟨gR, 1, none⟩ (.string x_name)).setCell ⟨gR, 2, none⟩ (.int .i64 (x_low))).setCell ⟨gR, 3, none⟩ (.int .i64 (x_high))).setCell ⟨gR, 4, none⟩ (.bool x_women)).setCell ⟨gR, 5, none⟩ (.bool x_men2)).setCell ⟨gR, 6, none⟩ (.int .i64 (y))).cell? ⟨gR, 6, none⟩ = some (.int .i64 (y)) := World.cell_of_heap gw6 6
    have gw7 := World.heap_setCell_row gw6 7 (.int .i64 (x_most))
    simp only [List.setIfInBounds_toArray, List.set_cons_zero, List.set_cons_succ] at gw7
    have gc7 : ((((((((wq.setCell ⟨gR, 0, none⟩ (.int .i64 (id))).setCell ⟨gR, 1, none⟩ (.string x_name)).setCell ⟨gR, 2, none⟩ (.int .i64 (x_low))).setCell ⟨gR, 3, none⟩ (.int .i64 (x_high))).setCell ⟨gR, 4, none⟩ (.bool x_women)).setCell ⟨gR, 5, none⟩ (.bool x_men2)).setCell ⟨gR, 6, none⟩ (.int .i64 (y))).setCell ⟨gR, 7, none⟩ (.int .i64 (x_most))).cell? ⟨gR, 7, none⟩ = some (.int .i64 (x_most)) := World.cell_of_heap gw7 7
    clear gw0 gw1 gw2 gw3 gw4 gw5 gw6 gw7
    have hon : World.grownBy wq ((((((((wq.setCell ⟨gR, 0, none⟩ (.int .i64 (id))).setCell ⟨gR, 1, none⟩ (.string x_name)).setCell ⟨gR, 2, none⟩ (.int .i64 (x_low))).setCell ⟨gR, 3, none⟩ (.int .i64 (x_high))).setCell ⟨gR, 4, none⟩ (.bool x_women)).setCell ⟨gR, 5, none⟩ (.bool x_men2)).setCell ⟨gR, 6, none⟩ (.int .i64 (y))).setCell ⟨gR, 7, none⟩ (.int .i64 (x_most))) (some gR) := only_setCell (p := ⟨gR, 7, none⟩) (only_setCell (p := ⟨gR, 6, none⟩) (only_setCell (p := ⟨gR, 5, none⟩) (only_setCell (p := ⟨gR, 4, none⟩) (only_setCell (p := ⟨gR, 3, none⟩) (only_setCell (p := ⟨gR, 2, none⟩) (only_setCell (p := ⟨gR, 1, none⟩) (only_setCell (p := ⟨gR, 0, none⟩) (only_refl _ _) rfl _) rfl _) rfl _) rfl _) rfl _) rfl _) rfl _) rfl _
    have HF := Lib.hid (HQ.out.fin hon)
    clear hon
    go_wp2
    refine bodyPost_ret (v := .agg #[.int .i64 (id), .string x_name, .int .i64 (x_low), .int .i64 (x_high), .bool x_women, .bool x_men2, .int .i64 (y), .int .i64 (x_most)]) (by simp [results, Tryz.results33, go_sem, gc0, gc1, gc2, gc3, gc4, gc5, gc6, gc7]) rfl ?_
    exact ⟨⟨id, x_name, x_low, x_high, x_women, x_men2, y, x_most⟩, rfl, hz_x_name, HF.out.1.le (by omega), HF.out.2⟩
  by_cases h5 : r = 5
  · subst h5
    have ex0 : u0.cell? ⟨gB, 0, none⟩ = some (.int .i64 (id)) := World.cell_of_heap HU.out.box 0
    have ef0 : u0.frozen? ⟨gB, 0, none⟩ = false := World.free_of_heap HU.out.box 0
    have ex1 : u0.cell? ⟨gB, 1, none⟩ = some (.string x_name) := World.cell_of_heap HU.out.box 1
    have ef1 : u0.frozen? ⟨gB, 1, none⟩ = false := World.free_of_heap HU.out.box 1
    have ex2 : u0.cell? ⟨gB, 2, none⟩ = some (.int .i64 (x_low)) := World.cell_of_heap HU.out.box 2
    have ef2 : u0.frozen? ⟨gB, 2, none⟩ = false := World.free_of_heap HU.out.box 2
    have ex3 : u0.cell? ⟨gB, 3, none⟩ = some (.int .i64 (x_high)) := World.cell_of_heap HU.out.box 3
    have ef3 : u0.frozen? ⟨gB, 3, none⟩ = false := World.free_of_heap HU.out.box 3
    have ex4 : u0.cell? ⟨gB, 4, none⟩ = some (.bool x_women) := World.cell_of_heap HU.out.box 4
    have ef4 : u0.frozen? ⟨gB, 4, none⟩ = false := World.free_of_heap HU.out.box 4
    have ex5 : u0.cell? ⟨gB, 5, none⟩ = some (.bool x_men2) := World.cell_of_heap HU.out.box 5
    have ef5 : u0.frozen? ⟨gB, 5, none⟩ = false := World.free_of_heap HU.out.box 5
    have ex6 : u0.cell? ⟨gB, 6, none⟩ = some (.int .i64 (x_course)) := World.cell_of_heap HU.out.box 6
    have ef6 : u0.frozen? ⟨gB, 6, none⟩ = false := World.free_of_heap HU.out.box 6
    have ex7 : u0.cell? ⟨gB, 7, none⟩ = some (.int .i64 (x_most)) := World.cell_of_heap HU.out.box 7
    have ef7 : u0.frozen? ⟨gB, 7, none⟩ = false := World.free_of_heap HU.out.box 7
    have eob := World.oldB_of_cell ex0
    go_wp2_with fail
    refine (among_any W _ g _ _ [(0 : Int), (501 : Int)] u0.heap.size (HU.out.pre.cur.gain (by repeat (first | with_reducible (first | exact World.gained_refl _ | exact ⟨_, rfl⟩ | apply gain_ext | apply gain_alloc | apply gain_drewN | apply gain_drew) | (refine gain_setCell ?_ (by first | exact Nat.le_refl _ | exact World.size_ext _ _ | (simp; done) | (simp; omega)) _)))) (by omega) (own_lit' (w := u0) (e := 3) (base := u0.heap.size) (C := #[.int .i64 (0), .int .i64 (501)]) (l := [(0 : Int), (501 : Int)]) intC_length rfl rfl (Nat.le_refl _)) HU.out.lt (by simp) (by simp)).mono ?_
    rintro e u1 ⟨y, rfl, hm, hc1, hg1⟩
    have HV := Lib.hid ((HU.out.up (wr' := u0.alloc (.cells #[.int .i64 (0), .int .i64 (501)] 3)) (by repeat (first | with_reducible (first | exact World.gained_refl _ | exact ⟨_, rfl⟩ | apply gain_ext | apply gain_alloc | apply gain_drewN | apply gain_drew) | (refine gain_setCell ?_ (by first | exact Nat.le_refl _ | exact World.size_ext _ _ | (simp; done) | (simp; omega)) _)))).on hc1 hg1)
    clear hm hc1 hg1 ex0 ef0 ex1 ef1 ex2 ef2 ex3 ef3 ex4 ef4 ex5 ef5 ex6 ef6 ex7 ef7 eob
    have ex0 : u1.cell? ⟨gB, 0, none⟩ = some (.int .i64 (id)) := World.cell_of_heap HV.out.box 0
    have ef0 : u1.frozen? ⟨gB, 0, none⟩ = false := World.free_of_heap HV.out.box 0
    have ex1 : u1.cell? ⟨gB, 1, none⟩ = some (.string x_name) := World.cell_of_heap HV.out.box 1
    have ef1 : u1.frozen? ⟨gB, 1, none⟩ = false := World.free_of_heap HV.out.box 1
    have ex2 : u1.cell? ⟨gB, 2, none⟩ = some (.int .i64 (x_low)) := World.cell_of_heap HV.out.box 2
    have ef2 : u1.frozen? ⟨gB, 2, none⟩ = false := World.free_of_heap HV.out.box 2
    have ex3 : u1.cell? ⟨gB, 3, none⟩ = some (.int .i64 (x_high)) := World.cell_of_heap HV.out.box 3
    have ef3 : u1.frozen? ⟨gB, 3, none⟩ = false := World.free_of_heap HV.out.box 3
    have ex4 : u1.cell? ⟨gB, 4, none⟩ = some (.bool x_women) := World.cell_of_heap HV.out.box 4
    have ef4 : u1.frozen? ⟨gB, 4, none⟩ = false := World.free_of_heap HV.out.box 4
    have ex5 : u1.cell? ⟨gB, 5, none⟩ = some (.bool x_men2) := World.cell_of_heap HV.out.box 5
    have ef5 : u1.frozen? ⟨gB, 5, none⟩ = false := World.free_of_heap HV.out.box 5
    have ex6 : u1.cell? ⟨gB, 6, none⟩ = some (.int .i64 (x_course)) := World.cell_of_heap HV.out.box 6
    have ef6 : u1.frozen? ⟨gB, 6, none⟩ = false := World.free_of_heap HV.out.box 6
    have ex7 : u1.cell? ⟨gB, 7, none⟩ = some (.int .i64 (x_most)) := World.cell_of_heap HV.out.box 7
    have ef7 : u1.frozen? ⟨gB, 7, none⟩ = false := World.free_of_heap HV.out.box 7
    have eob := World.oldB_of_cell ex0
    go_upto_region 18 with fail
    have HQ := Lib.hid (HV.out.put 7 (.int .i64 (y)))
    simp only [List.setIfInBounds_toArray, List.set_cons_zero, List.set_cons_succ] at HQ
    generalize u1.setCell ⟨gB, 7, none⟩ (.int .i64 (y)) = wq at HQ ⊢
    clear ex0 ef0 ex1 ef1 ex2 ef2 ex3 ef3 ex4 ef4 ex5 ef5 ex6 ef6 ex7 ef7 eob
    have ey0 : wq.cell? ⟨gR, 0, none⟩ = some (.int .i64 0) := World.cell_of_heap HQ.out.pre.res 0
    have ez0 : wq.frozen? ⟨gR, 0, none⟩ = false := World.free_of_heap HQ.out.pre.res 0
    have ey1 : wq.cell? ⟨gR, 1, none⟩ = some (.string ⟨#[]⟩) := World.cell_of_heap HQ.out.pre.res 1
    have ez1 : wq.frozen? ⟨gR, 1, none⟩ = false := World.free_of_heap HQ.out.pre.res 1
    have ey2 : wq.cell? ⟨gR, 2, none⟩ = some (.int .i64 0) := World.cell_of_heap HQ.out.pre.res 2
    have ez2 : wq.frozen? ⟨gR, 2, none⟩ = false := World.free_of_heap HQ.out.pre.res 2
    have ey3 : wq.cell? ⟨gR, 3, none⟩ = some (.int .i64 0) := World.cell_of_heap HQ.out.pre.res 3
    have ez3 : wq.frozen? ⟨gR, 3, none⟩ = false := World.free_of_heap HQ.out.pre.res 3
    have ey4 : wq.cell? ⟨gR, 4, none⟩ = some (.bool false) := World.cell_of_heap HQ.out.pre.res 4
    have ez4 : wq.frozen? ⟨gR, 4, none⟩ = false := World.free_of_heap HQ.out.pre.res 4
    have ey5 : wq.cell? ⟨gR, 5, none⟩ = some (.bool false) := World.cell_of_heap HQ.out.pre.res 5
    have ez5 : wq.frozen? ⟨gR, 5, none⟩ = false := World.free_of_heap HQ.out.pre.res 5
    have ey6 : wq.cell? ⟨gR, 6, none⟩ = some (.int .i64 0) := World.cell_of_heap HQ.out.pre.res 6
    have ez6 : wq.frozen? ⟨gR, 6, none⟩ = false := World.free_of_heap HQ.out.pre.res 6
    have ey7 : wq.cell? ⟨gR, 7, none⟩ = some (.int .i64 0) := World.cell_of_heap HQ.out.pre.res 7
    have ez7 : wq.frozen? ⟨gR, 7, none⟩ = false := World.free_of_heap HQ.out.pre.res 7
    have eoc := World.oldB_of_cell ey0
    have ex0 : wq.cell? ⟨gB, 0, none⟩ = some (.int .i64 (id)) := World.cell_of_heap HQ.out.box 0
    have ef0 : wq.frozen? ⟨gB, 0, none⟩ = false := World.free_of_heap HQ.out.box 0
    have ex1 : wq.cell? ⟨gB, 1, none⟩ = some (.string x_name) := World.cell_of_heap HQ.out.box 1
    have ef1 : wq.frozen? ⟨gB, 1, none⟩ = false := World.free_of_heap HQ.out.box 1
    have ex2 : wq.cell? ⟨gB, 2, none⟩ = some (.int .i64 (x_low)) := World.cell_of_heap HQ.out.box 2
    have ef2 : wq.frozen? ⟨gB, 2, none⟩ = false := World.free_of_heap HQ.out.box 2
    have ex3 : wq.cell? ⟨gB, 3, none⟩ = some (.int .i64 (x_high)) := World.cell_of_heap HQ.out.box 3
    have ef3 : wq.frozen? ⟨gB, 3, none⟩ = false := World.free_of_heap HQ.out.box 3
    have ex4 : wq.cell? ⟨gB, 4, none⟩ = some (.bool x_women) := World.cell_of_heap HQ.out.box 4
    have ef4 : wq.frozen? ⟨gB, 4, none⟩ = false := World.free_of_heap HQ.out.box 4
    have ex5 : wq.cell? ⟨gB, 5, none⟩ = some (.bool x_men2) := World.cell_of_heap HQ.out.box 5
    have ef5 : wq.frozen? ⟨gB, 5, none⟩ = false := World.free_of_heap HQ.out.box 5
    have ex6 : wq.cell? ⟨gB, 6, none⟩ = some (.int .i64 (x_course)) := World.cell_of_heap HQ.out.box 6
    have ef6 : wq.frozen? ⟨gB, 6, none⟩ = false := World.free_of_heap HQ.out.box 6
    have ex7 : wq.cell? ⟨gB, 7, none⟩ = some (.int .i64 (y)) := World.cell_of_heap HQ.out.box 7
    have ef7 : wq.frozen? ⟨gB, 7, none⟩ = false := World.free_of_heap HQ.out.box 7
    have eob := World.oldB_of_cell ex0
    have gw0 := World.heap_setCell_row HQ.out.pre.res 0 (.int .i64 (id))
    simp only [List.setIfInBounds_toArray, List.set_cons_zero, List.set_cons_succ] at gw0
    have gc0 : (wq.setCell ⟨gR, 0, none⟩ (.int .i64 (id))).cell? ⟨gR, 0, none⟩ = some (.int .i64 (id)) := World.cell_of_heap gw0 0
    have gw1 := World.heap_setCell_row gw0 1 (.string x_name)
    simp only [List.setIfInBounds_toArray, List.set_cons_zero, List.set_cons_succ] at gw1
    have gc1 : ((wq.setCell ⟨gR, 0, none⟩ (.int .i64 (id))).setCell ⟨gR, 1, none⟩ (.string x_name)).cell? ⟨gR, 1, none⟩ = some (.string x_name) := World.cell_of_heap gw1 1
    have gw2 := World.heap_setCell_row gw1 2 (.int .i64 (x_low))
    simp only [List.setIfInBounds_toArray, List.set_cons_zero, List.set_cons_succ] at gw2
    have gc2 : (((wq.setCell ⟨gR, 0, none⟩ (.int .i64 (id))).setCell ⟨gR, 1, none⟩ (.string x_name)).setCell ⟨gR, 2, none⟩ (.int .i64 (x_low))).cell? ⟨gR, 2, none⟩ = some (.int .i64 (x_low)) := World.cell_of_heap gw2 2
    have gw3 := World.heap_setCell_row gw2 3 (.int .i64 (x_high))
    simp only [List.setIfInBounds_toArray, List.set_cons_zero, List.set_cons_succ] at gw3
    have gc3 : ((((wq.setCell ⟨gR, 0, none⟩ (.int .i64 (id))).setCell ⟨gR, 1, none⟩ (.string x_name)).setCell ⟨gR, 2, none⟩ (.int .i64 (x_low))).setCell ⟨gR, 3, none⟩ (.int .i64 (x_high))).cell? ⟨gR, 3, none⟩ = some (.int .i64 (x_high)) := World.cell_of_heap gw3 3
    have gw4 := World.heap_setCell_row gw3 4 (.bool x_women)
    simp only [List.setIfInBounds_toArray, List.set_cons_zero, List.set_cons_succ] at gw4
    have gc4 : (((((wq.setCell ⟨gR, 0, none⟩ (.int .i64 (id))).setCell ⟨gR, 1, none⟩ (.string x_name)).setCell ⟨gR, 2, none⟩ (.int .i64 (x_low))).setCell ⟨gR, 3, none⟩ (.int .i64 (x_high))).setCell ⟨gR, 4, none⟩ (.bool x_women)).cell? ⟨gR, 4, none⟩ = some (.bool x_women) := World.cell_of_heap gw4 4
    have gw5 := World.heap_setCell_row gw4 5 (.bool x_men2)
    simp only [List.setIfInBounds_toArray, List.set_cons_zero, List.set_cons_succ] at gw5
    have gc5 : ((((((wq.setCell ⟨gR, 0, none⟩ (.int .i64 (id))).setCell ⟨gR, 1, none⟩ (.string x_name)).setCell ⟨gR, 2, none⟩ (.int .i64 (x_low))).setCell ⟨gR, 3, none⟩ (.int .i64 (x_high))).setCell ⟨gR, 4, none⟩ (.bool x_women)).setCell ⟨gR, 5, none⟩ (.bool x_men2)).cell? ⟨gR, 5, none⟩ = some (.bool x_men2) := World.cell_of_heap gw5 5
    have gw6 := World.heap_setCell_row gw5 6 (.int .i64 (x_course))
    simp only [List.setIfInBounds_toArray, List.set_cons_zero, List.set_cons_succ] at gw6
    have gc6 : (((((((wq.setCell ⟨gR, 0, none⟩ (.int .i64 (id))).setCell ⟨gR, 1, none⟩ (.string x_name)).setCell ⟨gR, 2, none⟩ (.int .i64 (x_low))).setCell ⟨gR, 3, none⟩ (.int .i64 (x_high))).setCell ⟨gR, 4, none⟩ (.bool x_women)).setCell ⟨gR, 5, none⟩ (.bool x_men2)).setCell ⟨gR, 6, none⟩ (.int .i64 (x_course))).cell? ⟨gR, 6, none⟩ = some (.int .i64 (x_course)) := World.cell_of_heap gw6 6
    have gw7 := World.heap_setCell_row gw6 7 (.int .i64 (y))
    simp only [List.setIfInBounds_toArray, List.set_cons_zero, List.set_cons_succ] at gw7
    have gc7 : ((((((((wq.setCell ⟨gR, 0, none⟩ (.int .i64 (id))).setCell ⟨gR, 1, none⟩ (.string x_name)).setCell ⟨gR, 2, none⟩ (.int .i64 (x_low))).setCell ⟨gR, 3, none⟩ (.int .i64 (x_high))).setCell ⟨gR, 4, none⟩ (.bool x_women)).setCell ⟨gR, 5, none⟩ (.bool x_men2)).setCell ⟨gR, 6, none⟩ (.int .i64 (x_course))).setCell ⟨gR, 7, none⟩ (.int .i64 (y))).cell? ⟨gR, 7, none⟩ = some (.int .i64 (y)) := World.cell_of_heap gw7 7
    clear gw0 gw1 gw2 gw3 gw4 gw5 gw6 gw7
    have hon : World.grownBy wq ((((((((wq.setCell ⟨gR, 0, none⟩ (.int .i64 (id))).setCell ⟨gR, 1, none⟩ (.string x_name)).setCell ⟨gR, 2, none⟩ (.int .i64 (x_low))).setCell ⟨gR, 3, none⟩ (.int .i64 (x_high))).setCell ⟨gR, 4, none⟩ (.bool x_women)).setCell ⟨gR, 5, none⟩ (.bool x_men2)).setCell ⟨gR, 6, none⟩ (.int .i64 (x_course))).setCell ⟨gR, 7, none⟩ (.int .i64 (y))) (some gR) := only_setCell (p := ⟨gR, 7, none⟩) (only_setCell (p := ⟨gR, 6, none⟩) (only_setCell (p := ⟨gR, 5, none⟩) (only_setCell (p := ⟨gR, 4, none⟩) (only_setCell (p := ⟨gR, 3, none⟩) (only_setCell (p := ⟨gR, 2, none⟩) (only_setCell (p := ⟨gR, 1, none⟩) (only_setCell (p := ⟨gR, 0, none⟩) (only_refl _ _) rfl _) rfl _) rfl _) rfl _) rfl _) rfl _) rfl _) rfl _
    have HF := Lib.hid (HQ.out.fin hon)
    clear hon
    go_wp2
    refine bodyPost_ret (v := .agg #[.int .i64 (id), .string x_name, .int .i64 (x_low), .int .i64 (x_high), .bool x_women, .bool x_men2, .int .i64 (x_course), .int .i64 (y)]) (by simp [results, Tryz.results33, go_sem, gc0, gc1, gc2, gc3, gc4, gc5, gc6, gc7]) rfl ?_
    exact ⟨⟨id, x_name, x_low, x_high, x_women, x_men2, x_course, y⟩, rfl, hz_x_name, HF.out.1.le (by omega), HF.out.2⟩
  have hb0 : (r == 0) = false := by simpa using h0
  have hb1 : (r == 1) = false := by simpa using h1
  have hb2 : (r == 2) = false := by simpa using h2
  have hb3 : (r == 3) = false := by simpa using h3
  have hb4 : (r == 4) = false := by simpa using h4
  have hb5 : (r == 5) = false := by simpa using h5
  clear h0 h1 h2 h3 h4 h5
  go_upto_region 18 with fail
  have ey0 : u0.cell? ⟨gR, 0, none⟩ = some (.int .i64 0) := World.cell_of_heap HU.out.pre.res 0
  have ez0 : u0.frozen? ⟨gR, 0, none⟩ = false := World.free_of_heap HU.out.pre.res 0
  have ey1 : u0.cell? ⟨gR, 1, none⟩ = some (.string ⟨#[]⟩) := World.cell_of_heap HU.out.pre.res 1
  have ez1 : u0.frozen? ⟨gR, 1, none⟩ = false := World.free_of_heap HU.out.pre.res 1
  have ey2 : u0.cell? ⟨gR, 2, none⟩ = some (.int .i64 0) := World.cell_of_heap HU.out.pre.res 2
  have ez2 : u0.frozen? ⟨gR, 2, none⟩ = false := World.free_of_heap HU.out.pre.res 2
  have ey3 : u0.cell? ⟨gR, 3, none⟩ = some (.int .i64 0) := World.cell_of_heap HU.out.pre.res 3
  have ez3 : u0.frozen? ⟨gR, 3, none⟩ = false := World.free_of_heap HU.out.pre.res 3
  have ey4 : u0.cell? ⟨gR, 4, none⟩ = some (.bool false) := World.cell_of_heap HU.out.pre.res 4
  have ez4 : u0.frozen? ⟨gR, 4, none⟩ = false := World.free_of_heap HU.out.pre.res 4
  have ey5 : u0.cell? ⟨gR, 5, none⟩ = some (.bool false) := World.cell_of_heap HU.out.pre.res 5
  have ez5 : u0.frozen? ⟨gR, 5, none⟩ = false := World.free_of_heap HU.out.pre.res 5
  have ey6 : u0.cell? ⟨gR, 6, none⟩ = some (.int .i64 0) := World.cell_of_heap HU.out.pre.res 6
  have ez6 : u0.frozen? ⟨gR, 6, none⟩ = false := World.free_of_heap HU.out.pre.res 6
  have ey7 : u0.cell? ⟨gR, 7, none⟩ = some (.int .i64 0) := World.cell_of_heap HU.out.pre.res 7
  have ez7 : u0.frozen? ⟨gR, 7, none⟩ = false := World.free_of_heap HU.out.pre.res 7
  have eoc := World.oldB_of_cell ey0
  have ex0 : u0.cell? ⟨gB, 0, none⟩ = some (.int .i64 (id)) := World.cell_of_heap HU.out.box 0
  have ef0 : u0.frozen? ⟨gB, 0, none⟩ = false := World.free_of_heap HU.out.box 0
  have ex1 : u0.cell? ⟨gB, 1, none⟩ = some (.string x_name) := World.cell_of_heap HU.out.box 1
  have ef1 : u0.frozen? ⟨gB, 1, none⟩ = false := World.free_of_heap HU.out.box 1
  have ex2 : u0.cell? ⟨gB, 2, none⟩ = some (.int .i64 (x_low)) := World.cell_of_heap HU.out.box 2
  have ef2 : u0.frozen? ⟨gB, 2, none⟩ = false := World.free_of_heap HU.out.box 2
  have ex3 : u0.cell? ⟨gB, 3, none⟩ = some (.int .i64 (x_high)) := World.cell_of_heap HU.out.box 3
  have ef3 : u0.frozen? ⟨gB, 3, none⟩ = false := World.free_of_heap HU.out.box 3
  have ex4 : u0.cell? ⟨gB, 4, none⟩ = some (.bool x_women) := World.cell_of_heap HU.out.box 4
  have ef4 : u0.frozen? ⟨gB, 4, none⟩ = false := World.free_of_heap HU.out.box 4
  have ex5 : u0.cell? ⟨gB, 5, none⟩ = some (.bool x_men2) := World.cell_of_heap HU.out.box 5
  have ef5 : u0.frozen? ⟨gB, 5, none⟩ = false := World.free_of_heap HU.out.box 5
  have ex6 : u0.cell? ⟨gB, 6, none⟩ = some (.int .i64 (x_course)) := World.cell_of_heap HU.out.box 6
  have ef6 : u0.frozen? ⟨gB, 6, none⟩ = false := World.free_of_heap HU.out.box 6
  have ex7 : u0.cell? ⟨gB, 7, none⟩ = some (.int .i64 (x_most)) := World.cell_of_heap HU.out.box 7
  have ef7 : u0.frozen? ⟨gB, 7, none⟩ = false := World.free_of_heap HU.out.box 7
  have eob := World.oldB_of_cell ex0
  have gw0 := World.heap_setCell_row HU.out.pre.res 0 (.int .i64 (id))
  simp only [List.setIfInBounds_toArray, List.set_cons_zero, List.set_cons_succ] at gw0
  have gc0 : (u0.setCell ⟨gR, 0, none⟩ (.int .i64 (id))).cell? ⟨gR, 0, none⟩ = some (.int .i64 (id)) := World.cell_of_heap gw0 0
  have gw1 := World.heap_setCell_row gw0 1 (.string x_name)
  simp only [List.setIfInBounds_toArray, List.set_cons_zero, List.set_cons_succ] at gw1
  have gc1 : ((u0.setCell ⟨gR, 0, none⟩ (.int .i64 (id))).setCell ⟨gR, 1, none⟩ (.string x_name)).cell? ⟨gR, 1, none⟩ = some (.string x_name) := World.cell_of_heap gw1 1
  have gw2 := World.heap_setCell_row gw1 2 (.int .i64 (x_low))
  simp only [List.setIfInBounds_toArray, List.set_cons_zero, List.set_cons_succ] at gw2
  have gc2 : (((u0.setCell ⟨gR, 0, none⟩ (.int .i64 (id))).setCell ⟨gR, 1, none⟩ (.string x_name)).setCell ⟨gR, 2, none⟩ (.int .i64 (x_low))).cell? ⟨gR, 2, none⟩ = some (.int .i64 (x_low)) := World.cell_of_heap gw2 2
  have gw3 := World.heap_setCell_row gw2 3 (.int .i64 (x_high))
  simp only [List.setIfInBounds_toArray, List.set_cons_zero, List.set_cons_succ] at gw3
  have gc3 : ((((u0.setCell ⟨gR, 0, none⟩ (.int .i64 (id))).setCell ⟨gR, 1, none⟩ (.string x_name)).setCell ⟨gR, 2, none⟩ (.int .i64 (x_low))).setCell ⟨gR, 3, none⟩ (.int .i64 (x_high))).cell? ⟨gR, 3, none⟩ = some (.int .i64 (x_high)) := World.cell_of_heap gw3 3
  have gw4 := World.heap_setCell_row gw3 4 (.bool x_women)
  simp only [List.setIfInBounds_toArray, List.set_cons_zero, List.set_cons_succ] at gw4
  have gc4 : (((((u0.setCell ⟨gR, 0, none⟩ (.int .i64 (id))).setCell ⟨gR, 1, none⟩ (.string x_name)).setCell ⟨gR, 2, none⟩ (.int .i64 (x_low))).setCell ⟨gR, 3, none⟩ (.int .i64 (x_high))).setCell ⟨gR, 4, none⟩ (.bool x_women)).cell? ⟨gR, 4, none⟩ = some (.bool x_women) := World.cell_of_heap gw4 4
  have gw5 := World.heap_setCell_row gw4 5 (.bool x_men2)
  simp only [List.setIfInBounds_toArray, List.set_cons_zero, List.set_cons_succ] at gw5
  have gc5 : ((((((u0.setCell ⟨gR, 0, none⟩ (.int .i64 (id))).setCell ⟨gR, 1, none⟩ (.string x_name)).setCell ⟨gR, 2, none⟩ (.int .i64 (x_low))).setCell ⟨gR, 3, none⟩ (.int .i64 (x_high))).setCell ⟨gR, 4, none⟩ (.bool x_women)).setCell ⟨gR, 5, none⟩ (.bool x_men2)).cell? ⟨gR, 5, none⟩ = some (.bool x_men2) := World.cell_of_heap gw5 5
  have gw6 := World.heap_setCell_row gw5 6 (.int .i64 (x_course))
  simp only [List.setIfInBounds_toArray, List.set_cons_zero, List.set_cons_succ] at gw6
  have gc6 : (((((((u0.setCell ⟨gR, 0, none⟩ (.int .i64 (id))).setCell ⟨gR, 1, none⟩ (.string x_name)).setCell ⟨gR, 2, none⟩ (.int .i64 (x_low))).setCell ⟨gR, 3, none⟩ (.int .i64 (x_high))).setCell ⟨gR, 4, none⟩ (.bool x_women)).setCell ⟨gR, 5, none⟩ (.bool x_men2)).setCell ⟨gR, 6, none⟩ (.int .i64 (x_course))).cell? ⟨gR, 6, none⟩ = some (.int .i64 (x_course)) := World.cell_of_heap gw6 6
  have gw7 := World.heap_setCell_row gw6 7 (.int .i64 (x_most))
  simp only [List.setIfInBounds_toArray, List.set_cons_zero, List.set_cons_succ] at gw7
  have gc7 : ((((((((u0.setCell ⟨gR, 0, none⟩ (.int .i64 (id))).setCell ⟨gR, 1, none⟩ (.string x_name)).setCell ⟨gR, 2, none⟩ (.int .i64 (x_low))).setCell ⟨gR, 3, none⟩ (.int .i64 (x_high))).setCell ⟨gR, 4, none⟩ (.bool x_women)).setCell ⟨gR, 5, none⟩ (.bool x_men2)).setCell ⟨gR, 6, none⟩ (.int .i64 (x_course))).setCell ⟨gR, 7, none⟩ (.int .i64 (x_most))).cell? ⟨gR, 7, none⟩ = some (.int .i64 (x_most)) := World.cell_of_heap gw7 7
  clear gw0 gw1 gw2 gw3 gw4 gw5 gw6 gw7
  have hon : World.grownBy u0 ((((((((u0.setCell ⟨gR, 0, none⟩ (.int .i64 (id))).setCell ⟨gR, 1, none⟩ (.string x_name)).setCell ⟨gR, 2, none⟩ (.int .i64 (x_low))).setCell ⟨gR, 3, none⟩ (.int .i64 (x_high))).setCell ⟨gR, 4, none⟩ (.bool x_women)).setCell ⟨gR, 5, none⟩ (.bool x_men2)).setCell ⟨gR, 6, none⟩ (.int .i64 (x_course))).setCell ⟨gR, 7, none⟩ (.int .i64 (x_most))) (some gR) := only_setCell (p := ⟨gR, 7, none⟩) (only_setCell (p := ⟨gR, 6, none⟩) (only_setCell (p := ⟨gR, 5, none⟩) (only_setCell (p := ⟨gR, 4, none⟩) (only_setCell (p := ⟨gR, 3, none⟩) (only_setCell (p := ⟨gR, 2, none⟩) (only_setCell (p := ⟨gR, 1, none⟩) (only_setCell (p := ⟨gR, 0, none⟩) (only_refl _ _) rfl _) rfl _) rfl _) rfl _) rfl _) rfl _) rfl _) rfl _
  have HF := Lib.hid (HU.out.fin hon)
  clear hon
  go_wp2
  refine bodyPost_ret (v := .agg #[.int .i64 (id), .string x_name, .int .i64 (x_low), .int .i64 (x_high), .bool x_women, .bool x_men2, .int .i64 (x_course), .int .i64 (x_most)]) (by simp [results, Tryz.results33, go_sem, gc0, gc1, gc2, gc3, gc4, gc5, gc6, gc7]) rfl ?_
  exact ⟨⟨id, x_name, x_low, x_high, x_women, x_men2, x_course, x_most⟩, rfl, hz_x_name, HF.out.1.le (by omega), HF.out.2⟩
end Go.Proofs.YtffkkchflohhaaaGreatDoor
