/- spec.l1Cur's runner. Condition: the reader has been asked less than a hundred thousand times. -/
import Derived.Test.YtffkkchflohhaaaGreatDoorDrawOf
import Derived.Test.YtffkkchflohhaaaGreatDoorPlain
namespace Go.Proofs.YtffkkchflohhaaaGreatDoor
open Go.RowKit Go.Ori
set_option maxHeartbeats 8000000 in
set_option maxRecDepth 100000 in
theorem runner_any (W w : World) (g n : Nat) (id : Int) (h : Cur 62 W w g n) (hn : n ≤ 100000) :
    Calls Tryz.prog 54 #[.pointer (some ⟨g, 0, none⟩), .int .i64 id] w fun x w' => ∃ c : Runner, x = .returned (.agg #[.int .i64 (c.id), .string c.name, .string c.club, .int .i64 (c.born), .bool c.woman, .int .i64 (c.card)]) ∧ c.name.size ≤ 1048576 ∧ c.club.size ≤ 1048576 ∧ Cur 62 W w' g (n + 70) ∧ w.grownBy w' (some g) := by
  have HP0 := Lib.hid (PreSt.start (tC := 35) (Z := #[.int .i64 0, .string ⟨#[]⟩, .string ⟨#[]⟩, .int .i64 0, .bool false, .int .i64 0]) h)
  have hsz : (w.alloc (.cells #[.int .i64 0, .string ⟨#[]⟩, .string ⟨#[]⟩, .int .i64 0, .bool false, .int .i64 0] 35)).heap.size = w.heap.size + 1 := World.size_alloc _ _
  clear h
  go_enter Tryz.func54, Tryz.ntmps54
  go_wp2_with fail
  generalize w.alloc (.cells #[.int .i64 0, .string ⟨#[]⟩, .string ⟨#[]⟩, .int .i64 0, .bool false, .int .i64 0] 35) = w0 at HP0 hsz ⊢
  generalize hgR : w.heap.size = gR at HP0 hsz ⊢
  rw [← hsz]
  clear hgR hsz
  refine (of_any W _ g _ _ [(⟨#[97, 110, 110]⟩ : ByteArray), (⟨#[98, 111]⟩ : ByteArray), (⟨#[99, 121]⟩ : ByteArray), (⟨#[100, 105]⟩ : ByteArray)] w0.heap.size (HP0.out.cur.gain (by repeat (first | with_reducible (first | exact World.gained_refl _ | exact ⟨_, rfl⟩ | apply gain_ext | apply gain_alloc | apply gain_drewN | apply gain_drew) | (refine gain_setCell ?_ (by first | exact Nat.le_refl _ | exact World.size_ext _ _ | (simp; done) | (simp; omega)) _)))) (by omega) (own_lit' (w := w0) (e := 9) (base := w0.heap.size) (C := #[.string ⟨#[97, 110, 110]⟩, .string ⟨#[98, 111]⟩, .string ⟨#[99, 121]⟩, .string ⟨#[100, 105]⟩]) (l := [(⟨#[97, 110, 110]⟩ : ByteArray), (⟨#[98, 111]⟩ : ByteArray), (⟨#[99, 121]⟩ : ByteArray), (⟨#[100, 105]⟩ : ByteArray)]) strC_length rfl rfl (Nat.le_refl _)) HP0.out.cur.lt (by simp) (by simp)).mono ?_
  rintro e w1 ⟨x_name, rfl, hm, hc1, hg1⟩
  have HP1 := Lib.hid ((HP0.out.up (wr' := w0.alloc (.cells #[.string ⟨#[97, 110, 110]⟩, .string ⟨#[98, 111]⟩, .string ⟨#[99, 121]⟩, .string ⟨#[100, 105]⟩] 9)) (by repeat (first | with_reducible (first | exact World.gained_refl _ | exact ⟨_, rfl⟩ | apply gain_ext | apply gain_alloc | apply gain_drewN | apply gain_drew) | (refine gain_setCell ?_ (by first | exact Nat.le_refl _ | exact World.size_ext _ _ | (simp; done) | (simp; omega)) _)))).on hc1 hg1)
  have hz_x_name : x_name.size ≤ 1048576 := (show ∀ s ∈ [(⟨#[97, 110, 110]⟩ : ByteArray), (⟨#[98, 111]⟩ : ByteArray), (⟨#[99, 121]⟩ : ByteArray), (⟨#[100, 105]⟩ : ByteArray)], s.size ≤ 1048576 by decide) _ hm
  clear hm hc1 hg1 HP0
  go_wp2_with fail
  refine (of_any W _ g _ _ [(⟨#[104, 105, 108, 108]⟩ : ByteArray), (⟨#[104, 105, 108, 108]⟩ : ByteArray), (⟨#[102, 101, 110]⟩ : ByteArray), (⟨#[111, 97, 107]⟩ : ByteArray)] w1.heap.size (HP1.out.cur.gain (by repeat (first | with_reducible (first | exact World.gained_refl _ | exact ⟨_, rfl⟩ | apply gain_ext | apply gain_alloc | apply gain_drewN | apply gain_drew) | (refine gain_setCell ?_ (by first | exact Nat.le_refl _ | exact World.size_ext _ _ | (simp; done) | (simp; omega)) _)))) (by omega) (own_lit' (w := w1) (e := 9) (base := w1.heap.size) (C := #[.string ⟨#[104, 105, 108, 108]⟩, .string ⟨#[104, 105, 108, 108]⟩, .string ⟨#[102, 101, 110]⟩, .string ⟨#[111, 97, 107]⟩]) (l := [(⟨#[104, 105, 108, 108]⟩ : ByteArray), (⟨#[104, 105, 108, 108]⟩ : ByteArray), (⟨#[102, 101, 110]⟩ : ByteArray), (⟨#[111, 97, 107]⟩ : ByteArray)]) strC_length rfl rfl (Nat.le_refl _)) HP1.out.cur.lt (by simp) (by simp)).mono ?_
  rintro e w2 ⟨x_club, rfl, hm, hc1, hg1⟩
  have HP2 := Lib.hid ((HP1.out.up (wr' := w1.alloc (.cells #[.string ⟨#[104, 105, 108, 108]⟩, .string ⟨#[104, 105, 108, 108]⟩, .string ⟨#[102, 101, 110]⟩, .string ⟨#[111, 97, 107]⟩] 9)) (by repeat (first | with_reducible (first | exact World.gained_refl _ | exact ⟨_, rfl⟩ | apply gain_ext | apply gain_alloc | apply gain_drewN | apply gain_drew) | (refine gain_setCell ?_ (by first | exact Nat.le_refl _ | exact World.size_ext _ _ | (simp; done) | (simp; omega)) _)))).on hc1 hg1)
  have hz_x_club : x_club.size ≤ 1048576 := (show ∀ s ∈ [(⟨#[104, 105, 108, 108]⟩ : ByteArray), (⟨#[104, 105, 108, 108]⟩ : ByteArray), (⟨#[102, 101, 110]⟩ : ByteArray), (⟨#[111, 97, 107]⟩ : ByteArray)], s.size ≤ 1048576 by decide) _ hm
  clear hm hc1 hg1 HP1
  go_wp2_with fail
  refine (among_any W _ g _ _ [(1920 : Int), (1960 : Int), (1990 : Int), (2008 : Int), (2020 : Int)] w2.heap.size (HP2.out.cur.gain (by repeat (first | with_reducible (first | exact World.gained_refl _ | exact ⟨_, rfl⟩ | apply gain_ext | apply gain_alloc | apply gain_drewN | apply gain_drew) | (refine gain_setCell ?_ (by first | exact Nat.le_refl _ | exact World.size_ext _ _ | (simp; done) | (simp; omega)) _)))) (by omega) (own_lit' (w := w2) (e := 3) (base := w2.heap.size) (C := #[.int .i64 (1920), .int .i64 (1960), .int .i64 (1990), .int .i64 (2008), .int .i64 (2020)]) (l := [(1920 : Int), (1960 : Int), (1990 : Int), (2008 : Int), (2020 : Int)]) intC_length rfl rfl (Nat.le_refl _)) HP2.out.cur.lt (by simp) (by simp)).mono ?_
  rintro e w3 ⟨x_born, rfl, hm, hc1, hg1⟩
  have HP3 := Lib.hid ((HP2.out.up (wr' := w2.alloc (.cells #[.int .i64 (1920), .int .i64 (1960), .int .i64 (1990), .int .i64 (2008), .int .i64 (2020)] 3)) (by repeat (first | with_reducible (first | exact World.gained_refl _ | exact ⟨_, rfl⟩ | apply gain_ext | apply gain_alloc | apply gain_drewN | apply gain_drew) | (refine gain_setCell ?_ (by first | exact Nat.le_refl _ | exact World.size_ext _ _ | (simp; done) | (simp; omega)) _)))).on hc1 hg1)
  clear hm hc1 hg1 HP2
  go_wp2_with fail
  refine (one_any W _ g _ _ (HP3.out.cur.gain (by repeat (first | with_reducible (first | exact World.gained_refl _ | exact ⟨_, rfl⟩ | apply gain_ext | apply gain_alloc | apply gain_drewN | apply gain_drew) | (refine gain_setCell ?_ (by first | exact Nat.le_refl _ | exact World.size_ext _ _ | (simp; done) | (simp; omega)) _)))) (by omega)).mono ?_
  rintro e w4 ⟨x_woman, rfl, hc1, hg1⟩
  have HP4 := Lib.hid ((HP3.out.up (wr' := w3) (by repeat (first | with_reducible (first | exact World.gained_refl _ | exact ⟨_, rfl⟩ | apply gain_ext | apply gain_alloc | apply gain_drewN | apply gain_drew) | (refine gain_setCell ?_ (by first | exact Nat.le_refl _ | exact World.size_ext _ _ | (simp; done) | (simp; omega)) _)))).on hc1 hg1)
  clear hc1 hg1 HP3
  go_wp2_with fail
  refine (among_any W _ g _ _ [(0 : Int), (0 : Int), (1 : Int), (7 : Int), (8 : Int), (9 : Int), (815 : Int), (9999 : Int)] w4.heap.size (HP4.out.cur.gain (by repeat (first | with_reducible (first | exact World.gained_refl _ | exact ⟨_, rfl⟩ | apply gain_ext | apply gain_alloc | apply gain_drewN | apply gain_drew) | (refine gain_setCell ?_ (by first | exact Nat.le_refl _ | exact World.size_ext _ _ | (simp; done) | (simp; omega)) _)))) (by omega) (own_lit' (w := w4) (e := 3) (base := w4.heap.size) (C := #[.int .i64 (0), .int .i64 (0), .int .i64 (1), .int .i64 (7), .int .i64 (8), .int .i64 (9), .int .i64 (815), .int .i64 (9999)]) (l := [(0 : Int), (0 : Int), (1 : Int), (7 : Int), (8 : Int), (9 : Int), (815 : Int), (9999 : Int)]) intC_length rfl rfl (Nat.le_refl _)) HP4.out.cur.lt (by simp) (by simp)).mono ?_
  rintro e w5 ⟨x_card, rfl, hm, hc1, hg1⟩
  have HP5 := Lib.hid ((HP4.out.up (wr' := w4.alloc (.cells #[.int .i64 (0), .int .i64 (0), .int .i64 (1), .int .i64 (7), .int .i64 (8), .int .i64 (9), .int .i64 (815), .int .i64 (9999)] 3)) (by repeat (first | with_reducible (first | exact World.gained_refl _ | exact ⟨_, rfl⟩ | apply gain_ext | apply gain_alloc | apply gain_drewN | apply gain_drew) | (refine gain_setCell ?_ (by first | exact Nat.le_refl _ | exact World.size_ext _ _ | (simp; done) | (simp; omega)) _)))).on hc1 hg1)
  clear hm hc1 hg1 HP4
  go_wp2_with fail
  have HB0 := Lib.hid (HP5.out.box #[.int .i64 (id), .string x_name, .string x_club, .int .i64 (x_born), .bool x_woman, .int .i64 (x_card)])
  generalize w5.alloc (.cells #[.int .i64 (id), .string x_name, .string x_club, .int .i64 (x_born), .bool x_woman, .int .i64 (x_card)] 35) = v0 at HB0 ⊢
  generalize w5.heap.size = gB at HB0 ⊢
  clear HP5
  refine (pick_any W _ g _ _ (HB0.out.pre.cur.gain (by repeat (first | with_reducible (first | exact World.gained_refl _ | exact ⟨_, rfl⟩ | apply gain_ext | apply gain_alloc | apply gain_drewN | apply gain_drew) | (refine gain_setCell ?_ (by first | exact Nat.le_refl _ | exact World.size_ext _ _ | (simp; done) | (simp; omega)) _)))) (by omega)).mono ?_
  rintro e u0 ⟨r, rfl, -, -, hc1, hg1⟩
  have HU := Lib.hid ((HB0.out.up (by repeat (first | with_reducible (first | exact World.gained_refl _ | exact ⟨_, rfl⟩ | apply gain_ext | apply gain_alloc | apply gain_drewN | apply gain_drew) | (refine gain_setCell ?_ (by first | exact Nat.le_refl _ | exact World.size_ext _ _ | (simp; done) | (simp; omega)) _)))).on hc1 hg1)
  clear hc1 hg1 HB0
  by_cases h0 : r = 0
  · subst h0
    have ex0 : u0.cell? ⟨gB, 0, none⟩ = some (.int .i64 (id)) := World.cell_of_heap HU.out.box 0
    have ef0 : u0.frozen? ⟨gB, 0, none⟩ = false := World.free_of_heap HU.out.box 0
    have ex1 : u0.cell? ⟨gB, 1, none⟩ = some (.string x_name) := World.cell_of_heap HU.out.box 1
    have ef1 : u0.frozen? ⟨gB, 1, none⟩ = false := World.free_of_heap HU.out.box 1
    have ex2 : u0.cell? ⟨gB, 2, none⟩ = some (.string x_club) := World.cell_of_heap HU.out.box 2
    have ef2 : u0.frozen? ⟨gB, 2, none⟩ = false := World.free_of_heap HU.out.box 2
    have ex3 : u0.cell? ⟨gB, 3, none⟩ = some (.int .i64 (x_born)) := World.cell_of_heap HU.out.box 3
    have ef3 : u0.frozen? ⟨gB, 3, none⟩ = false := World.free_of_heap HU.out.box 3
    have ex4 : u0.cell? ⟨gB, 4, none⟩ = some (.bool x_woman) := World.cell_of_heap HU.out.box 4
    have ef4 : u0.frozen? ⟨gB, 4, none⟩ = false := World.free_of_heap HU.out.box 4
    have ex5 : u0.cell? ⟨gB, 5, none⟩ = some (.int .i64 (x_card)) := World.cell_of_heap HU.out.box 5
    have ef5 : u0.frozen? ⟨gB, 5, none⟩ = false := World.free_of_heap HU.out.box 5
    have eob := World.oldB_of_cell ex0
    go_wp2_with fail
    refine (among_any W _ g _ _ [(0 : Int), (999 : Int), (1000 : Int)] u0.heap.size (HU.out.pre.cur.gain (by repeat (first | with_reducible (first | exact World.gained_refl _ | exact ⟨_, rfl⟩ | apply gain_ext | apply gain_alloc | apply gain_drewN | apply gain_drew) | (refine gain_setCell ?_ (by first | exact Nat.le_refl _ | exact World.size_ext _ _ | (simp; done) | (simp; omega)) _)))) (by omega) (own_lit' (w := u0) (e := 3) (base := u0.heap.size) (C := #[.int .i64 (0), .int .i64 (999), .int .i64 (1000)]) (l := [(0 : Int), (999 : Int), (1000 : Int)]) intC_length rfl rfl (Nat.le_refl _)) HU.out.lt (by simp) (by simp)).mono ?_
    rintro e u1 ⟨y, rfl, hm, hc1, hg1⟩
    have HV := Lib.hid ((HU.out.up (wr' := u0.alloc (.cells #[.int .i64 (0), .int .i64 (999), .int .i64 (1000)] 3)) (by repeat (first | with_reducible (first | exact World.gained_refl _ | exact ⟨_, rfl⟩ | apply gain_ext | apply gain_alloc | apply gain_drewN | apply gain_drew) | (refine gain_setCell ?_ (by first | exact Nat.le_refl _ | exact World.size_ext _ _ | (simp; done) | (simp; omega)) _)))).on hc1 hg1)
    clear hm hc1 hg1 ex0 ef0 ex1 ef1 ex2 ef2 ex3 ef3 ex4 ef4 ex5 ef5 eob
    have ex0 : u1.cell? ⟨gB, 0, none⟩ = some (.int .i64 (id)) := World.cell_of_heap HV.out.box 0
    have ef0 : u1.frozen? ⟨gB, 0, none⟩ = false := World.free_of_heap HV.out.box 0
    have ex1 : u1.cell? ⟨gB, 1, none⟩ = some (.string x_name) := World.cell_of_heap HV.out.box 1
    have ef1 : u1.frozen? ⟨gB, 1, none⟩ = false := World.free_of_heap HV.out.box 1
    have ex2 : u1.cell? ⟨gB, 2, none⟩ = some (.string x_club) := World.cell_of_heap HV.out.box 2
    have ef2 : u1.frozen? ⟨gB, 2, none⟩ = false := World.free_of_heap HV.out.box 2
    have ex3 : u1.cell? ⟨gB, 3, none⟩ = some (.int .i64 (x_born)) := World.cell_of_heap HV.out.box 3
    have ef3 : u1.frozen? ⟨gB, 3, none⟩ = false := World.free_of_heap HV.out.box 3
    have ex4 : u1.cell? ⟨gB, 4, none⟩ = some (.bool x_woman) := World.cell_of_heap HV.out.box 4
    have ef4 : u1.frozen? ⟨gB, 4, none⟩ = false := World.free_of_heap HV.out.box 4
    have ex5 : u1.cell? ⟨gB, 5, none⟩ = some (.int .i64 (x_card)) := World.cell_of_heap HV.out.box 5
    have ef5 : u1.frozen? ⟨gB, 5, none⟩ = false := World.free_of_heap HV.out.box 5
    have eob := World.oldB_of_cell ex0
    go_upto_region 13 with fail
    have HQ := Lib.hid (HV.out.put 0 (.int .i64 (y)))
    simp only [List.setIfInBounds_toArray, List.set_cons_zero, List.set_cons_succ] at HQ
    generalize u1.setCell ⟨gB, 0, none⟩ (.int .i64 (y)) = wq at HQ ⊢
    clear ex0 ef0 ex1 ef1 ex2 ef2 ex3 ef3 ex4 ef4 ex5 ef5 eob
    have ey0 : wq.cell? ⟨gR, 0, none⟩ = some (.int .i64 0) := World.cell_of_heap HQ.out.pre.res 0
    have ez0 : wq.frozen? ⟨gR, 0, none⟩ = false := World.free_of_heap HQ.out.pre.res 0
    have ey1 : wq.cell? ⟨gR, 1, none⟩ = some (.string ⟨#[]⟩) := World.cell_of_heap HQ.out.pre.res 1
    have ez1 : wq.frozen? ⟨gR, 1, none⟩ = false := World.free_of_heap HQ.out.pre.res 1
    have ey2 : wq.cell? ⟨gR, 2, none⟩ = some (.string ⟨#[]⟩) := World.cell_of_heap HQ.out.pre.res 2
    have ez2 : wq.frozen? ⟨gR, 2, none⟩ = false := World.free_of_heap HQ.out.pre.res 2
    have ey3 : wq.cell? ⟨gR, 3, none⟩ = some (.int .i64 0) := World.cell_of_heap HQ.out.pre.res 3
    have ez3 : wq.frozen? ⟨gR, 3, none⟩ = false := World.free_of_heap HQ.out.pre.res 3
    have ey4 : wq.cell? ⟨gR, 4, none⟩ = some (.bool false) := World.cell_of_heap HQ.out.pre.res 4
    have ez4 : wq.frozen? ⟨gR, 4, none⟩ = false := World.free_of_heap HQ.out.pre.res 4
    have ey5 : wq.cell? ⟨gR, 5, none⟩ = some (.int .i64 0) := World.cell_of_heap HQ.out.pre.res 5
    have ez5 : wq.frozen? ⟨gR, 5, none⟩ = false := World.free_of_heap HQ.out.pre.res 5
    have eoc := World.oldB_of_cell ey0
    have ex0 : wq.cell? ⟨gB, 0, none⟩ = some (.int .i64 (y)) := World.cell_of_heap HQ.out.box 0
    have ef0 : wq.frozen? ⟨gB, 0, none⟩ = false := World.free_of_heap HQ.out.box 0
    have ex1 : wq.cell? ⟨gB, 1, none⟩ = some (.string x_name) := World.cell_of_heap HQ.out.box 1
    have ef1 : wq.frozen? ⟨gB, 1, none⟩ = false := World.free_of_heap HQ.out.box 1
    have ex2 : wq.cell? ⟨gB, 2, none⟩ = some (.string x_club) := World.cell_of_heap HQ.out.box 2
    have ef2 : wq.frozen? ⟨gB, 2, none⟩ = false := World.free_of_heap HQ.out.box 2
    have ex3 : wq.cell? ⟨gB, 3, none⟩ = some (.int .i64 (x_born)) := World.cell_of_heap HQ.out.box 3
    have ef3 : wq.frozen? ⟨gB, 3, none⟩ = false := World.free_of_heap HQ.out.box 3
    have ex4 : wq.cell? ⟨gB, 4, none⟩ = some (.bool x_woman) := World.cell_of_heap HQ.out.box 4
    have ef4 : wq.frozen? ⟨gB, 4, none⟩ = false := World.free_of_heap HQ.out.box 4
    have ex5 : wq.cell? ⟨gB, 5, none⟩ = some (.int .i64 (x_card)) := World.cell_of_heap HQ.out.box 5
    have ef5 : wq.frozen? ⟨gB, 5, none⟩ = false := World.free_of_heap HQ.out.box 5
    have eob := World.oldB_of_cell ex0
    have gw0 := World.heap_setCell_row HQ.out.pre.res 0 (.int .i64 (y))
    simp only [List.setIfInBounds_toArray, List.set_cons_zero, List.set_cons_succ] at gw0
    have gc0 : (wq.setCell ⟨gR, 0, none⟩ (.int .i64 (y))).cell? ⟨gR, 0, none⟩ = some (.int .i64 (y)) := World.cell_of_heap gw0 0
    have gw1 := World.heap_setCell_row gw0 1 (.string x_name)
    simp only [List.setIfInBounds_toArray, List.set_cons_zero, List.set_cons_succ] at gw1
    have gc1 : ((wq.setCell ⟨gR, 0, none⟩ (.int .i64 (y))).setCell ⟨gR, 1, none⟩ (.string x_name)).cell? ⟨gR, 1, none⟩ = some (.string x_name) := World.cell_of_heap gw1 1
    have gw2 := World.heap_setCell_row gw1 2 (.string x_club)
    simp only [List.setIfInBounds_toArray, List.set_cons_zero, List.set_cons_succ] at gw2
    have gc2 : (((wq.setCell ⟨gR, 0, none⟩ (.int .i64 (y))).setCell ⟨gR, 1, none⟩ (.string x_name)).setCell ⟨gR, 2, none⟩ (.string x_club)).cell? ⟨gR, 2, none⟩ = some (.string x_club) := World.cell_of_heap gw2 2
    have gw3 := World.heap_setCell_row gw2 3 (.int .i64 (x_born))
    simp only [List.setIfInBounds_toArray, List.set_cons_zero, List.set_cons_succ] at gw3
    have gc3 : ((((wq.setCell ⟨gR, 0, none⟩ (.int .i64 (y))).setCell ⟨gR, 1, none⟩ (.string x_name)).setCell ⟨gR, 2, none⟩ (.string x_club)).setCell ⟨gR, 3, none⟩ (.int .i64 (x_born))).cell? ⟨gR, 3, none⟩ = some (.int .i64 (x_born)) := World.cell_of_heap gw3 3
    have gw4 := World.heap_setCell_row gw3 4 (.bool x_woman)
    simp only [List.setIfInBounds_toArray, List.set_cons_zero, List.set_cons_succ] at gw4
    have gc4 : (((((wq.setCell ⟨gR, 0, none⟩ (.int .i64 (y))).setCell ⟨gR, 1, none⟩ (.string x_name)).setCell ⟨gR, 2, none⟩ (.string x_club)).setCell ⟨gR, 3, none⟩ (.int .i64 (x_born))).setCell ⟨gR, 4, none⟩ (.bool x_woman)).cell? ⟨gR, 4, none⟩ = some (.bool x_woman) := World.cell_of_heap gw4 4
    have gw5 := World.heap_setCell_row gw4 5 (.int .i64 (x_card))
    simp only [List.setIfInBounds_toArray, List.set_cons_zero, List.set_cons_succ] at gw5
    have gc5 : ((((((wq.setCell ⟨gR, 0, none⟩ (.int .i64 (y))).setCell ⟨gR, 1, none⟩ (.string x_name)).setCell ⟨gR, 2, none⟩ (.string x_club)).setCell ⟨gR, 3, none⟩ (.int .i64 (x_born))).setCell ⟨gR, 4, none⟩ (.bool x_woman)).setCell ⟨gR, 5, none⟩ (.int .i64 (x_card))).cell? ⟨gR, 5, none⟩ = some (.int .i64 (x_card)) := World.cell_of_heap gw5 5
    clear gw0 gw1 gw2 gw3 gw4 gw5
    have hon : World.grownBy wq ((((((wq.setCell ⟨gR, 0, none⟩ (.int .i64 (y))).setCell ⟨gR, 1, none⟩ (.string x_name)).setCell ⟨gR, 2, none⟩ (.string x_club)).setCell ⟨gR, 3, none⟩ (.int .i64 (x_born))).setCell ⟨gR, 4, none⟩ (.bool x_woman)).setCell ⟨gR, 5, none⟩ (.int .i64 (x_card))) (some gR) := only_setCell (p := ⟨gR, 5, none⟩) (only_setCell (p := ⟨gR, 4, none⟩) (only_setCell (p := ⟨gR, 3, none⟩) (only_setCell (p := ⟨gR, 2, none⟩) (only_setCell (p := ⟨gR, 1, none⟩) (only_setCell (p := ⟨gR, 0, none⟩) (only_refl _ _) rfl _) rfl _) rfl _) rfl _) rfl _) rfl _
    have HF := Lib.hid (HQ.out.fin hon)
    clear hon
    go_wp2
    refine bodyPost_ret (v := .agg #[.int .i64 (y), .string x_name, .string x_club, .int .i64 (x_born), .bool x_woman, .int .i64 (x_card)]) (by simp [results, Tryz.results54, go_sem, gc0, gc1, gc2, gc3, gc4, gc5]) rfl ?_
    exact ⟨⟨y, x_name, x_club, x_born, x_woman, x_card⟩, rfl, hz_x_name, hz_x_club, HF.out.1.le (by omega), HF.out.2⟩
  by_cases h1 : r = 1
  · subst h1
    have ex0 : u0.cell? ⟨gB, 0, none⟩ = some (.int .i64 (id)) := World.cell_of_heap HU.out.box 0
    have ef0 : u0.frozen? ⟨gB, 0, none⟩ = false := World.free_of_heap HU.out.box 0
    have ex1 : u0.cell? ⟨gB, 1, none⟩ = some (.string x_name) := World.cell_of_heap HU.out.box 1
    have ef1 : u0.frozen? ⟨gB, 1, none⟩ = false := World.free_of_heap HU.out.box 1
    have ex2 : u0.cell? ⟨gB, 2, none⟩ = some (.string x_club) := World.cell_of_heap HU.out.box 2
    have ef2 : u0.frozen? ⟨gB, 2, none⟩ = false := World.free_of_heap HU.out.box 2
    have ex3 : u0.cell? ⟨gB, 3, none⟩ = some (.int .i64 (x_born)) := World.cell_of_heap HU.out.box 3
    have ef3 : u0.frozen? ⟨gB, 3, none⟩ = false := World.free_of_heap HU.out.box 3
    have ex4 : u0.cell? ⟨gB, 4, none⟩ = some (.bool x_woman) := World.cell_of_heap HU.out.box 4
    have ef4 : u0.frozen? ⟨gB, 4, none⟩ = false := World.free_of_heap HU.out.box 4
    have ex5 : u0.cell? ⟨gB, 5, none⟩ = some (.int .i64 (x_card)) := World.cell_of_heap HU.out.box 5
    have ef5 : u0.frozen? ⟨gB, 5, none⟩ = false := World.free_of_heap HU.out.box 5
    have eob := World.oldB_of_cell ex0
    go_wp2_with fail
    refine (of_any W _ g _ _ [(⟨#[]⟩ : ByteArray), (⟨#[65]⟩ : ByteArray), (⟨#[97, 98, 99, 100, 101, 102, 103, 104, 105, 106, 107]⟩ : ByteArray)] u0.heap.size (HU.out.pre.cur.gain (by repeat (first | with_reducible (first | exact World.gained_refl _ | exact ⟨_, rfl⟩ | apply gain_ext | apply gain_alloc | apply gain_drewN | apply gain_drew) | (refine gain_setCell ?_ (by first | exact Nat.le_refl _ | exact World.size_ext _ _ | (simp; done) | (simp; omega)) _)))) (by omega) (own_lit' (w := u0) (e := 9) (base := u0.heap.size) (C := #[.string ⟨#[]⟩, .string ⟨#[65]⟩, .string ⟨#[97, 98, 99, 100, 101, 102, 103, 104, 105, 106, 107]⟩]) (l := [(⟨#[]⟩ : ByteArray), (⟨#[65]⟩ : ByteArray), (⟨#[97, 98, 99, 100, 101, 102, 103, 104, 105, 106, 107]⟩ : ByteArray)]) strC_length rfl rfl (Nat.le_refl _)) HU.out.lt (by simp) (by simp)).mono ?_
    rintro e u1 ⟨y, rfl, hm, hc1, hg1⟩
    have HV := Lib.hid ((HU.out.up (wr' := u0.alloc (.cells #[.string ⟨#[]⟩, .string ⟨#[65]⟩, .string ⟨#[97, 98, 99, 100, 101, 102, 103, 104, 105, 106, 107]⟩] 9)) (by repeat (first | with_reducible (first | exact World.gained_refl _ | exact ⟨_, rfl⟩ | apply gain_ext | apply gain_alloc | apply gain_drewN | apply gain_drew) | (refine gain_setCell ?_ (by first | exact Nat.le_refl _ | exact World.size_ext _ _ | (simp; done) | (simp; omega)) _)))).on hc1 hg1)
    have hz_y : y.size ≤ 1048576 := (show ∀ s ∈ [(⟨#[]⟩ : ByteArray), (⟨#[65]⟩ : ByteArray), (⟨#[97, 98, 99, 100, 101, 102, 103, 104, 105, 106, 107]⟩ : ByteArray)], s.size ≤ 1048576 by decide) _ hm
    clear hm hc1 hg1 ex0 ef0 ex1 ef1 ex2 ef2 ex3 ef3 ex4 ef4 ex5 ef5 eob
    have ex0 : u1.cell? ⟨gB, 0, none⟩ = some (.int .i64 (id)) := World.cell_of_heap HV.out.box 0
    have ef0 : u1.frozen? ⟨gB, 0, none⟩ = false := World.free_of_heap HV.out.box 0
    have ex1 : u1.cell? ⟨gB, 1, none⟩ = some (.string x_name) := World.cell_of_heap HV.out.box 1
    have ef1 : u1.frozen? ⟨gB, 1, none⟩ = false := World.free_of_heap HV.out.box 1
    have ex2 : u1.cell? ⟨gB, 2, none⟩ = some (.string x_club) := World.cell_of_heap HV.out.box 2
    have ef2 : u1.frozen? ⟨gB, 2, none⟩ = false := World.free_of_heap HV.out.box 2
    have ex3 : u1.cell? ⟨gB, 3, none⟩ = some (.int .i64 (x_born)) := World.cell_of_heap HV.out.box 3
    have ef3 : u1.frozen? ⟨gB, 3, none⟩ = false := World.free_of_heap HV.out.box 3
    have ex4 : u1.cell? ⟨gB, 4, none⟩ = some (.bool x_woman) := World.cell_of_heap HV.out.box 4
    have ef4 : u1.frozen? ⟨gB, 4, none⟩ = false := World.free_of_heap HV.out.box 4
    have ex5 : u1.cell? ⟨gB, 5, none⟩ = some (.int .i64 (x_card)) := World.cell_of_heap HV.out.box 5
    have ef5 : u1.frozen? ⟨gB, 5, none⟩ = false := World.free_of_heap HV.out.box 5
    have eob := World.oldB_of_cell ex0
    go_upto_region 13 with fail
    have HQ := Lib.hid (HV.out.put 1 (.string y))
    simp only [List.setIfInBounds_toArray, List.set_cons_zero, List.set_cons_succ] at HQ
    generalize u1.setCell ⟨gB, 1, none⟩ (.string y) = wq at HQ ⊢
    clear ex0 ef0 ex1 ef1 ex2 ef2 ex3 ef3 ex4 ef4 ex5 ef5 eob
    have ey0 : wq.cell? ⟨gR, 0, none⟩ = some (.int .i64 0) := World.cell_of_heap HQ.out.pre.res 0
    have ez0 : wq.frozen? ⟨gR, 0, none⟩ = false := World.free_of_heap HQ.out.pre.res 0
    have ey1 : wq.cell? ⟨gR, 1, none⟩ = some (.string ⟨#[]⟩) := World.cell_of_heap HQ.out.pre.res 1
    have ez1 : wq.frozen? ⟨gR, 1, none⟩ = false := World.free_of_heap HQ.out.pre.res 1
    have ey2 : wq.cell? ⟨gR, 2, none⟩ = some (.string ⟨#[]⟩) := World.cell_of_heap HQ.out.pre.res 2
    have ez2 : wq.frozen? ⟨gR, 2, none⟩ = false := World.free_of_heap HQ.out.pre.res 2
    have ey3 : wq.cell? ⟨gR, 3, none⟩ = some (.int .i64 0) := World.cell_of_heap HQ.out.pre.res 3
    have ez3 : wq.frozen? ⟨gR, 3, none⟩ = false := World.free_of_heap HQ.out.pre.res 3
    have ey4 : wq.cell? ⟨gR, 4, none⟩ = some (.bool false) := World.cell_of_heap HQ.out.pre.res 4
    have ez4 : wq.frozen? ⟨gR, 4, none⟩ = false := World.free_of_heap HQ.out.pre.res 4
    have ey5 : wq.cell? ⟨gR, 5, none⟩ = some (.int .i64 0) := World.cell_of_heap HQ.out.pre.res 5
    have ez5 : wq.frozen? ⟨gR, 5, none⟩ = false := World.free_of_heap HQ.out.pre.res 5
    have eoc := World.oldB_of_cell ey0
    have ex0 : wq.cell? ⟨gB, 0, none⟩ = some (.int .i64 (id)) := World.cell_of_heap HQ.out.box 0
    have ef0 : wq.frozen? ⟨gB, 0, none⟩ = false := World.free_of_heap HQ.out.box 0
    have ex1 : wq.cell? ⟨gB, 1, none⟩ = some (.string y) := World.cell_of_heap HQ.out.box 1
    have ef1 : wq.frozen? ⟨gB, 1, none⟩ = false := World.free_of_heap HQ.out.box 1
    have ex2 : wq.cell? ⟨gB, 2, none⟩ = some (.string x_club) := World.cell_of_heap HQ.out.box 2
    have ef2 : wq.frozen? ⟨gB, 2, none⟩ = false := World.free_of_heap HQ.out.box 2
    have ex3 : wq.cell? ⟨gB, 3, none⟩ = some (.int .i64 (x_born)) := World.cell_of_heap HQ.out.box 3
    have ef3 : wq.frozen? ⟨gB, 3, none⟩ = false := World.free_of_heap HQ.out.box 3
    have ex4 : wq.cell? ⟨gB, 4, none⟩ = some (.bool x_woman) := World.cell_of_heap HQ.out.box 4
    have ef4 : wq.frozen? ⟨gB, 4, none⟩ = false := World.free_of_heap HQ.out.box 4
    have ex5 : wq.cell? ⟨gB, 5, none⟩ = some (.int .i64 (x_card)) := World.cell_of_heap HQ.out.box 5
    have ef5 : wq.frozen? ⟨gB, 5, none⟩ = false := World.free_of_heap HQ.out.box 5
    have eob := World.oldB_of_cell ex0
    have gw0 := World.heap_setCell_row HQ.out.pre.res 0 (.int .i64 (id))
    simp only [List.setIfInBounds_toArray, List.set_cons_zero, List.set_cons_succ] at gw0
    have gc0 : (wq.setCell ⟨gR, 0, none⟩ (.int .i64 (id))).cell? ⟨gR, 0, none⟩ = some (.int .i64 (id)) := World.cell_of_heap gw0 0
    have gw1 := World.heap_setCell_row gw0 1 (.string y)
    simp only [List.setIfInBounds_toArray, List.set_cons_zero, List.set_cons_succ] at gw1
    have gc1 : ((wq.setCell ⟨gR, 0, none⟩ (.int .i64 (id))).setCell ⟨gR, 1, none⟩ (.string y)).cell? ⟨gR, 1, none⟩ = some (.string y) := World.cell_of_heap gw1 1
    have gw2 := World.heap_setCell_row gw1 2 (.string x_club)
    simp only [List.setIfInBounds_toArray, List.set_cons_zero, List.set_cons_succ] at gw2
    have gc2 : (((wq.setCell ⟨gR, 0, none⟩ (.int .i64 (id))).setCell ⟨gR, 1, none⟩ (.string y)).setCell ⟨gR, 2, none⟩ (.string x_club)).cell? ⟨gR, 2, none⟩ = some (.string x_club) := World.cell_of_heap gw2 2
    have gw3 := World.heap_setCell_row gw2 3 (.int .i64 (x_born))
    simp only [List.setIfInBounds_toArray, List.set_cons_zero, List.set_cons_succ] at gw3
    have gc3 : ((((wq.setCell ⟨gR, 0, none⟩ (.int .i64 (id))).setCell ⟨gR, 1, none⟩ (.string y)).setCell ⟨gR, 2, none⟩ (.string x_club)).setCell ⟨gR, 3, none⟩ (.int .i64 (x_born))).cell? ⟨gR, 3, none⟩ = some (.int .i64 (x_born)) := World.cell_of_heap gw3 3
    have gw4 := World.heap_setCell_row gw3 4 (.bool x_woman)
    simp only [List.setIfInBounds_toArray, List.set_cons_zero, List.set_cons_succ] at gw4
    have gc4 : (((((wq.setCell ⟨gR, 0, none⟩ (.int .i64 (id))).setCell ⟨gR, 1, none⟩ (.string y)).setCell ⟨gR, 2, none⟩ (.string x_club)).setCell ⟨gR, 3, none⟩ (.int .i64 (x_born))).setCell ⟨gR, 4, none⟩ (.bool x_woman)).cell? ⟨gR, 4, none⟩ = some (.bool x_woman) := World.cell_of_heap gw4 4
    have gw5 := World.heap_setCell_row gw4 5 (.int .i64 (x_card))
    simp only [List.setIfInBounds_toArray, List.set_cons_zero, List.set_cons_succ] at gw5
    have gc5 : ((((((wq.setCell ⟨gR, 0, none⟩ (.int .i64 (id))).setCell ⟨gR, 1, none⟩ (.string y)).setCell ⟨gR, 2, none⟩ (.string x_club)).setCell ⟨gR, 3, none⟩ (.int .i64 (x_born))).setCell ⟨gR, 4, none⟩ (.bool x_woman)).setCell ⟨gR, 5, none⟩ (.int .i64 (x_card))).cell? ⟨gR, 5, none⟩ = some (.int .i64 (x_card)) := World.cell_of_heap gw5 5
    clear gw0 gw1 gw2 gw3 gw4 gw5
    have hon : World.grownBy wq ((((((wq.setCell ⟨gR, 0, none⟩ (.int .i64 (id))).setCell ⟨gR, 1, none⟩ (.string y)).setCell ⟨gR, 2, none⟩ (.string x_club)).setCell ⟨gR, 3, none⟩ (.int .i64 (x_born))).setCell ⟨gR, 4, none⟩ (.bool x_woman)).setCell ⟨gR, 5, none⟩ (.int .i64 (x_card))) (some gR) := only_setCell (p := ⟨gR, 5, none⟩) (only_setCell (p := ⟨gR, 4, none⟩) (only_setCell (p := ⟨gR, 3, none⟩) (only_setCell (p := ⟨gR, 2, none⟩) (only_setCell (p := ⟨gR, 1, none⟩) (only_setCell (p := ⟨gR, 0, none⟩) (only_refl _ _) rfl _) rfl _) rfl _) rfl _) rfl _) rfl _
    have HF := Lib.hid (HQ.out.fin hon)
    clear hon
    go_wp2
    refine bodyPost_ret (v := .agg #[.int .i64 (id), .string y, .string x_club, .int .i64 (x_born), .bool x_woman, .int .i64 (x_card)]) (by simp [results, Tryz.results54, go_sem, gc0, gc1, gc2, gc3, gc4, gc5]) rfl ?_
    exact ⟨⟨id, y, x_club, x_born, x_woman, x_card⟩, rfl, hz_y, hz_x_club, HF.out.1.le (by omega), HF.out.2⟩
  by_cases h2 : r = 2
  · subst h2
    have ex0 : u0.cell? ⟨gB, 0, none⟩ = some (.int .i64 (id)) := World.cell_of_heap HU.out.box 0
    have ef0 : u0.frozen? ⟨gB, 0, none⟩ = false := World.free_of_heap HU.out.box 0
    have ex1 : u0.cell? ⟨gB, 1, none⟩ = some (.string x_name) := World.cell_of_heap HU.out.box 1
    have ef1 : u0.frozen? ⟨gB, 1, none⟩ = false := World.free_of_heap HU.out.box 1
    have ex2 : u0.cell? ⟨gB, 2, none⟩ = some (.string x_club) := World.cell_of_heap HU.out.box 2
    have ef2 : u0.frozen? ⟨gB, 2, none⟩ = false := World.free_of_heap HU.out.box 2
    have ex3 : u0.cell? ⟨gB, 3, none⟩ = some (.int .i64 (x_born)) := World.cell_of_heap HU.out.box 3
    have ef3 : u0.frozen? ⟨gB, 3, none⟩ = false := World.free_of_heap HU.out.box 3
    have ex4 : u0.cell? ⟨gB, 4, none⟩ = some (.bool x_woman) := World.cell_of_heap HU.out.box 4
    have ef4 : u0.frozen? ⟨gB, 4, none⟩ = false := World.free_of_heap HU.out.box 4
    have ex5 : u0.cell? ⟨gB, 5, none⟩ = some (.int .i64 (x_card)) := World.cell_of_heap HU.out.box 5
    have ef5 : u0.frozen? ⟨gB, 5, none⟩ = false := World.free_of_heap HU.out.box 5
    have eob := World.oldB_of_cell ex0
    go_wp2_with fail
    refine (of_any W _ g _ _ [(⟨#[]⟩ : ByteArray), (⟨#[65]⟩ : ByteArray), (⟨#[97, 98, 99, 100, 101, 102, 103, 104, 105, 106, 107]⟩ : ByteArray)] u0.heap.size (HU.out.pre.cur.gain (by repeat (first | with_reducible (first | exact World.gained_refl _ | exact ⟨_, rfl⟩ | apply gain_ext | apply gain_alloc | apply gain_drewN | apply gain_drew) | (refine gain_setCell ?_ (by first | exact Nat.le_refl _ | exact World.size_ext _ _ | (simp; done) | (simp; omega)) _)))) (by omega) (own_lit' (w := u0) (e := 9) (base := u0.heap.size) (C := #[.string ⟨#[]⟩, .string ⟨#[65]⟩, .string ⟨#[97, 98, 99, 100, 101, 102, 103, 104, 105, 106, 107]⟩]) (l := [(⟨#[]⟩ : ByteArray), (⟨#[65]⟩ : ByteArray), (⟨#[97, 98, 99, 100, 101, 102, 103, 104, 105, 106, 107]⟩ : ByteArray)]) strC_length rfl rfl (Nat.le_refl _)) HU.out.lt (by simp) (by simp)).mono ?_
    rintro e u1 ⟨y, rfl, hm, hc1, hg1⟩
    have HV := Lib.hid ((HU.out.up (wr' := u0.alloc (.cells #[.string ⟨#[]⟩, .string ⟨#[65]⟩, .string ⟨#[97, 98, 99, 100, 101, 102, 103, 104, 105, 106, 107]⟩] 9)) (by repeat (first | with_reducible (first | exact World.gained_refl _ | exact ⟨_, rfl⟩ | apply gain_ext | apply gain_alloc | apply gain_drewN | apply gain_drew) | (refine gain_setCell ?_ (by first | exact Nat.le_refl _ | exact World.size_ext _ _ | (simp; done) | (simp; omega)) _)))).on hc1 hg1)
    have hz_y : y.size ≤ 1048576 := (show ∀ s ∈ [(⟨#[]⟩ : ByteArray), (⟨#[65]⟩ : ByteArray), (⟨#[97, 98, 99, 100, 101, 102, 103, 104, 105, 106, 107]⟩ : ByteArray)], s.size ≤ 1048576 by decide) _ hm
    clear hm hc1 hg1 ex0 ef0 ex1 ef1 ex2 ef2 ex3 ef3 ex4 ef4 ex5 ef5 eob
    have ex0 : u1.cell? ⟨gB, 0, none⟩ = some (.int .i64 (id)) := World.cell_of_heap HV.out.box 0
    have ef0 : u1.frozen? ⟨gB, 0, none⟩ = false := World.free_of_heap HV.out.box 0
    have ex1 : u1.cell? ⟨gB, 1, none⟩ = some (.string x_name) := World.cell_of_heap HV.out.box 1
    have ef1 : u1.frozen? ⟨gB, 1, none⟩ = false := World.free_of_heap HV.out.box 1
    have ex2 : u1.cell? ⟨gB, 2, none⟩ = some (.string x_club) := World.cell_of_heap HV.out.box 2
    have ef2 : u1.frozen? ⟨gB, 2, none⟩ = false := World.free_of_heap HV.out.box 2
    have ex3 : u1.cell? ⟨gB, 3, none⟩ = some (.int .i64 (x_born)) := World.cell_of_heap HV.out.box 3
    have ef3 : u1.frozen? ⟨gB, 3, none⟩ = false := World.free_of_heap HV.out.box 3
    have ex4 : u1.cell? ⟨gB, 4, none⟩ = some (.bool x_woman) := World.cell_of_heap HV.out.box 4
    have ef4 : u1.frozen? ⟨gB, 4, none⟩ = false := World.free_of_heap HV.out.box 4
    have ex5 : u1.cell? ⟨gB, 5, none⟩ = some (.int .i64 (x_card)) := World.cell_of_heap HV.out.box 5
    have ef5 : u1.frozen? ⟨gB, 5, none⟩ = false := World.free_of_heap HV.out.box 5
    have eob := World.oldB_of_cell ex0
    go_upto_region 13 with fail
    have HQ := Lib.hid (HV.out.put 2 (.string y))
    simp only [List.setIfInBounds_toArray, List.set_cons_zero, List.set_cons_succ] at HQ
    generalize u1.setCell ⟨gB, 2, none⟩ (.string y) = wq at HQ ⊢
    clear ex0 ef0 ex1 ef1 ex2 ef2 ex3 ef3 ex4 ef4 ex5 ef5 eob
    have ey0 : wq.cell? ⟨gR, 0, none⟩ = some (.int .i64 0) := World.cell_of_heap HQ.out.pre.res 0
    have ez0 : wq.frozen? ⟨gR, 0, none⟩ = false := World.free_of_heap HQ.out.pre.res 0
    have ey1 : wq.cell? ⟨gR, 1, none⟩ = some (.string ⟨#[]⟩) := World.cell_of_heap HQ.out.pre.res 1
    have ez1 : wq.frozen? ⟨gR, 1, none⟩ = false := World.free_of_heap HQ.out.pre.res 1
    have ey2 : wq.cell? ⟨gR, 2, none⟩ = some (.string ⟨#[]⟩) := World.cell_of_heap HQ.out.pre.res 2
    have ez2 : wq.frozen? ⟨gR, 2, none⟩ = false := World.free_of_heap HQ.out.pre.res 2
    have ey3 : wq.cell? ⟨gR, 3, none⟩ = some (.int .i64 0) := World.cell_of_heap HQ.out.pre.res 3
    have ez3 : wq.frozen? ⟨gR, 3, none⟩ = false := World.free_of_heap HQ.out.pre.res 3
    have ey4 : wq.cell? ⟨gR, 4, none⟩ = some (.bool false) := World.cell_of_heap HQ.out.pre.res 4
    have ez4 : wq.frozen? ⟨gR, 4, none⟩ = false := World.free_of_heap HQ.out.pre.res 4
    have ey5 : wq.cell? ⟨gR, 5, none⟩ = some (.int .i64 0) := World.cell_of_heap HQ.out.pre.res 5
    have ez5 : wq.frozen? ⟨gR, 5, none⟩ = false := World.free_of_heap HQ.out.pre.res 5
    have eoc := World.oldB_of_cell ey0
    have ex0 : wq.cell? ⟨gB, 0, none⟩ = some (.int .i64 (id)) := World.cell_of_heap HQ.out.box 0
    have ef0 : wq.frozen? ⟨gB, 0, none⟩ = false := World.free_of_heap HQ.out.box 0
    have ex1 : wq.cell? ⟨gB, 1, none⟩ = some (.string x_name) := World.cell_of_heap HQ.out.box 1
    have ef1 : wq.frozen? ⟨gB, 1, none⟩ = false := World.free_of_heap HQ.out.box 1
    have ex2 : wq.cell? ⟨gB, 2, none⟩ = some (.string y) := World.cell_of_heap HQ.out.box 2
    have ef2 : wq.frozen? ⟨gB, 2, none⟩ = false := World.free_of_heap HQ.out.box 2
    have ex3 : wq.cell? ⟨gB, 3, none⟩ = some (.int .i64 (x_born)) := World.cell_of_heap HQ.out.box 3
    have ef3 : wq.frozen? ⟨gB, 3, none⟩ = false := World.free_of_heap HQ.out.box 3
    have ex4 : wq.cell? ⟨gB, 4, none⟩ = some (.bool x_woman) := World.cell_of_heap HQ.out.box 4
    have ef4 : wq.frozen? ⟨gB, 4, none⟩ = false := World.free_of_heap HQ.out.box 4
    have ex5 : wq.cell? ⟨gB, 5, none⟩ = some (.int .i64 (x_card)) := World.cell_of_heap HQ.out.box 5
    have ef5 : wq.frozen? ⟨gB, 5, none⟩ = false := World.free_of_heap HQ.out.box 5
    have eob := World.oldB_of_cell ex0
    have gw0 := World.heap_setCell_row HQ.out.pre.res 0 (.int .i64 (id))
    simp only [List.setIfInBounds_toArray, List.set_cons_zero, List.set_cons_succ] at gw0
    have gc0 : (wq.setCell ⟨gR, 0, none⟩ (.int .i64 (id))).cell? ⟨gR, 0, none⟩ = some (.int .i64 (id)) := World.cell_of_heap gw0 0
    have gw1 := World.heap_setCell_row gw0 1 (.string x_name)
    simp only [List.setIfInBounds_toArray, List.set_cons_zero, List.set_cons_succ] at gw1
    have gc1 : ((wq.setCell ⟨gR, 0, none⟩ (.int .i64 (id))).setCell ⟨gR, 1, none⟩ (.string x_name)).cell? ⟨gR, 1, none⟩ = some (.string x_name) := World.cell_of_heap gw1 1
    have gw2 := World.heap_setCell_row gw1 2 (.string y)
    simp only [List.setIfInBounds_toArray, List.set_cons_zero, List.set_cons_succ] at gw2
    have gc2 : (((wq.setCell ⟨gR, 0, none⟩ (.int .i64 (id))).setCell ⟨gR, 1, none⟩ (.string x_name)).setCell ⟨gR, 2, none⟩ (.string y)).cell? ⟨gR, 2, none⟩ = some (.string y) := World.cell_of_heap gw2 2
    have gw3 := World.heap_setCell_row gw2 3 (.int .i64 (x_born))
    simp only [List.setIfInBounds_toArray, List.set_cons_zero, List.set_cons_succ] at gw3
    have gc3 : ((((wq.setCell ⟨gR, 0, none⟩ (.int .i64 (id))).setCell ⟨gR, 1, none⟩ (.string x_name)).setCell ⟨gR, 2, none⟩ (.string y)).setCell ⟨gR, 3, none⟩ (.int .i64 (x_born))).cell? ⟨gR, 3, none⟩ = some (.int .i64 (x_born)) := World.cell_of_heap gw3 3
    have gw4 := World.heap_setCell_row gw3 4 (.bool x_woman)
    simp only [List.setIfInBounds_toArray, List.set_cons_zero, List.set_cons_succ] at gw4
    have gc4 : (((((wq.setCell ⟨gR, 0, none⟩ (.int .i64 (id))).setCell ⟨gR, 1, none⟩ (.string x_name)).setCell ⟨gR, 2, none⟩ (.string y)).setCell ⟨gR, 3, none⟩ (.int .i64 (x_born))).setCell ⟨gR, 4, none⟩ (.bool x_woman)).cell? ⟨gR, 4, none⟩ = some (.bool x_woman) := World.cell_of_heap gw4 4
    have gw5 := World.heap_setCell_row gw4 5 (.int .i64 (x_card))
    simp only [List.setIfInBounds_toArray, List.set_cons_zero, List.set_cons_succ] at gw5
    have gc5 : ((((((wq.setCell ⟨gR, 0, none⟩ (.int .i64 (id))).setCell ⟨gR, 1, none⟩ (.string x_name)).setCell ⟨gR, 2, none⟩ (.string y)).setCell ⟨gR, 3, none⟩ (.int .i64 (x_born))).setCell ⟨gR, 4, none⟩ (.bool x_woman)).setCell ⟨gR, 5, none⟩ (.int .i64 (x_card))).cell? ⟨gR, 5, none⟩ = some (.int .i64 (x_card)) := World.cell_of_heap gw5 5
    clear gw0 gw1 gw2 gw3 gw4 gw5
    have hon : World.grownBy wq ((((((wq.setCell ⟨gR, 0, none⟩ (.int .i64 (id))).setCell ⟨gR, 1, none⟩ (.string x_name)).setCell ⟨gR, 2, none⟩ (.string y)).setCell ⟨gR, 3, none⟩ (.int .i64 (x_born))).setCell ⟨gR, 4, none⟩ (.bool x_woman)).setCell ⟨gR, 5, none⟩ (.int .i64 (x_card))) (some gR) := only_setCell (p := ⟨gR, 5, none⟩) (only_setCell (p := ⟨gR, 4, none⟩) (only_setCell (p := ⟨gR, 3, none⟩) (only_setCell (p := ⟨gR, 2, none⟩) (only_setCell (p := ⟨gR, 1, none⟩) (only_setCell (p := ⟨gR, 0, none⟩) (only_refl _ _) rfl _) rfl _) rfl _) rfl _) rfl _) rfl _
    have HF := Lib.hid (HQ.out.fin hon)
    clear hon
    go_wp2
    refine bodyPost_ret (v := .agg #[.int .i64 (id), .string x_name, .string y, .int .i64 (x_born), .bool x_woman, .int .i64 (x_card)]) (by simp [results, Tryz.results54, go_sem, gc0, gc1, gc2, gc3, gc4, gc5]) rfl ?_
    exact ⟨⟨id, x_name, y, x_born, x_woman, x_card⟩, rfl, hz_x_name, hz_y, HF.out.1.le (by omega), HF.out.2⟩
  by_cases h3 : r = 3
  · subst h3
    have ex0 : u0.cell? ⟨gB, 0, none⟩ = some (.int .i64 (id)) := World.cell_of_heap HU.out.box 0
    have ef0 : u0.frozen? ⟨gB, 0, none⟩ = false := World.free_of_heap HU.out.box 0
    have ex1 : u0.cell? ⟨gB, 1, none⟩ = some (.string x_name) := World.cell_of_heap HU.out.box 1
    have ef1 : u0.frozen? ⟨gB, 1, none⟩ = false := World.free_of_heap HU.out.box 1
    have ex2 : u0.cell? ⟨gB, 2, none⟩ = some (.string x_club) := World.cell_of_heap HU.out.box 2
    have ef2 : u0.frozen? ⟨gB, 2, none⟩ = false := World.free_of_heap HU.out.box 2
    have ex3 : u0.cell? ⟨gB, 3, none⟩ = some (.int .i64 (x_born)) := World.cell_of_heap HU.out.box 3
    have ef3 : u0.frozen? ⟨gB, 3, none⟩ = false := World.free_of_heap HU.out.box 3
    have ex4 : u0.cell? ⟨gB, 4, none⟩ = some (.bool x_woman) := World.cell_of_heap HU.out.box 4
    have ef4 : u0.frozen? ⟨gB, 4, none⟩ = false := World.free_of_heap HU.out.box 4
    have ex5 : u0.cell? ⟨gB, 5, none⟩ = some (.int .i64 (x_card)) := World.cell_of_heap HU.out.box 5
    have ef5 : u0.frozen? ⟨gB, 5, none⟩ = false := World.free_of_heap HU.out.box 5
    have eob := World.oldB_of_cell ex0
    go_wp2_with fail
    refine (among_any W _ g _ _ [(1919 : Int), (2021 : Int)] u0.heap.size (HU.out.pre.cur.gain (by repeat (first | with_reducible (first | exact World.gained_refl _ | exact ⟨_, rfl⟩ | apply gain_ext | apply gain_alloc | apply gain_drewN | apply gain_drew) | (refine gain_setCell ?_ (by first | exact Nat.le_refl _ | exact World.size_ext _ _ | (simp; done) | (simp; omega)) _)))) (by omega) (own_lit' (w := u0) (e := 3) (base := u0.heap.size) (C := #[.int .i64 (1919), .int .i64 (2021)]) (l := [(1919 : Int), (2021 : Int)]) intC_length rfl rfl (Nat.le_refl _)) HU.out.lt (by simp) (by simp)).mono ?_
    rintro e u1 ⟨y, rfl, hm, hc1, hg1⟩
    have HV := Lib.hid ((HU.out.up (wr' := u0.alloc (.cells #[.int .i64 (1919), .int .i64 (2021)] 3)) (by repeat (first | with_reducible (first | exact World.gained_refl _ | exact ⟨_, rfl⟩ | apply gain_ext | apply gain_alloc | apply gain_drewN | apply gain_drew) | (refine gain_setCell ?_ (by first | exact Nat.le_refl _ | exact World.size_ext _ _ | (simp; done) | (simp; omega)) _)))).on hc1 hg1)
    clear hm hc1 hg1 ex0 ef0 ex1 ef1 ex2 ef2 ex3 ef3 ex4 ef4 ex5 ef5 eob
    have ex0 : u1.cell? ⟨gB, 0, none⟩ = some (.int .i64 (id)) := World.cell_of_heap HV.out.box 0
    have ef0 : u1.frozen? ⟨gB, 0, none⟩ = false := World.free_of_heap HV.out.box 0
    have ex1 : u1.cell? ⟨gB, 1, none⟩ = some (.string x_name) := World.cell_of_heap HV.out.box 1
    have ef1 : u1.frozen? ⟨gB, 1, none⟩ = false := World.free_of_heap HV.out.box 1
    have ex2 : u1.cell? ⟨gB, 2, none⟩ = some (.string x_club) := World.cell_of_heap HV.out.box 2
    have ef2 : u1.frozen? ⟨gB, 2, none⟩ = false := World.free_of_heap HV.out.box 2
    have ex3 : u1.cell? ⟨gB, 3, none⟩ = some (.int .i64 (x_born)) := World.cell_of_heap HV.out.box 3
    have ef3 : u1.frozen? ⟨gB, 3, none⟩ = false := World.free_of_heap HV.out.box 3
    have ex4 : u1.cell? ⟨gB, 4, none⟩ = some (.bool x_woman) := World.cell_of_heap HV.out.box 4
    have ef4 : u1.frozen? ⟨gB, 4, none⟩ = false := World.free_of_heap HV.out.box 4
    have ex5 : u1.cell? ⟨gB, 5, none⟩ = some (.int .i64 (x_card)) := World.cell_of_heap HV.out.box 5
    have ef5 : u1.frozen? ⟨gB, 5, none⟩ = false := World.free_of_heap HV.out.box 5
    have eob := World.oldB_of_cell ex0
    go_upto_region 13 with fail
    have HQ := Lib.hid (HV.out.put 3 (.int .i64 (y)))
    simp only [List.setIfInBounds_toArray, List.set_cons_zero, List.set_cons_succ] at HQ
    generalize u1.setCell ⟨gB, 3, none⟩ (.int .i64 (y)) = wq at HQ ⊢
    clear ex0 ef0 ex1 ef1 ex2 ef2 ex3 ef3 ex4 ef4 ex5 ef5 eob
    have ey0 : wq.cell? ⟨gR, 0, none⟩ = some (.int .i64 0) := World.cell_of_heap HQ.out.pre.res 0
    have ez0 : wq.frozen? ⟨gR, 0, none⟩ = false := World.free_of_heap HQ.out.pre.res 0
    have ey1 : wq.cell? ⟨gR, 1, none⟩ = some (.string ⟨#[]⟩) := World.cell_of_heap HQ.out.pre.res 1
    have ez1 : wq.frozen? ⟨gR, 1, none⟩ = false := World.free_of_heap HQ.out.pre.res 1
    have ey2 : wq.cell? ⟨gR, 2, none⟩ = some (.string ⟨#[]⟩) := World.cell_of_heap HQ.out.pre.res 2
    have ez2 : wq.frozen? ⟨gR, 2, none⟩ = false := World.free_of_heap HQ.out.pre.res 2
    have ey3 : wq.cell? ⟨gR, 3, none⟩ = some (.int .i64 0) := World.cell_of_heap HQ.out.pre.res 3
    have ez3 : wq.frozen? ⟨gR, 3, none⟩ = false := World.free_of_heap HQ.out.pre.res 3
    have ey4 : wq.cell? ⟨gR, 4, none⟩ = some (.bool false) := World.cell_of_heap HQ.out.pre.res 4
    have ez4 : wq.frozen? ⟨gR, 4, none⟩ = false := World.free_of_heap HQ.out.pre.res 4
    have ey5 : wq.cell? ⟨gR, 5, none⟩ = some (.int .i64 0) := World.cell_of_heap HQ.out.pre.res 5
    have ez5 : wq.frozen? ⟨gR, 5, none⟩ = false := World.free_of_heap HQ.out.pre.res 5
    have eoc := World.oldB_of_cell ey0
    have ex0 : wq.cell? ⟨gB, 0, none⟩ = some (.int .i64 (id)) := World.cell_of_heap HQ.out.box 0
    have ef0 : wq.frozen? ⟨gB, 0, none⟩ = false := World.free_of_heap HQ.out.box 0
    have ex1 : wq.cell? ⟨gB, 1, none⟩ = some (.string x_name) := World.cell_of_heap HQ.out.box 1
    have ef1 : wq.frozen? ⟨gB, 1, none⟩ = false := World.free_of_heap HQ.out.box 1
    have ex2 : wq.cell? ⟨gB, 2, none⟩ = some (.string x_club) := World.cell_of_heap HQ.out.box 2
    have ef2 : wq.frozen? ⟨gB, 2, none⟩ = false := World.free_of_heap HQ.out.box 2
    have ex3 : wq.cell? ⟨gB, 3, none⟩ = some (.int .i64 (y)) := World.cell_of_heap HQ.out.box 3
    have ef3 : wq.frozen? ⟨gB, 3, none⟩ = false := World.free_of_heap HQ.out.box 3
    have ex4 : wq.cell? ⟨gB, 4, none⟩ = some (.bool x_woman) := World.cell_of_heap HQ.out.box 4
    have ef4 : wq.frozen? ⟨gB, 4, none⟩ = false := World.free_of_heap HQ.out.box 4
    have ex5 : wq.cell? ⟨gB, 5, none⟩ = some (.int .i64 (x_card)) := World.cell_of_heap HQ.out.box 5
    have ef5 : wq.frozen? ⟨gB, 5, none⟩ = false := World.free_of_heap HQ.out.box 5
    have eob := World.oldB_of_cell ex0
    have gw0 := World.heap_setCell_row HQ.out.pre.res 0 (.int .i64 (id))
    simp only [List.setIfInBounds_toArray, List.set_cons_zero, List.set_cons_succ] at gw0
    have gc0 : (wq.setCell ⟨gR, 0, none⟩ (.int .i64 (id))).cell? ⟨gR, 0, none⟩ = some (.int .i64 (id)) := World.cell_of_heap gw0 0
    have gw1 := World.heap_setCell_row gw0 1 (.string x_name)
    simp only [List.setIfInBounds_toArray, List.set_cons_zero, List.set_cons_succ] at gw1
    have gc1 : ((wq.setCell ⟨gR, 0, none⟩ (.int .i64 (id))).setCell ⟨gR, 1, none⟩ (.string x_name)).cell? ⟨gR, 1, none⟩ = some (.string x_name) := World.cell_of_heap gw1 1
    have gw2 := World.heap_setCell_row gw1 2 (.string x_club)
    simp only [List.setIfInBounds_toArray, List.set_cons_zero, List.set_cons_succ] at gw2
    have gc2 : (((wq.setCell ⟨gR, 0, none⟩ (.int .i64 (id))).setCell ⟨gR, 1, none⟩ (.string x_name)).setCell ⟨gR, 2, none⟩ (.string x_club)).cell? ⟨gR, 2, none⟩ = some (.string x_club) := World.cell_of_heap gw2 2
    have gw3 := World.heap_setCell_row gw2 3 (.int .i64 (y))
    simp only [List.setIfInBounds_toArray, List.set_cons_zero, List.set_cons_succ] at gw3
    have gc3 : ((((wq.setCell ⟨gR, 0, none⟩ (.int .i64 (id))).setCell ⟨gR, 1, none⟩ (.string x_name)).setCell ⟨gR, 2, none⟩ (.string x_club)).setCell ⟨gR, 3, none⟩ (.int .i64 (y))).cell? ⟨gR, 3, none⟩ = some (.int .i64 (y)) := World.cell_of_heap gw3 3
    have gw4 := World.heap_setCell_row gw3 4 (.bool x_woman)
    simp only [List.setIfInBounds_toArray, List.set_cons_zero, List.set_cons_succ] at gw4
    have gc4 : (((((wq.setCell ⟨gR, 0, none⟩ (.int .i64 (id))).setCell ⟨gR, 1, none⟩ (.string x_name)).setCell ⟨gR, 2, none⟩ (.string x_club)).setCell ⟨gR, 3, none⟩ (.int .i64 (y))).setCell ⟨gR, 4, none⟩ (.bool x_woman)).cell? ⟨gR, 4, none⟩ = some (.bool x_woman) := World.cell_of_heap gw4 4
    have gw5 := World.heap_setCell_row gw4 5 (.int .i64 (x_card))
    simp only [List.setIfInBounds_toArray, List.set_cons_zero, List.set_cons_succ] at gw5
    have gc5 : ((((((wq.setCell ⟨gR, 0, none⟩ (.int .i64 (id))).setCell ⟨gR, 1, none⟩ (.string x_name)).setCell ⟨gR, 2, none⟩ (.string x_club)).setCell ⟨gR, 3, none⟩ (.int .i64 (y))).setCell ⟨gR, 4, none⟩ (.bool x_woman)).setCell ⟨gR, 5, none⟩ (.int .i64 (x_card))).cell? ⟨gR, 5, none⟩ = some (.int .i64 (x_card)) := World.cell_of_heap gw5 5
    clear gw0 gw1 gw2 gw3 gw4 gw5
    have hon : World.grownBy wq ((((((wq.setCell ⟨gR, 0, none⟩ (.int .i64 (id))).setCell ⟨gR, 1, none⟩ (.string x_name)).setCell ⟨gR, 2, none⟩ (.string x_club)).setCell ⟨gR, 3, none⟩ (.int .i64 (y))).setCell ⟨gR, 4, none⟩ (.bool x_woman)).setCell ⟨gR, 5, none⟩ (.int .i64 (x_card))) (some gR) := only_setCell (p := ⟨gR, 5, none⟩) (only_setCell (p := ⟨gR, 4, none⟩) (only_setCell (p := ⟨gR, 3, none⟩) (only_setCell (p := ⟨gR, 2, none⟩) (only_setCell (p := ⟨gR, 1, none⟩) (only_setCell (p := ⟨gR, 0, none⟩) (only_refl _ _) rfl _) rfl _) rfl _) rfl _) rfl _) rfl _
    have HF := Lib.hid (HQ.out.fin hon)
    clear hon
    go_wp2
    refine bodyPost_ret (v := .agg #[.int .i64 (id), .string x_name, .string x_club, .int .i64 (y), .bool x_woman, .int .i64 (x_card)]) (by simp [results, Tryz.results54, go_sem, gc0, gc1, gc2, gc3, gc4, gc5]) rfl ?_
    exact ⟨⟨id, x_name, x_club, y, x_woman, x_card⟩, rfl, hz_x_name, hz_x_club, HF.out.1.le (by omega), HF.out.2⟩
  by_cases h4 : r = 4
  · subst h4
    have ex0 : u0.cell? ⟨gB, 0, none⟩ = some (.int .i64 (id)) := World.cell_of_heap HU.out.box 0
    have ef0 : u0.frozen? ⟨gB, 0, none⟩ = false := World.free_of_heap HU.out.box 0
    have ex1 : u0.cell? ⟨gB, 1, none⟩ = some (.string x_name) := World.cell_of_heap HU.out.box 1
    have ef1 : u0.frozen? ⟨gB, 1, none⟩ = false := World.free_of_heap HU.out.box 1
    have ex2 : u0.cell? ⟨gB, 2, none⟩ = some (.string x_club) := World.cell_of_heap HU.out.box 2
    have ef2 : u0.frozen? ⟨gB, 2, none⟩ = false := World.free_of_heap HU.out.box 2
    have ex3 : u0.cell? ⟨gB, 3, none⟩ = some (.int .i64 (x_born)) := World.cell_of_heap HU.out.box 3
    have ef3 : u0.frozen? ⟨gB, 3, none⟩ = false := World.free_of_heap HU.out.box 3
    have ex4 : u0.cell? ⟨gB, 4, none⟩ = some (.bool x_woman) := World.cell_of_heap HU.out.box 4
    have ef4 : u0.frozen? ⟨gB, 4, none⟩ = false := World.free_of_heap HU.out.box 4
    have ex5 : u0.cell? ⟨gB, 5, none⟩ = some (.int .i64 (x_card)) := World.cell_of_heap HU.out.box 5
    have ef5 : u0.frozen? ⟨gB, 5, none⟩ = false := World.free_of_heap HU.out.box 5
    have eob := World.oldB_of_cell ex0
    go_wp2_with fail
    refine (among_any W _ g _ _ [(-1 : Int), (10000 : Int)] u0.heap.size (HU.out.pre.cur.gain (by repeat (first | with_reducible (first | exact World.gained_refl _ | exact ⟨_, rfl⟩ | apply gain_ext | apply gain_alloc | apply gain_drewN | apply gain_drew) | (refine gain_setCell ?_ (by first | exact Nat.le_refl _ | exact World.size_ext _ _ | (simp; done) | (simp; omega)) _)))) (by omega) (own_lit' (w := u0) (e := 3) (base := u0.heap.size) (C := #[.int .i64 (-1), .int .i64 (10000)]) (l := [(-1 : Int), (10000 : Int)]) intC_length rfl rfl (Nat.le_refl _)) HU.out.lt (by simp) (by simp)).mono ?_
    rintro e u1 ⟨y, rfl, hm, hc1, hg1⟩
    have HV := Lib.hid ((HU.out.up (wr' := u0.alloc (.cells #[.int .i64 (-1), .int .i64 (10000)] 3)) (by repeat (first | with_reducible (first | exact World.gained_refl _ | exact ⟨_, rfl⟩ | apply gain_ext | apply gain_alloc | apply gain_drewN | apply gain_drew) | (refine gain_setCell ?_ (by first | exact Nat.le_refl _ | exact World.size_ext _ _ | (simp; done) | (simp; omega)) _)))).on hc1 hg1)
    clear hm hc1 hg1 ex0 ef0 ex1 ef1 ex2 ef2 ex3 ef3 ex4 ef4 ex5 ef5 eob
    have ex0 : u1.cell? ⟨gB, 0, none⟩ = some (.int .i64 (id)) := World.cell_of_heap HV.out.box 0
    have ef0 : u1.frozen? ⟨gB, 0, none⟩ = false := World.free_of_heap HV.out.box 0
    have ex1 : u1.cell? ⟨gB, 1, none⟩ = some (.string x_name) := World.cell_of_heap HV.out.box 1
    have ef1 : u1.frozen? ⟨gB, 1, none⟩ = false := World.free_of_heap HV.out.box 1
    have ex2 : u1.cell? ⟨gB, 2, none⟩ = some (.string x_club) := World.cell_of_heap HV.out.box 2
    have ef2 : u1.frozen? ⟨gB, 2, none⟩ = false := World.free_of_heap HV.out.box 2
    have ex3 : u1.cell? ⟨gB, 3, none⟩ = some (.int .i64 (x_born)) := World.cell_of_heap HV.out.box 3
    have ef3 : u1.frozen? ⟨gB, 3, none⟩ = false := World.free_of_heap HV.out.box 3
    have ex4 : u1.cell? ⟨gB, 4, none⟩ = some (.bool x_woman) := World.cell_of_heap HV.out.box 4
    have ef4 : u1.frozen? ⟨gB, 4, none⟩ = false := World.free_of_heap HV.out.box 4
    have ex5 : u1.cell? ⟨gB, 5, none⟩ = some (.int .i64 (x_card)) := World.cell_of_heap HV.out.box 5
    have ef5 : u1.frozen? ⟨gB, 5, none⟩ = false := World.free_of_heap HV.out.box 5
    have eob := World.oldB_of_cell ex0
    go_upto_region 13 with fail
    have HQ := Lib.hid (HV.out.put 5 (.int .i64 (y)))
    simp only [List.setIfInBounds_toArray, List.set_cons_zero, List.set_cons_succ] at HQ
    generalize u1.setCell ⟨gB, 5, none⟩ (.int .i64 (y)) = wq at HQ ⊢
    clear ex0 ef0 ex1 ef1 ex2 ef2 ex3 ef3 ex4 ef4 ex5 ef5 eob
    have ey0 : wq.cell? ⟨gR, 0, none⟩ = some (.int .i64 0) := World.cell_of_heap HQ.out.pre.res 0
    have ez0 : wq.frozen? ⟨gR, 0, none⟩ = false := World.free_of_heap HQ.out.pre.res 0
    have ey1 : wq.cell? ⟨gR, 1, none⟩ = some (.string ⟨#[]⟩) := World.cell_of_heap HQ.out.pre.res 1
    have ez1 : wq.frozen? ⟨gR, 1, none⟩ = false := World.free_of_heap HQ.out.pre.res 1
    have ey2 : wq.cell? ⟨gR, 2, none⟩ = some (.string ⟨#[]⟩) := World.cell_of_heap HQ.out.pre.res 2
    have ez2 : wq.frozen? ⟨gR, 2, none⟩ = false := World.free_of_heap HQ.out.pre.res 2
    have ey3 : wq.cell? ⟨gR, 3, none⟩ = some (.int .i64 0) := World.cell_of_heap HQ.out.pre.res 3
    have ez3 : wq.frozen? ⟨gR, 3, none⟩ = false := World.free_of_heap HQ.out.pre.res 3
    have ey4 : wq.cell? ⟨gR, 4, none⟩ = some (.bool false) := World.cell_of_heap HQ.out.pre.res 4
    have ez4 : wq.frozen? ⟨gR, 4, none⟩ = false := World.free_of_heap HQ.out.pre.res 4
    have ey5 : wq.cell? ⟨gR, 5, none⟩ = some (.int .i64 0) := World.cell_of_heap HQ.out.pre.res 5
    have ez5 : wq.frozen? ⟨gR, 5, none⟩ = false := World.free_of_heap HQ.out.pre.res 5
    have eoc := World.oldB_of_cell ey0
    have ex0 : wq.cell? ⟨gB, 0, none⟩ = some (.int .i64 (id)) := World.cell_of_heap HQ.out.box 0
    have ef0 : wq.frozen? ⟨gB, 0, none⟩ = false := World.free_of_heap HQ.out.box 0
    have ex1 : wq.cell? ⟨gB, 1, none⟩ = some (.string x_name) := World.cell_of_heap HQ.out.box 1
    have ef1 : wq.frozen? ⟨gB, 1, none⟩ = false := World.free_of_heap HQ.out.box 1
    have ex2 : wq.cell? ⟨gB, 2, none⟩ = some (.string x_club) := World.cell_of_heap HQ.out.box 2
    have ef2 : wq.frozen? ⟨gB, 2, none⟩ = false := World.free_of_heap HQ.out.box 2
    have ex3 : wq.cell? ⟨gB, 3, none⟩ = some (.int .i64 (x_born)) := World.cell_of_heap HQ.out.box 3
    have ef3 : wq.frozen? ⟨gB, 3, none⟩ = false := World.free_of_heap HQ.out.box 3
    have ex4 : wq.cell? ⟨gB, 4, none⟩ = some (.bool x_woman) := World.cell_of_heap HQ.out.box 4
    have ef4 : wq.frozen? ⟨gB, 4, none⟩ = false := World.free_of_heap HQ.out.box 4
    have ex5 : wq.cell? ⟨gB, 5, none⟩ = some (.int .i64 (y)) := World.cell_of_heap HQ.out.box 5
    have ef5 : wq.frozen? ⟨gB, 5, none⟩ = false := World.free_of_heap HQ.out.box 5
    have eob := World.oldB_of_cell ex0
    have gw0 := World.heap_setCell_row HQ.out.pre.res 0 (.int .i64 (id))
    simp only [List.setIfInBounds_toArray, List.set_cons_zero, List.set_cons_succ] at gw0
    have gc0 : (wq.setCell ⟨gR, 0, none⟩ (.int .i64 (id))).cell? ⟨gR, 0, none⟩ = some (.int .i64 (id)) := World.cell_of_heap gw0 0
    have gw1 := World.heap_setCell_row gw0 1 (.string x_name)
    simp only [List.setIfInBounds_toArray, List.set_cons_zero, List.set_cons_succ] at gw1
    have gc1 : ((wq.setCell ⟨gR, 0, none⟩ (.int .i64 (id))).setCell ⟨gR, 1, none⟩ (.string x_name)).cell? ⟨gR, 1, none⟩ = some (.string x_name) := World.cell_of_heap gw1 1
    have gw2 := World.heap_setCell_row gw1 2 (.string x_club)
    simp only [List.setIfInBounds_toArray, List.set_cons_zero, List.set_cons_succ] at gw2
    have gc2 : (((wq.setCell ⟨gR, 0, none⟩ (.int .i64 (id))).setCell ⟨gR, 1, none⟩ (.string x_name)).setCell ⟨gR, 2, none⟩ (.string x_club)).cell? ⟨gR, 2, none⟩ = some (.string x_club) := World.cell_of_heap gw2 2
    have gw3 := World.heap_setCell_row gw2 3 (.int .i64 (x_born))
    simp only [List.setIfInBounds_toArray, List.set_cons_zero, List.set_cons_succ] at gw3
    have gc3 : ((((wq.setCell ⟨gR, 0, none⟩ (.int .i64 (id))).setCell ⟨gR, 1, none⟩ (.string x_name)).setCell ⟨gR, 2, none⟩ (.string x_club)).setCell ⟨gR, 3, none⟩ (.int .i64 (x_born))).cell? ⟨gR, 3, none⟩ = some (.int .i64 (x_born)) := World.cell_of_heap gw3 3
    have gw4 := World.heap_setCell_row gw3 4 (.bool x_woman)
    simp only [List.setIfInBounds_toArray, List.set_cons_zero, List.set_cons_succ] at gw4
    have gc4 : (((((wq.setCell ⟨gR, 0, none⟩ (.int .i64 (id))).setCell ⟨gR, 1, none⟩ (.string x_name)).setCell ⟨gR, 2, none⟩ (.string x_club)).setCell ⟨gR, 3, none⟩ (.int .i64 (x_born))).setCell ⟨gR, 4, none⟩ (.bool x_woman)).cell? ⟨gR, 4, none⟩ = some (.bool x_woman) := World.cell_of_heap gw4 4
    have gw5 := World.heap_setCell_row gw4 5 (.int .i64 (y))
    simp only [List.setIfInBounds_toArray, List.set_cons_zero, List.set_cons_succ] at gw5
    have gc5 : ((((((wq.setCell ⟨gR, 0, none⟩ (.int .i64 (id))).setCell ⟨gR, 1, none⟩ (.string x_name)).setCell ⟨gR, 2, none⟩ (.string x_club)).setCell ⟨gR, 3, none⟩ (.int .i64 (x_born))).setCell ⟨gR, 4, none⟩ (.bool x_woman)).setCell ⟨gR, 5, none⟩ (.int .i64 (y))).cell? ⟨gR, 5, none⟩ = some (.int .i64 (y)) := World.cell_of_heap gw5 5
    clear gw0 gw1 gw2 gw3 gw4 gw5
    have hon : World.grownBy wq ((((((wq.setCell ⟨gR, 0, none⟩ (.int .i64 (id))).setCell ⟨gR, 1, none⟩ (.string x_name)).setCell ⟨gR, 2, none⟩ (.string x_club)).setCell ⟨gR, 3, none⟩ (.int .i64 (x_born))).setCell ⟨gR, 4, none⟩ (.bool x_woman)).setCell ⟨gR, 5, none⟩ (.int .i64 (y))) (some gR) := only_setCell (p := ⟨gR, 5, none⟩) (only_setCell (p := ⟨gR, 4, none⟩) (only_setCell (p := ⟨gR, 3, none⟩) (only_setCell (p := ⟨gR, 2, none⟩) (only_setCell (p := ⟨gR, 1, none⟩) (only_setCell (p := ⟨gR, 0, none⟩) (only_refl _ _) rfl _) rfl _) rfl _) rfl _) rfl _) rfl _
    have HF := Lib.hid (HQ.out.fin hon)
    clear hon
    go_wp2
    refine bodyPost_ret (v := .agg #[.int .i64 (id), .string x_name, .string x_club, .int .i64 (x_born), .bool x_woman, .int .i64 (y)]) (by simp [results, Tryz.results54, go_sem, gc0, gc1, gc2, gc3, gc4, gc5]) rfl ?_
    exact ⟨⟨id, x_name, x_club, x_born, x_woman, y⟩, rfl, hz_x_name, hz_x_club, HF.out.1.le (by omega), HF.out.2⟩
  have hb0 : (r == 0) = false := by simpa using h0
  have hb1 : (r == 1) = false := by simpa using h1
  have hb2 : (r == 2) = false := by simpa using h2
  have hb3 : (r == 3) = false := by simpa using h3
  have hb4 : (r == 4) = false := by simpa using h4
  clear h0 h1 h2 h3 h4
  go_upto_region 13 with fail
  have ey0 : u0.cell? ⟨gR, 0, none⟩ = some (.int .i64 0) := World.cell_of_heap HU.out.pre.res 0
  have ez0 : u0.frozen? ⟨gR, 0, none⟩ = false := World.free_of_heap HU.out.pre.res 0
  have ey1 : u0.cell? ⟨gR, 1, none⟩ = some (.string ⟨#[]⟩) := World.cell_of_heap HU.out.pre.res 1
  have ez1 : u0.frozen? ⟨gR, 1, none⟩ = false := World.free_of_heap HU.out.pre.res 1
  have ey2 : u0.cell? ⟨gR, 2, none⟩ = some (.string ⟨#[]⟩) := World.cell_of_heap HU.out.pre.res 2
  have ez2 : u0.frozen? ⟨gR, 2, none⟩ = false := World.free_of_heap HU.out.pre.res 2
  have ey3 : u0.cell? ⟨gR, 3, none⟩ = some (.int .i64 0) := World.cell_of_heap HU.out.pre.res 3
  have ez3 : u0.frozen? ⟨gR, 3, none⟩ = false := World.free_of_heap HU.out.pre.res 3
  have ey4 : u0.cell? ⟨gR, 4, none⟩ = some (.bool false) := World.cell_of_heap HU.out.pre.res 4
  have ez4 : u0.frozen? ⟨gR, 4, none⟩ = false := World.free_of_heap HU.out.pre.res 4
  have ey5 : u0.cell? ⟨gR, 5, none⟩ = some (.int .i64 0) := World.cell_of_heap HU.out.pre.res 5
  have ez5 : u0.frozen? ⟨gR, 5, none⟩ = false := World.free_of_heap HU.out.pre.res 5
  have eoc := World.oldB_of_cell ey0
  have ex0 : u0.cell? ⟨gB, 0, none⟩ = some (.int .i64 (id)) := World.cell_of_heap HU.out.box 0
  have ef0 : u0.frozen? ⟨gB, 0, none⟩ = false := World.free_of_heap HU.out.box 0
  have ex1 : u0.cell? ⟨gB, 1, none⟩ = some (.string x_name) := World.cell_of_heap HU.out.box 1
  have ef1 : u0.frozen? ⟨gB, 1, none⟩ = false := World.free_of_heap HU.out.box 1
  have ex2 : u0.cell? ⟨gB, 2, none⟩ = some (.string x_club) := World.cell_of_heap HU.out.box 2
  have ef2 : u0.frozen? ⟨gB, 2, none⟩ = false := World.free_of_heap HU.out.box 2
  have ex3 : u0.cell? ⟨gB, 3, none⟩ = some (.int .i64 (x_born)) := World.cell_of_heap HU.out.box 3
  have ef3 : u0.frozen? ⟨gB, 3, none⟩ = false := World.free_of_heap HU.out.box 3
  have ex4 : u0.cell? ⟨gB, 4, none⟩ = some (.bool x_woman) := World.cell_of_heap HU.out.box 4
  have ef4 : u0.frozen? ⟨gB, 4, none⟩ = false := World.free_of_heap HU.out.box 4
  have ex5 : u0.cell? ⟨gB, 5, none⟩ = some (.int .i64 (x_card)) := World.cell_of_heap HU.out.box 5
  have ef5 : u0.frozen? ⟨gB, 5, none⟩ = false := World.free_of_heap HU.out.box 5
  have eob := World.oldB_of_cell ex0
  have gw0 := World.heap_setCell_row HU.out.pre.res 0 (.int .i64 (id))
  simp only [List.setIfInBounds_toArray, List.set_cons_zero, List.set_cons_succ] at gw0
  have gc0 : (u0.setCell ⟨gR, 0, none⟩ (.int .i64 (id))).cell? ⟨gR, 0, none⟩ = some (.int .i64 (id)) := World.cell_of_heap gw0 0
  have gw1 := World.heap_setCell_row gw0 1 (.string x_name)
  simp only [List.setIfInBounds_toArray, List.set_cons_zero, List.set_cons_succ] at gw1
  have gc1 : ((u0.setCell ⟨gR, 0, none⟩ (.int .i64 (id))).setCell ⟨gR, 1, none⟩ (.string x_name)).cell? ⟨gR, 1, none⟩ = some (.string x_name) := World.cell_of_heap gw1 1
  have gw2 := World.heap_setCell_row gw1 2 (.string x_club)
  simp only [List.setIfInBounds_toArray, List.set_cons_zero, List.set_cons_succ] at gw2
  have gc2 : (((u0.setCell ⟨gR, 0, none⟩ (.int .i64 (id))).setCell ⟨gR, 1, none⟩ (.string x_name)).setCell ⟨gR, 2, none⟩ (.string x_club)).cell? ⟨gR, 2, none⟩ = some (.string x_club) := World.cell_of_heap gw2 2
  have gw3 := World.heap_setCell_row gw2 3 (.int .i64 (x_born))
  simp only [List.setIfInBounds_toArray, List.set_cons_zero, List.set_cons_succ] at gw3
  have gc3 : ((((u0.setCell ⟨gR, 0, none⟩ (.int .i64 (id))).setCell ⟨gR, 1, none⟩ (.string x_name)).setCell ⟨gR, 2, none⟩ (.string x_club)).setCell ⟨gR, 3, none⟩ (.int .i64 (x_born))).cell? ⟨gR, 3, none⟩ = some (.int .i64 (x_born)) := World.cell_of_heap gw3 3
  have gw4 := World.heap_setCell_row gw3 4 (.bool x_woman)
  simp only [List.setIfInBounds_toArray, List.set_cons_zero, List.set_cons_succ] at gw4
  have gc4 : (((((u0.setCell ⟨gR, 0, none⟩ (.int .i64 (id))).setCell ⟨gR, 1, none⟩ (.string x_name)).setCell ⟨gR, 2, none⟩ (.string x_club)).setCell ⟨gR, 3, none⟩ (.int .i64 (x_born))).setCell ⟨gR, 4, none⟩ (.bool x_woman)).cell? ⟨gR, 4, none⟩ = some (.bool x_woman) := World.cell_of_heap gw4 4
  have gw5 := World.heap_setCell_row gw4 5 (.int .i64 (x_card))
  simp only [List.setIfInBounds_toArray, List.set_cons_zero, List.set_cons_succ] at gw5
  have gc5 : ((((((u0.setCell ⟨gR, 0, none⟩ (.int .i64 (id))).setCell ⟨gR, 1, none⟩ (.string x_name)).setCell ⟨gR, 2, none⟩ (.string x_club)).setCell ⟨gR, 3, none⟩ (.int .i64 (x_born))).setCell ⟨gR, 4, none⟩ (.bool x_woman)).setCell ⟨gR, 5, none⟩ (.int .i64 (x_card))).cell? ⟨gR, 5, none⟩ = some (.int .i64 (x_card)) := World.cell_of_heap gw5 5
  clear gw0 gw1 gw2 gw3 gw4 gw5
  have hon : World.grownBy u0 ((((((u0.setCell ⟨gR, 0, none⟩ (.int .i64 (id))).setCell ⟨gR, 1, none⟩ (.string x_name)).setCell ⟨gR, 2, none⟩ (.string x_club)).setCell ⟨gR, 3, none⟩ (.int .i64 (x_born))).setCell ⟨gR, 4, none⟩ (.bool x_woman)).setCell ⟨gR, 5, none⟩ (.int .i64 (x_card))) (some gR) := only_setCell (p := ⟨gR, 5, none⟩) (only_setCell (p := ⟨gR, 4, none⟩) (only_setCell (p := ⟨gR, 3, none⟩) (only_setCell (p := ⟨gR, 2, none⟩) (only_setCell (p := ⟨gR, 1, none⟩) (only_setCell (p := ⟨gR, 0, none⟩) (only_refl _ _) rfl _) rfl _) rfl _) rfl _) rfl _) rfl _
  have HF := Lib.hid (HU.out.fin hon)
  clear hon
  go_wp2
  refine bodyPost_ret (v := .agg #[.int .i64 (id), .string x_name, .string x_club, .int .i64 (x_born), .bool x_woman, .int .i64 (x_card)]) (by simp [results, Tryz.results54, go_sem, gc0, gc1, gc2, gc3, gc4, gc5]) rfl ?_
  exact ⟨⟨id, x_name, x_club, x_born, x_woman, x_card⟩, rfl, hz_x_name, hz_x_club, HF.out.1.le (by omega), HF.out.2⟩
end Go.Proofs.YtffkkchflohhaaaGreatDoor
