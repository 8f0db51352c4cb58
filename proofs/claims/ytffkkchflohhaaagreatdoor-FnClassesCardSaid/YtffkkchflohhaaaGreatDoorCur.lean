/- The reader of choices: spec.l1Cur's next, pick, one, among. No condition but that it has been asked less than 2^40 times. -/
import Derived.Test.YtffkkchflohhaaaGreatDoorHeld
import Derived.Test.YtffkkchflohhaaaGreatDoorPlain
import Derived.Test.YtffkkchflohhaaaGreatDoorInfoInt
import Derived.Laws.Bits64b
namespace Go
open RowKit Go.Ori
def byteC (n : Int) : List Value := [.int .u8 n]
theorem byteC_length (n : Int) : (byteC n).length = 1 := rfl
theorem only_gain {a w w' : World} {g : Nat} (h : a.grownBy w (some g)) (hg : ∃ d, w' = w.ext d) : a.grownBy w' (some g) := by
  obtain ⟨d, rfl⟩ := hg
  exact only_ext h d
theorem only_trans {a b c : World} {g : Nat} (h : a.grownBy b (some g)) (h' : b.grownBy c (some g)) : a.grownBy c (some g) :=
  ⟨h'.os.trans h.os, h'.tape.trans h.tape, h'.output.trans h.output, Nat.le_trans h.size h'.size, fun i hi hne => (h'.block i (Nat.lt_of_lt_of_le hi h.size) hne).trans (h.block i hi hne)⟩
theorem and255 (x : Int) : 0 ≤ bits .and .u64 x 255 ∧ bits .and .u64 x 255 ≤ 255 := by
  have h : bits .and .u64 x 255 = IntKind.u64.wrap ((BitVec.ofInt 64 x &&& BitVec.ofInt 64 255).toNat : Int) := rfl
  have h1 : (BitVec.ofInt 64 x &&& BitVec.ofInt 64 255).toNat ≤ 255 := by
    rw [BitVec.toNat_and]
    exact Nat.le_trans Nat.and_le_right (by decide)
  rw [h, IntKind.wrap_u64]
  omega
/-- A reader lies at g; it has been asked n times at most; W: the world before it was made. -/
structure Cur (e : TypeId) (W w : World) (g n : Nat) : Prop where
  up : ∃ d, w = W.ext d
  ge : W.heap.size ≤ g
  row : ∃ (p : Option Addr) (c : Nat) (L : List Int) (a : Nat) (s : Int), w.heap[g]? = some (.cells #[.slice p L.length c, .int .i64 a, .int .u64 s] e (0, 0)) ∧ W.sl byteC 1 (.slice p L.length c) L ∧ (∀ x ∈ L, 0 ≤ x ∧ x ≤ 255) ∧ L.length ≤ 1048576 ∧ a ≤ n
theorem Cur.gain {e : TypeId} {W w w' : World} {g n : Nat} (h : Cur e W w g n) (hg : ∃ d, w' = w.ext d) : Cur e W w' g n := by
  obtain ⟨d, rfl⟩ := hg
  obtain ⟨p, c, L, a, s, h1, h2⟩ := h.row
  exact ⟨gain_ext h.up d, h.ge, p, c, L, a, s, World.heap_ext_old d h1, h2⟩
theorem Cur.le {e : TypeId} {W w : World} {g n m : Nat} (h : Cur e W w g n) (hm : n ≤ m) : Cur e W w g m := by
  obtain ⟨p, c, L, a, s, h1, h2, h3, h4, h5⟩ := h.row
  exact ⟨h.up, h.ge, p, c, L, a, s, h1, h2, h3, h4, Nat.le_trans h5 hm⟩
theorem Cur.lt {e : TypeId} {W w : World} {g n : Nat} (h : Cur e W w g n) : g < w.heap.size := by
  obtain ⟨p, c, L, a, s, h1, _⟩ := h.row
  exact (Array.getElem?_eq_some_iff.1 h1).1
theorem cur_step {e : TypeId} {W w : World} {g n a c : Nat} {p : Option Addr} {L : List Int} {s S : Int} (hup : ∃ d, w = W.ext d) (hge : W.heap.size ≤ g) (hrow : w.heap[g]? = some (.cells #[.slice p L.length c, .int .i64 a, .int .u64 s] e (0, 0)))
    (hsl : W.sl byteC 1 (.slice p L.length c) L) (hq : ∀ x ∈ L, 0 ≤ x ∧ x ≤ 255) (hL : L.length ≤ 1048576) (ha : a ≤ n) : Cur e W ((w.setCell ⟨g, 1, none⟩ (.int .i64 ((a : Int) + 1))).setCell ⟨g, 2, none⟩ (.int .u64 S)) g (n + 1) := by
  refine ⟨gain_setCell (gain_setCell hup hge _) hge _, hge, p, c, L, a + 1, S, ?_, hsl, hq, hL, by omega⟩
  have := World.heap_setCell_row (World.heap_setCell_row hrow 1 (.int .i64 ((a : Int) + 1))) 2 (.int .u64 S)
  simpa using this
/-- What was made since the reader stays where only the reader turns. -/
theorem own_cur {α : Type} {enc : α → List Value} {sz lo : Nat} {e : TypeId} {l : List α} {u : Value} {w w' : World} {g : Nat} (h : w.own lo e enc sz u l) (hl : g < lo) (hg : w.grownBy w' (some g)) : w'.own lo e enc sz u l := by
  refine own_mark (v := .slice (some ⟨g, 0, none⟩) 0 0) h hg fun b hb hv => ?_
  have h1 := (own_lt h b hb).1
  simp only [Value.ownBlock, Option.some.injEq] at hv
  omega
end Go
namespace Go.Proofs.YtffkkchflohhaaaGreatDoor
open Go.RowKit Go.Ori
set_option maxHeartbeats 4000000 in
theorem next_any (W w : World) (g n : Nat) (h : Cur 62 W w g n) (hn : n ≤ 1099511627776) :
    Calls Tryz.prog 76 #[.pointer (some ⟨g, 0, none⟩)] w fun x w' => ∃ r : Int, x = .returned (.int .i64 r) ∧ 0 ≤ r ∧ r ≤ 255 ∧ Cur 62 W w' g (n + 1) ∧ w.grownBy w' (some g) := by
  obtain ⟨hup, hge, p, c, L, a, s, hrow, hsl, hq, hL, ha⟩ := h
  have HUP := Lib.hid hup
  have HROW := Lib.hid hrow
  have HSL := Lib.hid hsl
  have HQ := Lib.hid hq
  have c0 : w.cell? ⟨g, 0, none⟩ = some (.slice p L.length c) := World.cell_of_heap hrow 0
  have c1 : w.cell? ⟨g, 1, none⟩ = some (.int .i64 a) := World.cell_of_heap hrow 1
  have c2 : w.cell? ⟨g, 2, none⟩ = some (.int .u64 s) := World.cell_of_heap hrow 2
  have z0 : w.frozen? ⟨g, 0, none⟩ = false := World.free_of_heap hrow 0
  have z1 : w.frozen? ⟨g, 1, none⟩ = false := World.free_of_heap hrow 1
  have z2 : w.frozen? ⟨g, 2, none⟩ = false := World.free_of_heap hrow 2
  have ob := World.oldB_of_cell c0
  have hs := Lib.hid (sl_up byteC_length hsl hup)
  clear hup hrow hsl hq
  by_cases hlt : a < L.length
  · obtain ⟨b, o, rfl⟩ := sl_some hs.out (by omega)
    have cb := sl_cells hs.out hlt (j := 0) (by omega)
    obtain ⟨q1, q2⟩ := HQ.out L[a] (List.getElem_mem hlt)
    generalize L[a] = y at cb q1 q2
    simp only [byteC, List.getElem?_cons_zero, Nat.add_zero, Nat.mul_one] at cb
    have obb := World.oldB_of_cell cb
    have hal : ((a : Int) + 1) ≤ (L.length : Int) := by omega
    go_enter Tryz.func76, Tryz.ntmps76
    go_wp2
    refine wp_region_gain (by kernel_rfl) (by kernel_rfl) ?_
    repeat (first | go_big_quiet_skip | (go_big_quiet_want; go_big_quiet_op; first | go_big_quiet_on))
    refine wpQuiet_nil ?_
    rintro _ ⟨d', rfl⟩
    go_wp2
    refine wp_region_gain (by kernel_rfl) (by kernel_rfl) ?_
    repeat (first | go_big_quiet_skip | (go_big_quiet_want; go_big_quiet_op; first | go_big_quiet_on))
    refine wpQuiet_nil ?_
    rintro _ ⟨d', rfl⟩
    go_wp2
    refine wp_region_gain (by kernel_rfl) (by kernel_rfl) ?_
    repeat (first | go_big_quiet_skip | (go_big_quiet_want; go_big_quiet_op; first | go_big_quiet_on))
    refine wpQuiet_nil ?_
    rintro _ ⟨d', rfl⟩
    go_wp2
    go_ret
    generalize IntKind.u64.wrap (IntKind.u64.wrap (IntKind.u64.wrap (s * 6364136223846793005) + y) + 938938) = S
    exact ⟨_, rfl, q1, q2, (cur_step (gain_ext (gain_ext HUP.out _) _) hge (World.heap_ext_old _ (World.heap_ext_old _ HROW.out)) HSL.out HQ.out hL ha).gain (by with_reducible exact ⟨_, rfl⟩), (by with_reducible (repeat (first | exact only_refl _ _ | refine only_ext ?_ _ | refine only_setCell (p := ⟨g, _, none⟩) ?_ rfl _)))⟩
  · go_enter Tryz.func76, Tryz.ntmps76
    go_wp2
    refine wp_region_gain (by kernel_rfl) (by kernel_rfl) ?_
    repeat (first | go_big_quiet_skip | (go_big_quiet_want; go_big_quiet_op; first | go_big_quiet_on))
    refine wpQuiet_nil ?_
    rintro _ ⟨d', rfl⟩
    go_wp2
    refine wp_region_gain (by kernel_rfl) (by kernel_rfl) ?_
    repeat (first | go_big_quiet_skip | (go_big_quiet_want; go_big_quiet_op; first | go_big_quiet_on))
    refine wpQuiet_nil ?_
    rintro _ ⟨d', rfl⟩
    go_wp2
    go_ret
    have hb := and255 (IntKind.u64.wrap (IntKind.u64.wrap (IntKind.u64.wrap (s * 6364136223846793005)) + 938938) / 1099511627776)
    generalize bits BinOp.and IntKind.u64 (IntKind.u64.wrap (IntKind.u64.wrap (IntKind.u64.wrap (s * 6364136223846793005)) + 938938) / 1099511627776) 255 = R at hb ⊢
    have hR : wrap64 R = R := by unfold wrap64; omega
    rw [hR]
    generalize IntKind.u64.wrap (IntKind.u64.wrap (IntKind.u64.wrap (s * 6364136223846793005)) + 938938) = S
    exact ⟨_, rfl, hb.1, hb.2, (cur_step (gain_ext HUP.out _) hge (World.heap_ext_old _ HROW.out) HSL.out HQ.out hL ha).gain (by with_reducible exact ⟨_, rfl⟩), (by with_reducible (repeat (first | exact only_refl _ _ | refine only_ext ?_ _ | refine only_setCell (p := ⟨g, _, none⟩) ?_ rfl _)))⟩
end Go.Proofs.YtffkkchflohhaaaGreatDoor
