/- Texts laid together: Plain functions on numbers and lists that the contracts speak of. No condition.; The type int, in the program's table. No condition.; The reader of choices: spec.l1Cur's next, pick, one, among. No condition but that it has been asked less than 2^40 times.; spec.l1Cur's pick, one, among. Condition: the reader has been asked less than 2^40 times. -/
import Derived.Test.YtmcimgnobimicaaGreatG0
import Derived.Test.YtmcimgnobimicaaGreatG1
import Derived.Test.YtmcimgnobimicaaGreatRows
import Derived.Test.YtmcimgnobimicaaGreatG2
import Derived.Laws.Bits64b
/- Plain functions on numbers and lists that the contracts speak of. No condition. -/
namespace Go.Ori
/-- lo ≤ n ≤ hi -/
def insB (n lo hi : Int) : Bool := decide (lo ≤ n) && decide (n ≤ hi)
theorem insB_true {n lo hi : Int} : insB n lo hi = true ↔ lo ≤ n ∧ n ≤ hi := by simp [insB]
theorem insB_false {n lo hi : Int} : insB n lo hi = false ↔ ¬ (lo ≤ n ∧ n ≤ hi) := by
  rw [← insB_true]; simp
theorem insB_lo {n lo hi : Int} (h : lo ≤ n) : insB n lo hi = decide (n ≤ hi) := by simp [insB, h]
theorem insB_no {n lo hi : Int} (h : ¬ lo ≤ n) : insB n lo hi = false := by simp [insB, h]
/-- f of all k < n. -/
def allB (n : Nat) (f : Nat → Bool) : Bool := (List.range n).all f
theorem allB_no {n k : Nat} {f : Nat → Bool} (h : k < n) (hf : f k = false) : allB n f = false := by
  unfold allB
  rw [List.all_eq_false]
  exact ⟨k, List.mem_range.2 h, by simp [hf]⟩
theorem allB_yes {n : Nat} {f : Nat → Bool} (h : ∀ j, j < n → f j = true) : allB n f = true := by
  unfold allB
  rw [List.all_eq_true]
  exact fun j hj => h j (List.mem_range.1 hj)
theorem allB_iff {n : Nat} {f : Nat → Bool} : allB n f = true ↔ ∀ j, j < n → f j = true := by
  unfold allB
  rw [List.all_eq_true]
  exact ⟨fun h j hj => h j (List.mem_range.2 hj), fun h j hj => h j (List.mem_range.1 hj)⟩
theorem step_all {f : Nat → Bool} {k : Nat} (h : ∀ j, j < k → f j = true) (hk : f k = true) : ∀ j, j < k + 1 → f j = true := by
  intro j hj
  by_cases e : j = k
  · rw [e]; exact hk
  · exact h j (by omega)
/-- The index of the first element of which p says yes, or -1. -/
def idxB {α : Type} (l : List α) (p : α → Bool) : Int := if l.any p then (l.findIdx p : Int) else -1
theorem idxB_none {α : Type} {l : List α} {p : α → Bool} (h : ∀ (j : Nat) (hj : j < l.length), p l[j] = false) : idxB l p = -1 := by
  unfold idxB
  rw [if_neg]
  intro ha
  obtain ⟨x, hx, hp⟩ := List.any_eq_true.1 ha
  obtain ⟨j, hj, rfl⟩ := List.getElem_of_mem hx
  rw [h j hj] at hp
  cases hp
theorem idxB_some {α : Type} {l : List α} {p : α → Bool} {k : Nat} (hk : k < l.length) (h : ∀ (j : Nat) (hj : j < l.length), j < k → p l[j] = false) (hp : p l[k] = true) : idxB l p = k := by
  unfold idxB
  rw [if_pos (List.any_eq_true.2 ⟨_, List.getElem_mem hk, hp⟩)]
  congr 1
  rw [List.findIdx_eq hk]
  exact ⟨hp, fun j hj => h j (by omega) hj⟩
theorem idxB_any {α : Type} (l : List α) (p : α → Bool) : decide (0 ≤ idxB l p) = l.any p := by
  unfold idxB
  cases h : l.any p <;> simp
/-- n stands in l. -/
def hasB (l : List Int) (n : Int) : Bool := l.any fun x => n == x
theorem hasB_iff {l : List Int} {n : Int} : hasB l n = true ↔ n ∈ l := by
  unfold hasB
  rw [List.any_eq_true]
  exact ⟨fun ⟨x, hx, h⟩ => by rw [eq_of_beq h]; exact hx, fun h => ⟨n, h, by simp⟩⟩
theorem hasB_no {l : List Int} {n : Int} (h : ∀ (j : Nat) (hj : j < l.length), (n == l[j]) = false) : hasB l n = false := by
  rw [← Bool.not_eq_true, hasB_iff]
  intro hm
  obtain ⟨j, hj, e⟩ := List.getElem_of_mem hm
  have := h j hj
  rw [e] at this
  simp at this
theorem hasB_yes {l : List Int} {n : Int} {k : Nat} (hk : k < l.length) (h : (n == l[k]) = true) : hasB l n = true := by
  rw [hasB_iff, eq_of_beq h]
  exact List.getElem_mem hk
/-- A number stands in the list twice. -/
def freshAt (l : List Int) (i : Nat) : Bool := match l[i]? with
  | some n => !hasB (l.take i) n
  | none => true
theorem freshAt_eq {l : List Int} {k : Nat} (h : k < l.length) : freshAt l k = !hasB (l.take k) l[k] := by
  rw [freshAt, List.getElem?_eq_getElem h]
def twiceB (l : List Int) : Bool := !allB l.length (freshAt l)
theorem twiceB_nodup {l : List Int} : twiceB l = false ↔ l.Nodup := by
  unfold twiceB
  rw [Bool.not_eq_false', allB_iff]
  constructor
  · intro h
    rw [List.nodup_iff_pairwise_ne, List.pairwise_iff_getElem]
    intro i j hi hj hij e
    have := h j hj
    simp only [freshAt, List.getElem?_eq_getElem hj, Bool.not_eq_true', ← Bool.not_eq_true, hasB_iff] at this
    exact this (by rw [← e]; exact List.mem_take_iff_getElem.2 ⟨i, by omega, rfl⟩)
  · intro h j hj
    simp only [freshAt, List.getElem?_eq_getElem hj, Bool.not_eq_true', ← Bool.not_eq_true, hasB_iff]
    intro hm
    obtain ⟨i, hi, e⟩ := List.mem_take_iff_getElem.1 hm
    rw [List.nodup_iff_pairwise_ne, List.pairwise_iff_getElem] at h
    exact h i j (by omega) hj (by omega) e
theorem ret_bool {a b : Bool} (h : a = b) : Ending.returned (.bool a) = .returned (.bool b) := by rw [h]
theorem ret_ib {a b : Int} {c : Bool} (h : a = b) : Ending.returned (.tuple #[.int .i64 a, .bool c]) = .returned (.tuple #[.int .i64 b, .bool c]) := by rw [h]
theorem ret_int {a b : Int} (h : a = b) : Ending.returned (.int .i64 a) = .returned (.int .i64 b) := by rw [h]
/-- An int's cell. -/
def intC (n : Int) : List Value := [.int .i64 n]
theorem intC_one (n : Int) : ∀ c ∈ intC n, c.oneCell' = true := by simp [intC, Value.oneCell']
theorem intC_length (n : Int) : (intC n).length = 1 := rfl
/-- A slice of ints that is not empty has an address; its cells. -/
theorem sl_some {α : Type} {w : World} {enc : α → List Value} {sz : Nat} {p : Option Addr} {n c : Nat} {l : List α} (h : w.sl enc sz (.slice p n c) l) (h0 : 0 < l.length) : ∃ b o, p = some ⟨b, o, none⟩ := by
  obtain ⟨p', c', hv, hp, _⟩ := h
  simp only [Value.slice.injEq] at hv
  obtain ⟨rfl, _⟩ := hv
  obtain ⟨b, o, hb, _⟩ := hp h0
  exact ⟨b, o, hb⟩
theorem sl_len {α : Type} {w : World} {enc : α → List Value} {sz : Nat} {p : Option Addr} {n c : Nat} {l : List α} (h : w.sl enc sz (.slice p n c) l) : n = l.length := by
  obtain ⟨p', c', hv, _⟩ := h
  simp only [Value.slice.injEq] at hv
  exact hv.2.1
theorem sl_cells {α : Type} {w : World} {enc : α → List Value} {sz : Nat} {b o : Nat} {n c : Nat} {l : List α} (h : w.sl enc sz (.slice (some ⟨b, o, none⟩) n c) l) {k : Nat} (hk : k < l.length) {j : Nat} (hj : j < sz) :
    w.cell? ⟨b, o + k * sz + j, none⟩ = (enc l[k])[j]? := by
  obtain ⟨p', c', hv, hp, _⟩ := h
  simp only [Value.slice.injEq] at hv
  obtain ⟨rfl, _⟩ := hv
  obtain ⟨b', o', hb, hc⟩ := hp (by omega)
  simp only [Option.some.injEq, Addr.mk.injEq, and_true] at hb
  obtain ⟨rfl, rfl⟩ := hb
  exact hc k hk j hj
theorem sl_int {w : World} {b o : Nat} {n c : Nat} {l : List Int} (h : w.sl intC 1 (.slice (some ⟨b, o, none⟩) n c) l) {k : Nat} (hk : k < l.length) : w.cell? ⟨b, o + k, none⟩ = some (.int .i64 l[k]) := by
  have := sl_cells h hk (j := 0) (by omega)
  simpa [intC] using this
theorem sl_oldB {α : Type} {w : World} {enc : α → List Value} {sz : Nat} {b o : Nat} {n c : Nat} {l : List α} (hz : ∀ x, (enc x).length = sz) (h0 : 0 < sz) (h : w.sl enc sz (.slice (some ⟨b, o, none⟩) n c) l) (hl : 0 < l.length) : w.oldB b := by
  have := sl_cells h hl (j := 0) h0
  exact World.lt_of_cell (a := ⟨b, _, none⟩) (by rw [this]; simp [hz, h0])
theorem flat_int (l : List Int) : l.flatMap intC = l.map (Value.int .i64) := by
  induction l with
  | nil => rfl
  | cons a l ih => rw [List.flatMap_cons, ih]; rfl
/-- A row of ints, owned. -/
theorem own_ints {w : World} {base g : Nat} {e : TypeId} {l : List Int} (hg : w.heap[g]? = some (.cells (l.map (Value.int .i64)).toArray e (0, 0))) (hb : base ≤ g) (hn : l.length ≤ 1048576) :
    w.own base e intC 1 (.slice (some ⟨g, 0, none⟩) l.length l.length) l := by
  refine ⟨flat_length intC_length l, .inr ⟨g, l.length, _, rfl, hb, hg, Nat.le_refl _, le_maxLen hn, by simp, ?_⟩⟩
  rw [flat_int, Nat.mul_one]
  exact List.take_of_length_le (by simp)
theorem setInts (l : List Int) (m : Nat) (x : Int) : (l.map (Value.int .i64)).toArray.setIfInBounds m (.int .i64 x) = ((l.set m x).map (Value.int .i64)).toArray := by
  simp [List.map_set]
theorem made_ints (n : Nat) : madeCells #[Value.int .i64 0] n = ((List.replicate n (0 : Int)).map (Value.int .i64)).toArray := by
  apply Array.ext'
  rw [toList_madeCells_one]
  simp
structure Fees where
  adult : Int
  child : Int
  rent : Int
  late : Int
def Fees.cells (e : Fees) : List Value := [.int .i64 e.adult, .int .i64 e.child, .int .i64 e.rent, .int .i64 e.late]
theorem Fees.cells_length (e : Fees) : e.cells.length = 4 := rfl
theorem Fees.cells_one (e : Fees) : ∀ c ∈ e.cells, c.oneCell' = true := by simp [Fees.cells, Value.oneCell']
theorem Fees.cells_eq (e : Fees) : e.cells = [.int .i64 e.adult, .int .i64 e.child, .int .i64 e.rent, .int .i64 e.late] := rfl
structure Ent where
  runner : Int
  cls : Int
  day : Int
  rent : Bool
  paid : Int
def Ent.cells (e : Ent) : List Value := [.int .i64 e.runner, .int .i64 e.cls, .int .i64 e.day, .bool e.rent, .int .i64 e.paid]
theorem Ent.cells_length (e : Ent) : e.cells.length = 5 := rfl
theorem Ent.cells_one (e : Ent) : ∀ c ∈ e.cells, c.oneCell' = true := by simp [Ent.cells, Value.oneCell']
theorem Ent.cells_eq (e : Ent) : e.cells = [.int .i64 e.runner, .int .i64 e.cls, .int .i64 e.day, .bool e.rent, .int .i64 e.paid] := rfl
structure Runner where
  id : Int
  name : ByteArray
  club : ByteArray
  born : Int
  woman : Bool
  card : Int
def Runner.cells (e : Runner) : List Value := [.int .i64 e.id, .string e.name, .string e.club, .int .i64 e.born, .bool e.woman, .int .i64 e.card]
theorem Runner.cells_length (e : Runner) : e.cells.length = 6 := rfl
theorem Runner.cells_one (e : Runner) : ∀ c ∈ e.cells, c.oneCell' = true := by simp [Runner.cells, Value.oneCell']
theorem Runner.cells_eq (e : Runner) : e.cells = [.int .i64 e.id, .string e.name, .string e.club, .int .i64 e.born, .bool e.woman, .int .i64 e.card] := rfl
structure Cls where
  id : Int
  name : ByteArray
  low : Int
  high : Int
  women : Bool
  men : Bool
  course : Int
  most : Int
def Cls.cells (e : Cls) : List Value := [.int .i64 e.id, .string e.name, .int .i64 e.low, .int .i64 e.high, .bool e.women, .bool e.men, .int .i64 e.course, .int .i64 e.most]
theorem Cls.cells_length (e : Cls) : e.cells.length = 8 := rfl
theorem Cls.cells_one (e : Cls) : ∀ c ∈ e.cells, c.oneCell' = true := by simp [Cls.cells, Value.oneCell']
theorem Cls.cells_eq (e : Cls) : e.cells = [.int .i64 e.id, .string e.name, .int .i64 e.low, .int .i64 e.high, .bool e.women, .bool e.men, .int .i64 e.course, .int .i64 e.most] := rfl
structure Ctl where
  code : Int
  cell : Int
def Ctl.cells (e : Ctl) : List Value := [.int .i64 e.code, .int .i64 e.cell]
theorem Ctl.cells_length (e : Ctl) : e.cells.length = 2 := rfl
theorem Ctl.cells_one (e : Ctl) : ∀ c ∈ e.cells, c.oneCell' = true := by simp [Ctl.cells, Value.oneCell']
theorem Ctl.cells_eq (e : Ctl) : e.cells = [.int .i64 e.code, .int .i64 e.cell] := rfl
end Go.Ori
/- The type int, in the program's table. No condition. -/
namespace Go.Proofs.YtmcimgnobimicaaGreat
theorem info_int : (Tryz.prog.info? 3).map (fun i => (i.zero, i.size, i.bytes)) = some (some (.int .i64 0), 1, 8) := by kernel_rfl
end Go.Proofs.YtmcimgnobimicaaGreat
/- The reader of choices: spec.l1Cur's next, pick, one, among. No condition but that it has been asked less than 2^40 times. -/
namespace Go
open RowKit Go.Ori
def byteC (n : Int) : List Value := [.int .u8 n]
theorem byteC_length (n : Int) : (byteC n).length = 1 := rfl
theorem only_gain {a w w' : World} {g : Nat} (h : a.grownBy w (some g)) (hg : ∃ d, w' = w.ext d) : a.grownBy w' (some g) := by
  obtain ⟨d, rfl⟩ := hg
  exact only_ext h d
theorem only_trans {a b c : World} {g : Nat} (h : a.grownBy b (some g)) (h' : b.grownBy c (some g)) : a.grownBy c (some g) :=
  ⟨h'.os.trans h.os, h'.tape.trans h.tape, h'.output.trans h.output, Nat.le_trans h.size h'.size, fun i hi hne => (h'.block i (Nat.lt_of_lt_of_le hi h.size) hne).trans (h.block i hi hne)⟩
theorem and255 (x : Int) : 0 ≤ bits .and .u64 x 255 ∧ bits .and .u64 x 255 ≤ 255 := by
  have h : bits .and .u64 x 255 = IntKind.u64.wrap ((BitVec.ofInt 64 x &&& BitVec.ofInt 64 255).toNat : Int) := rfl
  have h1 : (BitVec.ofInt 64 x &&& BitVec.ofInt 64 255).toNat ≤ 255 := by
    rw [BitVec.toNat_and]
    exact Nat.le_trans Nat.and_le_right (by decide)
  rw [h, IntKind.wrap_u64]
  omega
/-- A reader lies at g; it has been asked n times at most; W: the world before it was made. -/
structure Cur (e : TypeId) (W w : World) (g n : Nat) : Prop where
  up : ∃ d, w = W.ext d
  ge : W.heap.size ≤ g
  row : ∃ (p : Option Addr) (c : Nat) (L : List Int) (a : Nat) (s : Int), w.heap[g]? = some (.cells #[.slice p L.length c, .int .i64 a, .int .u64 s] e (0, 0)) ∧ W.sl byteC 1 (.slice p L.length c) L ∧ (∀ x ∈ L, 0 ≤ x ∧ x ≤ 255) ∧ L.length ≤ 1048576 ∧ a ≤ n
theorem Cur.gain {e : TypeId} {W w w' : World} {g n : Nat} (h : Cur e W w g n) (hg : ∃ d, w' = w.ext d) : Cur e W w' g n := by
  obtain ⟨d, rfl⟩ := hg
  obtain ⟨p, c, L, a, s, h1, h2⟩ := h.row
  exact ⟨gain_ext h.up d, h.ge, p, c, L, a, s, World.heap_ext_old d h1, h2⟩
theorem Cur.le {e : TypeId} {W w : World} {g n m : Nat} (h : Cur e W w g n) (hm : n ≤ m) : Cur e W w g m := by
  obtain ⟨p, c, L, a, s, h1, h2, h3, h4, h5⟩ := h.row
  exact ⟨h.up, h.ge, p, c, L, a, s, h1, h2, h3, h4, Nat.le_trans h5 hm⟩
theorem Cur.lt {e : TypeId} {W w : World} {g n : Nat} (h : Cur e W w g n) : g < w.heap.size := by
  obtain ⟨p, c, L, a, s, h1, _⟩ := h.row
  exact (Array.getElem?_eq_some_iff.1 h1).1
theorem cur_step {e : TypeId} {W w : World} {g n a c : Nat} {p : Option Addr} {L : List Int} {s S : Int} (hup : ∃ d, w = W.ext d) (hge : W.heap.size ≤ g) (hrow : w.heap[g]? = some (.cells #[.slice p L.length c, .int .i64 a, .int .u64 s] e (0, 0)))
    (hsl : W.sl byteC 1 (.slice p L.length c) L) (hq : ∀ x ∈ L, 0 ≤ x ∧ x ≤ 255) (hL : L.length ≤ 1048576) (ha : a ≤ n) : Cur e W ((w.setCell ⟨g, 1, none⟩ (.int .i64 ((a : Int) + 1))).setCell ⟨g, 2, none⟩ (.int .u64 S)) g (n + 1) := by
  refine ⟨gain_setCell (gain_setCell hup hge _) hge _, hge, p, c, L, a + 1, S, ?_, hsl, hq, hL, by omega⟩
  have := World.heap_setCell_row (World.heap_setCell_row hrow 1 (.int .i64 ((a : Int) + 1))) 2 (.int .u64 S)
  simpa using this
/-- What was made since the reader stays where only the reader turns. -/
theorem own_cur {α : Type} {enc : α → List Value} {sz lo : Nat} {e : TypeId} {l : List α} {u : Value} {w w' : World} {g : Nat} (h : w.own lo e enc sz u l) (hl : g < lo) (hg : w.grownBy w' (some g)) : w'.own lo e enc sz u l := by
  refine own_mark (v := .slice (some ⟨g, 0, none⟩) 0 0) h hg fun b hb hv => ?_
  have h1 := (own_lt h b hb).1
  simp only [Value.ownBlock, Option.some.injEq] at hv
  omega
end Go
namespace Go.Proofs.YtmcimgnobimicaaGreat
open Go.RowKit Go.Ori
set_option maxHeartbeats 4000000 in
theorem next_any (W w : World) (g n : Nat) (h : Cur 60 W w g n) (hn : n ≤ 1099511627776) :
    Calls Tryz.prog 61 #[.pointer (some ⟨g, 0, none⟩)] w fun x w' => ∃ r : Int, x = .returned (.int .i64 r) ∧ 0 ≤ r ∧ r ≤ 255 ∧ Cur 60 W w' g (n + 1) ∧ w.grownBy w' (some g) := by
  obtain ⟨hup, hge, p, c, L, a, s, hrow, hsl, hq, hL, ha⟩ := h
  have HUP := Lib.hid hup
  have HROW := Lib.hid hrow
  have HSL := Lib.hid hsl
  have HQ := Lib.hid hq
  have c0 : w.cell? ⟨g, 0, none⟩ = some (.slice p L.length c) := World.cell_of_heap hrow 0
  have c1 : w.cell? ⟨g, 1, none⟩ = some (.int .i64 a) := World.cell_of_heap hrow 1
  have c2 : w.cell? ⟨g, 2, none⟩ = some (.int .u64 s) := World.cell_of_heap hrow 2
  have z0 : w.frozen? ⟨g, 0, none⟩ = false := World.free_of_heap hrow 0
  have z1 : w.frozen? ⟨g, 1, none⟩ = false := World.free_of_heap hrow 1
  have z2 : w.frozen? ⟨g, 2, none⟩ = false := World.free_of_heap hrow 2
  have ob := World.oldB_of_cell c0
  have hs := Lib.hid (sl_up byteC_length hsl hup)
  clear hup hrow hsl hq
  by_cases hlt : a < L.length
  · obtain ⟨b, o, rfl⟩ := sl_some hs.out (by omega)
    have cb := sl_cells hs.out hlt (j := 0) (by omega)
    obtain ⟨q1, q2⟩ := HQ.out L[a] (List.getElem_mem hlt)
    generalize L[a] = y at cb q1 q2
    simp only [byteC, List.getElem?_cons_zero, Nat.add_zero, Nat.mul_one] at cb
    have obb := World.oldB_of_cell cb
    have hal : ((a : Int) + 1) ≤ (L.length : Int) := by omega
    go_enter Tryz.func61, Tryz.ntmps61
    go_wp2
    refine wp_region_gain (by kernel_rfl) (by kernel_rfl) ?_
    repeat (first | go_big_quiet_skip | (go_big_quiet_want; go_big_quiet_op; first | go_big_quiet_on))
    refine wpQuiet_nil ?_
    rintro _ ⟨d', rfl⟩
    go_wp2
    refine wp_region_gain (by kernel_rfl) (by kernel_rfl) ?_
    repeat (first | go_big_quiet_skip | (go_big_quiet_want; go_big_quiet_op; first | go_big_quiet_on))
    refine wpQuiet_nil ?_
    rintro _ ⟨d', rfl⟩
    go_wp2
    refine wp_region_gain (by kernel_rfl) (by kernel_rfl) ?_
    repeat (first | go_big_quiet_skip | (go_big_quiet_want; go_big_quiet_op; first | go_big_quiet_on))
    refine wpQuiet_nil ?_
    rintro _ ⟨d', rfl⟩
    go_wp2
    go_ret
    generalize IntKind.u64.wrap (IntKind.u64.wrap (IntKind.u64.wrap (s * 6364136223846793005) + y) + 938938) = S
    exact ⟨_, rfl, q1, q2, (cur_step (gain_ext (gain_ext HUP.out _) _) hge (World.heap_ext_old _ (World.heap_ext_old _ HROW.out)) HSL.out HQ.out hL ha).gain (by with_reducible exact ⟨_, rfl⟩), (by with_reducible (repeat (first | exact only_refl _ _ | refine only_ext ?_ _ | refine only_setCell (p := ⟨g, _, none⟩) ?_ rfl _)))⟩
  · go_enter Tryz.func61, Tryz.ntmps61
    go_wp2
    refine wp_region_gain (by kernel_rfl) (by kernel_rfl) ?_
    repeat (first | go_big_quiet_skip | (go_big_quiet_want; go_big_quiet_op; first | go_big_quiet_on))
    refine wpQuiet_nil ?_
    rintro _ ⟨d', rfl⟩
    go_wp2
    refine wp_region_gain (by kernel_rfl) (by kernel_rfl) ?_
    repeat (first | go_big_quiet_skip | (go_big_quiet_want; go_big_quiet_op; first | go_big_quiet_on))
    refine wpQuiet_nil ?_
    rintro _ ⟨d', rfl⟩
    go_wp2
    go_ret
    have hb := and255 (IntKind.u64.wrap (IntKind.u64.wrap (IntKind.u64.wrap (s * 6364136223846793005)) + 938938) / 1099511627776)
    generalize bits BinOp.and IntKind.u64 (IntKind.u64.wrap (IntKind.u64.wrap (IntKind.u64.wrap (s * 6364136223846793005)) + 938938) / 1099511627776) 255 = R at hb ⊢
    have hR : wrap64 R = R := by unfold wrap64; omega
    rw [hR]
    generalize IntKind.u64.wrap (IntKind.u64.wrap (IntKind.u64.wrap (s * 6364136223846793005)) + 938938) = S
    exact ⟨_, rfl, hb.1, hb.2, (cur_step (gain_ext HUP.out _) hge (World.heap_ext_old _ HROW.out) HSL.out HQ.out hL ha).gain (by with_reducible exact ⟨_, rfl⟩), (by with_reducible (repeat (first | exact only_refl _ _ | refine only_ext ?_ _ | refine only_setCell (p := ⟨g, _, none⟩) ?_ rfl _)))⟩
end Go.Proofs.YtmcimgnobimicaaGreat
/- spec.l1Cur's pick, one, among. Condition: the reader has been asked less than 2^40 times. -/
namespace Go
open RowKit Go.Ori
theorem only_new {a b c : World} {g : Nat} {r : Option Nat} (h : a.grownBy b (some g)) (h' : b.grownBy c r) (hr : ∀ q, r = some q → a.heap.size ≤ q) : a.grownBy c (some g) :=
  ⟨h'.os.trans h.os, h'.tape.trans h.tape, h'.output.trans h.output, Nat.le_trans h.size h'.size, fun i hi hne => (h'.block i (Nat.lt_of_lt_of_le hi h.size) (fun e => by have := hr i e.symm; omega)).trans (h.block i hi hne)⟩
/-- Another block than the reader's is written. -/
theorem Cur.grow {e : TypeId} {W w w' : World} {g n : Nat} {r : Option Nat} (h : Cur e W w g n) (hg : w.grownBy w' r) (hr : ∀ q, r = some q → g < q) (hu : ∃ d, w' = W.ext d) : Cur e W w' g n := by
  obtain ⟨p, c, L, a, s, h1, h2⟩ := h.row
  exact ⟨hu, h.ge, p, c, L, a, s, (hg.block g h.lt (fun q => by have := hr g q.symm; omega)).trans h1, h2⟩
theorem only_size {a b : World} {r : Option Nat} (h : a.grownBy b r) : a.heap.size ≤ b.heap.size := h.size
theorem own_newer {α : Type} {w : World} {enc : α → List Value} {sz base : Nat} {e : TypeId} {v : Value} {l : List α} (h : w.own base e enc sz v l) {g : Nat} (hg : g < base) : ∀ q, v.ownBlock = some q → g < q := fun q hq => Nat.lt_of_lt_of_le hg (own_lt h q hq).1
end Go
namespace Go.Proofs.YtmcimgnobimicaaGreat
open Go.RowKit Go.Ori
theorem rem_bd {x m : Int} (h0 : 0 ≤ x) (hm : 1 < m) : 0 ≤ x % m ∧ x % m < m := ⟨Int.emod_nonneg _ (by omega), Int.emod_lt_of_pos _ (by omega)⟩
set_option maxHeartbeats 1000000 in
theorem pick_any (W w : World) (g n : Nat) (m : Int) (h : Cur 60 W w g n) (hn : n ≤ 1000000) :
    Calls Tryz.prog 37 #[.pointer (some ⟨g, 0, none⟩), .int .i64 m] w fun x w' => ∃ r : Int, x = .returned (.int .i64 r) ∧ 0 ≤ r ∧ (r < m ∨ r = 0 ∧ m ≤ 1) ∧ Cur 60 W w' g (n + 2) ∧ w.grownBy w' (some g) := by
  have HC := Lib.hid h
  clear h
  by_cases h1 : m ≤ 1
  · go_enter Tryz.func37, Tryz.ntmps37
    go_wp2
    go_ret
    exact ⟨0, rfl, by omega, .inr ⟨rfl, h1⟩, HC.out.le (by omega), only_refl _ _⟩
  · go_enter Tryz.func37, Tryz.ntmps37
    go_wp2_with fail
    refine (next_any W _ g n HC.out (by omega)).mono ?_
    rintro e w1 ⟨r1, rfl, q1, q2, hc1, hg1⟩
    have HC1 := Lib.hid hc1
    have HG1 := Lib.hid hg1
    clear hc1 hg1
    by_cases h2 : 200 < m
    · go_wp2_with fail
      refine (next_any W _ g (n + 1) HC1.out (by omega)).mono ?_
      rintro e w2 ⟨r2, rfl, q3, q4, hc2, hg2⟩
      have HC2 := Lib.hid hc2
      have HG2 := Lib.hid (only_trans HG1.out hg2)
      clear hc2 hg2
      go_wp2
      go_ret
      have := rem_bd (x := r1 * 256 + r2) (m := m) (by omega) (by omega)
      exact ⟨_, rfl, this.1, .inl this.2, HC2.out, HG2.out⟩
    · go_wp2
      go_ret
      have := rem_bd (x := r1) (m := m) (by omega) (by omega)
      exact ⟨_, rfl, this.1, .inl this.2, HC1.out.le (by omega), HG1.out⟩
set_option maxHeartbeats 1000000 in
theorem one_any (W w : World) (g n : Nat) (m : Int) (h : Cur 60 W w g n) (hn : n ≤ 1000000) :
    Calls Tryz.prog 35 #[.pointer (some ⟨g, 0, none⟩), .int .i64 m] w fun x w' => ∃ r : Bool, x = .returned (.bool r) ∧ Cur 60 W w' g (n + 2) ∧ w.grownBy w' (some g) := by
  have HC := Lib.hid h
  clear h
  go_enter Tryz.func35, Tryz.ntmps35
  go_wp2_with fail
  refine (pick_any W _ g n m HC.out hn).mono ?_
  rintro e w1 ⟨r, rfl, _, _, hc1, hg1⟩
  have HC1 := Lib.hid hc1
  have HG1 := Lib.hid hg1
  clear hc1 hg1
  cases hb : r == 0 <;>
  · go_wp2
    go_ret
    exact ⟨_, rfl, HC1.out, HG1.out⟩
set_option maxHeartbeats 1000000 in
theorem among_any (W w : World) (g n : Nat) (v : Value) (l : List Int) (lo : Nat) (h : Cur 60 W w g n) (hn : n ≤ 1000000) (ho : w.own lo 3 intC 1 v l) (hlo : g < lo) (h0 : 0 < l.length) (hl : l.length ≤ 1048576) :
    Calls Tryz.prog 106 #[.pointer (some ⟨g, 0, none⟩), v] w fun x w' => ∃ r : Int, x = .returned (.int .i64 r) ∧ r ∈ l ∧ Cur 60 W w' g (n + 2) ∧ w.grownBy w' (some g) := by
  have HC := Lib.hid h
  have HO := Lib.hid ho
  obtain ⟨p, c, rfl, _⟩ := sl_of_own intC_length ho
  clear h ho
  go_enter Tryz.func106, Tryz.ntmps106
  go_wp2_with fail
  refine (pick_any W _ g n _ HC.out hn).mono ?_
  rintro e w1 ⟨r, rfl, q1, q2, hc1, hg1⟩
  have HC1 := Lib.hid hc1
  have HG1 := Lib.hid hg1
  have hs1 := sl_of_own intC_length (own_cur HO.out hlo hg1)
  obtain ⟨k, rfl⟩ : ∃ k : Nat, r = k := ⟨r.toNat, by omega⟩
  have hk : k < l.length := by omega
  obtain ⟨b, o, rfl⟩ := sl_some hs1 h0
  have c0 := sl_int hs1 hk
  have HM := Lib.hid (List.getElem_mem hk)
  generalize l[k] = y at c0 HM
  have ob := World.oldB_of_cell c0
  clear hc1 hg1 hs1 q2
  go_wp2
  go_ret
  exact ⟨_, rfl, HM.out, HC1.out, HG1.out⟩
end Go.Proofs.YtmcimgnobimicaaGreat
