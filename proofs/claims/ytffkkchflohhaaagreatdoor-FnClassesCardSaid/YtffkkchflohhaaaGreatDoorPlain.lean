/- Plain functions on numbers and lists that the contracts speak of. No condition. -/
import Derived.Test.YtffkkchflohhaaaGreatDoorExt
import Derived.Test.YtffkkchflohhaaaGreatDoorOwn
namespace Go.Ori
/-- lo ≤ n ≤ hi -/
def insB (n lo hi : Int) : Bool := decide (lo ≤ n) && decide (n ≤ hi)
theorem insB_true {n lo hi : Int} : insB n lo hi = true ↔ lo ≤ n ∧ n ≤ hi := by simp [insB]
theorem insB_false {n lo hi : Int} : insB n lo hi = false ↔ ¬ (lo ≤ n ∧ n ≤ hi) := by
  rw [← insB_true]; simp
theorem insB_lo {n lo hi : Int} (h : lo ≤ n) : insB n lo hi = decide (n ≤ hi) := by simp [insB, h]
theorem insB_no {n lo hi : Int} (h : ¬ lo ≤ n) : insB n lo hi = false := by simp [insB, h]
/-- f of all k < n. -/
def allB (n : Nat) (f : Nat → Bool) : Bool := (List.range n).all f
theorem allB_no {n k : Nat} {f : Nat → Bool} (h : k < n) (hf : f k = false) : allB n f = false := by
  unfold allB
  rw [List.all_eq_false]
  exact ⟨k, List.mem_range.2 h, by simp [hf]⟩
theorem allB_yes {n : Nat} {f : Nat → Bool} (h : ∀ j, j < n → f j = true) : allB n f = true := by
  unfold allB
  rw [List.all_eq_true]
  exact fun j hj => h j (List.mem_range.1 hj)
theorem allB_iff {n : Nat} {f : Nat → Bool} : allB n f = true ↔ ∀ j, j < n → f j = true := by
  unfold allB
  rw [List.all_eq_true]
  exact ⟨fun h j hj => h j (List.mem_range.2 hj), fun h j hj => h j (List.mem_range.1 hj)⟩
theorem step_all {f : Nat → Bool} {k : Nat} (h : ∀ j, j < k → f j = true) (hk : f k = true) : ∀ j, j < k + 1 → f j = true := by
  intro j hj
  by_cases e : j = k
  · rw [e]; exact hk
  · exact h j (by omega)
/-- The index of the first element of which p says yes, or -1. -/
def idxB {α : Type} (l : List α) (p : α → Bool) : Int := if l.any p then (l.findIdx p : Int) else -1
theorem idxB_none {α : Type} {l : List α} {p : α → Bool} (h : ∀ (j : Nat) (hj : j < l.length), p l[j] = false) : idxB l p = -1 := by
  unfold idxB
  rw [if_neg]
  intro ha
  obtain ⟨x, hx, hp⟩ := List.any_eq_true.1 ha
  obtain ⟨j, hj, rfl⟩ := List.getElem_of_mem hx
  rw [h j hj] at hp
  cases hp
theorem idxB_some {α : Type} {l : List α} {p : α → Bool} {k : Nat} (hk : k < l.length) (h : ∀ (j : Nat) (hj : j < l.length), j < k → p l[j] = false) (hp : p l[k] = true) : idxB l p = k := by
  unfold idxB
  rw [if_pos (List.any_eq_true.2 ⟨_, List.getElem_mem hk, hp⟩)]
  congr 1
  rw [List.findIdx_eq hk]
  exact ⟨hp, fun j hj => h j (by omega) hj⟩
theorem idxB_any {α : Type} (l : List α) (p : α → Bool) : decide (0 ≤ idxB l p) = l.any p := by
  unfold idxB
  cases h : l.any p <;> simp
/-- n stands in l. -/
def hasB (l : List Int) (n : Int) : Bool := l.any fun x => n == x
theorem hasB_iff {l : List Int} {n : Int} : hasB l n = true ↔ n ∈ l := by
  unfold hasB
  rw [List.any_eq_true]
  exact ⟨fun ⟨x, hx, h⟩ => by rw [eq_of_beq h]; exact hx, fun h => ⟨n, h, by simp⟩⟩
theorem hasB_no {l : List Int} {n : Int} (h : ∀ (j : Nat) (hj : j < l.length), (n == l[j]) = false) : hasB l n = false := by
  rw [← Bool.not_eq_true, hasB_iff]
  intro hm
  obtain ⟨j, hj, e⟩ := List.getElem_of_mem hm
  have := h j hj
  rw [e] at this
  simp at this
theorem hasB_yes {l : List Int} {n : Int} {k : Nat} (hk : k < l.length) (h : (n == l[k]) = true) : hasB l n = true := by
  rw [hasB_iff, eq_of_beq h]
  exact List.getElem_mem hk
/-- A number stands in the list twice. -/
def freshAt (l : List Int) (i : Nat) : Bool := match l[i]? with
  | some n => !hasB (l.take i) n
  | none => true
theorem freshAt_eq {l : List Int} {k : Nat} (h : k < l.length) : freshAt l k = !hasB (l.take k) l[k] := by
  rw [freshAt, List.getElem?_eq_getElem h]
def twiceB (l : List Int) : Bool := !allB l.length (freshAt l)
theorem twiceB_nodup {l : List Int} : twiceB l = false ↔ l.Nodup := by
  unfold twiceB
  rw [Bool.not_eq_false', allB_iff]
  constructor
  · intro h
    rw [List.nodup_iff_pairwise_ne, List.pairwise_iff_getElem]
    intro i j hi hj hij e
    have := h j hj
    simp only [freshAt, List.getElem?_eq_getElem hj, Bool.not_eq_true', ← Bool.not_eq_true, hasB_iff] at this
    exact this (by rw [← e]; exact List.mem_take_iff_getElem.2 ⟨i, by omega, rfl⟩)
  · intro h j hj
    simp only [freshAt, List.getElem?_eq_getElem hj, Bool.not_eq_true', ← Bool.not_eq_true, hasB_iff]
    intro hm
    obtain ⟨i, hi, e⟩ := List.mem_take_iff_getElem.1 hm
    rw [List.nodup_iff_pairwise_ne, List.pairwise_iff_getElem] at h
    exact h i j (by omega) hj (by omega) e
theorem ret_bool {a b : Bool} (h : a = b) : Ending.returned (.bool a) = .returned (.bool b) := by rw [h]
theorem ret_ib {a b : Int} {c : Bool} (h : a = b) : Ending.returned (.tuple #[.int .i64 a, .bool c]) = .returned (.tuple #[.int .i64 b, .bool c]) := by rw [h]
theorem ret_int {a b : Int} (h : a = b) : Ending.returned (.int .i64 a) = .returned (.int .i64 b) := by rw [h]
/-- An int's cell. -/
def intC (n : Int) : List Value := [.int .i64 n]
theorem intC_one (n : Int) : ∀ c ∈ intC n, c.oneCell' = true := by simp [intC, Value.oneCell']
theorem intC_length (n : Int) : (intC n).length = 1 := rfl
/-- A slice of ints that is not empty has an address; its cells. -/
theorem sl_some {α : Type} {w : World} {enc : α → List Value} {sz : Nat} {p : Option Addr} {n c : Nat} {l : List α} (h : w.sl enc sz (.slice p n c) l) (h0 : 0 < l.length) : ∃ b o, p = some ⟨b, o, none⟩ := by
  obtain ⟨p', c', hv, hp, _⟩ := h
  simp only [Value.slice.injEq] at hv
  obtain ⟨rfl, _⟩ := hv
  obtain ⟨b, o, hb, _⟩ := hp h0
  exact ⟨b, o, hb⟩
theorem sl_len {α : Type} {w : World} {enc : α → List Value} {sz : Nat} {p : Option Addr} {n c : Nat} {l : List α} (h : w.sl enc sz (.slice p n c) l) : n = l.length := by
  obtain ⟨p', c', hv, _⟩ := h
  simp only [Value.slice.injEq] at hv
  exact hv.2.1
theorem sl_cells {α : Type} {w : World} {enc : α → List Value} {sz : Nat} {b o : Nat} {n c : Nat} {l : List α} (h : w.sl enc sz (.slice (some ⟨b, o, none⟩) n c) l) {k : Nat} (hk : k < l.length) {j : Nat} (hj : j < sz) :
    w.cell? ⟨b, o + k * sz + j, none⟩ = (enc l[k])[j]? := by
  obtain ⟨p', c', hv, hp, _⟩ := h
  simp only [Value.slice.injEq] at hv
  obtain ⟨rfl, _⟩ := hv
  obtain ⟨b', o', hb, hc⟩ := hp (by omega)
  simp only [Option.some.injEq, Addr.mk.injEq, and_true] at hb
  obtain ⟨rfl, rfl⟩ := hb
  exact hc k hk j hj
theorem sl_int {w : World} {b o : Nat} {n c : Nat} {l : List Int} (h : w.sl intC 1 (.slice (some ⟨b, o, none⟩) n c) l) {k : Nat} (hk : k < l.length) : w.cell? ⟨b, o + k, none⟩ = some (.int .i64 l[k]) := by
  have := sl_cells h hk (j := 0) (by omega)
  simpa [intC] using this
theorem sl_oldB {α : Type} {w : World} {enc : α → List Value} {sz : Nat} {b o : Nat} {n c : Nat} {l : List α} (hz : ∀ x, (enc x).length = sz) (h0 : 0 < sz) (h : w.sl enc sz (.slice (some ⟨b, o, none⟩) n c) l) (hl : 0 < l.length) : w.oldB b := by
  have := sl_cells h hl (j := 0) h0
  exact World.lt_of_cell (a := ⟨b, _, none⟩) (by rw [this]; simp [hz, h0])
theorem flat_int (l : List Int) : l.flatMap intC = l.map (Value.int .i64) := by
  induction l with
  | nil => rfl
  | cons a l ih => rw [List.flatMap_cons, ih]; rfl
/-- A row of ints, owned. -/
theorem own_ints {w : World} {base g : Nat} {e : TypeId} {l : List Int} (hg : w.heap[g]? = some (.cells (l.map (Value.int .i64)).toArray e (0, 0))) (hb : base ≤ g) (hn : l.length ≤ 1048576) :
    w.own base e intC 1 (.slice (some ⟨g, 0, none⟩) l.length l.length) l := by
  refine ⟨flat_length intC_length l, .inr ⟨g, l.length, _, rfl, hb, hg, Nat.le_refl _, le_maxLen hn, by simp, ?_⟩⟩
  rw [flat_int, Nat.mul_one]
  exact List.take_of_length_le (by simp)
theorem setInts (l : List Int) (m : Nat) (x : Int) : (l.map (Value.int .i64)).toArray.setIfInBounds m (.int .i64 x) = ((l.set m x).map (Value.int .i64)).toArray := by
  simp [List.map_set]
theorem made_ints (n : Nat) : madeCells #[Value.int .i64 0] n = ((List.replicate n (0 : Int)).map (Value.int .i64)).toArray := by
  apply Array.ext'
  rw [toList_madeCells_one]
  simp
structure Fees where
  adult : Int
  child : Int
  rent : Int
  late : Int
def Fees.cells (e : Fees) : List Value := [.int .i64 e.adult, .int .i64 e.child, .int .i64 e.rent, .int .i64 e.late]
theorem Fees.cells_length (e : Fees) : e.cells.length = 4 := rfl
theorem Fees.cells_one (e : Fees) : ∀ c ∈ e.cells, c.oneCell' = true := by simp [Fees.cells, Value.oneCell']
theorem Fees.cells_eq (e : Fees) : e.cells = [.int .i64 e.adult, .int .i64 e.child, .int .i64 e.rent, .int .i64 e.late] := rfl
structure Ent where
  runner : Int
  cls : Int
  day : Int
  rent : Bool
  paid : Int
def Ent.cells (e : Ent) : List Value := [.int .i64 e.runner, .int .i64 e.cls, .int .i64 e.day, .bool e.rent, .int .i64 e.paid]
theorem Ent.cells_length (e : Ent) : e.cells.length = 5 := rfl
theorem Ent.cells_one (e : Ent) : ∀ c ∈ e.cells, c.oneCell' = true := by simp [Ent.cells, Value.oneCell']
theorem Ent.cells_eq (e : Ent) : e.cells = [.int .i64 e.runner, .int .i64 e.cls, .int .i64 e.day, .bool e.rent, .int .i64 e.paid] := rfl
structure Runner where
  id : Int
  name : ByteArray
  club : ByteArray
  born : Int
  woman : Bool
  card : Int
def Runner.cells (e : Runner) : List Value := [.int .i64 e.id, .string e.name, .string e.club, .int .i64 e.born, .bool e.woman, .int .i64 e.card]
theorem Runner.cells_length (e : Runner) : e.cells.length = 6 := rfl
theorem Runner.cells_one (e : Runner) : ∀ c ∈ e.cells, c.oneCell' = true := by simp [Runner.cells, Value.oneCell']
theorem Runner.cells_eq (e : Runner) : e.cells = [.int .i64 e.id, .string e.name, .string e.club, .int .i64 e.born, .bool e.woman, .int .i64 e.card] := rfl
structure Cls where
  id : Int
  name : ByteArray
  low : Int
  high : Int
  women : Bool
  men : Bool
  course : Int
  most : Int
def Cls.cells (e : Cls) : List Value := [.int .i64 e.id, .string e.name, .int .i64 e.low, .int .i64 e.high, .bool e.women, .bool e.men, .int .i64 e.course, .int .i64 e.most]
theorem Cls.cells_length (e : Cls) : e.cells.length = 8 := rfl
theorem Cls.cells_one (e : Cls) : ∀ c ∈ e.cells, c.oneCell' = true := by simp [Cls.cells, Value.oneCell']
theorem Cls.cells_eq (e : Cls) : e.cells = [.int .i64 e.id, .string e.name, .int .i64 e.low, .int .i64 e.high, .bool e.women, .bool e.men, .int .i64 e.course, .int .i64 e.most] := rfl
structure Ctl where
  code : Int
  cell : Int
def Ctl.cells (e : Ctl) : List Value := [.int .i64 e.code, .int .i64 e.cell]
theorem Ctl.cells_length (e : Ctl) : e.cells.length = 2 := rfl
theorem Ctl.cells_one (e : Ctl) : ∀ c ∈ e.cells, c.oneCell' = true := by simp [Ctl.cells, Value.oneCell']
theorem Ctl.cells_eq (e : Ctl) : e.cells = [.int .i64 e.code, .int .i64 e.cell] := rfl
end Go.Ori
