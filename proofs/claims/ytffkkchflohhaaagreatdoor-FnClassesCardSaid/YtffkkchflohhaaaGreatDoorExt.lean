/- Lemmas on worlds that have only grown: new blocks and draws. No condition. -/
import Derived.WalkKit
import Derived.BigQuiet
import Derived.Deep.QuietTactic
import Derived.Deep.RegionHeld
import Derived.Lib.Hide
import Derived.WalkSpells
namespace Go
/-- What a world has gained: new blocks, draws. -/
structure Gain where
  blocks : Array Obj
  draws : Nat
instance : Nonempty Gain := ⟨⟨#[], 0⟩⟩
/-- The world with a gain. -/
def World.ext (w : World) (d : Gain) : World := { w with heap := w.heap ++ d.blocks, drawn := d.draws }
def Gain.add (d e : Gain) : Gain := ⟨d.blocks ++ e.blocks, e.draws⟩
theorem World.heap_ext_lt (w : World) (d : Gain) {k : Nat} (h : k < w.heap.size) : (w.ext d).heap[k]? = w.heap[k]? := by
  show (w.heap ++ d.blocks)[k]? = _
  rw [Array.getElem?_append_left h]
theorem World.lt_of_cell {w : World} {a : Addr} (h : (w.cell? a).isSome = true) : a.block < w.heap.size := by
  obtain ⟨v, hv⟩ := Option.isSome_iff_exists.1 h
  exact World.block_lt_of_cell? w a hv
theorem World.size_ext (w : World) (d : Gain) : w.heap.size ≤ (w.ext d).heap.size := by simp [World.ext]
/-- There is a block of this number. -/
def World.oldB (w : World) (b : Nat) : Prop := b < w.heap.size
/-- .. perhaps among those gained. -/
def World.newB (w : World) (d : Gain) (b : Nat) : Prop := b < (w.ext d).heap.size
theorem World.oldB_of_cell {w : World} {b o : Nat} {v : Value} (h : w.cell? ⟨b, o, none⟩ = some v) : w.oldB b := World.block_lt_of_cell? w _ h
@[go_sem] theorem World.oldB_ext (w : World) (d : Gain) (b : Nat) : (w.ext d).oldB b = (w.oldB b ∨ w.newB d b) := by
  apply propext
  unfold World.oldB World.newB
  have := World.size_ext w d
  omega
@[go_sem] theorem World.oldB_alloc (w : World) (o : Obj) (b : Nat) : (w.alloc o).oldB b = (w.oldB b ∨ b = w.heap.size) := by
  apply propext
  unfold World.oldB
  rw [World.size_alloc]
  omega
@[go_sem] theorem World.oldB_setCell (w : World) (a : Addr) (v : Value) (b : Nat) : (w.setCell a v).oldB b = w.oldB b := by
  unfold World.oldB; rw [World.size_setCell]
@[go_sem] theorem World.oldB_drew (w : World) (b : Nat) : w.drew.oldB b = w.oldB b := rfl
@[go_sem] theorem World.oldB_drewN (w : World) (n : Nat) (b : Nat) : (w.drewN n).oldB b = w.oldB b := rfl
@[go_sem] theorem World.size_eq_old (w : World) {b : Nat} (h : w.oldB b) : (w.heap.size = b) = False := eq_false (Nat.ne_of_gt h)
@[go_sem] theorem World.old_eq_size (w : World) {b : Nat} (h : w.oldB b) : (b = w.heap.size) = False := eq_false (Nat.ne_of_lt h)
@[go_sem] theorem World.cell?_ext (w : World) (d : Gain) (a : Addr) (h : w.oldB a.block) : (w.ext d).cell? a = w.cell? a :=
  World.cell?_of_block (World.heap_ext_lt w d h)
@[go_sem] theorem World.frozen?_ext (w : World) (d : Gain) (a : Addr) (h : w.oldB a.block) : (w.ext d).frozen? a = w.frozen? a :=
  World.frozen?_of_block (World.heap_ext_lt w d h)
@[go_sem] theorem World.cell?_alloc_oldB (w : World) (a : Addr) (o : Obj) (h : w.oldB a.block) : (w.alloc o).cell? a = w.cell? a :=
  World.cell?_alloc_old w o a (Nat.ne_of_lt h)
@[go_sem] theorem World.frozen?_alloc_oldB (w : World) (a : Addr) (o : Obj) (h : w.oldB a.block) : (w.alloc o).frozen? a = w.frozen? a :=
  World.frozen?_alloc_old w o a (Nat.ne_of_lt h)
theorem World.ext_ext (w : World) (d e : Gain) : (w.ext d).ext e = w.ext (d.add e) := by
  simp [World.ext, Gain.add, Array.append_assoc]
theorem World.drew_ext (w : World) (d : Gain) : (w.ext d).drew = w.ext ⟨d.blocks, d.draws + 1⟩ := by
  simp [World.ext, World.drew]
theorem World.below_ext (w : World) (d : Gain) : RowKit.Below w.heap.size w (w.ext d) :=
  ⟨rfl, rfl, rfl, World.size_ext w d, fun _ hk => World.heap_ext_lt w d hk⟩
theorem World.drew_is_ext (w : World) : { w with drawn := w.drawn + 1 } = w.ext ⟨#[], w.drawn + 1⟩ := by simp [World.ext]
theorem World.is_ext (w : World) : w = w.ext ⟨#[], w.drawn⟩ := by simp [World.ext]
/-- The class of all gains over w. -/
def World.Gained (w w' : World) : Prop := ∃ d, w' = w.ext d
end Go
namespace Go
theorem World.gained_refl (w : World) : ∃ d, w = w.ext d := ⟨_, w.is_ext⟩
theorem World.gained_of_below {w w' : World} (h : RowKit.Below w.heap.size w w') : ∃ d, w' = w.ext d := by
  refine ⟨⟨w'.heap.extract w.heap.size w'.heap.size, w'.drawn⟩, ?_⟩
  have hh : w'.heap = w.heap ++ w'.heap.extract w.heap.size w'.heap.size := by
    apply Array.ext_getElem?
    intro i
    have hs := h.size
    rcases Nat.lt_or_ge i w.heap.size with hi | hi
    · rw [Array.getElem?_append_left hi]; exact h.block i hi
    · rw [Array.getElem?_append_right hi, Array.getElem?_extract]
      split
      · congr 1; omega
      · rw [Array.getElem?_eq_none]; omega
  obtain ⟨h1, h2, h3, h4, h5⟩ := h
  cases w; cases w'
  simp only [World.ext] at *
  subst h1 h2 h3
  simp only [World.mk.injEq, true_and, and_true]
  exact hh
theorem World.same_gain {w w' : World} (h : w = w') : ∃ d, w' = w.ext d := by subst h; exact w.gained_refl
section
variable {w w1 : World}
theorem gain_alloc (h : ∃ d, w1 = w.ext d) (o : Obj) : ∃ d, w1.alloc o = w.ext d := by
  obtain ⟨d, rfl⟩ := h
  exact ⟨⟨d.blocks.push o, d.draws⟩, by simp [World.ext, World.alloc]⟩
theorem gain_ext (h : ∃ d, w1 = w.ext d) (e : Gain) : ∃ d, w1.ext e = w.ext d := by
  obtain ⟨d, rfl⟩ := h
  exact ⟨_, World.ext_ext _ _ _⟩
theorem gain_drew (h : ∃ d, w1 = w.ext d) : ∃ d, w1.drew = w.ext d := by
  obtain ⟨d, rfl⟩ := h
  exact ⟨_, World.drew_ext _ _⟩
theorem gain_drewN (h : ∃ d, w1 = w.ext d) (n : Nat) : ∃ d, w1.drewN n = w.ext d := by
  obtain ⟨d, rfl⟩ := h
  exact ⟨⟨d.blocks, d.draws + n⟩, by simp [World.ext, World.drewN]⟩
theorem gain_setCell (h : ∃ d, w1 = w.ext d) {a : Addr} (ha : w.heap.size ≤ a.block) (v : Value) : ∃ d, w1.setCell a v = w.ext d := by
  obtain ⟨d, rfl⟩ := h
  exact World.gained_of_below ((World.below_ext w d).setCell ha v)
end
section
variable {P : Program} {Q : Exit → Act → World → Prop} {a : Act} {w : World}
/-- A region that draws its order, whose operations only read and whose callees hand back plain values and may make memory. -/
theorem wp_region_gain {id : Nat} {l : List Oper} (hm : P.follows .mixedOrders = true) (hB : Region.lexB .any l.toArray = true)
    (h : wpQuiet P l.toArray (fun w' => ∃ d, w' = w.ext d) (fun a' => ∀ w', (∃ d, w' = w.ext d) → Q .normal a' w') l a) : (Code.region id l.toArray true).wp P Q a w :=
  wp_region_quiet (C := fun w' => ∃ d, w' = w.ext d) hm hB ⟨_, World.drew_is_ext w⟩ (by simpa using h)
theorem Calls.gain {f : FuncId} {args : Array Value} {d : Gain} {v : Value}
    (h : Calls P f args (w.ext d) fun e w' => e = .returned v ∧ ∃ d', w' = (w.ext d).ext d') : Calls P f args (w.ext d) fun e w'' => e = .returned v ∧ ∃ d', w'' = w.ext d' :=
  h.mono fun _ _ ⟨he, d', hd⟩ => ⟨he, d.add d', by rw [hd, World.ext_ext]⟩
theorem Calls.gain_same {f : FuncId} {args : Array Value} {d : Gain} {v : Value}
    (h : Calls P f args (w.ext d) fun e w' => e = .returned v ∧ w.ext d = w') : Calls P f args (w.ext d) fun e w'' => e = .returned v ∧ ∃ d', w'' = w.ext d' :=
  h.mono fun _ _ ⟨he, hd⟩ => ⟨he, d, hd.symm⟩
end
/-- A slice value that reads as a list: each element takes 'sz' cells. -/
def World.sl {α : Type} (w : World) (enc : α → List Value) (sz : Nat) (v : Value) (l : List α) : Prop :=
  ∃ p c, v = .slice p l.length c ∧ (0 < l.length → ∃ b o, p = some ⟨b, o, none⟩ ∧ ∀ (k : Nat) (h : k < l.length) (j : Nat), j < sz → w.cell? ⟨b, o + k * sz + j, none⟩ = (enc l[k])[j]?) ∧ l.length ≤ c
theorem World.sl_ext {α : Type} {w : World} {enc : α → List Value} {sz : Nat} {v : Value} {l : List α} (hz : ∀ x, (enc x).length = sz) (h : w.sl enc sz v l) (d : Gain) : (w.ext d).sl enc sz v l := by
  obtain ⟨p, c, hv, hp, hcap⟩ := h
  refine ⟨p, c, hv, fun h0 => ?_, hcap⟩
  obtain ⟨b, o, hb, hc⟩ := hp h0
  refine ⟨b, o, hb, fun k hk j hj => ?_⟩
  have := hc k hk j hj
  rw [World.cell?_ext _ _ _ (World.lt_of_cell (a := ⟨b, _, none⟩) (by rw [this]; simp [hz, hj])), this]

/-- A new row stays what it is where the world only grows. -/
theorem World.heap_ext_old {w : World} (d : Gain) {k : Nat} {o : Obj} (h : w.heap[k]? = some o) : (w.ext d).heap[k]? = some o := by
  rw [World.heap_ext_lt w d (Array.getElem?_eq_some_iff.1 h).1]; exact h
theorem World.oldB_of_heap {w : World} {k : Nat} {o : Obj} (h : w.heap[k]? = some o) : w.oldB k := (Array.getElem?_eq_some_iff.1 h).1
theorem World.newB_of_heap {w : World} {d : Gain} {k : Nat} {o : Obj} (h : (w.ext d).heap[k]? = some o) : w.newB d k := (Array.getElem?_eq_some_iff.1 h).1
theorem World.cell_of_heap {w : World} {g : Nat} {C : Array Value} {e : TypeId} {f : Nat × Nat} (h : w.heap[g]? = some (.cells C e f)) (j : Nat) : w.cell? ⟨g, j, none⟩ = C[j]? := by
  simp [World.cell?, h]
theorem World.free_of_heap {w : World} {g : Nat} {C : Array Value} {e : TypeId} (h : w.heap[g]? = some (.cells C e (0, 0))) (j : Nat) : w.frozen? ⟨g, j, none⟩ = false := by
  simp [World.frozen?, h]
theorem World.heap_setCell_row {w : World} {g : Nat} {C : Array Value} {e : TypeId} {f : Nat × Nat} (h : w.heap[g]? = some (.cells C e f)) (i : Nat) (v : Value) :
    (w.setCell ⟨g, i, none⟩ v).heap[g]? = some (.cells (C.setIfInBounds i v) e f) := by
  simp [World.setCell, Array.getElem?_modify, h]
theorem World.heap_setCell_far {w : World} {g : Nat} {a : Addr} (v : Value) (h : g ≠ a.block) : (w.setCell a v).heap[g]? = w.heap[g]? :=
  RowKit.Below.heap_setCell w a v g h
theorem flat_length {α : Type} {enc : α → List Value} {sz : Nat} (hz : ∀ x, (enc x).length = sz) : ∀ l : List α, (l.flatMap enc).length = l.length * sz
  | [] => by simp
  | x :: l => by
    rw [List.flatMap_cons, List.length_append, hz, flat_length hz l, List.length_cons, Nat.add_mul]
    omega
theorem flat_get {α : Type} {enc : α → List Value} {sz : Nat} (hz : ∀ x, (enc x).length = sz) : ∀ (l : List α) (k : Nat) (h : k < l.length) (j : Nat), j < sz → (l.flatMap enc)[k * sz + j]? = (enc l[k])[j]?
  | [], k, h, _, _ => absurd h (Nat.not_lt_zero _)
  | x :: l, 0, _, j, hj => by
    rw [List.flatMap_cons, Nat.zero_mul, Nat.zero_add, List.getElem?_append_left (by rw [hz]; exact hj)]
    rfl
  | x :: l, k + 1, h, j, hj => by
    rw [List.flatMap_cons, List.getElem?_append_right (by rw [hz, Nat.add_mul]; omega), hz]
    have : (k + 1) * sz + j - sz = k * sz + j := by rw [Nat.add_mul]; omega
    rw [this]
    exact flat_get hz l k (by simpa using h) j hj
/-- A row of the call's own, read as a list. -/
theorem World.sl_of_owns {α : Type} {w : World} {enc : α → List Value} {sz base : Nat} {e : TypeId} {v : Value} {l : List α} (hz : ∀ x, (enc x).length = sz)
    (h : w.ownsRow base e sz v l.length (l.flatMap enc)) : w.sl enc sz v l := by
  obtain ⟨_, ⟨rfl, hn⟩ | ⟨g, cap, cur, rfl, _, hg, hle, _, _, ht⟩⟩ := h
  · exact ⟨none, 0, by rw [hn], fun h0 => by omega, by omega⟩
  · refine ⟨_, cap, rfl, fun _ => ⟨g, 0, rfl, fun k hk j hj => ?_⟩, hle⟩
    rw [World.cell_of_heap hg, Nat.zero_add]
    have hlt : k * sz + j < l.length * sz := by
      have : (k + 1) * sz ≤ l.length * sz := Nat.mul_le_mul_right _ hk
      rw [Nat.add_mul] at this
      omega
    have h1 : cur[k * sz + j]? = (l.flatMap enc)[k * sz + j]? := by
      rw [← ht, List.getElem?_take, if_pos hlt]
      simp
    rw [h1]
    exact flat_get hz l k hk j hj
/-- make([]T, n), n no constant: what it gives in every world. -/
theorem run_make_rows {P : Program} {t e : TypeId} {z : Value} {sz by_ : Nat} (ht : P.underlying t = some (.slice e)) (hi : (P.info? e).map (fun i => (i.zero, i.size, i.bytes)) = some (some z, sz, by_))
    (n : Nat) (hn : n ≤ 1048576) (hb : by_ ≤ 4096) (w : World) :
    (Instr.makeSlice t (.int .i64 (n : Int)) (.int .i64 (n : Int))).run P w = .ok (.slice (some ⟨w.heap.size, 0, none⟩) n n) (w.alloc (.cells (madeCells z.cells (n * sz)) e)) := by
  obtain ⟨i, h1, h2, h3, h4⟩ := info_parts hi
  have h5 : by_ * n ≤ 4096 * 1048576 := Nat.mul_le_mul hb hn
  have hb : (i.bytes : Int) * (n : Int) ≤ 281474976710656 := by
    have h : ((i.bytes * n : Nat) : Int) ≤ 281474976710656 := by rw [h4]; omega
    rwa [Int.natCast_mul] at h
  have hr := run_make (P := P) w t e i z ht h1 h2 .i64 .i64 n n (by omega) (by omega) hb (by omega)
  simp only [Int.toNat_natCast] at hr
  rw [h3] at hr
  exact hr
/-- A row that holds a list's cells is owned. -/
theorem owns_of_row {α : Type} {w : World} {enc : α → List Value} {sz base g : Nat} {e : TypeId} {C : Array Value} {l : List α} {cap : Nat} (hz : ∀ x, (enc x).length = sz)
    (hg : w.heap[g]? = some (.cells C e (0, 0))) (hb : base ≤ g) (hs : C.size = cap * sz) (hl : l.length ≤ cap) (hcap : cap ≤ maxLen) (h : ∀ j, j < l.length * sz → C[j]? = (l.flatMap enc)[j]?) :
    w.ownsRow base e sz (.slice (some ⟨g, 0, none⟩) l.length cap) l.length (l.flatMap enc) := by
  have hlen := flat_length hz l
  have hle : l.length * sz ≤ cap * sz := Nat.mul_le_mul_right _ hl
  refine ⟨hlen, .inr ⟨g, cap, C, rfl, hb, hg, hl, hcap, hs, ?_⟩⟩
  apply List.ext_getElem?
  intro j
  rw [List.getElem?_take]
  split
  · rename_i hj
    rw [← h j hj]
    simp
  · rw [List.getElem?_eq_none (by omega)]
theorem le_maxLen {n : Nat} (h : n ≤ 1048576) : n ≤ maxLen := by unfold maxLen; omega
theorem sl_alloc {α : Type} {w : World} {enc : α → List Value} {sz : Nat} {v : Value} {l : List α} (hz : ∀ x, (enc x).length = sz) (h : w.sl enc sz v l) (o : Obj) : (w.alloc o).sl enc sz v l := by
  obtain ⟨d, hd⟩ := gain_alloc w.gained_refl o
  rw [hd]
  exact World.sl_ext hz h d
/-- The first k elements: s[:k]. -/
theorem sl_take {α : Type} {w : World} {enc : α → List Value} {sz : Nat} {p : Option Addr} {n c : Nat} {l : List α} (h : w.sl enc sz (.slice p n c) l) {k : Nat} (hk : k ≤ l.length) : w.sl enc sz (.slice p k c) (l.take k) := by
  obtain ⟨p', c', hv, hp, hcap⟩ := h
  simp only [Value.slice.injEq] at hv
  obtain ⟨rfl, rfl, rfl⟩ := hv
  refine ⟨p, c, by rw [List.length_take, Nat.min_eq_left hk], fun h0 => ?_, by rw [List.length_take]; omega⟩
  rw [List.length_take] at h0
  obtain ⟨b, o, hb, hc⟩ := hp (by omega)
  refine ⟨b, o, hb, fun i hi j hj => ?_⟩
  rw [List.length_take] at hi
  rw [hc i (by omega) j hj, List.getElem_take]
/-- What is behind the first k: s[k:], at least one element. -/
theorem sl_drop {α : Type} {w : World} {enc : α → List Value} {sz : Nat} {b o : Nat} {n c : Nat} {l : List α} (h : w.sl enc sz (.slice (some ⟨b, o, none⟩) n c) l) {k : Nat} (hk : k < l.length) :
    w.sl enc sz (.slice (some ⟨b, o + k * sz, none⟩) (n - k) (c - k)) (l.drop k) := by
  obtain ⟨p', c', hv, hp, hcap⟩ := h
  simp only [Value.slice.injEq] at hv
  obtain ⟨rfl, rfl, rfl⟩ := hv
  refine ⟨_, c - k, by rw [List.length_drop], fun h0 => ?_, by rw [List.length_drop]; omega⟩
  obtain ⟨b', o', hb, hc⟩ := hp (by omega)
  simp only [Option.some.injEq, Addr.mk.injEq, and_true] at hb
  obtain ⟨rfl, rfl⟩ := hb
  refine ⟨b, _, rfl, fun i hi j hj => ?_⟩
  rw [List.length_drop] at hi
  have := hc (k + i) (by omega) j hj
  rw [List.getElem_drop, ← this]
  congr 2
  rw [Nat.add_mul]
  omega
end Go
