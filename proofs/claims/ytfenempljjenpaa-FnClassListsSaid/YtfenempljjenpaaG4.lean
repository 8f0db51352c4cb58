/- Texts laid together: spec.l1Cur's pick, one, among. Condition: the reader has been asked less than 2^40 times.; A row in memory while its fields are drawn: the reader, the result's row, the row at hand. No condition.; spec.l1Cur's of: one of some texts; a row in memory while it is drawn. Condition: the reader has been asked less than a million times. -/
import Derived.Test.YtfenempljjenpaaG3
import Derived.Test.YtfenempljjenpaaG2
/- spec.l1Cur's pick, one, among. Condition: the reader has been asked less than 2^40 times. -/
namespace Go
open RowKit Go.Ori
theorem only_new {a b c : World} {g : Nat} {r : Option Nat} (h : a.grownBy b (some g)) (h' : b.grownBy c r) (hr : ∀ q, r = some q → a.heap.size ≤ q) : a.grownBy c (some g) :=
  ⟨h'.os.trans h.os, h'.tape.trans h.tape, h'.output.trans h.output, Nat.le_trans h.size h'.size, fun i hi hne => (h'.block i (Nat.lt_of_lt_of_le hi h.size) (fun e => by have := hr i e.symm; omega)).trans (h.block i hi hne)⟩
/-- Another block than the reader's is written. -/
theorem Cur.grow {e : TypeId} {W w w' : World} {g n : Nat} {r : Option Nat} (h : Cur e W w g n) (hg : w.grownBy w' r) (hr : ∀ q, r = some q → g < q) (hu : ∃ d, w' = W.ext d) : Cur e W w' g n := by
  obtain ⟨p, c, L, a, s, h1, h2⟩ := h.row
  exact ⟨hu, h.ge, p, c, L, a, s, (hg.block g h.lt (fun q => by have := hr g q.symm; omega)).trans h1, h2⟩
theorem only_size {a b : World} {r : Option Nat} (h : a.grownBy b r) : a.heap.size ≤ b.heap.size := h.size
theorem own_newer {α : Type} {w : World} {enc : α → List Value} {sz base : Nat} {e : TypeId} {v : Value} {l : List α} (h : w.own base e enc sz v l) {g : Nat} (hg : g < base) : ∀ q, v.ownBlock = some q → g < q := fun q hq => Nat.lt_of_lt_of_le hg (own_lt h q hq).1
end Go
namespace Go.Proofs.Ytfenempljjenpaa
open Go.RowKit Go.Ori
theorem rem_bd {x m : Int} (h0 : 0 ≤ x) (hm : 1 < m) : 0 ≤ x % m ∧ x % m < m := ⟨Int.emod_nonneg _ (by omega), Int.emod_lt_of_pos _ (by omega)⟩
set_option maxHeartbeats 1000000 in
theorem pick_any (W w : World) (g n : Nat) (m : Int) (h : Cur 54 W w g n) (hn : n ≤ 1000000) :
    Calls Try.prog 40 #[.pointer (some ⟨g, 0, none⟩), .int .i64 m] w fun x w' => ∃ r : Int, x = .returned (.int .i64 r) ∧ 0 ≤ r ∧ (r < m ∨ r = 0 ∧ m ≤ 1) ∧ Cur 54 W w' g (n + 2) ∧ w.grownBy w' (some g) := by
  have HC := Lib.hid h
  clear h
  by_cases h1 : m ≤ 1
  · go_enter Try.func40, Try.ntmps40
    go_wp2
    go_ret
    exact ⟨0, rfl, by omega, .inr ⟨rfl, h1⟩, HC.out.le (by omega), only_refl _ _⟩
  · go_enter Try.func40, Try.ntmps40
    go_wp2_with fail
    refine (next_any W _ g n HC.out (by omega)).mono ?_
    rintro e w1 ⟨r1, rfl, q1, q2, hc1, hg1⟩
    have HC1 := Lib.hid hc1
    have HG1 := Lib.hid hg1
    clear hc1 hg1
    by_cases h2 : 200 < m
    · go_wp2_with fail
      refine (next_any W _ g (n + 1) HC1.out (by omega)).mono ?_
      rintro e w2 ⟨r2, rfl, q3, q4, hc2, hg2⟩
      have HC2 := Lib.hid hc2
      have HG2 := Lib.hid (only_trans HG1.out hg2)
      clear hc2 hg2
      go_wp2
      go_ret
      have := rem_bd (x := r1 * 256 + r2) (m := m) (by omega) (by omega)
      exact ⟨_, rfl, this.1, .inl this.2, HC2.out, HG2.out⟩
    · go_wp2
      go_ret
      have := rem_bd (x := r1) (m := m) (by omega) (by omega)
      exact ⟨_, rfl, this.1, .inl this.2, HC1.out.le (by omega), HG1.out⟩
set_option maxHeartbeats 1000000 in
theorem one_any (W w : World) (g n : Nat) (m : Int) (h : Cur 54 W w g n) (hn : n ≤ 1000000) :
    Calls Try.prog 31 #[.pointer (some ⟨g, 0, none⟩), .int .i64 m] w fun x w' => ∃ r : Bool, x = .returned (.bool r) ∧ Cur 54 W w' g (n + 2) ∧ w.grownBy w' (some g) := by
  have HC := Lib.hid h
  clear h
  go_enter Try.func31, Try.ntmps31
  go_wp2_with fail
  refine (pick_any W _ g n m HC.out hn).mono ?_
  rintro e w1 ⟨r, rfl, _, _, hc1, hg1⟩
  have HC1 := Lib.hid hc1
  have HG1 := Lib.hid hg1
  clear hc1 hg1
  cases hb : r == 0 <;>
  · go_wp2
    go_ret
    exact ⟨_, rfl, HC1.out, HG1.out⟩
set_option maxHeartbeats 1000000 in
theorem among_any (W w : World) (g n : Nat) (v : Value) (l : List Int) (lo : Nat) (h : Cur 54 W w g n) (hn : n ≤ 1000000) (ho : w.own lo 3 intC 1 v l) (hlo : g < lo) (h0 : 0 < l.length) (hl : l.length ≤ 1048576) :
    Calls Try.prog 41 #[.pointer (some ⟨g, 0, none⟩), v] w fun x w' => ∃ r : Int, x = .returned (.int .i64 r) ∧ r ∈ l ∧ Cur 54 W w' g (n + 2) ∧ w.grownBy w' (some g) := by
  have HC := Lib.hid h
  have HO := Lib.hid ho
  obtain ⟨p, c, rfl, _⟩ := sl_of_own intC_length ho
  clear h ho
  go_enter Try.func41, Try.ntmps41
  go_wp2_with fail
  refine (pick_any W _ g n _ HC.out hn).mono ?_
  rintro e w1 ⟨r, rfl, q1, q2, hc1, hg1⟩
  have HC1 := Lib.hid hc1
  have HG1 := Lib.hid hg1
  have hs1 := sl_of_own intC_length (own_cur HO.out hlo hg1)
  obtain ⟨k, rfl⟩ : ∃ k : Nat, r = k := ⟨r.toNat, by omega⟩
  have hk : k < l.length := by omega
  obtain ⟨b, o, rfl⟩ := sl_some hs1 h0
  have c0 := sl_int hs1 hk
  have HM := Lib.hid (List.getElem_mem hk)
  generalize l[k] = y at c0 HM
  have ob := World.oldB_of_cell c0
  clear hc1 hg1 hs1 q2
  go_wp2
  go_ret
  exact ⟨_, rfl, HM.out, HC1.out, HG1.out⟩
end Go.Proofs.Ytfenempljjenpaa
/- A row in memory while its fields are drawn: the reader, the result's row, the row at hand. No condition. -/
namespace Go
open RowKit Go.Ori
theorem rowd_keep {w w' : World} {r : Option Nat} {b : Nat} {C : Array Value} {e : TypeId} {f : Nat × Nat} (h : w.heap[b]? = some (.cells C e f)) (hg : w.grownBy w' r) (hr : ∀ q, r = some q → q ≠ b) : w'.heap[b]? = some (.cells C e f) :=
  (hg.block b (Array.getElem?_eq_some_iff.1 h).1 (fun e => hr _ e.symm rfl)).trans h
theorem rowd_up {w w' : World} {b : Nat} {C : Array Value} {e : TypeId} {f : Nat × Nat} (h : w.heap[b]? = some (.cells C e f)) (hg : ∃ d, w' = w.ext d) : w'.heap[b]? = some (.cells C e f) := by
  obtain ⟨d, rfl⟩ := hg
  exact World.heap_ext_old d h
/-- The reader and the result's row. -/
structure PreSt (T tC : TypeId) (W w wr : World) (g gR n : Nat) (Z : Array Value) : Prop where
  cur : Cur T W wr g n
  res : wr.heap[gR]? = some (.cells Z tC (0, 0))
  gr : w.grownBy wr (some g)
  g2 : g < w.heap.size
  r1 : w.heap.size ≤ gR
  wW : W.heap.size ≤ g
/-- .. and the row at hand. -/
structure RowSt (T tC : TypeId) (W w wr : World) (g gR gB n : Nat) (Z B : Array Value) : Prop where
  pre : PreSt T tC W w wr g gR n Z
  box : wr.heap[gB]? = some (.cells B tC (0, 0))
  rb : gR < gB
section
variable {T tC : TypeId} {W w wr wr' : World} {g gR gB n n' : Nat} {Z B : Array Value}
theorem PreSt.start (h : Cur T W w g n) : PreSt T tC W w (w.alloc (.cells Z tC)) g w.heap.size n Z :=
  ⟨h.gain (gain_alloc (World.gained_refl _) _), heap_alloc_new w _, only_gain (only_refl _ _) (gain_alloc (World.gained_refl _) _), h.lt, Nat.le_refl _, h.ge⟩
theorem PreSt.up (h : PreSt T tC W w wr g gR n Z) (hg : ∃ d, wr' = wr.ext d) : PreSt T tC W w wr' g gR n Z :=
  ⟨h.cur.gain hg, rowd_up h.res hg, only_gain h.gr hg, h.g2, h.r1, h.wW⟩
theorem PreSt.le (h : PreSt T tC W w wr g gR n Z) (hn : n ≤ n') : PreSt T tC W w wr g gR n' Z := ⟨h.cur.le hn, h.res, h.gr, h.g2, h.r1, h.wW⟩
theorem PreSt.on (h : PreSt T tC W w wr g gR n Z) (hc : Cur T W wr' g n') (hg : wr.grownBy wr' (some g)) : PreSt T tC W w wr' g gR n' Z :=
  ⟨hc, rowd_keep h.res hg (fun q e => by have := h.g2; have := h.r1; cases e; omega), only_trans h.gr hg, h.g2, h.r1, h.wW⟩
theorem PreSt.lt (h : PreSt T tC W w wr g gR n Z) : g < wr.heap.size := h.cur.lt
theorem PreSt.box (h : PreSt T tC W w wr g gR n Z) (B : Array Value) : RowSt T tC W w (wr.alloc (.cells B tC)) g gR wr.heap.size n Z B :=
  ⟨h.up (gain_alloc (World.gained_refl _) _), heap_alloc_new wr _, (Array.getElem?_eq_some_iff.1 h.res).1⟩
theorem RowSt.up (h : RowSt T tC W w wr g gR gB n Z B) (hg : ∃ d, wr' = wr.ext d) : RowSt T tC W w wr' g gR gB n Z B := ⟨h.pre.up hg, rowd_up h.box hg, h.rb⟩
theorem RowSt.le (h : RowSt T tC W w wr g gR gB n Z B) (hn : n ≤ n') : RowSt T tC W w wr g gR gB n' Z B := ⟨h.pre.le hn, h.box, h.rb⟩
theorem RowSt.on (h : RowSt T tC W w wr g gR gB n Z B) (hc : Cur T W wr' g n') (hg : wr.grownBy wr' (some g)) : RowSt T tC W w wr' g gR gB n' Z B :=
  ⟨h.pre.on hc hg, rowd_keep h.box hg (fun q e => by have := h.pre.g2; have := h.pre.r1; have := h.rb; cases e; omega), h.rb⟩
theorem RowSt.lt (h : RowSt T tC W w wr g gR gB n Z B) : g < wr.heap.size := h.pre.cur.lt
theorem RowSt.put (h : RowSt T tC W w wr g gR gB n Z B) (i : Nat) (v : Value) : RowSt T tC W w (wr.setCell ⟨gB, i, none⟩ v) g gR gB n Z (B.setIfInBounds i v) := by
  have hg : wr.grownBy (wr.setCell ⟨gB, i, none⟩ v) (some gB) := only_setCell (only_refl _ _) rfl _
  have h1 := h.pre.g2
  have h2 := h.pre.r1
  have h3 := h.rb
  have h4 := h.pre.wW
  have hu := gain_setCell h.pre.cur.up (a := ⟨gB, i, none⟩) (show W.heap.size ≤ gB by omega) v
  exact ⟨⟨h.pre.cur.grow hg (fun q e => by cases e; omega) hu, rowd_keep h.pre.res hg (fun q e => by cases e; omega), only_new h.pre.gr hg (fun q e => by cases e; omega), h.pre.g2, h.pre.r1, h.pre.wW⟩, World.heap_setCell_row h.box i v, h.rb⟩
theorem RowSt.fin (h : RowSt T tC W w wr g gR gB n Z B) (hg : wr.grownBy wr' (some gR)) : Cur T W wr' g n ∧ w.grownBy wr' (some g) := by
  have h1 := h.pre.g2
  have h2 := h.pre.r1
  have h4 := h.pre.wW
  exact ⟨h.pre.cur.grow hg (fun q e => by cases e; omega) (gain_grown h.pre.cur.up hg (fun q e => by cases e; omega)), only_new h.pre.gr hg (fun q e => by cases e; omega)⟩
end
end Go
/- spec.l1Cur's of: one of some texts; a row in memory while it is drawn. Condition: the reader has been asked less than a million times. -/
namespace Go.Ori
def strC (s : ByteArray) : List Value := [.string s]
theorem strC_length (s : ByteArray) : (strC s).length = 1 := rfl
theorem strC_one (s : ByteArray) : ∀ c ∈ strC s, c.oneCell' = true := by simp [strC, Value.oneCell']
theorem sl_str {w : World} {b o n c : Nat} {l : List ByteArray} (h : w.sl strC 1 (.slice (some ⟨b, o, none⟩) n c) l) {k : Nat} (hk : k < l.length) : w.cell? ⟨b, o + k, none⟩ = some (.string l[k]) := by
  have := sl_cells h hk (j := 0) (by omega)
  simpa [strC] using this
end Go.Ori
namespace Go.Proofs.Ytfenempljjenpaa
open Go.RowKit Go.Ori
set_option maxHeartbeats 1000000 in
theorem of_any (W w : World) (g n : Nat) (v : Value) (l : List ByteArray) (lo : Nat) (h : Cur 54 W w g n) (hn : n ≤ 1000000) (ho : w.own lo 9 strC 1 v l) (hlo : g < lo) (h0 : 0 < l.length) (hl : l.length ≤ 1048576) :
    Calls Try.prog 57 #[.pointer (some ⟨g, 0, none⟩), v] w fun x w' => ∃ r : ByteArray, x = .returned (.string r) ∧ r ∈ l ∧ Cur 54 W w' g (n + 2) ∧ w.grownBy w' (some g) := by
  have HC := Lib.hid h
  have HO := Lib.hid ho
  obtain ⟨p, c, rfl, _⟩ := sl_of_own strC_length ho
  clear h ho
  go_enter Try.func57, Try.ntmps57
  go_wp2_with fail
  refine (pick_any W _ g n _ HC.out hn).mono ?_
  rintro e w1 ⟨r, rfl, q1, q2, hc1, hg1⟩
  have HC1 := Lib.hid hc1
  have HG1 := Lib.hid hg1
  have hs1 := sl_of_own strC_length (own_cur HO.out hlo hg1)
  obtain ⟨k, rfl⟩ : ∃ k : Nat, r = k := ⟨r.toNat, by omega⟩
  have hk : k < l.length := by omega
  obtain ⟨b, o, rfl⟩ := sl_some hs1 h0
  have c0 := sl_str hs1 hk
  have HM := Lib.hid (List.getElem_mem hk)
  generalize l[k] = y at c0 HM
  have ob := World.oldB_of_cell c0
  clear hc1 hg1 hs1 q2
  go_wp2
  go_ret
  exact ⟨_, rfl, HM.out, HC1.out, HG1.out⟩
end Go.Proofs.Ytfenempljjenpaa
