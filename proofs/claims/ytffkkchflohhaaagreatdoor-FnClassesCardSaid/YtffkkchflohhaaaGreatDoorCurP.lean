/- spec.l1Cur's pick, one, among. Condition: the reader has been asked less than 2^40 times. -/
import Derived.Test.YtffkkchflohhaaaGreatDoorCur
namespace Go
open RowKit Go.Ori
theorem only_new {a b c : World} {g : Nat} {r : Option Nat} (h : a.grownBy b (some g)) (h' : b.grownBy c r) (hr : ∀ q, r = some q → a.heap.size ≤ q) : a.grownBy c (some g) :=
  ⟨h'.os.trans h.os, h'.tape.trans h.tape, h'.output.trans h.output, Nat.le_trans h.size h'.size, fun i hi hne => (h'.block i (Nat.lt_of_lt_of_le hi h.size) (fun e => by have := hr i e.symm; omega)).trans (h.block i hi hne)⟩
/-- Another block than the reader's is written. -/
theorem Cur.grow {e : TypeId} {W w w' : World} {g n : Nat} {r : Option Nat} (h : Cur e W w g n) (hg : w.grownBy w' r) (hr : ∀ q, r = some q → g < q) (hu : ∃ d, w' = W.ext d) : Cur e W w' g n := by
  obtain ⟨p, c, L, a, s, h1, h2⟩ := h.row
  exact ⟨hu, h.ge, p, c, L, a, s, (hg.block g h.lt (fun q => by have := hr g q.symm; omega)).trans h1, h2⟩
theorem only_size {a b : World} {r : Option Nat} (h : a.grownBy b r) : a.heap.size ≤ b.heap.size := h.size
theorem own_newer {α : Type} {w : World} {enc : α → List Value} {sz base : Nat} {e : TypeId} {v : Value} {l : List α} (h : w.own base e enc sz v l) {g : Nat} (hg : g < base) : ∀ q, v.ownBlock = some q → g < q := fun q hq => Nat.lt_of_lt_of_le hg (own_lt h q hq).1
end Go
namespace Go.Proofs.YtffkkchflohhaaaGreatDoor
open Go.RowKit Go.Ori
theorem rem_bd {x m : Int} (h0 : 0 ≤ x) (hm : 1 < m) : 0 ≤ x % m ∧ x % m < m := ⟨Int.emod_nonneg _ (by omega), Int.emod_lt_of_pos _ (by omega)⟩
set_option maxHeartbeats 1000000 in
theorem pick_any (W w : World) (g n : Nat) (m : Int) (h : Cur 62 W w g n) (hn : n ≤ 1000000) :
    Calls Tryz.prog 65 #[.pointer (some ⟨g, 0, none⟩), .int .i64 m] w fun x w' => ∃ r : Int, x = .returned (.int .i64 r) ∧ 0 ≤ r ∧ (r < m ∨ r = 0 ∧ m ≤ 1) ∧ Cur 62 W w' g (n + 2) ∧ w.grownBy w' (some g) := by
  have HC := Lib.hid h
  clear h
  by_cases h1 : m ≤ 1
  · go_enter Tryz.func65, Tryz.ntmps65
    go_wp2
    go_ret
    exact ⟨0, rfl, by omega, .inr ⟨rfl, h1⟩, HC.out.le (by omega), only_refl _ _⟩
  · go_enter Tryz.func65, Tryz.ntmps65
    go_wp2_with fail
    refine (next_any W _ g n HC.out (by omega)).mono ?_
    rintro e w1 ⟨r1, rfl, q1, q2, hc1, hg1⟩
    have HC1 := Lib.hid hc1
    have HG1 := Lib.hid hg1
    clear hc1 hg1
    by_cases h2 : 200 < m
    · go_wp2_with fail
      refine (next_any W _ g (n + 1) HC1.out (by omega)).mono ?_
      rintro e w2 ⟨r2, rfl, q3, q4, hc2, hg2⟩
      have HC2 := Lib.hid hc2
      have HG2 := Lib.hid (only_trans HG1.out hg2)
      clear hc2 hg2
      go_wp2
      go_ret
      have := rem_bd (x := r1 * 256 + r2) (m := m) (by omega) (by omega)
      exact ⟨_, rfl, this.1, .inl this.2, HC2.out, HG2.out⟩
    · go_wp2
      go_ret
      have := rem_bd (x := r1) (m := m) (by omega) (by omega)
      exact ⟨_, rfl, this.1, .inl this.2, HC1.out.le (by omega), HG1.out⟩
set_option maxHeartbeats 1000000 in
theorem one_any (W w : World) (g n : Nat) (m : Int) (h : Cur 62 W w g n) (hn : n ≤ 1000000) :
    Calls Tryz.prog 35 #[.pointer (some ⟨g, 0, none⟩), .int .i64 m] w fun x w' => ∃ r : Bool, x = .returned (.bool r) ∧ Cur 62 W w' g (n + 2) ∧ w.grownBy w' (some g) := by
  have HC := Lib.hid h
  clear h
  go_enter Tryz.func35, Tryz.ntmps35
  go_wp2_with fail
  refine (pick_any W _ g n m HC.out hn).mono ?_
  rintro e w1 ⟨r, rfl, _, _, hc1, hg1⟩
  have HC1 := Lib.hid hc1
  have HG1 := Lib.hid hg1
  clear hc1 hg1
  cases hb : r == 0 <;>
  · go_wp2
    go_ret
    exact ⟨_, rfl, HC1.out, HG1.out⟩
set_option maxHeartbeats 1000000 in
theorem among_any (W w : World) (g n : Nat) (v : Value) (l : List Int) (lo : Nat) (h : Cur 62 W w g n) (hn : n ≤ 1000000) (ho : w.own lo 3 intC 1 v l) (hlo : g < lo) (h0 : 0 < l.length) (hl : l.length ≤ 1048576) :
    Calls Tryz.prog 34 #[.pointer (some ⟨g, 0, none⟩), v] w fun x w' => ∃ r : Int, x = .returned (.int .i64 r) ∧ r ∈ l ∧ Cur 62 W w' g (n + 2) ∧ w.grownBy w' (some g) := by
  have HC := Lib.hid h
  have HO := Lib.hid ho
  obtain ⟨p, c, rfl, _⟩ := sl_of_own intC_length ho
  clear h ho
  go_enter Tryz.func34, Tryz.ntmps34
  go_wp2_with fail
  refine (pick_any W _ g n _ HC.out hn).mono ?_
  rintro e w1 ⟨r, rfl, q1, q2, hc1, hg1⟩
  have HC1 := Lib.hid hc1
  have HG1 := Lib.hid hg1
  have hs1 := sl_of_own intC_length (own_cur HO.out hlo hg1)
  obtain ⟨k, rfl⟩ : ∃ k : Nat, r = k := ⟨r.toNat, by omega⟩
  have hk : k < l.length := by omega
  obtain ⟨b, o, rfl⟩ := sl_some hs1 h0
  have c0 := sl_int hs1 hk
  have HM := Lib.hid (List.getElem_mem hk)
  generalize l[k] = y at c0 HM
  have ob := World.oldB_of_cell c0
  clear hc1 hg1 hs1 q2
  go_wp2
  go_ret
  exact ⟨_, rfl, HM.out, HC1.out, HG1.out⟩
end Go.Proofs.YtffkkchflohhaaaGreatDoor
