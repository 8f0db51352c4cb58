/- slices.Sort, slices.Compact of ints of the call's own, off the shelf. Condition: at most 1048576 ints. -/
import Derived.Test.YtfenempljjenpaaG24
import Derived.Test.YtfenempljjenpaaG3
import Derived.Test.YtfenempljjenpaaG1
import Derived.Test.YtfenempljjenpaaG2
import Derived.Lib.RowBridge
namespace Go
open Go.RowKit Go.Sort
theorem putCells_take (l r : List Int) (cur : Array Value) (h : r.length ≤ cur.size) (hl : l.length = r.length) : (putCells (Value.int .i64) 0 r.toArray cur).toList.take l.length = r.map (Value.int .i64) := by
  apply List.ext_getElem?
  intro j
  rw [List.getElem?_take]
  split
  · rename_i hj
    rw [hl] at hj
    simp only [putCells, Array.getElem?_toList, Array.getElem?_mapIdx, List.size_toArray, Nat.zero_add, Nat.sub_zero, List.getElem?_map]
    rw [Array.getElem?_eq_getElem (by omega), List.getElem?_eq_getElem hj]
    simp [hj, List.getElem!_eq_getElem?_getD]
  · rename_i hj
    rw [List.getElem?_map, List.getElem?_eq_none (by omega)]; rfl
theorem putCells_size (r : List Int) (cur : Array Value) : (putCells (Value.int .i64) 0 r.toArray cur).size = cur.size := by simp [putCells]
theorem putRow_heap {w : World} {g : Nat} {cur : Array Value} {e : TypeId} (hg : w.heap[g]? = some (.cells cur e (0, 0))) (n : Nat) (r : List Int) (os : Array Obj) :
    (grow (putRow (Value.int .i64) (Sort.ahead w n) g 0 r.toArray) os).heap[g]? = some (.cells (putCells (Value.int .i64) 0 r.toArray cur) e (0, 0)) := by
  have hlt : g < w.heap.size := (Array.getElem?_eq_some_iff.1 hg).1
  simp only [grow, putRow, mapBlock, heap_ahead]
  rw [Array.getElem?_append_left (by simpa using hlt), Array.getElem?_modify, if_pos rfl, hg]
  rfl
theorem putRow_only {w : World} (g n : Nat) (r : List Int) (os : Array Obj) : w.grownBy (grow (putRow (Value.int .i64) (Sort.ahead w n) g 0 r.toArray) os) (some g) :=
  ⟨rfl, rfl, rfl, by simp [grow], fun k hk hne => by
    simp only [grow, putRow, mapBlock, heap_ahead]
    rw [Array.getElem?_append_left (by simpa using hk), Array.getElem?_modify, if_neg (by rintro rfl; exact hne rfl)]⟩
theorem holds_own {w : World} {B g n cap : Nat} {e : TypeId} {l : List Int} (h : w.own B e Ori.intC 1 (.slice (some ⟨g, 0, none⟩) n cap) l) : Holds (Value.int .i64) w g 0 l.toArray := by
  intro j hj
  have hj : j < l.length := by simpa using hj
  have hc := Ori.sl_int (sl_of_own Ori.intC_length h) hj
  refine ⟨by rw [hc]; simp [hj], ?_⟩
  obtain ⟨_, ⟨hv, _⟩ | ⟨g', cap', cur, hv, hb, hh, _⟩⟩ := h
  · cases hv
  · simp only [Value.slice.injEq, Option.some.injEq, Addr.mk.injEq, and_true] at hv
    obtain ⟨rfl, _, _⟩ := hv
    exact World.free_of_heap hh _
/-- What stands in the row after it is written anew: the first of it, for a list as long, read as a list. -/
theorem own_rewritten {W w : World} {B g cap : Nat} {e : TypeId} {l r r' : List Int} (hW : ∃ d, w = W.ext d) (hB : W.heap.size ≤ B) (h : w.own B e Ori.intC 1 (.slice (some ⟨g, 0, none⟩) l.length cap) l) (hl : r.length = l.length) (q : List Int) (hq : r = r' ++ q) (n : Nat) (os : Array Obj) :
    (∃ d, grow (putRow (Value.int .i64) (Sort.ahead w n) g 0 r.toArray) os = W.ext d) ∧ (grow (putRow (Value.int .i64) (Sort.ahead w n) g 0 r.toArray) os).own B e Ori.intC 1 (.slice (some ⟨g, 0, none⟩) r'.length cap) r' := by
  have hlt := own_lt h g rfl
  refine ⟨gain_grown hW (putRow_only g n r os) (fun b hb => by injection hb with hb; omega), ?_⟩
  obtain ⟨_, ⟨hv, _⟩ | ⟨g', cap', cur, hv, hb, hh, hle, hcm, hcs, htk⟩⟩ := h
  · cases hv
  · simp only [Value.slice.injEq, Option.some.injEq, Addr.mk.injEq, and_true] at hv
    obtain ⟨rfl, _, rfl⟩ := hv
    have hr' : r'.length ≤ l.length := by rw [← hl, hq, List.length_append]; omega
    refine ⟨flat_length Ori.intC_length r', .inr ⟨g, cap, _, rfl, hb, putRow_heap hh n r os, by omega, hcm, by rw [putCells_size]; exact hcs, ?_⟩⟩
    have ht := putCells_take l r cur (by omega) hl.symm
    have h2 := congrArg (List.take r'.length) ht
    rw [List.take_take, Nat.min_eq_left hr', hq, List.map_append, List.take_append_of_le_length (by simp)] at h2
    rw [Nat.mul_one, Ori.flat_int, hq, h2]
    exact List.take_of_length_le (by simp)
end Go
namespace Go.Proofs.Ytfenempljjenpaa
open Go.RowKit Go.Ori
theorem sortInts_any (W w : World) (B g cap : Nat) (l : List Int) (hW : ∃ d, w = W.ext d) (hB : W.heap.size ≤ B) (ho : w.own B 3 intC 1 (.slice (some ⟨g, 0, none⟩) l.length cap) l) (hl : l.length ≤ 1048576) :
    Calls Try.prog 37 #[.slice (some ⟨g, 0, none⟩) l.length cap] w fun x w' => x = .returned (.tuple #[]) ∧ (∃ d, w' = W.ext d) ∧ w'.own B 3 intC 1 (.slice (some ⟨g, 0, none⟩) l.length cap) (l.mergeSort fun x y => decide (x ≤ y)) := by
  refine (Try.slices_Sort_int g 0 cap l w (holds_own ho) (own_lt ho g rfl).2 (by omega)).mono ?_
  rintro e w' ⟨rfl, n, os, rfl⟩
  have hlen : (l.mergeSort fun x y => decide (x ≤ y)).length = l.length := List.length_mergeSort l
  have h := own_rewritten hW hB ho hlen [] (List.append_nil _).symm n os
  rw [hlen] at h
  exact ⟨rfl, h.1, h.2⟩
theorem compactInts_any (W w : World) (B g cap : Nat) (l : List Int) (hW : ∃ d, w = W.ext d) (hB : W.heap.size ≤ B) (ho : w.own B 3 intC 1 (.slice (some ⟨g, 0, none⟩) l.length cap) l) (hl : l.length ≤ 1048576) :
    Calls Try.prog 38 #[.slice (some ⟨g, 0, none⟩) l.length cap] w fun x w' => ∃ r, x = .returned r ∧ (∃ d, w' = W.ext d) ∧ w'.own B 3 intC 1 r (Lib.compact l) := by
  refine (Try.slices_Compact_int g 0 cap l w (holds_own ho) (by omega) (sl_cap (sl_of_own intC_length ho))).mono ?_
  rintro e w' ⟨rfl, n, rfl⟩
  have hle := Lib.compact_length_le l
  have h := own_rewritten hW hB ho (r := Lib.compact l ++ List.replicate (l.length - (Lib.compact l).length) 0) (r' := Lib.compact l) (by simp; omega) _ rfl n #[]
  rw [Sort.grow_empty] at h
  exact ⟨_, rfl, h.1, h.2⟩
end Go.Proofs.Ytfenempljjenpaa
