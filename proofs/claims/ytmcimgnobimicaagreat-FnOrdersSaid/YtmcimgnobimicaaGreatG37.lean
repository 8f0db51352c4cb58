/- Texts laid together: impl.hasTwice: a number stands in a list twice. Condition: at most 1048576 elements.; DERIVED: THE SHELF's CONTRACTS AT THIS DUMP, IN PLAIN WORDS (tools/lay-plain.mjs out of 'YtmcimgnobimicaaGreatShelf.lean', which tools/lay-shelf.mjs wrote): THE SAME DECLARATIONS UNDER THE SAME NAMES: 'import', 'namespace', 'open', 'def', 'theorem' AND NOTHING ELSE: no command of the shelf's: FOR A HAND-IN. Each laying: the table of numbers ('.._ren') and one theorem, a field a fact of the dump's own or the kernel's comparison; each contract: ONE APPLICATION.; slices.Sort, slices.Compact of ints of the call's own, off the shelf. Condition: at most 1048576 ints. -/
import Derived.Test.YtmcimgnobimicaaGreatG31
import Derived.Shelf.Small.Bits
import Derived.Shelf.Small.Wraps
import Derived.Shelf.Strconv.Itoa0
import Derived.Shelf.Sort.Plain
import Derived.Shelf.Slices.In.SortNone
import Derived.Test.YtmcimgnobimicaaGreatChecked
import Derived.Test.YtmcimgnobimicaaGreatG3
import Derived.Test.YtmcimgnobimicaaGreatG1
import Derived.Test.YtmcimgnobimicaaGreatG2
import Derived.Lib.RowBridge
/- impl.hasTwice: a number stands in a list twice. Condition: at most 1048576 elements. -/
namespace Go.Proofs.YtmcimgnobimicaaGreat
open Go.RowKit Go.Ori
theorem hasTwice_any (v : Value) (l : List Int) (w : World) (h : w.sl intC 1 v l) (hl : l.length ≤ 1048576) :
    Calls Tryz.prog 21 #[v] w fun x w' => x = .returned (.bool (twiceB l)) ∧ ∃ d, w' = w.ext d := by
  have hs := Lib.hid h
  obtain ⟨p, c, rfl, hp, hcap⟩ := h
  go_enter Tryz.func21, Tryz.ntmps21
  go_wp2
  go_loopw [7] (fun i wr => ∃ k : Nat, k ≤ l.length ∧ i = .int .i64 k ∧ (∀ j, j < k → freshAt l j = true) ∧ ∃ d, wr = w.ext d) (fun i _ => l.length - (intOf i).toNat)
  case atStart => exact ⟨0, by omega, rfl, by simp, w.gained_refl⟩
  case round =>
    obtain ⟨k, hk, rfl, hno, d, rfl⟩ := hrel
    have HN := Lib.hid hno
    clear hno
    by_cases hlt : k < l.length
    · obtain ⟨b, o, rfl, hc⟩ := hp (by omega)
      have c0 := hc k hlt 0 (by omega)
      have H1 : Hid (freshAt l k = !hasB (l.take k) l[k]) := Lib.hid (freshAt_eq hlt)
      generalize l[k] = y at c0 H1
      have hck : k ≤ c := by omega
      clear hc hp
      simp only [intC, List.getElem?_cons_zero, Nat.add_zero, Nat.mul_one] at c0
      have ob := World.oldB_of_cell c0
      go_wp2_with fail
      refine (contains_ints _ (l.take k) y _ (World.sl_ext intC_length (sl_take hs.out hk) d) (by rw [List.length_take]; omega)).mono ?_
      rintro e w1 ⟨rfl, d1, rfl⟩
      cases hf : hasB (l.take k) y with
      | true =>
        have H1' := Lib.hid (allB_no (f := freshAt l) hlt (by rw [H1.out, hf]; rfl))
        go_wp2
        go_ret
        exact ⟨ret_bool (by rw [twiceB, H1'.out]; rfl), gain_ext ⟨_, rfl⟩ _⟩
      | false =>
        have H2 := Lib.hid (step_all (f := freshAt l) HN.out (by rw [H1.out, hf]; rfl))
        go_wp2
        go_roundw
        case rel => exact ⟨k + 1, by omega, by go_num, H2.out, gain_ext ⟨_, rfl⟩ _⟩
        case measure => simp [intOf]; omega
    · have HE := Lib.hid (allB_yes (n := l.length) (f := freshAt l) (fun j hj => HN.out j (by omega)))
      go_wp2
      go_ret
      exact ⟨ret_bool (by rw [twiceB, HE.out]; rfl), _, rfl⟩
end Go.Proofs.YtmcimgnobimicaaGreat
/-
  DERIVED: THE SHELF's CONTRACTS AT THIS DUMP, IN PLAIN WORDS (tools/lay-plain.mjs out of 'YtmcimgnobimicaaGreatShelf.lean', which tools/lay-shelf.mjs wrote): THE SAME DECLARATIONS UNDER THE SAME NAMES: 'import', 'namespace', 'open', 'def', 'theorem' AND NOTHING ELSE: no command of the shelf's: FOR A HAND-IN. Each laying: the table of numbers ('.._ren') and one theorem, a field a fact of the dump's own or the kernel's comparison; each contract: ONE APPLICATION.
-/
namespace Go.Proofs
open Go.Shelf
def Tryz.lays189_ren : Go.Shelf.Ren := ⟨fun | 189 => 23 | 125 => 45 | 257 => 44 | 128 => 79 | 129 => 80 | 294 => 70 | 295 => 71 | 296 => 72 | 297 => 73 | 298 => 74 | 299 => 75 | 216 => 76 | 300 => 77 | 301 => 78 | 328 => 98 | 329 => 99 | 330 => 100 | 331 => 101 | 332 => 102 | 215 => 103 | 343 => 108 | n => n, fun | 28 => 24 | 3 => 3 | 46 => 70 | 0 => 0 | 51 => 96 | 53 => 58 | 4 => 4 | 183 => 89 | 182 => 88 | 131 => 33 | 5 => 5 | 9 => 9 | 218 => 102 | 222 => 106 | 228 => 109 | 229 => 110 | n => n, fun | n => n⟩
theorem Tryz.lays189 : Go.Proofs.Lays.n189 Tryz.prog Tryz.lays189_ren := {
  mixed := by kernel_rfl
  f125 := Tryz.func45.trans (congrArg some (by kernel_rfl))
  f128 := Tryz.func79.trans (congrArg some (by kernel_rfl))
  f129 := Tryz.func80.trans (congrArg some (by kernel_rfl))
  f189 := Tryz.func23.trans (congrArg some (by kernel_rfl))
  f215 := Tryz.func103.trans (congrArg some (by kernel_rfl))
  f216 := Tryz.func76.trans (congrArg some (by kernel_rfl))
  f257 := Tryz.func44.trans (congrArg some (by kernel_rfl))
  f294 := Tryz.func70.trans (congrArg some (by kernel_rfl))
  f295 := Tryz.func71.trans (congrArg some (by kernel_rfl))
  f296 := Tryz.func72.trans (congrArg some (by kernel_rfl))
  f297 := Tryz.func73.trans (congrArg some (by kernel_rfl))
  f298 := Tryz.func74.trans (congrArg some (by kernel_rfl))
  f299 := Tryz.func75.trans (congrArg some (by kernel_rfl))
  f300 := Tryz.func77.trans (congrArg some (by kernel_rfl))
  f301 := Tryz.func78.trans (congrArg some (by kernel_rfl))
  f328 := Tryz.func98.trans (congrArg some (by kernel_rfl))
  f329 := Tryz.func99.trans (congrArg some (by kernel_rfl))
  f330 := Tryz.func100.trans (congrArg some (by kernel_rfl))
  f331 := Tryz.func101.trans (congrArg some (by kernel_rfl))
  f332 := Tryz.func102.trans (congrArg some (by kernel_rfl))
  f343 := Tryz.func108.trans (congrArg some (by kernel_rfl))
  t0 := Tryz.underlying0
  a0 := Tryz.isAgg0
  z0 := Tryz.sizeOf0
  v0 := Tryz.zeroValue0
  t3 := Tryz.underlying3
  a3 := Tryz.isAgg3
  z3 := Tryz.sizeOf3
  v3 := Tryz.zeroValue3
  t4 := Tryz.underlying4
  a4 := Tryz.isAgg4
  z4 := Tryz.sizeOf4
  v4 := Tryz.zeroValue4
  t5 := Tryz.underlying5
  a5 := Tryz.isAgg5
  z5 := Tryz.sizeOf5
  v5 := Tryz.zeroValue5
  t9 := Tryz.underlying9
  a9 := Tryz.isAgg9
  z9 := Tryz.sizeOf9
  v9 := Tryz.zeroValue9
  t28 := Tryz.underlying24
  a28 := Tryz.isAgg24
  z28 := Tryz.sizeOf24
  v28 := Tryz.zeroValue24
  t46 := Tryz.underlying70
  a46 := Tryz.isAgg70
  z46 := Tryz.sizeOf70
  v46 := Tryz.zeroValue70
  t51 := Tryz.underlying96
  a51 := Tryz.isAgg96
  z51 := Tryz.sizeOf96
  v51 := Tryz.zeroValue96
  t53 := Tryz.underlying58
  a53 := Tryz.isAgg58
  z53 := Tryz.sizeOf58
  v53 := Tryz.zeroValue58
  t131 := Tryz.underlying33
  a131 := Tryz.isAgg33
  z131 := Tryz.sizeOf33
  v131 := Tryz.zeroValue33
  t182 := Tryz.underlying88
  a182 := Tryz.isAgg88
  z182 := Tryz.sizeOf88
  v182 := Tryz.zeroValue88
  t183 := Tryz.underlying89
  a183 := Tryz.isAgg89
  z183 := Tryz.sizeOf89
  v183 := Tryz.zeroValue89
  t218 := Tryz.underlying102
  a218 := Tryz.isAgg102
  z218 := Tryz.sizeOf102
  v218 := Tryz.zeroValue102
  t222 := Tryz.underlying106
  a222 := Tryz.isAgg106
  z222 := Tryz.sizeOf106
  v222 := Tryz.zeroValue106
  t228 := Tryz.underlying109
  a228 := Tryz.isAgg109
  z228 := Tryz.sizeOf109
  v228 := Tryz.zeroValue109
  t229 := Tryz.underlying110
  a229 := Tryz.isAgg110
  z229 := Tryz.sizeOf110
  v229 := Tryz.zeroValue110 }
open Go.Sort Go.RowKit in
theorem Tryz.slices_Sort_int (blk off cap : Nat) (zs : List Int) (w : World) (hH : Holds (Value.int .i64) w blk off zs.toArray) (hblk : blk < w.heap.size) (hsz : zs.length < 4611686018427387904) :
    Calls Tryz.prog 23 #[.slice (some ⟨blk, off, none⟩) zs.length cap] w fun e w' =>
      e = .returned (.tuple #[]) ∧ ∃ n os, w' = grow (putRow (Value.int .i64) (Sort.ahead w n) blk off (zs.mergeSort fun x y => decide (x ≤ y)).toArray) os := Any.slices_Sort_int Tryz.lays189 blk off cap zs w hH hblk hsz
open Go.RowKit Go.Sort in
/-- .. and plain. (LAID: no walk: one application.) -/
theorem Tryz.slices_Sort_int_none (p : Option Addr) (cap : Nat) (w : World) :
    Calls Tryz.prog 23 #[.slice p 0 cap] w fun e w' => e = .returned (.tuple #[]) ∧ w' = w := Any.slices_Sort_int_none Tryz.lays189 p cap w
end Go.Proofs
/- slices.Sort, slices.Compact of ints of the call's own, off the shelf. Condition: at most 1048576 ints. -/
namespace Go
open Go.RowKit Go.Sort
theorem putCells_take (l r : List Int) (cur : Array Value) (h : r.length ≤ cur.size) (hl : l.length = r.length) : (putCells (Value.int .i64) 0 r.toArray cur).toList.take l.length = r.map (Value.int .i64) := by
  apply List.ext_getElem?
  intro j
  rw [List.getElem?_take]
  split
  · rename_i hj
    rw [hl] at hj
    simp only [putCells, Array.getElem?_toList, Array.getElem?_mapIdx, List.size_toArray, Nat.zero_add, Nat.sub_zero, List.getElem?_map]
    rw [Array.getElem?_eq_getElem (by omega), List.getElem?_eq_getElem hj]
    simp [hj, List.getElem!_eq_getElem?_getD]
  · rename_i hj
    rw [List.getElem?_map, List.getElem?_eq_none (by omega)]; rfl
theorem putCells_size (r : List Int) (cur : Array Value) : (putCells (Value.int .i64) 0 r.toArray cur).size = cur.size := by simp [putCells]
theorem putRow_heap {w : World} {g : Nat} {cur : Array Value} {e : TypeId} (hg : w.heap[g]? = some (.cells cur e (0, 0))) (n : Nat) (r : List Int) (os : Array Obj) :
    (grow (putRow (Value.int .i64) (Sort.ahead w n) g 0 r.toArray) os).heap[g]? = some (.cells (putCells (Value.int .i64) 0 r.toArray cur) e (0, 0)) := by
  have hlt : g < w.heap.size := (Array.getElem?_eq_some_iff.1 hg).1
  simp only [grow, putRow, mapBlock, heap_ahead]
  rw [Array.getElem?_append_left (by simpa using hlt), Array.getElem?_modify, if_pos rfl, hg]
  rfl
theorem putRow_only {w : World} (g n : Nat) (r : List Int) (os : Array Obj) : w.grownBy (grow (putRow (Value.int .i64) (Sort.ahead w n) g 0 r.toArray) os) (some g) :=
  ⟨rfl, rfl, rfl, by simp [grow], fun k hk hne => by
    simp only [grow, putRow, mapBlock, heap_ahead]
    rw [Array.getElem?_append_left (by simpa using hk), Array.getElem?_modify, if_neg (by rintro rfl; exact hne rfl)]⟩
theorem holds_own {w : World} {B g n cap : Nat} {e : TypeId} {l : List Int} (h : w.own B e Ori.intC 1 (.slice (some ⟨g, 0, none⟩) n cap) l) : Holds (Value.int .i64) w g 0 l.toArray := by
  intro j hj
  have hj : j < l.length := by simpa using hj
  have hc := Ori.sl_int (sl_of_own Ori.intC_length h) hj
  refine ⟨by rw [hc]; simp [hj], ?_⟩
  obtain ⟨_, ⟨hv, _⟩ | ⟨g', cap', cur, hv, hb, hh, _⟩⟩ := h
  · cases hv
  · simp only [Value.slice.injEq, Option.some.injEq, Addr.mk.injEq, and_true] at hv
    obtain ⟨rfl, _, _⟩ := hv
    exact World.free_of_heap hh _
/-- What stands in the row after it is written anew: the first of it, for a list as long, read as a list. -/
theorem own_rewritten {W w : World} {B g cap : Nat} {e : TypeId} {l r r' : List Int} (hW : ∃ d, w = W.ext d) (hB : W.heap.size ≤ B) (h : w.own B e Ori.intC 1 (.slice (some ⟨g, 0, none⟩) l.length cap) l) (hl : r.length = l.length) (q : List Int) (hq : r = r' ++ q) (n : Nat) (os : Array Obj) :
    (∃ d, grow (putRow (Value.int .i64) (Sort.ahead w n) g 0 r.toArray) os = W.ext d) ∧ (grow (putRow (Value.int .i64) (Sort.ahead w n) g 0 r.toArray) os).own B e Ori.intC 1 (.slice (some ⟨g, 0, none⟩) r'.length cap) r' := by
  have hlt := own_lt h g rfl
  refine ⟨gain_grown hW (putRow_only g n r os) (fun b hb => by injection hb with hb; omega), ?_⟩
  obtain ⟨_, ⟨hv, _⟩ | ⟨g', cap', cur, hv, hb, hh, hle, hcm, hcs, htk⟩⟩ := h
  · cases hv
  · simp only [Value.slice.injEq, Option.some.injEq, Addr.mk.injEq, and_true] at hv
    obtain ⟨rfl, _, rfl⟩ := hv
    have hr' : r'.length ≤ l.length := by rw [← hl, hq, List.length_append]; omega
    refine ⟨flat_length Ori.intC_length r', .inr ⟨g, cap, _, rfl, hb, putRow_heap hh n r os, by omega, hcm, by rw [putCells_size]; exact hcs, ?_⟩⟩
    have ht := putCells_take l r cur (by omega) hl.symm
    have h2 := congrArg (List.take r'.length) ht
    rw [List.take_take, Nat.min_eq_left hr', hq, List.map_append, List.take_append_of_le_length (by simp)] at h2
    rw [Nat.mul_one, Ori.flat_int, hq, h2]
    exact List.take_of_length_le (by simp)
end Go
namespace Go.Proofs.YtmcimgnobimicaaGreat
open Go.RowKit Go.Ori
theorem sortInts_any (W w : World) (B g cap : Nat) (l : List Int) (hW : ∃ d, w = W.ext d) (hB : W.heap.size ≤ B) (ho : w.own B 3 intC 1 (.slice (some ⟨g, 0, none⟩) l.length cap) l) (hl : l.length ≤ 1048576) :
    Calls Tryz.prog 23 #[.slice (some ⟨g, 0, none⟩) l.length cap] w fun x w' => x = .returned (.tuple #[]) ∧ (∃ d, w' = W.ext d) ∧ w'.own B 3 intC 1 (.slice (some ⟨g, 0, none⟩) l.length cap) (l.mergeSort fun x y => decide (x ≤ y)) := by
  refine (Tryz.slices_Sort_int g 0 cap l w (holds_own ho) (own_lt ho g rfl).2 (by omega)).mono ?_
  rintro e w' ⟨rfl, n, os, rfl⟩
  have hlen : (l.mergeSort fun x y => decide (x ≤ y)).length = l.length := List.length_mergeSort l
  have h := own_rewritten hW hB ho hlen [] (List.append_nil _).symm n os
  rw [hlen] at h
  exact ⟨rfl, h.1, h.2⟩
end Go.Proofs.YtmcimgnobimicaaGreat
