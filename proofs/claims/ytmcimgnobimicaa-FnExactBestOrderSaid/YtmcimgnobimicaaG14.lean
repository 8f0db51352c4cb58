/- Texts laid together: Slices of ints of the call's own: an element, its address, a store. No condition.; Tables of numbers in memory, for the least times. No condition. -/
import Derived.Test.YtmcimgnobimicaaG3
import Derived.Test.YtmcimgnobimicaaG2
import Derived.Test.YtmcimgnobimicaaG13
/- Slices of ints of the call's own: an element, its address, a store. No condition. -/
namespace Go
open RowKit Go.Ori
theorem own_at {w : World} {base g n cap : Nat} {e : TypeId} {l : List Int} (h : w.own base e intC 1 (.slice (some ⟨g, 0, none⟩) n cap) l) {k : Nat} (hk : k < l.length) :
    w.cell? ⟨g, k, none⟩ = some (.int .i64 (l.getD k 0)) ∧ w.frozen? ⟨g, k, none⟩ = false := by
  have hc := sl_int (sl_of_own intC_length h) hk
  rw [Nat.zero_add] at hc
  refine ⟨by rw [hc]; simp [List.getD_eq_getElem?_getD, List.getElem?_eq_getElem hk], ?_⟩
  obtain ⟨_, ⟨hv, _⟩ | ⟨g', cap', cur, hv, hb, hh, hle, hcap, hs, ht⟩⟩ := h
  · cases hv
  · simp only [Value.slice.injEq, Option.some.injEq, Addr.mk.injEq, and_true] at hv
    obtain ⟨rfl, rfl, rfl⟩ := hv
    exact World.free_of_heap hh k
theorem own_set {w : World} {base g n cap : Nat} {e : TypeId} {l : List Int} (h : w.own base e intC 1 (.slice (some ⟨g, 0, none⟩) n cap) l) {k : Nat} (hk : k < l.length) (x : Int) : (w.setCell ⟨g, k, none⟩ (.int .i64 x)).own base e intC 1 (.slice (some ⟨g, 0, none⟩) n cap) (l.set k x) := by
  have := own_put intC_length h hk x
  rw [Nat.mul_one] at this
  exact this
theorem own_addr {α : Type} {w : World} {base : Nat} {e : TypeId} {enc : α → List Value} {sz : Nat} {v : Value} {l : List α} (h : w.own base e enc sz v l) (h0 : 0 < l.length) : ∃ g cap, v = .slice (some ⟨g, 0, none⟩) l.length cap ∧ base ≤ g ∧ g < w.heap.size := by
  obtain ⟨_, ⟨_, hn⟩ | ⟨g, cap, cur, hv, hg, hh, hle, _⟩⟩ := h
  · omega
  · exact ⟨g, cap, hv, hg, World.oldB_of_heap hh⟩
theorem own_off {α : Type} {w : World} {enc : α → List Value} {sz base : Nat} {e : TypeId} {v : Value} {l : List α} (h : w.own base e enc sz v l) {p : Addr} (hp : p.block < base) (u : Value) : (w.setCell p u).own base e enc sz v l := by
  obtain ⟨h1, h2 | ⟨g, cap, cur, hv, hb, hg, h3⟩⟩ := h
  · exact ⟨h1, .inl h2⟩
  · exact ⟨h1, .inr ⟨g, cap, cur, hv, hb, (World.heap_setCell_far u (by omega)).trans hg, h3⟩⟩
end Go
/- Tables of numbers in memory, for the least times. No condition. -/
namespace Go.Ori
open Go.RowKit
def initK (n k : Nat) : List Int := List.replicate k 1073741824 ++ List.replicate (n - k) 0
theorem initK_length {n k : Nat} (h : k ≤ n) : (initK n k).length = n := by simp [initK]; omega
theorem initK_set {n k : Nat} (h : k < n) : (initK n k).set k 1073741824 = initK n (k + 1) := by
  obtain ⟨r, hr⟩ : ∃ r, n - k = r + 1 := ⟨n - k - 1, by omega⟩
  have hr' : n - (k + 1) = r := by omega
  rw [initK, hr, List.replicate_succ, List.set_append, if_neg (by simp), List.length_replicate, Nat.sub_self, List.set_cons_zero, initK, hr', List.replicate_succ', List.append_assoc]
  rfl
theorem initK_zero (n : Nat) : initK n 0 = List.replicate n 0 := by simp [initK]
theorem initK_full (n b : Nat) : (initK n n).set b 0 = initT n b := by simp [initK, initT]
theorem sE_init {n b : Nat} : (List.replicate n (-1 : Int)).set b 0 = sE (initT n b) := by
  rw [initT, sE_set _ _ _ (by omega)]
  congr 1
  simp [sE]
def decT (v : Value) : Nat := if intOf v = -1 then 1073741824 else (intOf v).toNat
def sumE (n : Nat) : Option Obj → Nat
  | some (.cells C _ _) => ((C.toList.take n).map decT).sum
  | _ => 0
theorem decT_sum {n : Nat} {L : List Int} (h : TInv n L) : (((sE L).map (Value.int .i64)).map decT).sum = lsum L := by
  rw [lsum, List.map_map, sE, List.map_map]
  congr 1
  apply List.map_congr_left
  intro x hx
  obtain ⟨k, hk, rfl⟩ := List.getElem_of_mem hx
  have h0 := h.lo k
  rw [List.getD_eq_getElem?_getD, List.getElem?_eq_getElem hk] at h0
  simp only [Option.getD_some] at h0
  generalize L[k] = x at h0
  show decT (Value.int .i64 (if x = 1073741824 then -1 else x)) = x.toNat
  by_cases e : x = 1073741824
  · rw [if_pos e, e]; rfl
  · rw [if_neg e]
    show (if x = -1 then 1073741824 else x.toNat) = x.toNat
    rw [if_neg (by omega)]
def cellsSum : Option Obj → Nat
  | some (.cells C _ _) => (C.toList.map fun v => (intOf v).toNat).sum
  | _ => 0
theorem cellsSum_ints (L : List Int) (e : TypeId) (f : Nat × Nat) : cellsSum (some (.cells (L.map (Value.int .i64)).toArray e f)) = lsum L := by
  simp only [cellsSum, lsum, List.map_map]
  congr 1
theorem foldl_take {α β : Type} (f : β → α → β) (s : β) (ks : List α) {j : Nat} (h : j < ks.length) : (ks.take (j + 1)).foldl f s = f ((ks.take j).foldl f s) ks[j] := by
  rw [List.take_succ_eq_append_getElem h, List.foldl_append]
  rfl
end Go.Ori
namespace Go
open RowKit Go.Ori
theorem ints_cell {w : World} {g : Nat} {L : List Int} {e : TypeId} {f : Nat × Nat} (h : w.heap[g]? = some (.cells (L.map (Value.int .i64)).toArray e f)) {k : Nat} (hk : k < L.length) : w.cell? ⟨g, k, none⟩ = some (.int .i64 (L.getD k 0)) := by
  rw [World.cell_of_heap h]
  simp [List.getD_eq_getElem?_getD, List.getElem?_eq_getElem hk]
theorem own_sum {w : World} {base g n cap : Nat} {e : TypeId} {L : List Int} (h : w.own base e intC 1 (.slice (some ⟨g, 0, none⟩) n cap) (sE L)) (hT : TInv n L) : sumE n w.heap[g]? = lsum L := by
  obtain ⟨_, ⟨hv, _⟩ | ⟨g', cap', cur, hv, hb, hh, hle, hcap, hs, ht⟩⟩ := h
  · cases hv
  · simp only [Value.slice.injEq, Option.some.injEq, Addr.mk.injEq, and_true] at hv
    obtain ⟨rfl, rfl, rfl⟩ := hv
    rw [hh, ← decT_sum hT, ← flat_int, ← ht]
    simp only [sumE, Nat.mul_one]
theorem sE_getD {n : Nat} {L : List Int} (h : TInv n L) {k : Nat} (hk : k < n) : (sE L).getD k 0 = if L.getD k 0 = 1073741824 then -1 else L.getD k 0 := by
  have hl : k < L.length := by rw [h.len]; exact hk
  rw [List.getD_eq_getElem?_getD, List.getElem?_eq_getElem (by rw [sE_length]; exact hl), Option.getD_some, sE_get L hl]
theorem own_table {w : World} {base g : Nat} {e : TypeId} {L : List Int} {n : Nat} (hg : w.heap[g]? = some (.cells (L.map (Value.int .i64)).toArray e (0, 0))) (hb : base ≤ g) (hn : L.length = n) (h : n ≤ 1048576) :
    w.own base e intC 1 (.slice (some ⟨g, 0, none⟩) n n) L := by
  subst hn
  exact own_ints hg hb h
end Go
