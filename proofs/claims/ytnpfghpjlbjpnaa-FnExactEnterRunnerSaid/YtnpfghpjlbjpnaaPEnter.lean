/- An entry among entries; a copy of elements of several cells. Plain; no condition. -/
import Derived.Test.YtnpfghpjlbjpnaaP11
import Derived.Test.YtnpfghpjlbjpnaaOwn
import Derived.Laws.CopyRow
import Derived.Lib.AppendZerosOnto
import Derived.Lib.Overlaps
import Derived.Shelf.Spec.SlicesInsert
namespace Go.Ori
def entAt (l : List Ent) (e : Ent) : Nat := (l.takeWhile fun x => decide (x.runner < e.runner)).length
def entIns (l : List Ent) (e : Ent) : List Ent := l.take (entAt l e) ++ [e] ++ l.drop (entAt l e)
def entrB (l : List Ent) (e : Ent) : Bool := entsB l && entsB (entIns l e)
def entrL (l : List Ent) (e : Ent) : List Ent := if entrB l e then entIns l e else []
theorem entAt_eq {l : List Ent} {e : Ent} {k : Nat} (hk : k ≤ l.length) (h1 : ∀ j (hj : j < l.length), j < k → l[j].runner < e.runner) (h2 : ∀ (hk : k < l.length), ¬ l[k].runner < e.runner) : entAt l e = k := by
  unfold entAt
  have ha : ∀ x ∈ l.take k, decide (x.runner < e.runner) = true := fun x hx => by
    obtain ⟨j, hj, rfl⟩ := List.mem_take_iff_getElem.1 hx
    exact decide_eq_true (h1 j (by omega) (by omega))
  have hs : l = l.take k ++ l.drop k := (List.take_append_drop k l).symm
  rw [hs, List.takeWhile_append_of_pos ha]
  have : (l.drop k).takeWhile (fun x => decide (x.runner < e.runner)) = [] := by
    by_cases hlt : k < l.length
    · rw [List.drop_eq_getElem_cons hlt, List.takeWhile_cons_of_neg (by simp [h2 hlt])]
    · rw [List.drop_eq_nil_of_le (by omega)]; rfl
  rw [this, List.append_nil, List.length_take]
  omega
theorem entIns_len (l : List Ent) (e : Ent) : (entIns l e).length = l.length + 1 := by
  unfold entIns
  simp only [List.length_append, List.length_take, List.length_drop, List.length_cons, List.length_nil]
  have : entAt l e ≤ l.length := by
    unfold entAt
    exact (List.takeWhile_sublist _).length_le
  omega
theorem entrL_no {l : List Ent} {e : Ent} (h : entrB l e = false) : entrL l e = [] := by simp [entrL, h]
theorem entrL_len (l : List Ent) (e : Ent) : (entrL l e).length ≤ 1048576 := by
  cases h : entrB l e with
  | false => rw [entrL_no h]; simp
  | true =>
    rw [entrL, if_pos h]
    simp only [entrB, Bool.and_eq_true] at h
    have := entsB_len h.2
    omega
end Go.Ori
namespace Go
open RowKit
theorem run_copy_rows {P : Program} (w : World) (dT sT ty elem : TypeId) (sz n g o dLen dCap : Nat) (a : Addr) (sLen sCap : Nat) (cur : Array Value) (t : TypeId) (cs : List Value)
    (hu : P.underlying dT = some (.slice elem)) (hs : (P.info? elem).map (·.size) = some sz)
    (hg : w.heap[g]? = some (.cells cur t (0, 0))) (hn : n = Nat.min sLen dLen) (hcl : cs.length = n * sz)
    (hsrc : ∀ j v, cs[j]? = some v → w.cell? (a.add j) = some v) (hfit : o + cs.length ≤ cur.size) (h1 : ∀ v ∈ cs, v.oneCell' = true) :
    (Builtin.copy_ #[dT, sT] ty #[.slice (some ⟨g, o, none⟩) dLen dCap, .slice (some a) sLen sCap]).run P w =
      .ok (goInt n) (w.setRow g (cur.toList.take o ++ cs ++ cur.toList.drop (o + cs.length)).toArray) := by
  have hl := run_loadCells_list (P := P) w a cs hsrc
  have hst := run_storeCells_at P g o t cs 0 cur w hg (by simpa using hfit) h1
  rw [hcl] at hl
  cases hq : P.info? elem with
  | none => simp [hq] at hs
  | some i =>
    have hi : i.size = sz := by simpa [hq] using hs
    simp [Builtin.copy_, run_underlying hu, Builtin.lenOf, Builtin.firstCells, sizeOf, typeInfo, hq, hi, ← hn, hl, hst]
theorem grown_setRow {a w : World} {g : Nat} (h : a.grownBy w (some g)) (cur : Array Value) : a.grownBy (w.setRow g cur) (some g) :=
  ⟨h.os, h.tape, h.output, by simpa [World.setRow] using h.size, fun i hi hne => by
    rw [← h.block i hi hne]
    unfold World.setRow
    simp only [Array.getElem?_modify]
    rw [if_neg (by rintro rfl; exact hne rfl)]⟩
end Go
