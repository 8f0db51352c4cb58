/- Entries: when a list of them is valid. No condition. -/
import Derived.Test.YtohmefblkfophaaPlain
namespace Go.Ori
def entB (e : Ent) : Bool := insB e.runner 1 999 && insB e.cls 1 99 && insB e.day 0 365 && insB e.paid 0 100000
def entOk (l : List Ent) (k : Nat) : Bool := match l[k]?, l[k - 1]? with
  | some e, some e' => entB e && (decide (k = 0) || decide (e'.runner < e.runner))
  | _, _ => true
theorem entOk_eq {l : List Ent} {k : Nat} {e e' : Ent} (h : l[k]? = some e) (h' : l[k - 1]? = some e') : entOk l k = (entB e && (decide (k = 0) || decide (e'.runner < e.runner))) := by
  simp [entOk, h, h']
def entsB (l : List Ent) : Bool := allB l.length (entOk l) && decide (l.length ≤ 12)
/-- The late runners among the first k entries. -/
def lateN (l : List Ent) (k : Nat) : List Int := ((l.take k).filter fun e => decide (300 ≤ e.day)).map Ent.runner
theorem lateN_zero (l : List Ent) : lateN l 0 = [] := by simp [lateN]
theorem lateN_succ {l : List Ent} {k : Nat} (h : k < l.length) : lateN l (k + 1) = lateN l k ++ if 300 ≤ l[k].day then [l[k].runner] else [] := by
  unfold lateN
  rw [List.take_succ_eq_append_getElem h, List.filter_append, List.map_append]
  congr 1
  by_cases h1 : 300 ≤ l[k].day <;> simp [h1]
theorem lateN_length (l : List Ent) (k : Nat) : (lateN l k).length ≤ k := by
  unfold lateN
  rw [List.length_map]
  exact Nat.le_trans (List.length_filter_le _ _) (by rw [List.length_take]; omega)
def lateL (l : List Ent) : List Int := if entsB l then lateN l l.length else []
theorem entsB_len {l : List Ent} (h : entsB l = true) : l.length ≤ 12 := by
  simp only [entsB, Bool.and_eq_true, decide_eq_true_eq] at h
  exact h.2
theorem lateL_length (l : List Ent) : (lateL l).length ≤ 1048576 := by
  unfold lateL
  split
  · rename_i h
    have := entsB_len h
    have := lateN_length l l.length
    omega
  · simp
end Go.Ori
