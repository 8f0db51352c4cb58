/- Runners are put into classes: plain functions. No condition. -/
import Derived.Test.YtcldcainmipjcaaClassesFor
namespace Go.Ori
def cntO (o : List Int) (c : Int) : Nat := (o.filter fun x => x == c).length
theorem cntO_snoc (o : List Int) (x c : Int) : cntO (o ++ [x]) c = cntO o c + if x = c then 1 else 0 := by
  unfold cntO
  rw [List.filter_append, List.length_append]
  congr 1
  by_cases h : x = c <;> simp [h]
theorem cntO_le (o : List Int) (c : Int) : cntO o c ≤ o.length := List.length_filter_le _ _
/-- The id of the first class of which p says yes; 0: there is none. -/
def pickO (p : Cls → Bool) (l : List Cls) : Int := match l.find? p with | some c => c.id | none => 0
theorem pickO_nil (p : Cls → Bool) : pickO p [] = 0 := rfl
theorem pickO_snoc {p : Cls → Bool} {l : List Cls} (h : ∀ c ∈ l, c.id ≠ 0) (c : Cls) : pickO p (l ++ [c]) = if pickO p l = 0 then (if p c then c.id else 0) else pickO p l := by
  unfold pickO
  rw [List.find?_append]
  cases hf : l.find? p with
  | none => cases hp : p c <;> simp [List.find?_cons, hp]
  | some a =>
    have := h a (List.mem_of_find?_eq_some hf)
    simp [this]
theorem pickO_none {p : Cls → Bool} {l : List Cls} (h : ∀ (j : Nat) (hj : j < l.length), p l[j] = false) : pickO p l = 0 := by
  unfold pickO
  rw [List.find?_eq_none.2]
  intro x hx
  obtain ⟨j, hj, rfl⟩ := List.getElem_of_mem hx
  simp [h j hj]
theorem pickO_at {p : Cls → Bool} {l : List Cls} {q : Nat} (hq : q < l.length) (h : ∀ (j : Nat) (hj : j < l.length), j < q → p l[j] = false) (hp : p l[q] = true) : pickO p l = l[q].id := by
  unfold pickO
  have : l.find? p = some l[q] := by
    rw [List.find?_eq_some_iff_getElem]
    exact ⟨hp, q, hq, rfl, fun j hj => by simp [h j (by omega) hj]⟩
  rw [this]
theorem pickO_filter (p q : Cls → Bool) (l : List Cls) : pickO q (l.filter p) = pickO (fun c => q c && p c) l := by
  unfold pickO
  have : (l.filter p).find? q = l.find? fun c => q c && p c := by
    induction l with
    | nil => rfl
    | cons a l ih =>
      rw [List.filter_cons, List.find?_cons]
      cases hp : p a
      · simp [ih]
      · cases hq : q a
        · simp [List.find?_cons, hq, ih]
        · simp [List.find?_cons, hq]
  rw [this]
def roomB (o : List Int) (c : Cls) : Bool := decide ((cntO o c.id : Int) < c.most)
def takeB (o : List Int) (r : Runner) (c : Cls) : Bool := roomB o c && admitB c r
def fillN (l : List Cls) (rs : List Runner) : Nat → List Int
  | 0 => []
  | k + 1 => fillN l rs k ++ [match rs[k]? with | some r => pickO (takeB (fillN l rs k) r) l | none => 0]
theorem fillN_succ {l : List Cls} {rs : List Runner} {k : Nat} (h : k < rs.length) : fillN l rs (k + 1) = fillN l rs k ++ [pickO (takeB (fillN l rs k) rs[k]) l] := by
  rw [fillN, List.getElem?_eq_getElem h]
theorem fillN_length (l : List Cls) (rs : List Runner) (k : Nat) : (fillN l rs k).length = k := by
  induction k with
  | zero => rfl
  | succ k ih => rw [fillN, List.length_append, ih]; rfl
theorem pick_for (o : List Int) (r : Runner) (l : List Cls) : pickO (takeB o r) l = pickO (roomB o) (forL l r) := by
  unfold forL forN
  rw [List.take_length, pickO_filter]
  rfl
def fillB (l : List Cls) (rs : List Runner) : Bool := clssB l && runsB rs
def fillL (l : List Cls) (rs : List Runner) : List Int := if fillB l rs then fillN l rs rs.length else []
theorem fillL_length (l : List Cls) (rs : List Runner) (h : rs.length ≤ 1048576) : (fillL l rs).length ≤ 1048576 := by
  unfold fillL
  split
  · rw [fillN_length]; exact h
  · simp
theorem fill_no {l : List Cls} {rs : List Runner} (h : fillB l rs = false) : fillL l rs = [] ∧ fillB l rs = false := by simp [fillL, h]
theorem fill_yes {l : List Cls} {rs : List Runner} (h : fillB l rs = true) : fillL l rs = fillN l rs rs.length ∧ fillB l rs = true := by simp [fillL, h]
theorem cls_id {c : Cls} (h : classB c = true) : 1 ≤ c.id ∧ c.id ≤ 99 ∧ 1 ≤ c.most ∧ c.most ≤ 500 := by
  simp only [classB, Bool.and_eq_true, insB_true] at h
  omega
end Go.Ori
