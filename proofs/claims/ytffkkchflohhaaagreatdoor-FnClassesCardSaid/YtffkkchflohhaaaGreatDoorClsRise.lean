/- A valid list of classes: ids rise, ages are small. No condition. -/
import Derived.Test.YtffkkchflohhaaaGreatDoorClassesFor
namespace Go.Ori
theorem clss_rise {l : List Cls} (h : clssB l = true) : l.Pairwise fun a b => a.id < b.id := by
  simp only [clssB, Bool.and_eq_true, allB_iff] at h
  have step : ∀ (k : Nat) (hk : k + 1 < l.length), l[k].id < l[k + 1].id := fun k hk => by
    have := h.1 (k + 1) hk
    rw [clsAt_eq (List.getElem?_eq_getElem hk) (List.getElem?_eq_getElem (by omega : k + 1 - 1 < l.length))] at this
    simp only [Bool.and_eq_true, Bool.or_eq_true, decide_eq_true_eq] at this
    rcases this.1.2 with e | e
    · omega
    · simpa using e
  rw [List.pairwise_iff_getElem]
  intro i j hi hj hij
  induction j with
  | zero => omega
  | succ j ih =>
    by_cases e : i = j
    · subst e; exact step i hj
    · exact Int.lt_trans (ih (by omega) (by omega)) (step j hj)
theorem forL_rise {l : List Cls} (r : Runner) (h : clssB l = true) : ∀ (i j : Nat) (hi : i < (forL l r).length) (hj : j < (forL l r).length), i < j → (forL l r)[i].id < (forL l r)[j].id := by
  have h2 : (forL l r).Pairwise fun a b => a.id < b.id := by
    unfold forL forN
    rw [List.take_length]
    exact (clss_rise h).filter _
  intro i j hi hj hij
  exact List.pairwise_iff_getElem.1 h2 i j hi hj hij
theorem cls_ages {c : Cls} (h : classB c = true) : 0 ≤ c.low ∧ c.low ≤ 200 ∧ 0 ≤ c.high ∧ c.high ≤ 200 := by
  simp only [classB, agesB, Bool.and_eq_true, insB_true] at h
  omega
end Go.Ori
