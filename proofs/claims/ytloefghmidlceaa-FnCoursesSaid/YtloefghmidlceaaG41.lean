/- Legs that begin back along the leg before; faults of a course: plain functions. No condition. -/
import Derived.Test.YtloefghmidlceaaG34
namespace Go.Ori
theorem code_at {l : List Ctl} {c : Int} (h : hasK l c = true) : (l[atK l c]'(atK_lt h)).code = c := by
  have := List.findIdx_getElem (xs := l) (p := fun x : Ctl => x.code == c) (w := atK_lt h)
  exact eq_of_beq this
theorem cell_apart {m : Mp} {l : List Ctl} (hg : ctlsB m l = true) {i j : Nat} (hij : i < j) (hj : j < l.length) : (l[i]'(by omega)).cell ≠ l[j].cell := by
  simp only [ctlsB, Bool.and_eq_true] at hg
  have := allB_iff.1 hg.2 j hj
  rw [ctlAt_eq (List.getElem?_eq_getElem hj) (List.getElem?_eq_getElem (by omega : j - 1 < l.length))] at this
  simp only [Bool.and_eq_true, Bool.not_eq_true'] at this
  have h2 := this.2
  rw [List.any_eq_false] at h2
  intro e
  exact h2 (l[i]'(by omega)) (List.mem_take_iff_getElem.2 ⟨i, by omega, rfl⟩) (by simp [e])
theorem cellN_ne {m : Mp} {l : List Ctl} {x y : Int} (hg : ctlsB m l = true) (hx : hasK l x = true) (hy : hasK l y = true) (hne : x ≠ y) : cellN l x ≠ cellN l y := by
  intro e
  have h1 := (cellK_open hg hx).1
  have h2 := (cellK_open hg hy).1
  rw [cellK_eq hx] at h1
  rw [cellK_eq hy] at h2
  have h3 : (l[atK l x]'(atK_lt hx)).cell = (l[atK l y]'(atK_lt hy)).cell := by rw [h1, h2, e]
  rcases Nat.lt_trichotomy (atK l x) (atK l y) with h | h | h
  · exact cell_apart hg h (atK_lt hy) h3
  · have a := code_at hx
    have b := code_at hy
    apply hne
    rw [← a, ← b]
    congr 2
  · exact cell_apart hg h (atK_lt hx) h3.symm
theorem legR_two {m : Mp} {W H : Nat} {l : List Ctl} {c : List Int} (hm : MapOk m W H) (hC : Crs m l c) {i : Nat} (hi : i + 1 < c.length) : 2 ≤ (legR m l c i).length := by
  have h1 : i < c.length := by omega
  have hw := hC.way i hi
  have hx := cellK_open hC.good (hC.has i h1)
  have hy := cellK_open hC.good (hC.has (i + 1) hi)
  have hne := cellN_ne hC.good (hC.has i h1) (hC.has (i + 1) hi) (hC.ne i hi)
  rw [legR, List.getD_eq_getElem?_getD, List.getD_eq_getElem?_getD, List.getElem?_eq_getElem h1, List.getElem?_eq_getElem hi, Option.getD_some, Option.getD_some]
  rw [route_eq, rest_step hm hy.2.1 hx.2.1 hne hw]
  simp
theorem if1 (p : Prop) [Decidable p] (x : Int) : (if p then [x] else []).length ≤ 1 := by split <;> simp
def backB (r1 r2 : List Nat) : Bool := r2.getD 1 0 == r1.getD (r1.length - 2) 0
def backAt (m : Mp) (l : List Ctl) (c : List Int) (k : Nat) : Bool := decide (1 ≤ k) && backB (legR m l c (k - 1)) (legR m l c k)
def backN (m : Mp) (l : List Ctl) (c : List Int) : Nat → List Int
  | 0 => []
  | k + 1 => backN m l c k ++ if backAt m l c k then [(k : Int)] else []
theorem backN_one (m : Mp) (l : List Ctl) (c : List Int) : backN m l c 1 = [] := by simp [backN, backAt]
theorem backN_length (m : Mp) (l : List Ctl) (c : List Int) : ∀ k, (backN m l c k).length ≤ k
  | 0 => by simp [backN]
  | k + 1 => by
    have := backN_length m l c k
    rw [backN, List.length_append]
    split <;> simp <;> omega
def backC (m : Mp) (l : List Ctl) (c : List Int) : List Int := if crsB m l c then backN m l c (c.length - 1) else []
theorem backC_length (m : Mp) (l : List Ctl) (c : List Int) : (backC m l c).length ≤ 1048576 := by
  unfold backC
  split
  · rename_i h
    have := (crsB_true h).hi
    have := backN_length m l c (c.length - 1)
    omega
  · simp
def faultL (m : Mp) (l : List Ctl) (c : List Int) : List Int :=
  if crsB m l c then (if c.length < 4 then [1] else []) ++ (if twiceB c then [2] else []) ++ (if (legsT m l c (c.length - 1)).any (fun x => decide (x < 3)) then [3] else []) ++ (if 0 < (backN m l c (c.length - 1)).length then [4] else []) else []
theorem faultL_length (m : Mp) (l : List Ctl) (c : List Int) : (faultL m l c).length ≤ 1048576 := by
  unfold faultL
  split
  · simp only [List.length_append]
    have q : ∀ (p : Prop) [Decidable p] (x : Int), (if p then [x] else []).length ≤ 1 := fun p _ x => by split <;> simp
    have := q (c.length < 4) 1
    have := q (twiceB c = true) 2
    have := q ((legsT m l c (c.length - 1)).any (fun x => decide (x < 3)) = true) 3
    have := q (0 < (backN m l c (c.length - 1)).length) 4
    omega
  · simp
end Go.Ori
