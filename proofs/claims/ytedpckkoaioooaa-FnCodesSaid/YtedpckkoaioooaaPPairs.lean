/- Pairs of controls: plain functions, plain law. No condition. -/
import Derived.Test.YtedpckkoaioooaaPMov
namespace Go.Ori
abbrev Pr := Int × Int
def rowP (f : Ctl → Ctl → Bool) (a : Ctl) (l : List Ctl) : List Pr := (l.filter (f a)).map fun b => (a.code, b.code)
def pairsL (f : Ctl → Ctl → Bool) : List Ctl → List Pr
  | [] => []
  | a :: l => rowP f a l ++ pairsL f l
theorem rowP_len (f : Ctl → Ctl → Bool) (a : Ctl) (l : List Ctl) : (rowP f a l).length ≤ l.length := by
  simp only [rowP, List.length_map]
  exact List.length_filter_le _ _
theorem pairsL_len (f : Ctl → Ctl → Bool) : ∀ l : List Ctl, (pairsL f l).length ≤ l.length * l.length
  | [] => by simp [pairsL]
  | a :: l => by
    have h1 := rowP_len f a l
    have h2 := pairsL_len f l
    simp only [pairsL, List.length_append, List.length_cons, Nat.add_mul, Nat.mul_add]
    omega
theorem rowP_yes {f : Ctl → Ctl → Bool} {a : Ctl} {l : List Ctl} {k : Nat} (hk : k < l.length) (h : f a l[k] = true) : rowP f a (l.drop k) = [(a.code, l[k].code)] ++ rowP f a (l.drop (k + 1)) := by
  rw [List.drop_eq_getElem_cons hk, rowP, List.filter_cons, h]; simp [rowP]
theorem rowP_no {f : Ctl → Ctl → Bool} {a : Ctl} {l : List Ctl} {k : Nat} (hk : k < l.length) (h : f a l[k] = false) : rowP f a (l.drop k) = rowP f a (l.drop (k + 1)) := by
  rw [List.drop_eq_getElem_cons hk, rowP, List.filter_cons, h]; simp [rowP]
theorem rowP_end {f : Ctl → Ctl → Bool} {a : Ctl} {l : List Ctl} {k : Nat} (hk : l.length ≤ k) : rowP f a (l.drop k) = [] := by
  rw [List.drop_eq_nil_of_le hk]; rfl
theorem pairsL_at {f : Ctl → Ctl → Bool} {l : List Ctl} {i : Nat} (hi : i < l.length) : pairsL f (l.drop i) = rowP f l[i] (l.drop (i + 1)) ++ pairsL f (l.drop (i + 1)) := by
  rw [List.drop_eq_getElem_cons hi]; rfl
theorem pairsL_end {f : Ctl → Ctl → Bool} {l : List Ctl} {i : Nat} (hi : l.length ≤ i) : pairsL f (l.drop i) = [] := by
  rw [List.drop_eq_nil_of_le hi]; rfl
/-- While pairs are gathered: at the i-th; at the i-th and the k-th. -/
def PO (f : Ctl → Ctl → Bool) (l : List Ctl) (q : List Pr) (i : Nat) : Prop := q ++ pairsL f (l.drop i) = pairsL f l
def PI (f : Ctl → Ctl → Bool) (l : List Ctl) (q : List Pr) (i : Nat) (a : Ctl) (k : Nat) : Prop := q ++ (rowP f a (l.drop k) ++ pairsL f (l.drop (i + 1))) = pairsL f l
theorem PO.start (f : Ctl → Ctl → Bool) (l : List Ctl) : PO f l [] 0 := by simp [PO]
theorem PO.row {f : Ctl → Ctl → Bool} {l : List Ctl} {q : List Pr} {i : Nat} (h : PO f l q i) (hi : i < l.length) : PI f l q i l[i] (i + 1) := by
  unfold PO at h; rw [pairsL_at hi] at h; exact h
theorem PO.fin {f : Ctl → Ctl → Bool} {l : List Ctl} {q : List Pr} {i : Nat} (h : PO f l q i) (hi : l.length ≤ i) : q = pairsL f l := by
  unfold PO at h; rwa [pairsL_end hi, List.append_nil] at h
theorem PI.yes {f : Ctl → Ctl → Bool} {l : List Ctl} {q : List Pr} {i k : Nat} {a : Ctl} (h : PI f l q i a k) (hk : k < l.length) (hf : f a l[k] = true) : PI f l (q ++ [(a.code, l[k].code)]) i a (k + 1) := by
  unfold PI at h ⊢; rw [rowP_yes hk hf] at h; simpa using h
theorem PI.no {f : Ctl → Ctl → Bool} {l : List Ctl} {q : List Pr} {i k : Nat} {a : Ctl} (h : PI f l q i a k) (hk : k < l.length) (hf : f a l[k] = false) : PI f l q i a (k + 1) := by
  unfold PI at h ⊢; rwa [rowP_no hk hf] at h
theorem PI.fin {f : Ctl → Ctl → Bool} {l : List Ctl} {q : List Pr} {i k : Nat} {a : Ctl} (h : PI f l q i a k) (hk : l.length ≤ k) : PO f l q (i + 1) := by
  unfold PI at h; rw [rowP_end hk] at h; simpa [PO] using h
theorem PO.len {f : Ctl → Ctl → Bool} {l : List Ctl} {q : List Pr} {i : Nat} (h : PO f l q i) (hl : l.length ≤ 10) : q.length ≤ 100 := by
  have h1 := congrArg List.length h
  have h2 := pairsL_len f l
  have h3 : l.length * l.length ≤ 10 * 10 := Nat.mul_le_mul hl hl
  rw [List.length_append] at h1
  omega
theorem PI.len {f : Ctl → Ctl → Bool} {l : List Ctl} {q : List Pr} {i k : Nat} {a : Ctl} (h : PI f l q i a k) (hl : l.length ≤ 10) : q.length ≤ 100 := by
  have h1 := congrArg List.length h
  have h2 := pairsL_len f l
  have h3 : l.length * l.length ≤ 10 * 10 := Nat.mul_le_mul hl hl
  rw [List.length_append] at h1
  omega
/-- Are two codes confusable? -/
def likeB (a b : Int) : Bool := decide (a ≠ b) && ((decide (a % 10 = b / 10) && decide (a / 10 = b % 10)) || decide (a - b = 10) || decide (b - a = 10))
theorem likeB_symm (a b : Int) : likeB a b = likeB b a := by
  unfold likeB
  rw [Bool.eq_iff_iff]
  simp only [Bool.and_eq_true, Bool.or_eq_true, decide_eq_true_eq]
  omega
/-- Confusable with a code that is another one. -/
def confB (a b : Int) : Bool := (decide (a % 10 = b / 10) && decide (a / 10 = b % 10)) || (decide (a % 10 = b % 10) && decide (a / 10 - b / 10 = 1 ∨ b / 10 - a / 10 = 1))
theorem confB_like {a b : Int} (ha : a ≠ b) : confB a b = likeB a b := by
  unfold confB likeB
  rw [Bool.eq_iff_iff]
  simp only [Bool.and_eq_true, Bool.or_eq_true, decide_eq_true_eq]
  omega
def likeF (a b : Ctl) : Bool := likeB a.code b.code
def gapB (m : Mp) (a b : Int) : Int := ((a % m.wd - b % m.wd).natAbs : Int) + ((a / m.wd - b / m.wd).natAbs : Int)
def nearF (m : Mp) (d : Int) (a b : Ctl) : Bool := decide (gapB m a.cell b.cell < d)
def conB (m : Mp) (l : List Ctl) : Bool := ctlsB m l
def conL (m : Mp) (l : List Ctl) : List Pr := if conB m l then pairsL likeF l else []
def cloB (m : Mp) (l : List Ctl) (d : Int) : Bool := ctlsB m l && decide (0 ≤ d)
def cloL (m : Mp) (l : List Ctl) (d : Int) : List Pr := if cloB m l d then pairsL (nearF m d) l else []
/-- Pairs and one more that stands in none. -/
theorem pairsL_out {f : Ctl → Ctl → Bool} {x : Ctl} : ∀ {A B : List Ctl}, (∀ a ∈ A, f a x = false) → (∀ b ∈ B, f x b = false) → pairsL f (A ++ x :: B) = pairsL f (A ++ B)
  | [], B, _, hB => by
    have : B.filter (f x) = [] := List.filter_eq_nil_iff.2 fun b hb => by simp [hB b hb]
    simp [pairsL, rowP, this]
  | a :: A, B, hA, hB => by
    have ih := pairsL_out (A := A) (fun y hy => hA y (List.mem_cons_of_mem _ hy)) hB
    have hx := hA a List.mem_cons_self
    simp only [List.cons_append, pairsL, ih]
    congr 1
    simp [rowP, List.filter_append, List.filter_cons, hx]
theorem pairsL_mem {f : Ctl → Ctl → Bool} {p : Pr} : ∀ {l : List Ctl}, p ∈ pairsL f l → ∃ a ∈ l, ∃ b ∈ l, f a b = true ∧ p = (a.code, b.code)
  | [], h => by simp [pairsL] at h
  | a :: l, h => by
    simp only [pairsL, List.mem_append] at h
    rcases h with h | h
    · simp only [rowP, List.mem_map, List.mem_filter] at h
      obtain ⟨b, ⟨hb, hf⟩, rfl⟩ := h
      exact ⟨a, List.mem_cons_self, b, List.mem_cons_of_mem _ hb, hf, rfl⟩
    · obtain ⟨x, hx, y, hy, hf, rfl⟩ := pairsL_mem h
      exact ⟨x, List.mem_cons_of_mem _ hx, y, List.mem_cons_of_mem _ hy, hf, rfl⟩
theorem rowP_mono {f g : Ctl → Ctl → Bool} (h : ∀ a b, f a b = true → g a b = true) (a : Ctl) (l : List Ctl) : (rowP f a l).length ≤ (rowP g a l).length := by
  simp only [rowP, List.length_map, ← List.countP_eq_length_filter]
  exact List.countP_mono_left fun b _ hb => h a b hb
theorem pairsL_mono {f g : Ctl → Ctl → Bool} (h : ∀ a b, f a b = true → g a b = true) : ∀ l, (pairsL f l).length ≤ (pairsL g l).length
  | [] => Nat.le_refl _
  | a :: l => by
    simp only [pairsL, List.length_append]
    exact Nat.add_le_add (rowP_mono h a l) (pairsL_mono h l)
theorem clo_mono {m : Mp} {l : List Ctl} {d : Int} (h : cloB m l d = true) : cloB m l (d + 1) = true ∧ (cloL m l d).length ≤ (cloL m l (d + 1)).length := by
  have h0 := h
  simp only [cloB, Bool.and_eq_true, decide_eq_true_eq] at h
  have h1 : cloB m l (d + 1) = true := by simp only [cloB, Bool.and_eq_true, decide_eq_true_eq]; exact ⟨h.1, by omega⟩
  refine ⟨h1, ?_⟩
  rw [cloL, cloL, if_pos h0, if_pos h1]
  exact pairsL_mono (fun a b hab => by simp only [nearF, decide_eq_true_eq] at *; omega) l
/-- A code that is free: not a control's, confusable with none. -/
def freeAt (l : List Ctl) (c : Int) : Bool := !(hasK l c) && !(l.any fun x => likeB c x.code)
/-- The first free code from c on, at most n of them; 0 if there is none. -/
def freeF (l : List Ctl) : Nat → Int → Option Int
  | 0, _ => none
  | n + 1, c => if freeAt l c then some c else freeF l n (c + 1)
def freB (m : Mp) (l : List Ctl) : Bool := ctlsB m l && (freeF l 69 31).isSome
def freI (m : Mp) (l : List Ctl) : Int := if ctlsB m l then (freeF l 69 31).getD 0 else 0
theorem freeF_some {l : List Ctl} : ∀ {n : Nat} {c x : Int}, freeF l n c = some x → freeAt l x = true ∧ c ≤ x ∧ x < c + n
  | 0, c, x, h => by simp [freeF] at h
  | n + 1, c, x, h => by
    rw [freeF] at h
    split at h
    · rename_i hf; cases h; exact ⟨hf, by omega, by omega⟩
    · obtain ⟨h1, h2, h3⟩ := freeF_some h
      exact ⟨h1, by omega, by omega⟩
theorem freeF_step {l : List Ctl} {n : Nat} {c : Int} (h : freeAt l c = false) : freeF l (n + 1) c = freeF l n (c + 1) := by rw [freeF, h]; rfl
theorem freeF_here {l : List Ctl} {n : Nat} {c : Int} (h : freeAt l c = true) : freeF l (n + 1) c = some c := by rw [freeF, h]; rfl
end Go.Ori
