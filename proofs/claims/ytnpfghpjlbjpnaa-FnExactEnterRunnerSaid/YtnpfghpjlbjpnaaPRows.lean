/- Rows of elements of several cells into which one is laid. Plain; no condition. -/
import Derived.Test.YtnpfghpjlbjpnaaOwn
namespace Go
theorem row_len {α : Type} {enc : α → List Value} {sz : Nat} (hz : ∀ x, (enc x).length = sz) {l : List α} {i : Nat} (hi : i ≤ l.length) (e : α) :
    ((l.take i).flatMap enc).length = i * sz ∧ ((l.drop i).flatMap enc).length = (l.length - i) * sz ∧ (l.take i ++ [e] ++ l.drop i).flatMap enc = (l.take i).flatMap enc ++ enc e ++ (l.drop i).flatMap enc := by
  refine ⟨?_, ?_, ?_⟩
  · rw [flat_length hz, List.length_take, Nat.min_eq_left hi]
  · rw [flat_length hz, List.length_drop]
  · simp [List.flatMap_append]
theorem row_three (A E C T R : List Value) (n : Nat) (h : R = A ++ E ++ C ++ T) (hn : A.length + E.length + C.length = n) : R.take n = A ++ E ++ C := by
  subst h hn
  rw [List.take_append_of_le_length (by simp; omega)]
  exact List.take_of_length_le (by simp; omega)
/-- What is behind is moved first. -/
theorem row_shift {α : Type} {enc : α → List Value} {sz : Nat} (hz : ∀ x, (enc x).length = sz) {R0 : List Value} {l : List α} {i : Nat} (hi : i ≤ l.length) (e : α) (h0 : R0.take (i * sz) = (l.take i).flatMap enc) (hR : (l.length + 1) * sz ≤ R0.length) :
    ∃ R1 R2, R1 = R0.take ((i + 1) * sz) ++ (l.drop i).flatMap enc ++ R0.drop ((i + 1) * sz + ((l.drop i).flatMap enc).length) ∧ R2 = R1.take (i * sz) ++ enc e ++ R1.drop (i * sz + (enc e).length) ∧
      R2.take ((l.length + 1) * sz) = (l.take i ++ [e] ++ l.drop i).flatMap enc ∧ R1.length = R0.length ∧ R2.length = R0.length := by
  obtain ⟨e1, e2, e3⟩ := row_len hz hi e
  have e4 : (i + 1) * sz = i * sz + sz := by rw [Nat.add_mul]; omega
  have e5 : (l.length + 1) * sz = i * sz + sz + (l.length - i) * sz := by
    rw [← e4, ← Nat.add_mul]; congr 1; omega
  have hez := hz e
  generalize hC : (l.drop i).flatMap enc = C at *
  generalize hA : (l.take i).flatMap enc = A at *
  obtain ⟨T, hT⟩ : ∃ T, R0.drop ((i + 1) * sz + C.length) = T := ⟨_, rfl⟩
  have hTl : T.length = R0.length - (l.length + 1) * sz := by rw [← hT, List.length_drop, e2, e4, e5]
  have hp : (R0.take ((i + 1) * sz)).length = (i + 1) * sz := by rw [List.length_take]; omega
  refine ⟨_, _, rfl, rfl, ?_, ?_, ?_⟩
  · rw [hT, e3]
    refine row_three A (enc e) C T _ _ ?_ (by omega)
    have h1 : (R0.take ((i + 1) * sz) ++ C ++ T).take (i * sz) = A := by
      rw [List.append_assoc, List.take_append_of_le_length (by omega), List.take_take, Nat.min_eq_left (by omega), h0]
    have h2 : (R0.take ((i + 1) * sz) ++ C ++ T).drop (i * sz + (enc e).length) = C ++ T := by
      rw [List.append_assoc, show i * sz + (enc e).length = (R0.take ((i + 1) * sz)).length by omega, List.drop_left]
    rw [h1, h2]
    simp
  · rw [hT]; simp only [List.length_append, hp, hTl]; omega
  · simp only [List.length_append, List.length_take, List.length_drop, e2]
    omega
/-- The new one is laid first. -/
theorem row_grow {α : Type} {enc : α → List Value} {sz : Nat} (hz : ∀ x, (enc x).length = sz) {R0 : List Value} {l : List α} {i : Nat} (hi : i ≤ l.length) (e : α) (h0 : R0.take (i * sz) = (l.take i).flatMap enc) (hR : (l.length + 1) * sz ≤ R0.length) :
    ∃ R1 R2, R1 = R0.take (i * sz) ++ enc e ++ R0.drop (i * sz + (enc e).length) ∧ R2 = R1.take ((i + 1) * sz) ++ (l.drop i).flatMap enc ++ R1.drop ((i + 1) * sz + ((l.drop i).flatMap enc).length) ∧
      R2.take ((l.length + 1) * sz) = (l.take i ++ [e] ++ l.drop i).flatMap enc ∧ R1.length = R0.length ∧ R2.length = R0.length := by
  obtain ⟨e1, e2, e3⟩ := row_len hz hi e
  have e4 : (i + 1) * sz = i * sz + sz := by rw [Nat.add_mul]; omega
  have e5 : (l.length + 1) * sz = i * sz + sz + (l.length - i) * sz := by
    rw [← e4, ← Nat.add_mul]; congr 1; omega
  have hez := hz e
  generalize hC : (l.drop i).flatMap enc = C at *
  generalize hA : (l.take i).flatMap enc = A at *
  refine ⟨_, _, rfl, rfl, ?_, ?_, ?_⟩
  · rw [e3]
    have h1 : (R0.take (i * sz) ++ enc e ++ R0.drop (i * sz + (enc e).length)).take ((i + 1) * sz) = A ++ enc e := by
      rw [h0, List.take_append_of_le_length (by simp; omega)]
      exact List.take_of_length_le (by simp; omega)
    refine row_three A (enc e) C _ _ _ (by rw [h1]) (by omega)
  · simp only [List.length_append, List.length_take, List.length_drop]; omega
  · simp only [List.length_append, List.length_take, List.length_drop, e2]; omega
/-- The cells of a list, one by one. -/
theorem sl_src {α : Type} {w : World} {enc : α → List Value} {sz : Nat} (hz : ∀ x, (enc x).length = sz) (h0 : 0 < sz) {b o n c : Nat} {l : List α} (h : w.sl enc sz (.slice (some ⟨b, o, none⟩) n c) l) :
    ∀ j u, (l.flatMap enc)[j]? = some u → w.cell? ((⟨b, o, none⟩ : Addr).add j) = some u := by
  intro j u hj
  have hlt := (List.getElem?_eq_some_iff.1 hj).1
  rw [flat_length hz] at hlt
  obtain ⟨p', c', hv, hp, _⟩ := h
  have hk : j / sz < l.length := Nat.div_lt_of_lt_mul (by rw [Nat.mul_comm]; exact hlt)
  obtain ⟨b', o', hb, hc⟩ := hp (Nat.lt_of_le_of_lt (Nat.zero_le _) hk)
  simp only [Value.slice.injEq] at hv
  obtain ⟨rfl, _⟩ := hv
  simp only [Option.some.injEq, Addr.mk.injEq, and_true] at hb
  obtain ⟨rfl, rfl⟩ := hb
  have h5 := hc (j / sz) hk (j % sz) (Nat.mod_lt _ h0)
  rw [← flat_get hz l (j / sz) hk (j % sz) (Nat.mod_lt _ h0)] at h5
  have e1 : j / sz * sz + j % sz = j := by rw [Nat.mul_comm]; exact Nat.div_add_mod j sz
  rw [Nat.add_assoc, e1, hj] at h5
  rw [Addr.add_lit]
  exact h5
theorem flat_one {α : Type} {enc : α → List Value} (h : ∀ x, ∀ c ∈ enc x, c.oneCell' = true) (l : List α) : ∀ c ∈ l.flatMap enc, c.oneCell' = true := by
  intro c hc
  obtain ⟨x, _, hx⟩ := List.mem_flatMap.1 hc
  exact h x c hx
end Go
