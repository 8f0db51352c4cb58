/- What a text is read as: a class, or none. Plain law. No condition. -/
import Derived.Test.YtffkkchflohhaaaGreatDoorPParse
namespace Go.Ori
def zeroC : Cls := ⟨0, ⟨#[]⟩, 0, 0, false, false, 0, 0⟩
/-- The class whose text s is, if there is one. -/
def ParsedAs (s : ByteArray) (c : Cls) (ok : Bool) : Prop := (ok = true → classB c = true ∧ clsT c = s) ∧ (ok = false → c = zeroC ∧ ∀ c', classB c' = true → clsT c' ≠ s)
theorem parsed_same {s : ByteArray} {c c' : Cls} {ok ok' : Bool} (h : ParsedAs s c ok) (h' : ParsedAs s c' ok') : c = c' ∧ ok = ok' := by
  cases ok <;> cases ok'
  · exact ⟨(h.2 rfl).1.trans (h'.2 rfl).1.symm, rfl⟩
  · exact absurd (h'.1 rfl).2 ((h.2 rfl).2 c' (h'.1 rfl).1)
  · exact absurd (h.1 rfl).2 ((h'.2 rfl).2 c (h.1 rfl).1)
  · exact ⟨cls_inj (h.1 rfl).1 (h'.1 rfl).1 ((h.1 rfl).2.trans (h'.1 rfl).2.symm), rfl⟩
theorem parsed_yes {s : ByteArray} {c : Cls} (h : classB c = true) (e : clsT c = s) : ParsedAs s c true := ⟨fun _ => ⟨h, e⟩, fun h => by cases h⟩
theorem parsed_no {s : ByteArray} (h : ∀ c', classB c' = true → clsT c' ≠ s) : ParsedAs s zeroC false := ⟨fun h => (by cases h), fun _ => ⟨rfl, h⟩⟩
theorem splitU_le (c : UInt8) : ∀ (l : List UInt8), ∀ x ∈ splitU c l, x.length ≤ l.length
  | [], x, h => by
    rw [splitU, List.mem_singleton] at h
    rw [h]
    exact Nat.le_refl _
  | b :: l, x, h => by
    have ih := splitU_le c l
    rw [splitU] at h
    by_cases hb : b = c
    · rw [if_pos hb] at h
      rcases List.mem_cons.1 h with rfl | h
      · simp
      · have := ih x h
        simp only [List.length_cons]
        omega
    · rw [if_neg hb] at h
      cases hs : splitU c l with
      | nil =>
        rw [hs] at h
        simp only [List.mem_singleton] at h
        rw [h]
        simp
      | cons y ys =>
        rw [hs] at h ih
        rcases List.mem_cons.1 h with rfl | h
        · have := ih y List.mem_cons_self
          simp only [List.length_cons]
          omega
        · have := ih x (List.mem_cons_of_mem _ h)
          simp only [List.length_cons]
          omega
theorem splitU_len (c : UInt8) : ∀ l : List UInt8, (splitU c l).length ≤ l.length + 1
  | [] => by simp [splitU]
  | b :: l => by
    have ih := splitU_len c l
    rw [splitU]
    by_cases hb : b = c
    · rw [if_pos hb]
      simp only [List.length_cons]
      omega
    · rw [if_neg hb]
      cases hs : splitU c l with
      | nil => simp
      | cons y ys =>
        rw [hs] at ih
        simp only [List.length_cons] at ih ⊢
        omega
theorem part_le {s : ByteArray} {c : UInt8} {ws : List ByteArray} (hw : ws.map toL = splitU c (toL s)) : ∀ x ∈ ws, x.size ≤ s.size := fun x hx => by
  have := splitU_le c (toL s) (toL x) (by rw [← hw]; exact List.mem_map.2 ⟨x, hx, rfl⟩)
  exact this
theorem cls_size {c : Cls} (h : classB c = true) : (clsT c).size ≤ 60 := by
  have hw : wordB c.name = true := by
    simp only [classB, Bool.and_eq_true] at h
    exact h.1.1.1.1.2
  have hn : c.name.size ≤ 10 := by
    simp only [wordB, Bool.and_eq_true, insB_true] at hw
    omega
  obtain ⟨i, lo, hi, co, mo, a1, a2, a3, a4, a5, b1, b2, b3, b4, b5, _⟩ := cls_nats h
  have z1 := decB_size3 b1
  have z2 := decB_size3 b2
  have z3 := decB_size3 b3
  have z4 := decB_size3 b4
  have z5 := decB_size3 b5
  have hs : (sexB c.women c.men).size ≤ 3 := by cases c.women <;> cases c.men <;> decide
  rw [clsT, a1, a2, a3, a4, a5]
  simp only [Int.toNat_natCast, sufT, preT, ByteArray.size_append]
  have e1 : (⟨#[32]⟩ : ByteArray).size = 1 := rfl
  have e2 : (⟨#[45]⟩ : ByteArray).size = 1 := rfl
  have e3 : (⟨#[32, 99, 111, 117, 114, 115, 101, 32]⟩ : ByteArray).size = 8 := rfl
  have e4 : (⟨#[32, 109, 111, 115, 116, 32]⟩ : ByteArray).size = 6 := rfl
  omega
theorem eight {ws : List ByteArray} (h : ws.length = 8) : ∃ w0 w1 w2 w3 w4 w5 w6 w7, ws = [w0, w1, w2, w3, w4, w5, w6, w7] := by
  match ws, h with
  | [w0, w1, w2, w3, w4, w5, w6, w7], _ => exact ⟨w0, w1, w2, w3, w4, w5, w6, w7, rfl⟩
theorem two {ws : List ByteArray} (h : ws.length = 2) : ∃ w0 w1, ws = [w0, w1] := by
  match ws, h with
  | [w0, w1], _ => exact ⟨w0, w1, rfl⟩
theorem words_eqs {c : Cls} {w0 w1 w2 w3 w4 w5 w6 w7 : ByteArray} (e : [w0, w1, w2, w3, w4, w5, w6, w7] = wordsC c) :
    w0 = decB c.id.toNat ∧ w1 = c.name ∧ w2 = decB c.low.toNat ++ ⟨#[45]⟩ ++ decB c.high.toNat ∧ w3 = sexTx c.women c.men ∧ w5 = decB c.course.toNat ∧ w7 = decB c.most.toNat := by
  simp only [wordsC, List.cons.injEq, and_true] at e
  obtain ⟨e0, e1, e2, e3, e4, e5, e6, e7⟩ := e
  exact ⟨e0, e1, e2, e3, e5, e7⟩
theorem cls_make {c : Cls} (h : classB c = true) {n0 n1 n2 n3 n4 : Int} {nm : ByteArray} {wo me : Bool} (e0 : ∀ k : Nat, k < 1000 → decB c.id.toNat = decB k → n0 = k) (e1 : ∀ k : Nat, k < 1000 → decB c.low.toNat = decB k → n1 = k) (e2 : ∀ k : Nat, k < 1000 → decB c.high.toNat = decB k → n2 = k)
    (e3 : ∀ k : Nat, k < 1000 → decB c.course.toNat = decB k → n3 = k) (e4 : ∀ k : Nat, k < 1000 → decB c.most.toNat = decB k → n4 = k) (en : nm = c.name) (ew : wo = c.women) (em : me = c.men) : (⟨n0, nm, n1, n2, wo, me, n3, n4⟩ : Cls) = c := by
  obtain ⟨i, lo, hi, co, mo, a1, a2, a3, a4, a5, b1, b2, b3, b4, b5, _⟩ := cls_nats h
  obtain ⟨id, name, low, high, women, men, course, most⟩ := c
  simp only at a1 a2 a3 a4 a5 e0 e1 e2 e3 e4 en ew em
  subst a1 a2 a3 a4 a5 en ew em
  simp only [Int.toNat_natCast] at e0 e1 e2 e3 e4
  rw [e0 i b1 rfl, e1 lo b2 rfl, e2 hi b3 rfl, e3 co b4 rfl, e4 mo b5 rfl]
theorem sex_not (wo me : Bool) (h : (wo || me) = true) : (!((sexTx wo me).toList == [109])) = wo ∧ (!((sexTx wo me).toList == [119])) = me := by
  rw [Lib.toList_data]
  revert h
  cases wo <;> cases me <;> decide
theorem cls_sexes {c : Cls} (h : classB c = true) : (c.women || c.men) = true := (cls_nats h).choose_spec.choose_spec.choose_spec.choose_spec.choose_spec.2.2.2.2.2.2.2.2.2.2
end Go.Ori
