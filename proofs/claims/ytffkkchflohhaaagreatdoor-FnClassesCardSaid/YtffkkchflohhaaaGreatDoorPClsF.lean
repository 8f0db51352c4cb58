/- What FnClasses asks of the best class and the classes for a runner: plain law. No condition. -/
import Derived.Test.YtffkkchflohhaaaGreatDoorBestClass
import Derived.Test.YtffkkchflohhaaaGreatDoorDoesAdmit
import Derived.Test.YtffkkchflohhaaaGreatDoorClsRise
namespace Go.Ori
theorem clss_one {l : List Cls} (h : clssB l = true) {i j : Nat} (hi : i < l.length) (hj : j < l.length) (e : l[i].id = l[j].id) : i = j := by
  have hp := List.pairwise_iff_getElem.1 (clss_rise h)
  rcases Nat.lt_trichotomy i j with h1 | h1 | h1
  · have := hp i j hi hj h1
    omega
  · exact h1
  · have := hp j i hj hi h1
    omega
theorem foldC_least : ∀ (l : List Cls) (m0 m : Cls), l.foldl stepC (some m0) = some m → keyI m ≤ keyI m0 ∧ ∀ c ∈ l, keyI m ≤ keyI c
  | [], m0, m, h => by
    simp only [List.foldl_nil, Option.some.injEq] at h
    subst h
    exact ⟨Int.le_refl _, by simp⟩
  | a :: l, m0, m, h => by
    rw [List.foldl_cons] at h
    by_cases hk : keyI a < keyI m0
    · have e : stepC (some m0) a = some a := by simp only [stepC]; rw [if_pos hk]
      rw [e] at h
      obtain ⟨h1, h2⟩ := foldC_least l a m h
      refine ⟨by omega, fun c hc => ?_⟩
      rcases List.mem_cons.1 hc with rfl | hc
      · exact h1
      · exact h2 c hc
    · have e : stepC (some m0) a = some m0 := by simp only [stepC]; rw [if_neg hk]
      rw [e] at h
      obtain ⟨h1, h2⟩ := foldC_least l m0 m h
      refine ⟨h1, fun c hc => ?_⟩
      rcases List.mem_cons.1 hc with rfl | hc
      · omega
      · exact h2 c hc
theorem bestO_least {l : List Cls} {m : Cls} (h : bestO l = some m) : ∀ c ∈ l, keyI m ≤ keyI c := by
  cases l with
  | nil => simp
  | cons a l =>
    have h' : l.foldl stepC (some a) = some m := h
    obtain ⟨h1, h2⟩ := foldC_least l a m h'
    intro c hc
    rcases List.mem_cons.1 hc with rfl | hc
    · exact h1
    · exact h2 c hc
theorem forL_mem {l : List Cls} {r : Runner} {c : Cls} : c ∈ forL l r ↔ c ∈ l ∧ admitB c r = true := by
  unfold forL forN
  rw [List.take_length, List.mem_filter]
theorem key_width {a b : Cls} (h : keyI a ≤ keyI b) : a.high - a.low ≤ b.high - b.low := by
  unfold keyI at h
  split at h <;> split at h <;> omega
structure ClsLaw (l : List Cls) (r : Runner) (G : Bool) (N : Int) (I : List Int) : Prop where
  does : ∀ i (h : i < l.length), doesB l[i] r = true
  has : ∀ i (h : i < l.length), hasB I l[i].id = admitB l[i] r
  ages : ∀ i (h : i < l.length), 0 ≤ l[i].low ∧ l[i].low ≤ 200 ∧ 0 ≤ l[i].high ∧ l[i].high ≤ 200
  len : G = decide (0 < I.length)
  none : G = false → ∀ i (h : i < l.length), admitB l[i] r = false
  best : G = true → hasB I N = true ∧ ∃ wm : Int, (∀ i (h : i < l.length), l[i].id = N → l[i].high - l[i].low = wm) ∧ (∃ i, ∃ h : i < l.length, l[i].id = N) ∧ ∀ i (h : i < l.length), admitB l[i] r = true → wm ≤ l[i].high - l[i].low
theorem fc_law {l : List Cls} {r : Runner} (hK : cfB l r = true) : ClsLaw l r (bcB l r) (bcI l r) (cfL l r) := by
  have h0 := hK
  simp only [cfB, Bool.and_eq_true] at h0
  obtain ⟨hl, hr⟩ := h0
  have hI : cfL l r = (forL l r).map Cls.id := by rw [cfL, if_pos hK]
  have hmem : ∀ n : Int, n ∈ cfL l r ↔ ∃ c ∈ l, admitB c r = true ∧ c.id = n := fun n => by
    rw [hI, List.mem_map]
    constructor
    · rintro ⟨c, hc, e⟩
      obtain ⟨h1, h2⟩ := forL_mem.1 hc
      exact ⟨c, h1, h2, e⟩
    · rintro ⟨c, h1, h2, e⟩
      exact ⟨c, forL_mem.2 ⟨h1, h2⟩, e⟩
  refine ⟨fun i hi => ?_, fun i hi => ?_, fun i hi => cls_ages (clssB_at hl hi), ?_, fun hG i hi => ?_, fun hG => ?_⟩
  · rw [doesB, clssB_at hl hi, hr]
    rfl
  · rw [Bool.eq_iff_iff, hasB_iff, hmem]
    constructor
    · rintro ⟨c, hc, ha, e⟩
      obtain ⟨j, hj, rfl⟩ := List.getElem_of_mem hc
      have := clss_one hl hj hi e
      subst this
      exact ha
    · intro ha
      exact ⟨l[i], List.getElem_mem hi, ha, rfl⟩
  · rw [bcB, hK, hI, List.length_map, Bool.true_and]
  · cases ha : admitB l[i] r with
    | false => rfl
    | true =>
      have : 0 < (forL l r).length := List.length_pos_iff.2 (List.ne_nil_of_mem (forL_mem.2 ⟨List.getElem_mem hi, ha⟩))
      rw [bcB, hK, Bool.true_and] at hG
      simp [this] at hG
  · have hp : 0 < (forL l r).length := by
      rw [bcB, hK, Bool.true_and] at hG
      simpa using hG
    obtain ⟨m, hm⟩ := bestO_some hp
    have hN := (bc_yes hG hm).1
    obtain ⟨hm1, hm2⟩ := forL_mem.1 (bestO_mem hm)
    obtain ⟨q, hq, rfl⟩ := List.getElem_of_mem hm1
    rw [hN]
    refine ⟨hasB_iff.2 ((hmem _).2 ⟨l[q], hm1, hm2, rfl⟩), l[q].high - l[q].low, fun i hi e => ?_, ⟨q, hq, rfl⟩, fun i hi ha => ?_⟩
    · have := clss_one hl hi hq e
      subst this
      rfl
    · exact key_width (bestO_least hm _ (forL_mem.2 ⟨List.getElem_mem hi, ha⟩))
end Go.Ori
