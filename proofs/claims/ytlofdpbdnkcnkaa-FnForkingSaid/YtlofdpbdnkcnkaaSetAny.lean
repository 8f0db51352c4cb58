/- A cell that holds an int is set to an int: every slice still reads as some list of the same lengths. No condition. -/
import Derived.Test.YtlofdpbdnkcnkaaNest
import Derived.Test.YtlofdpbdnkcnkaaRows2
namespace Go
open RowKit Go.Ori
theorem sl1_set {w : World} {v : Value} {l : List Int} (h : w.sl1 v l) (b : Addr) (x : Int) : ∃ l' : List Int, l'.length = l.length ∧ (w.setCell b (.int .i64 x)).sl1 v l' := by
  obtain ⟨p, c, rfl, hp, hc⟩ := h
  by_cases h0 : 0 < l.length
  · obtain ⟨bl, o, rfl, hcell⟩ := hp h0
    have hm : ∀ k, ∃ m : Int, k < l.length → (w.setCell b (.int .i64 x)).cell? ⟨bl, o + k * 1 + 0, none⟩ = some (.int .i64 m) := fun k => by
      by_cases hk : k < l.length
      · have h1 := hcell k hk 0 (by omega)
        by_cases e : b = (⟨bl, o + k * 1 + 0, none⟩ : Addr)
        · exact ⟨x, fun _ => by subst e; exact World.cell?_setCell_same _ _ _ h1⟩
        · exact ⟨l[k], fun _ => (World.cell?_setCell_other _ _ _ _ e).trans h1⟩
      · exact ⟨0, fun q => absurd q hk⟩
    obtain ⟨f, hf⟩ := Classical.axiomOfChoice hm
    refine ⟨(List.range l.length).map f, by simp, some ⟨bl, o, none⟩, c, by simp, fun _ => ⟨bl, o, rfl, fun k hk j hj => ?_⟩, by simpa using hc⟩
    have hk' : k < l.length := by simpa using hk
    have hj0 : j = 0 := by omega
    subst hj0
    rw [hf k hk']
    simp [intC]
  · exact ⟨l, rfl, p, c, rfl, fun q => absurd q h0, hc⟩
theorem slOf_set {α : Type} {P : World → Value → List α → Prop} {tot : List α → Nat} {w : World} {v : Value} {l : List (List α)} {b : Addr} {x y : Int} (hP : ∀ {v : Value} {z : List α}, P w v z → ∃ z' : List α, z'.length = z.length ∧ tot z' = tot z ∧ P (w.setCell b (.int .i64 x)) v z')
    (hF : ∀ {v : Value} {z : List α}, P w v z → ∃ p c, v = .slice p z.length c) (h : w.slOf P v l) (hb : w.cell? b = some (.int .i64 y)) :
    ∃ l' : List (List α), l'.length = l.length ∧ (∀ (i : Nat) (h : i < l.length) (h' : i < l'.length), l'[i].length = l[i].length ∧ tot l'[i] = tot l[i]) ∧ (w.setCell b (.int .i64 x)).slOf P v l' := by
  obtain ⟨vs, ⟨p, c, rfl, hp, hc⟩, hlen, hrow⟩ := h
  have hm : ∀ k, ∃ z' : List α, ∀ (h : k < l.length) (h' : k < vs.length), z'.length = l[k].length ∧ tot z' = tot l[k] ∧ P (w.setCell b (.int .i64 x)) vs[k] z' := fun k => by
    by_cases hk : k < l.length
    · obtain ⟨z', e1, e2, e3⟩ := hP (hrow k hk (by omega))
      exact ⟨z', fun _ _ => ⟨e1, e2, e3⟩⟩
    · exact ⟨[], fun q => absurd q hk⟩
  obtain ⟨f, hf⟩ := Classical.axiomOfChoice hm
  refine ⟨(List.range l.length).map f, by simp, fun i hi hi' => ?_, vs, ⟨p, c, rfl, fun h0 => ?_, hc⟩, by simp [hlen], fun i hi hi' => ?_⟩
  · simp only [List.getElem_map, List.getElem_range]
    exact ⟨(hf i hi (by omega)).1, (hf i hi (by omega)).2.1⟩
  · obtain ⟨bl, o, rfl, hcell⟩ := hp h0
    refine ⟨bl, o, rfl, fun k hk j hj => ?_⟩
    have h1 := hcell k hk j hj
    have hj0 : j = 0 := by omega
    subst hj0
    have e : b ≠ (⟨bl, o + k * 1 + 0, none⟩ : Addr) := fun e => by
      subst e
      obtain ⟨q, c2, hv⟩ := hF (hrow k (by omega) hk)
      rw [hb] at h1
      simp only [valC, List.getElem?_cons_zero, Option.some.injEq] at h1
      rw [hv] at h1
      cases h1
    exact (World.cell?_setCell_other _ _ _ _ e).trans h1
  · simp only [List.getElem_map, List.getElem_range]
    have : i < l.length := by simpa using hi
    exact (hf i this hi').2.2
theorem psum_same {α : Type} (f : α → Nat) (l l' : List α) (h : l'.length = l.length) (hr : ∀ (i : Nat) (h : i < l.length) (h' : i < l'.length), f l'[i] = f l[i]) : psum f l' l'.length = psum f l l.length := by
  unfold psum
  rw [List.take_length, List.take_length]
  congr 1
  apply List.ext_getElem (by simp [h])
  intro i h1 h2
  simp only [List.getElem_map]
  exact hr i (by simpa using h2) (by simpa using h1)
theorem sl2_set {w : World} {v : Value} {l : List (List Int)} {b : Addr} {x y : Int} (h : w.sl2 v l) (hb : w.cell? b = some (.int .i64 y)) : ∃ l' : List (List Int), l'.length = l.length ∧ tot2 l' = tot2 l ∧ (w.setCell b (.int .i64 x)).sl2 v l' := by
  obtain ⟨l', h1, h2, h3⟩ := slOf_set (P := World.sl1) (tot := fun z => z.length) (b := b) (x := x) (fun h => by obtain ⟨z', e1, e2⟩ := sl1_set h b x; exact ⟨z', e1, e1, e2⟩) (fun h => sl1_form h) h hb
  refine ⟨l', h1, ?_, h3⟩
  unfold tot2
  rw [h1, ← psum_same tot1 l l' h1 (fun i q1 q2 => (h2 i q1 q2).1), h1]
theorem sl3_set {w : World} {v : Value} {l : List (List (List Int))} {b : Addr} {x y : Int} (h : w.sl3 v l) (hb : w.cell? b = some (.int .i64 y)) : ∃ l' : List (List (List Int)), l'.length = l.length ∧ tot3 l' = tot3 l ∧ (w.setCell b (.int .i64 x)).sl3 v l' := by
  obtain ⟨l', h1, h2, h3⟩ := slOf_set (P := World.sl2) (tot := tot2) (b := b) (x := x) (fun h => sl2_set h hb) (fun h => sl2_form h) h hb
  refine ⟨l', h1, ?_, h3⟩
  unfold tot3
  rw [h1, ← psum_same tot2 l l' h1 (fun i q1 q2 => (h2 i q1 q2).2), h1]
/-- Header cells outlast a store into a cell that holds an int. -/
theorem slV_set {w : World} {v : Value} {vs : List Value} {b : Addr} {x y : Int} (h : w.sl valC 1 v vs) (hF : ∀ (i : Nat) (h : i < vs.length), ∃ p n c, vs[i] = .slice p n c) (hb : w.cell? b = some (.int .i64 y)) : (w.setCell b (.int .i64 x)).sl valC 1 v vs := by
  obtain ⟨p, c, rfl, hp, hc⟩ := h
  refine ⟨p, c, rfl, fun h0 => ?_, hc⟩
  obtain ⟨bl, o, rfl, hcell⟩ := hp h0
  refine ⟨bl, o, rfl, fun k hk j hj => ?_⟩
  have h1 := hcell k hk j hj
  have hj0 : j = 0 := by omega
  subst hj0
  have e : b ≠ (⟨bl, o + k * 1 + 0, none⟩ : Addr) := fun e => by
    subst e
    obtain ⟨q, n, c2, hv⟩ := hF k hk
    rw [hb] at h1
    simp only [valC, List.getElem?_cons_zero, Option.some.injEq] at h1
    rw [hv] at h1
    cases h1
  exact (World.cell?_setCell_other _ _ _ _ e).trans h1
end Go
