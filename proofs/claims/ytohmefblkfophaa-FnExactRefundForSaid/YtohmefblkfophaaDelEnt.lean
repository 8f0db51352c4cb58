/- slices.Delete of one entry, from a slice of the call's own. Condition: at most 1048576 entries, an index of theirs. -/
import Derived.Test.YtohmefblkfophaaRows
import Derived.Test.YtohmefblkfophaaCut
import Derived.Test.YtohmefblkfophaaPlain
import Derived.Test.YtohmefblkfophaaInfoEnt
namespace Go.Proofs.Ytohmefblkfophaa
open Go.RowKit Go.Ori
theorem zero_Ent (w : World) : (zeroValue 56).run Try.prog w = .ok (.agg #[.int .i64 0, .int .i64 0, .int .i64 0, .bool false, .int .i64 0]) w := by
  obtain ⟨i, h1, h2, _⟩ := info_parts info_Ent
  simp [zeroValue, typeInfo, h1, h2]
theorem zeros_Ent : [Value.int .i64 0, .int .i64 0, .int .i64 0, .bool false, .int .i64 0] = (Builtin.zeroCells (Value.agg #[.int .i64 0, .int .i64 0, .int .i64 0, .bool false, .int .i64 0]).cells 1).toList := by
  simp [Builtin.zeroCells, Value.cells]
  rfl
set_option maxHeartbeats 4000000 in
set_option maxRecDepth 1000000 in
theorem delete_ents (W : World) (v : Value) (l : List Ent) (i : Nat) (base : Nat) (w : World) (hW : ∃ d, w = W.ext d) (hB : W.heap.size ≤ base) (ho : w.own base 56 Ent.cells 5 v l) (hi : i < l.length) (hl : l.length ≤ 1048576) :
    Calls Try.prog 54 #[v, .int .i64 i, .int .i64 ((i : Int) + 1)] w fun x w' => ∃ r, x = .returned r ∧ (∃ d, w' = W.ext d) ∧ w'.own base 56 Ent.cells 5 r (l.take i ++ l.drop (i + 1)) := by
  obtain ⟨i0, hi0, hz0, hz1, hz2⟩ := info_parts info_Ent
  have HC := Lib.hid (own_lt ho)
  obtain ⟨g, cap, rfl, hgb, hgc, hgx⟩ := own_open ho (by omega)
  obtain ⟨news, hnews⟩ : ∃ news, news = (l.drop (i + 1)).flatMap Ent.cells := ⟨_, rfl⟩
  have hlen : news.length = (l.length - (i + 1)) * 5 := by rw [hnews, flat_length Ent.cells_length, List.length_drop]
  obtain ⟨A, hA, hsrc⟩ : ∃ A : Addr, (if cap = i + 1 then some (⟨g, 0, none⟩ : Addr) else some ⟨g, (i + 1) * 5, none⟩) = some A ∧ Hid (∀ t u, news[t]? = some u → w.drew.cell? (A.add t) = some u) := by
    by_cases h : cap = i + 1
    · refine ⟨⟨g, 0, none⟩, by simp [h], fun t u hu => ?_⟩
      have h0 : news.length = 0 := by rw [hlen]; omega
      rw [List.length_eq_zero_iff.1 h0] at hu
      simp at hu
    · refine ⟨⟨g, (i + 1) * 5, none⟩, by simp [h], fun t u hu => ?_⟩
      have ht : t < (l.length - (i + 1)) * 5 := by
        have := (List.getElem?_eq_some_iff.1 hu).1
        rwa [hlen] at this
      rw [Addr.add_lit]
      show w.cell? _ = _
      rw [own_flat ho (by omega), ← hu, hnews, flat_drop Ent.cells_length, List.getElem?_drop]
  have s1 : Hid (news.length = (l.length - (i + 1)) * 5) := hlen
  have s2 : Hid (∀ u ∈ news, u.oneCell' = true) := by
    intro u hu
    rw [hnews] at hu
    obtain ⟨x, _, hx⟩ := List.mem_flatMap.1 hu
    exact Ent.cells_one x u hx
  have s3 : Hid (∀ t, t < news.length → (w.drew.cell? ⟨g, 0 + i * 5 + t, none⟩).isSome = true ∧ w.drew.frozen? ⟨g, 0 + i * 5 + t, none⟩ = false) := by
    intro t ht
    rw [hlen] at ht
    obtain ⟨x, hx, hf⟩ := hgx (0 + i * 5 + t) (by omega)
    exact ⟨by show (w.cell? _).isSome = true; rw [hx]; rfl, hf⟩
  obtain ⟨W1, hW1⟩ : ∃ W1, W1 = w.drew.setCells g (0 + i * 5) news := ⟨_, rfl⟩
  have hic : i ≤ cap := by omega
  have hjc : i + 1 ≤ cap := by omega
  have hwr : IntKind.i64.wrap ((i : Int) + 1) = (i : Int) + 1 := by rw [IntKind.wrap_i64]; omega
  have hp0 : (0 : Int) ≤ (i : Int) + 1 := by omega
  have hp1 : (i : Int) + 1 ≤ (l.length : Int) := by omega
  have hp2 : ((i : Int) + 1).toNat = i + 1 := by omega
  have hW' : Hid (W1 = w.drew.setCells g (0 + i * 5) news) := hW1
  have hlv := fun (q : Nat) (hq : q < l.length * 5) => own_live Ent.cells_length (own_drew ho) news (0 + i * 5) (by rw [hlen]; omega) hq
  rw [← hW1] at hlv
  have hcl : ∀ ty, (Builtin.clear_ #[ 25 ] ty #[.slice (some ⟨g, (i + (l.length - (i + 1))) * 5, none⟩) (l.length - (i + (l.length - (i + 1)))) (cap - (i + (l.length - (i + 1))))]).run Try.prog W1 = .ok (.tuple #[]) (W1.setCells g ((i + (l.length - (i + 1))) * 5) [.int .i64 0, .int .i64 0, .int .i64 0, .bool false, .int .i64 0]) := by
    intro ty
    refine run_clear_cells W1 _ 56 ty _ _ Try.underlying25 zero_Ent g _ _ _ (by rw [show l.length - (i + (l.length - (i + 1))) = 1 by omega]; exact zeros_Ent) (by simp [Value.oneCell']) (by omega) (fun j hj => (hlv _ (by simp at hj; omega)).1) (fun j hj => (hlv _ (by simp at hj; omega)).2)
  have HD := Lib.hid (own_del Ent.cells_length (own_drew ho) (i := i) (j := i + 1) (by omega) (by omega) [.int .i64 0, .int .i64 0, .int .i64 0, .bool false, .int .i64 0] (by simp))
  rw [show i * 5 = 0 + i * 5 by omega, ← hnews, ← hW1, show (l.length - (i + 1 - i)) * 5 = (i + (l.length - (i + 1))) * 5 by omega, show l.length - (i + 1 - i) = i + (l.length - (i + 1)) by omega] at HD
  have HG : Hid (∃ d, W1 = W.ext d) := Lib.hid (by rw [hW1]; exact gain_setCells _ _ (gain_drew hW) (Nat.le_trans hB hgb))
  have HB : Hid (W.heap.size ≤ g) := Lib.hid (Nat.le_trans hB hgb)
  clear hlv hW1 hnews hlen hgx ho hW
  go_enter Try.func54, Try.ntmps54
  go_wp2_with fail
  go_region_law (refine step_append_room rfl (.tmp 22) (.tmp 25) 25 rfl 56 i0 5 Try.underlying25 hi0 hz1 g 0 i cap (by simp [Act.eval, Act.put]) A (l.length - (i + 1)) (cap - (i + 1)) news (by simp [Act.eval, Act.put]) s1.out hsrc.out s2.out (by omega) s3.out ?_; rw [← hW'.out])
  go_wp2
  go_ret
  exact ⟨_, rfl, gain_setCells _ _ HG.out HB.out, HD.out⟩
end Go.Proofs.Ytohmefblkfophaa
