/- slices.Insert of one entry into a slice of the call's own. Condition: at most 1048576 entries, an index of theirs. -/
import Derived.Test.YtnpfghpjlbjpnaaPEnter
import Derived.Test.YtnpfghpjlbjpnaaPRows
import Derived.Test.YtnpfghpjlbjpnaaInfoEnt
import Derived.Test.YtnpfghpjlbjpnaaAppWhere
import Derived.Test.YtnpfghpjlbjpnaaOwnAt
import Derived.Test.YtnpfghpjlbjpnaaHeld
namespace Go.Proofs.Ytnpfghpjlbjpnaa
open Go.RowKit Go.Ori
theorem ent_size (w : World) : (Go.sizeOf 30).run Try.prog w = .ok 5 w := by
  obtain ⟨i, h1, h2, h3, h4⟩ := info_parts info_Ent
  simp [Go.sizeOf, typeInfo, h1, h3]
theorem ent_info_size : (Try.prog.info? 30).map (·.size) = some 5 := by
  obtain ⟨i, h1, h2, h3, h4⟩ := info_parts info_Ent
  simp [h1, h3]
set_option maxHeartbeats 4000000 in
theorem insert_end (W w : World) (B gu cu : Nat) (v : Value) (l : List Ent) (e : Ent) (hW : ∃ d, w = W.ext d) (hB : W.heap.size ≤ B) (hBw : B ≤ w.heap.size)
    (ho : w.own B 30 Ent.cells 5 v l) (hu : w.own B 30 Ent.cells 5 (.slice (some ⟨gu, 0, none⟩) 1 cu) [e]) (hl : l.length ≤ 1048576) :
    Calls Try.prog 14 #[v, .int .i64 l.length, .slice (some ⟨gu, 0, none⟩) 1 cu] w fun x w' => ∃ r, x = .returned r ∧ (∃ d, w' = W.ext d) ∧ w'.own B 30 Ent.cells 5 r (l ++ [e]) := by
  have HO := Lib.hid ho
  have HU := Lib.hid (sl_of_own Ent.cells_length hu)
  have HW := Lib.hid hW
  obtain ⟨p, cap, rfl, _, hcap⟩ := sl_of_own Ent.cells_length ho
  have hb0 : ((1 : Int) == 0) = false := by decide
  have hb1 : ((l.length : Int) == (l.length : Int)) = true := by simp
  have hk0 : (0 : Int) ≤ (l.length : Int) := by omega
  have hk1 : (l.length : Int) ≤ (cap : Int) := by omega
  clear ho hu hW
  rcases p with _ | ⟨b, o, sp⟩
  all_goals (
    go_enter Try.func14, Try.ntmps14
    go_wp2_with (at_builtin; go_must (refine wpList_append_gain (W := W) (base := B) (m := [e]) rfl (.tmp 23) (.tmp 24) rfl Try.underlying26 info_Ent (by rfl) (by omega) Ent.cells_length Ent.cells_one (by omega) HW.out hB hBw rfl rfl HO.out HU.out (by simp; omega) ?_); intro v' d ho hg)
    all_goals (go_ret; exact ⟨_, rfl, ⟨_, rfl⟩, ho⟩))
set_option maxHeartbeats 4000000 in
theorem insert_mid (W w : World) (B i gu cu : Nat) (v : Value) (l : List Ent) (e : Ent) (hW : ∃ d, w = W.ext d) (hB : W.heap.size ≤ B) (hBw : B ≤ w.heap.size)
    (ho : w.own B 30 Ent.cells 5 v l) (hu : w.own B 30 Ent.cells 5 (.slice (some ⟨gu, 0, none⟩) 1 cu) [e]) (hne : v.ownBlock ≠ some gu) (hi : i < l.length) (hl : l.length ≤ 1048576) :
    Calls Try.prog 14 #[v, .int .i64 i, .slice (some ⟨gu, 0, none⟩) 1 cu] w fun x w' => ∃ r, x = .returned r ∧ (∃ d, w' = W.ext d) ∧ w'.own B 30 Ent.cells 5 r (l.take i ++ [e] ++ l.drop i) := by
  have HS := Lib.hid (sl_of_own Ent.cells_length ho)
  have HU := Lib.hid (sl_of_own Ent.cells_length hu)
  have HW := Lib.hid hW
  obtain ⟨h1, ⟨rfl, hn0⟩ | ⟨g, cap, cur, rfl, hBg, hg, hnc, hcm, hcs, htk⟩⟩ := ho
  · omega
  have hgu : g ≠ gu := fun h => hne (by rw [h]; rfl)
  have hglt : g < w.heap.size := (Array.getElem?_eq_some_iff.1 hg).1
  have hgult : gu < w.heap.size := (own_lt hu gu rfl).2
  obtain ⟨e1, e2, e3⟩ := row_len Ent.cells_length (Nat.le_of_lt hi) e
  have hez := Ent.cells_length e
  have hcsl : cur.toList.length = cap * 5 := by rw [Array.length_toList]; exact hcs
  have hb0 : ((1 : Int) == 0) = false := by decide
  have hb1 : ((i : Int) == (l.length : Int)) = false := by simp; omega
  have hk0 : (0 : Int) ≤ (i : Int) := by omega
  have hk1 : (i : Int) ≤ (cap : Int) := by omega
  have hk2 : (i : Int) ≤ (l.length : Int) := by omega
  have hw1 : IntKind.i64.wrap ((i : Int) + 1) = (i : Int) + 1 := IntWalk.i64_in _ (by omega)
  have hci : ¬ (cap = i) := by omega
  have hi1 : (0 : Int) ≤ (i : Int) + 1 := by omega
  have htn : ((i : Int) + 1).toNat = i + 1 := by omega
  have hdrop := sl_drop (HS.out) (k := i) hi
  rw [Nat.zero_add] at hdrop
  by_cases hroom : cap < l.length + 1
  · have hd : decide ((cap : Int) < (l.length : Int) + 1) = true := decide_eq_true (by omega)
    obtain ⟨inf, hi0, hz0, hzs, hzb⟩ := info_parts info_Ent
    have hold : (Builtin.firstCells inf.size i (.slice (some ⟨g, 0, none⟩) i cap)).run Try.prog w.drew = .ok ((l.take i).flatMap Ent.cells).toArray w.drew := by
      rw [hzs]
      refine run_firstCells_some _ 5 i _ i cap _ e1 (fun j u hj => ?_)
      exact sl_src Ent.cells_length (by omega) (sl_take (w := w.drew) HS.out (Nat.le_of_lt hi)) j u hj
    obtain ⟨G, hG⟩ : ∃ G, G = grownCap w (l.length + 1) cap 30 := ⟨_, rfl⟩
    obtain ⟨ROW, hROW⟩ : ∃ ROW : Array Value, ROW = ((l.take i).flatMap Ent.cells).toArray ++ Builtin.zeroCells (Value.agg #[.int .i64 0, .int .i64 0, .int .i64 0, .bool false, .int .i64 0]).cells (l.length + 1 - i) ++ Builtin.zeroCells (Value.agg #[.int .i64 0, .int .i64 0, .int .i64 0, .bool false, .int .i64 0]).cells (G - (l.length + 1)) := ⟨_, rfl⟩
    have hGn : l.length + 1 ≤ G := by rw [hG]; exact grownCap_ge w _ _ _
    have hGm : G ≤ maxLen := by rw [hG]; exact grownCap_le_maxLen w _ _ _ (by unfold maxLen; omega)
    have hrz : ∀ ty, (Builtin.append_ #[ 26, 3] ty #[.slice (some ⟨g, 0, none⟩) i cap, .int .i64 ((l.length : Int) + 1 - (i : Int))]).run Try.prog w =
        .ok (.slice (some ⟨w.heap.size, 0, none⟩) (l.length + 1) G) (w.drew.alloc (.cells ROW 30)) := fun ty => by
      have hik : i + (l.length + 1 - i) = l.length + 1 := by omega
      have h := Lib.run_append_grow_zeros w 26 3 ty 30 inf _ .i64 .i64 Try.underlying26 Try.underlying3 hi0 hz0 (some ⟨g, 0, none⟩) i cap _ hold (l.length + 1 - i) (by omega) (by omega) (by omega) (by omega) (by rw [hzb]; omega) (by rw [hzb, hik]; exact growslice_fits hroom (by omega))
      rw [hik, ← hG, ← hROW] at h
      rw [show (l.length : Int) + 1 - (i : Int) = ((l.length + 1 - i : Nat) : Int) by omega]
      exact h
    have hRl : ROW.size = G * 5 := by
      rw [hROW]
      simp [Builtin.zeroCells, Value.cells, e1]
      omega
    have hRT : ROW.toList.length = G * 5 := by simpa using hRl
    obtain ⟨R1, R2, hR1, hR2, hR3, hR4, hR5⟩ := row_grow (R0 := ROW.toList) Ent.cells_length (Nat.le_of_lt hi) e (by
      rw [hROW]
      simp only [Array.toList_append, List.append_assoc]
      rw [List.take_append_of_le_length (by simp [e1])]
      exact List.take_of_length_le (by simp [e1])) (by rw [hRT]; omega)
    obtain ⟨W1, hW1⟩ : ∃ W1, W1 = w.drew.alloc (.cells ROW 30) := ⟨_, rfl⟩
    have hg1 : W1.heap[w.heap.size]? = some (.cells ROW 30 (0, 0)) := by rw [hW1]; exact heap_alloc_new w.drew _
    have hU1 : W1.sl Ent.cells 5 (.slice (some ⟨gu, 0, none⟩) 1 cu) [e] := by rw [hW1]; exact sl_alloc Ent.cells_length (sl_drew HU.out) _
    have hD1 : W1.sl Ent.cells 5 (.slice (some ⟨g, i * 5, none⟩) (l.length - i) (cap - i)) (l.drop i) := by rw [hW1]; exact sl_alloc Ent.cells_length (sl_drew hdrop) _
    have hcA : ∀ (X : World), X = W1 → ∀ ty dc, (Builtin.copy_ #[ 26, 26] ty #[.slice (some ⟨w.heap.size, i * 5, none⟩) (l.length + 1 - i) dc, .slice (some ⟨gu, 0, none⟩) 1 cu]).run Try.prog X = .ok (goInt 1) (W1.setRow w.heap.size R1.toArray) := fun X hX ty dc => by
      subst hX
      have h := run_copy_rows (P := Try.prog) X 26 26 ty 30 5 1 w.heap.size (i * 5) (l.length + 1 - i) dc ⟨gu, 0, none⟩ 1 cu ROW 30 e.cells Try.underlying26 ent_info_size hg1 (by simp only [Nat.min_def]; split <;> omega) (by rw [hez])
        (fun j u hj => sl_src Ent.cells_length (by omega) hU1 j u (by simpa using hj)) (by rw [hez, hRl]; omega) (Ent.cells_one e)
      rw [← hR1] at h
      exact h
    obtain ⟨W2, hW2⟩ : ∃ W2, W2 = W1.setRow w.heap.size R1.toArray := ⟨_, rfl⟩
    rw [← hW2] at hcA
    have hg2 : W2.heap[w.heap.size]? = some (.cells R1.toArray 30 (0, 0)) := by rw [hW2]; exact setRow_heap W1 _ _ _ _ _ hg1
    have hG2 : W1.grownBy W2 (some w.heap.size) := by rw [hW2]; exact grown_setRow (only_refl _ _) _
    have hD2 : W2.sl Ent.cells 5 (.slice (some ⟨g, i * 5, none⟩) (l.length - i) (cap - i)) (l.drop i) :=
      sl_mark (v := .slice (some ⟨w.heap.size, 0, none⟩) 0 0) Ent.cells_length hD1 hG2 (by intro _ b hb hv; simp only [Value.ownBlock, Option.some.injEq] at hb hv; omega)
    have hcB : ∀ ty dc sc, (Builtin.copy_ #[ 26, 26] ty #[.slice (some ⟨w.heap.size, (i + 1) * 5, none⟩) (l.length + 1 - (i + 1)) dc, .slice (some ⟨g, i * 5, none⟩) (l.length - i) sc]).run Try.prog W2.drew = .ok (goInt ((l.length - i : Nat) : Int)) (W2.drew.setRow w.heap.size R2.toArray) := fun ty dc sc => by
      have h := run_copy_rows (P := Try.prog) W2.drew 26 26 ty 30 5 (l.length - i) w.heap.size ((i + 1) * 5) (l.length + 1 - (i + 1)) dc ⟨g, i * 5, none⟩ (l.length - i) sc R1.toArray 30 ((l.drop i).flatMap Ent.cells) Try.underlying26 ent_info_size hg2 (by simp only [Nat.min_def]; split <;> omega) e2
        (fun j u hj => sl_src (w := W2.drew) Ent.cells_length (by omega) (sl_drew hD2) j u hj) (by rw [e2, List.size_toArray, hR4, hRT]; omega) (flat_one Ent.cells_one _)
      rw [← hR2] at h
      exact h
    obtain ⟨W3, hW3⟩ : ∃ W3, W3 = W2.drew.setRow w.heap.size R2.toArray := ⟨_, rfl⟩
    rw [← hW3] at hcB
    have hg3 : W3.heap[w.heap.size]? = some (.cells R2.toArray 30 (0, 0)) := by rw [hW3]; exact setRow_heap W2.drew _ _ _ _ _ hg2
    have HFIN : Hid ((∃ d, W3 = W.ext d) ∧ W3.own B 30 Ent.cells 5 (.slice (some ⟨w.heap.size, 0, none⟩) (l.length + 1) G) (l.take i ++ [e] ++ l.drop i)) := Lib.hid (by
      have hlen : (l.take i ++ [e] ++ l.drop i).length = l.length + 1 := by simp; omega
      have a1 : ∃ d, W1 = W.ext d := by rw [hW1]; exact gain_alloc (gain_drew HW.out) _
      have a2 : ∃ d, W2 = W.ext d := gain_grown a1 hG2 (fun b hb => by injection hb with hb; omega)
      have a3 : ∃ d, W3 = W.ext d := gain_grown (gain_drew a2) (row := some w.heap.size) (by rw [hW3]; exact grown_setRow (only_refl _ _) _) (fun b hb => by injection hb with hb; omega)
      refine ⟨a3, ?_⟩
      unfold World.own
      rw [hlen]
      exact ⟨by rw [e3]; simp only [List.length_append, e1, e2, hez]; omega, .inr ⟨w.heap.size, G, R2.toArray, rfl, hBw, hg3, hGn, hGm, by rw [List.size_toArray, hR5, hRT], hR3⟩⟩)
    rw [← hW1] at hrz
    have hdl : (W1.heap.size = w.heap.size + 1) := by rw [hW1, World.size_alloc]; rfl
    generalize w.heap.size = gN at *
    have hGi : ¬ (G = i) := by omega
    have hGi1 : ¬ (G = i + 1) := by omega
    have hGi2 : (i : Int) ≤ (G : Int) := by omega
    have hGi3 : (i : Int) + 1 ≤ (G : Int) := by omega
    have hGi4 : (i : Int) ≤ (l.length : Int) + 1 := by omega
    have hGi5 : (i : Int) + 1 ≤ (l.length : Int) + 1 := by omega
    unfold maxLen at hGm
    clear hold hROW hG hRl hR1 hR2 hR3 hR4 hR5 hW1 hW2 hW3 hg1 hg2 hg3 hG2 hD1 hD2 hU1 hdrop h1 hg hcs htk e1 e2 e3 hez hcsl hi0 hz0 hzs hzb
    go_enter Try.func14, Try.ntmps14
    go_wp2_with (first
      | (at_builtin; refine Lib.wpList_append_run _ rfl _ _ _ _ rfl _ _ rfl rfl _ _ (hrz _) ?_)
      | (at_builtin; refine wpList_copy_runI _ rfl _ _ _ _ rfl _ _ rfl rfl (hcA _ rfl _ _) ?_))
    go_region_law (refine step_copy_runI rfl _ _ _ _ rfl (.slice (some ⟨gN, (i + 1) * 5, none⟩) (l.length + 1 - (i + 1)) (G - (i + 1))) (.slice (some ⟨g, i * 5, none⟩) (l.length - i) (cap - i)) (by simp [Act.eval, Act.put]) (by simp [Act.eval, Act.put]) (hcB _ _ _) ?_)
    go_wp2
    go_ret
    exact ⟨_, rfl, HFIN.out⟩
  · have hd : decide ((cap : Int) < (l.length : Int) + 1) = false := decide_eq_false (by omega)
    have hR0 : cur.toList.take (i * 5) = (l.take i).flatMap Ent.cells := by
      have h := congrArg (List.take (i * 5)) htk
      rw [List.take_take, Nat.min_eq_left (by omega)] at h
      rw [h]
      conv => lhs; rw [← List.take_append_drop i l, List.flatMap_append]
      rw [List.take_append_of_le_length (by rw [e1]; exact Nat.le_refl _)]
      exact List.take_of_length_le (by rw [e1]; exact Nat.le_refl _)
    obtain ⟨R1, R2, hR1, hR2, hR3, hR4, hR5⟩ := row_shift (R0 := cur.toList) Ent.cells_length (Nat.le_of_lt hi) e hR0 (by rw [hcsl]; omega)
    have hov : ∀ lb cb, (callFunc 18 #[.slice (some ⟨gu, 0, none⟩) 1 cu, .slice (some ⟨g, (i + 1) * 5, none⟩) lb cb]).run Try.prog w = .ok (.value (.bool false)) w := fun lb cb => by
      obtain ⟨_, ⟨hv, _⟩ | ⟨g', cap', cur', hv, _, hg', _⟩⟩ := hu
      · cases hv
      · simp only [Value.slice.injEq, Option.some.injEq, Addr.mk.injEq] at hv
        obtain ⟨⟨rfl, _⟩, _, rfl⟩ := hv
        rw [run_callFunc_extern Try.func18 (by kernel_rfl) (by kernel_rfl) (by kernel_rfl) (e := Extern.SlicesOverlaps.overlaps #[ 26, 26] #[ 4]) (by kernel_rfl),
          Lib.run_overlaps_apart w 26 4 30 Try.underlying26 5 ent_size ⟨gu, 0, none⟩ ⟨g, (i + 1) * 5, none⟩ 1 cu lb cb (fun h => hgu h.symm) 30 30 cur'.size cur.size (by simp [World.shape?, hg']) (by simp [World.shape?, hg]) (by omega) (World.free_of_heap hg' _) (World.free_of_heap hg' _)]
        rfl
    have hcA : ∀ ty dc sc, (Builtin.copy_ #[ 26, 26] ty #[.slice (some ⟨g, (i + 1) * 5, none⟩) (l.length + 1 - (i + 1)) dc, .slice (some ⟨g, i * 5, none⟩) (l.length + 1 - i) sc]).run Try.prog w.drew = .ok (goInt ((l.length - i : Nat) : Int)) (w.drew.setRow g R1.toArray) := fun ty dc sc => by
      have h := run_copy_rows (P := Try.prog) w.drew 26 26 ty 30 5 (l.length - i) g ((i + 1) * 5) (l.length + 1 - (i + 1)) dc ⟨g, i * 5, none⟩ (l.length + 1 - i) sc cur 30 ((l.drop i).flatMap Ent.cells) Try.underlying26 ent_info_size hg (by simp only [Nat.min_def]; split <;> omega) e2
        (fun j u hj => sl_src (w := w.drew) Ent.cells_length (by omega) (sl_drew hdrop) j u hj) (by rw [e2, hcs]; omega) (flat_one Ent.cells_one _)
      rw [← hR1] at h
      exact h
    obtain ⟨W1, hW1⟩ : ∃ W1, W1 = w.drew.setRow g R1.toArray := ⟨_, rfl⟩
    rw [← hW1] at hcA
    have hg1 : W1.heap[g]? = some (.cells R1.toArray 30 (0, 0)) := by rw [hW1]; exact setRow_heap w.drew _ _ _ _ _ hg
    have hG1 : w.drew.grownBy W1 (some g) := by rw [hW1]; exact grown_setRow (only_refl _ _) _
    have hU1 : W1.sl Ent.cells 5 (.slice (some ⟨gu, 0, none⟩) 1 cu) [e] :=
      sl_mark (v := .slice (some ⟨g, 0, none⟩) 0 0) Ent.cells_length (sl_drew HU.out) hG1 (by intro _ b hb hv; simp only [Value.ownBlock, Option.some.injEq] at hb hv; omega)
    have hcB : ∀ (X : World), X = W1 → ∀ ty dc, (Builtin.copy_ #[ 26, 26] ty #[.slice (some ⟨g, i * 5, none⟩) (l.length + 1 - i) dc, .slice (some ⟨gu, 0, none⟩) 1 cu]).run Try.prog X = .ok (goInt 1) (W1.setRow g R2.toArray) := fun X hX ty dc => by
      subst hX
      have h := run_copy_rows (P := Try.prog) X 26 26 ty 30 5 1 g (i * 5) (l.length + 1 - i) dc ⟨gu, 0, none⟩ 1 cu R1.toArray 30 e.cells Try.underlying26 ent_info_size hg1 (by simp only [Nat.min_def]; split <;> omega) (by rw [hez])
        (fun j u hj => sl_src Ent.cells_length (by omega) hU1 j u (by simpa using hj)) (by rw [hez, List.size_toArray, hR4, hcsl]; omega) (Ent.cells_one e)
      rw [← hR2] at h
      exact h
    obtain ⟨W2, hW2⟩ : ∃ W2, W2 = W1.setRow g R2.toArray := ⟨_, rfl⟩
    rw [← hW2] at hcB
    have hg2 : W2.heap[g]? = some (.cells R2.toArray 30 (0, 0)) := by rw [hW2]; exact setRow_heap W1 _ _ _ _ _ hg1
    have HFIN : Hid ((∃ d, W2 = W.ext d) ∧ W2.own B 30 Ent.cells 5 (.slice (some ⟨g, 0, none⟩) (l.length + 1) cap) (l.take i ++ [e] ++ l.drop i)) := Lib.hid (by
      have hlen : (l.take i ++ [e] ++ l.drop i).length = l.length + 1 := by simp; omega
      have a1 : ∃ d, W1 = W.ext d := gain_grown (gain_drew HW.out) hG1 (fun b hb => by injection hb with hb; omega)
      have a2 : ∃ d, W2 = W.ext d := gain_grown a1 (row := some g) (by rw [hW2]; exact grown_setRow (only_refl _ _) _) (fun b hb => by injection hb with hb; omega)
      refine ⟨a2, ?_⟩
      unfold World.own
      rw [hlen]
      exact ⟨by rw [e3]; simp only [List.length_append, e1, e2, hez]; omega, .inr ⟨g, cap, R2.toArray, rfl, hBg, hg2, by omega, hcm, by rw [List.size_toArray, hR5, hcsl], hR3⟩⟩)
    have hci1 : ¬ (cap = i + 1) := by omega
    have hk3 : (0 : Int) ≤ (l.length : Int) + 1 := by omega
    have hk4 : (l.length : Int) + 1 ≤ (cap : Int) := by omega
    have hk5 : (i : Int) + 1 ≤ (l.length : Int) + 1 := by omega
    have hk6 : (i : Int) ≤ (l.length : Int) + 1 := by omega
    have htn2 : ((l.length : Int) + 1).toNat = l.length + 1 := by omega
    have hw2 : IntKind.i64.wrap ((l.length : Int) + 1) = (l.length : Int) + 1 := IntWalk.i64_in _ (by omega)
    unfold maxLen at hcm
    clear hR0 hR1 hR2 hR3 hR4 hR5 hW1 hW2 hg1 hg2 hG1 hU1 hdrop h1 hg hcs htk e1 e2 e3 hez hcsl
    go_enter Try.func14, Try.ntmps14
    go_wp2_with (simp only [hov])
    go_region_law (refine step_copy_runI rfl _ _ _ _ rfl (.slice (some ⟨g, (i + 1) * 5, none⟩) (l.length + 1 - (i + 1)) (cap - (i + 1))) (.slice (some ⟨g, i * 5, none⟩) (l.length + 1 - i) (cap - i)) (by simp [Act.eval, Act.put]) (by simp [Act.eval, Act.put]) (hcA _ _ _) ?_)
    go_wp2_with (at_builtin; refine wpList_copy_runI _ rfl _ _ _ _ rfl _ _ rfl rfl (hcB _ rfl _ _) ?_)
    go_ret
    exact ⟨_, rfl, HFIN.out⟩
theorem insert_any (W w : World) (B i gu cu : Nat) (v : Value) (l : List Ent) (e : Ent) (hW : ∃ d, w = W.ext d) (hB : W.heap.size ≤ B) (hBw : B ≤ w.heap.size)
    (ho : w.own B 30 Ent.cells 5 v l) (hu : w.own B 30 Ent.cells 5 (.slice (some ⟨gu, 0, none⟩) 1 cu) [e]) (hne : v.ownBlock ≠ some gu) (hi : i ≤ l.length) (hl : l.length ≤ 1048576) :
    Calls Try.prog 14 #[v, .int .i64 i, .slice (some ⟨gu, 0, none⟩) 1 cu] w fun x w' => ∃ r, x = .returned r ∧ (∃ d, w' = W.ext d) ∧ w'.own B 30 Ent.cells 5 r (l.take i ++ [e] ++ l.drop i) := by
  by_cases h : i < l.length
  · exact insert_mid W w B i gu cu v l e hW hB hBw ho hu hne h hl
  · obtain rfl : i = l.length := by omega
    have := insert_end W w B gu cu v l e hW hB hBw ho hu hl
    simpa using this
end Go.Proofs.Ytnpfghpjlbjpnaa
