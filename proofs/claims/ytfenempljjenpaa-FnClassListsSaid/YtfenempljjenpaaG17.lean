/- Texts laid together: impl.classesFor, impl.ClassesFor, spec.l7For, spec.ClassesFor. Condition: at most 1048576 classes, their names and the runner's strings too.; Runners are put into classes: plain functions. No condition.; A valid list of classes: ids rise, ages are small. No condition. -/
import Derived.Test.YtfenempljjenpaaG8
import Derived.Test.YtfenempljjenpaaG16
import Derived.Test.YtfenempljjenpaaG11
import Derived.Test.YtfenempljjenpaaG9
import Derived.Test.YtfenempljjenpaaG3
import Derived.Test.YtfenempljjenpaaG2
/- impl.classesFor, impl.ClassesFor, spec.l7For, spec.ClassesFor. Condition: at most 1048576 classes, their names and the runner's strings too. -/
namespace Go.Ori
/-- The classes among the first k that admit a runner. -/
def forN (l : List Cls) (r : Runner) (k : Nat) : List Cls := (l.take k).filter fun c => admitB c r
theorem forN_succ {l : List Cls} {r : Runner} {k : Nat} (h : k < l.length) : forN l r (k + 1) = forN l r k ++ if admitB l[k] r then [l[k]] else [] := by
  unfold forN
  rw [List.take_succ_eq_append_getElem h, List.filter_append]
  congr 1
  cases h1 : admitB l[k] r <;> simp [h1]
theorem forN_zero (l : List Cls) (r : Runner) : forN l r 0 = [] := by simp [forN]
theorem forN_length (l : List Cls) (r : Runner) (k : Nat) : (forN l r k).length ≤ k := by
  unfold forN
  exact Nat.le_trans (List.length_filter_le _ _) (by rw [List.length_take]; omega)
def forL (l : List Cls) (r : Runner) : List Cls := forN l r l.length
theorem forN_ids {l : List Cls} {r : Runner} {k : Nat} (h : k < l.length) : (forN l r (k + 1)).map Cls.id = (forN l r k).map Cls.id ++ if admitB l[k] r then [l[k].id] else [] := by
  rw [forN_succ h, List.map_append]
  cases admitB l[k] r <;> rfl
def cfB (l : List Cls) (r : Runner) : Bool := clssB l && runnerB r
def cfL (l : List Cls) (r : Runner) : List Int := if cfB l r then (forL l r).map Cls.id else []
theorem runner_born {r : Runner} (h : runnerB r = true) : 1920 ≤ r.born ∧ r.born ≤ 2020 := by
  simp only [runnerB, Bool.and_eq_true, insB_true] at h
  omega
theorem cfL_length (l : List Cls) (r : Runner) : (cfL l r).length ≤ 1048576 := by
  unfold cfL
  split
  · rename_i h
    simp only [cfB, Bool.and_eq_true] at h
    have h1 := clssB_len h.1
    have := forN_length l r l.length
    rw [List.length_map]
    unfold forL
    omega
  · simp
end Go.Ori
namespace Go.Proofs.Ytfenempljjenpaa
open Go.RowKit Go.Ori
set_option maxHeartbeats 2000000 in
theorem classesFor_own (v : Value) (l : List Cls) (r : Runner) (w : World) (h : w.sl Cls.cells 8 v l) (hl : l.length ≤ 1048576) (hb : 1920 ≤ r.born ∧ r.born ≤ 2020) :
    Calls Try.prog 24 #[v, .agg #[.int .i64 r.id, .string r.name, .string r.club, .int .i64 r.born, .bool r.woman, .int .i64 r.card]] w fun x w' => ∃ q, x = .returned q ∧ (∃ d, w' = w.ext d) ∧ w'.own w.heap.size 33 Cls.cells 8 q (forL l r) := by
  have hs := Lib.hid h
  obtain ⟨p, c, rfl, _⟩ := h
  go_enter Try.func24, Try.ntmps24
  go_wp2
  generalize hW : w.alloc (.cells #[.int .i64 r.id, .string r.name, .string r.club, .int .i64 r.born, .bool r.woman, .int .i64 r.card] 37) = W
  have hgW : ∃ d, W = w.ext d := by rw [← hW]; exact gain_alloc w.gained_refl _
  have r0 : W.cell? ⟨w.heap.size, 0, none⟩ = some (.int .i64 r.id) := by rw [← hW]; simp [go_sem]
  have r1 : W.cell? ⟨w.heap.size, 1, none⟩ = some (.string r.name) := by rw [← hW]; simp [go_sem]
  have r2 : W.cell? ⟨w.heap.size, 2, none⟩ = some (.string r.club) := by rw [← hW]; simp [go_sem]
  have r3 : W.cell? ⟨w.heap.size, 3, none⟩ = some (.int .i64 r.born) := by rw [← hW]; simp [go_sem]
  have r4 : W.cell? ⟨w.heap.size, 4, none⟩ = some (.bool r.woman) := by rw [← hW]; simp [go_sem]
  have r5 : W.cell? ⟨w.heap.size, 5, none⟩ = some (.int .i64 r.card) := by rw [← hW]; simp [go_sem]
  have obr := World.oldB_of_cell r0
  have HW := Lib.hid hW
  clear hW
  have hsW := Lib.hid (show W.sl Cls.cells 8 (.slice p l.length c) l by rw [← HW.out]; exact sl_alloc Cls.cells_length hs.out _)
  have hgs := Lib.hid (gain_size hgW)
  go_loopw [5, 11] (fun o i wr => ∃ k : Nat, k ≤ l.length ∧ i = .int .i64 k ∧ (∃ d, wr = W.ext d) ∧ wr.own W.heap.size 33 Cls.cells 8 o (forN l r k)) (fun _ i _ => l.length - (intOf i).toNat)
  case atStart => exact ⟨0, by omega, rfl, gain_alloc W.gained_refl _, by rw [forN_zero]; exact own_lit' (l := ([] : List Cls)) Cls.cells_length rfl (by rw [← HW.out, World.size_alloc]) (Nat.le_refl _)⟩
  case round =>
    obtain ⟨k, hk, rfl, ⟨d, rfl⟩, ho⟩ := hrel
    have HO := Lib.hid ho
    clear ho
    by_cases hlt : k < l.length
    · obtain ⟨b, o, rfl⟩ := sl_some hsW.out (by omega)
      have hck := fun j (hj : j < 8) => sl_cells hsW.out hlt hj
      have HS := Lib.hid (forN_succ (r := r) hlt)
      have c0 := hck 0 (by omega)
      have c1 := hck 1 (by omega)
      have c2 := hck 2 (by omega)
      have c3 := hck 3 (by omega)
      have c4 := hck 4 (by omega)
      have c5 := hck 5 (by omega)
      have c6 := hck 6 (by omega)
      have c7 := hck 7 (by omega)
      generalize l[k] = e at c0 c1 c2 c3 c4 c5 c6 c7 hck HS
      clear hck
      simp only [Cls.cells, List.getElem?_cons_zero, List.getElem?_cons_succ, Nat.add_zero] at c0 c1 c2 c3 c4 c5 c6 c7
      have ob := World.oldB_of_cell c0
      cases ha : admitB e r with
      | true =>
        have HS' : Hid (forN l r (k + 1) = forN l r k ++ [e]) := Lib.hid (by rw [HS.out, ha]; rfl)
        have HA := Lib.hid ha
        clear ha
        go_wp2_with fail
        refine (admits_any e r _ hb).mono ?_
        rintro x1 w1 ⟨rfl, d1, rfl⟩
        rw [HA.out]
        go_wp2_with (at_builtin; go_must (refine wpList_append_gain (m := [e]) rfl (.tmp 18) (.tmp 20) rfl Try.underlying24 info_Cls (by rfl) (by omega) Cls.cells_length Cls.cells_one (by omega) (by repeat (first | with_reducible (first | exact World.gained_refl _ | exact ⟨_, rfl⟩ | apply gain_ext | apply gain_alloc | apply gain_drewN | apply gain_drew) | (refine gain_setCell ?_ (by first | exact Nat.le_refl _ | exact World.size_ext _ _ | (simp; done) | (simp; omega)) _))) (Nat.le_refl _) (gain_size (by repeat (first | with_reducible (first | exact World.gained_refl _ | exact ⟨_, rfl⟩ | apply gain_ext | apply gain_alloc | apply gain_drewN | apply gain_drew) | (refine gain_setCell ?_ (by first | exact Nat.le_refl _ | exact World.size_ext _ _ | (simp; done) | (simp; omega)) _)))) rfl rfl (own_up (HO.out) (by repeat (first | with_reducible (first | exact World.gained_refl _ | exact ⟨_, rfl⟩ | apply gain_ext | apply gain_alloc | apply gain_drewN | apply gain_drew) | (refine gain_setCell ?_ (by first | exact Nat.le_refl _ | exact World.size_ext _ _ | (simp; done) | (simp; omega)) _)))) (sl_lit (l := [e]) Cls.cells_length rfl (by simp)) (by have := forN_length l r k; simp; omega) ?_); intro v' d' ho hg)
        go_roundw
        case rel => exact ⟨k + 1, by omega, by go_num, ⟨_, rfl⟩, by rw [HS'.out]; exact ho⟩
        case measure => simp [intOf]; omega
      | false =>
        have HS' : Hid (forN l r (k + 1) = forN l r k) := Lib.hid (by rw [HS.out, ha]; simp)
        have HA := Lib.hid ha
        clear ha
        go_wp2_with fail
        refine (admits_any e r _ hb).mono ?_
        rintro x1 w1 ⟨rfl, d1, rfl⟩
        rw [HA.out]
        go_wp2
        go_roundw
        case rel => exact ⟨k + 1, by omega, by go_num, (by repeat (first | with_reducible (first | exact World.gained_refl _ | exact ⟨_, rfl⟩ | apply gain_ext | apply gain_alloc | apply gain_drewN | apply gain_drew) | (refine gain_setCell ?_ (by first | exact Nat.le_refl _ | exact World.size_ext _ _ | (simp; done) | (simp; omega)) _))), by rw [HS'.out]; exact (own_up (HO.out) (by repeat (first | with_reducible (first | exact World.gained_refl _ | exact ⟨_, rfl⟩ | apply gain_ext | apply gain_alloc | apply gain_drewN | apply gain_drew) | (refine gain_setCell ?_ (by first | exact Nat.le_refl _ | exact World.size_ext _ _ | (simp; done) | (simp; omega)) _))))⟩
        case measure => simp [intOf]; omega
    · go_wp2
      go_ret
      obtain rfl : k = l.length := by omega
      exact ⟨_, rfl, by obtain ⟨d0, hd0⟩ := hgW; rw [hd0, World.ext_ext]; exact ⟨_, rfl⟩, own_base HO.out hgs.out⟩
end Go.Proofs.Ytfenempljjenpaa
/- Runners are put into classes: plain functions. No condition. -/
namespace Go.Ori
def cntO (o : List Int) (c : Int) : Nat := (o.filter fun x => x == c).length
theorem cntO_snoc (o : List Int) (x c : Int) : cntO (o ++ [x]) c = cntO o c + if x = c then 1 else 0 := by
  unfold cntO
  rw [List.filter_append, List.length_append]
  congr 1
  by_cases h : x = c <;> simp [h]
theorem cntO_le (o : List Int) (c : Int) : cntO o c ≤ o.length := List.length_filter_le _ _
/-- The id of the first class of which p says yes; 0: there is none. -/
def pickO (p : Cls → Bool) (l : List Cls) : Int := match l.find? p with | some c => c.id | none => 0
theorem pickO_nil (p : Cls → Bool) : pickO p [] = 0 := rfl
theorem pickO_snoc {p : Cls → Bool} {l : List Cls} (h : ∀ c ∈ l, c.id ≠ 0) (c : Cls) : pickO p (l ++ [c]) = if pickO p l = 0 then (if p c then c.id else 0) else pickO p l := by
  unfold pickO
  rw [List.find?_append]
  cases hf : l.find? p with
  | none => cases hp : p c <;> simp [List.find?_cons, hp]
  | some a =>
    have := h a (List.mem_of_find?_eq_some hf)
    simp [this]
theorem pickO_none {p : Cls → Bool} {l : List Cls} (h : ∀ (j : Nat) (hj : j < l.length), p l[j] = false) : pickO p l = 0 := by
  unfold pickO
  rw [List.find?_eq_none.2]
  intro x hx
  obtain ⟨j, hj, rfl⟩ := List.getElem_of_mem hx
  simp [h j hj]
theorem pickO_at {p : Cls → Bool} {l : List Cls} {q : Nat} (hq : q < l.length) (h : ∀ (j : Nat) (hj : j < l.length), j < q → p l[j] = false) (hp : p l[q] = true) : pickO p l = l[q].id := by
  unfold pickO
  have : l.find? p = some l[q] := by
    rw [List.find?_eq_some_iff_getElem]
    exact ⟨hp, q, hq, rfl, fun j hj => by simp [h j (by omega) hj]⟩
  rw [this]
theorem pickO_filter (p q : Cls → Bool) (l : List Cls) : pickO q (l.filter p) = pickO (fun c => q c && p c) l := by
  unfold pickO
  have : (l.filter p).find? q = l.find? fun c => q c && p c := by
    induction l with
    | nil => rfl
    | cons a l ih =>
      rw [List.filter_cons, List.find?_cons]
      cases hp : p a
      · simp [ih]
      · cases hq : q a
        · simp [List.find?_cons, hq, ih]
        · simp [List.find?_cons, hq]
  rw [this]
def roomB (o : List Int) (c : Cls) : Bool := decide ((cntO o c.id : Int) < c.most)
def takeB (o : List Int) (r : Runner) (c : Cls) : Bool := roomB o c && admitB c r
def fillN (l : List Cls) (rs : List Runner) : Nat → List Int
  | 0 => []
  | k + 1 => fillN l rs k ++ [match rs[k]? with | some r => pickO (takeB (fillN l rs k) r) l | none => 0]
theorem fillN_succ {l : List Cls} {rs : List Runner} {k : Nat} (h : k < rs.length) : fillN l rs (k + 1) = fillN l rs k ++ [pickO (takeB (fillN l rs k) rs[k]) l] := by
  rw [fillN, List.getElem?_eq_getElem h]
theorem fillN_length (l : List Cls) (rs : List Runner) (k : Nat) : (fillN l rs k).length = k := by
  induction k with
  | zero => rfl
  | succ k ih => rw [fillN, List.length_append, ih]; rfl
theorem pick_for (o : List Int) (r : Runner) (l : List Cls) : pickO (takeB o r) l = pickO (roomB o) (forL l r) := by
  unfold forL forN
  rw [List.take_length, pickO_filter]
  rfl
def fillB (l : List Cls) (rs : List Runner) : Bool := clssB l && runsB rs
def fillL (l : List Cls) (rs : List Runner) : List Int := if fillB l rs then fillN l rs rs.length else []
theorem fillL_length (l : List Cls) (rs : List Runner) (h : rs.length ≤ 1048576) : (fillL l rs).length ≤ 1048576 := by
  unfold fillL
  split
  · rw [fillN_length]; exact h
  · simp
theorem fill_no {l : List Cls} {rs : List Runner} (h : fillB l rs = false) : fillL l rs = [] ∧ fillB l rs = false := by simp [fillL, h]
theorem fill_yes {l : List Cls} {rs : List Runner} (h : fillB l rs = true) : fillL l rs = fillN l rs rs.length ∧ fillB l rs = true := by simp [fillL, h]
theorem cls_id {c : Cls} (h : classB c = true) : 1 ≤ c.id ∧ c.id ≤ 99 ∧ 1 ≤ c.most ∧ c.most ≤ 500 := by
  simp only [classB, Bool.and_eq_true, insB_true] at h
  omega
end Go.Ori
/- A valid list of classes: ids rise, ages are small. No condition. -/
namespace Go.Ori
theorem clss_rise {l : List Cls} (h : clssB l = true) : l.Pairwise fun a b => a.id < b.id := by
  simp only [clssB, Bool.and_eq_true, allB_iff] at h
  have step : ∀ (k : Nat) (hk : k + 1 < l.length), l[k].id < l[k + 1].id := fun k hk => by
    have := h.1 (k + 1) hk
    rw [clsAt_eq (List.getElem?_eq_getElem hk) (List.getElem?_eq_getElem (by omega : k + 1 - 1 < l.length))] at this
    simp only [Bool.and_eq_true, Bool.or_eq_true, decide_eq_true_eq] at this
    rcases this.1.2 with e | e
    · omega
    · simpa using e
  rw [List.pairwise_iff_getElem]
  intro i j hi hj hij
  induction j with
  | zero => omega
  | succ j ih =>
    by_cases e : i = j
    · subst e; exact step i hj
    · exact Int.lt_trans (ih (by omega) (by omega)) (step j hj)
theorem forL_rise {l : List Cls} (r : Runner) (h : clssB l = true) : ∀ (i j : Nat) (hi : i < (forL l r).length) (hj : j < (forL l r).length), i < j → (forL l r)[i].id < (forL l r)[j].id := by
  have h2 : (forL l r).Pairwise fun a b => a.id < b.id := by
    unfold forL forN
    rw [List.take_length]
    exact (clss_rise h).filter _
  intro i j hi hj hij
  exact List.pairwise_iff_getElem.1 h2 i j hi hj hij
theorem cls_ages {c : Cls} (h : classB c = true) : 0 ≤ c.low ∧ c.low ≤ 200 ∧ 0 ≤ c.high ∧ c.high ≤ 200 := by
  simp only [classB, agesB, Bool.and_eq_true, insB_true] at h
  omega
end Go.Ori
