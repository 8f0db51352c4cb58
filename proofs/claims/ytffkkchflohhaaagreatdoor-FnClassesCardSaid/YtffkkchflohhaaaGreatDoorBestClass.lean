/- impl.BestClass, spec.BestClass, spec.l7Key. Condition: at most 1048576 classes, their names and the runner's strings too. -/
import Derived.Test.YtffkkchflohhaaaGreatDoorMinFn
import Derived.Test.YtffkkchflohhaaaGreatDoorClsRise
namespace Go.Ori
theorem foldC_some (l : List Cls) (m : Cls) : ∃ m', l.foldl stepC (some m) = some m' := by
  induction l generalizing m with
  | nil => exact ⟨m, rfl⟩
  | cons a l ih =>
    rw [List.foldl_cons]
    unfold stepC
    simp only
    split
    · exact ih a
    · exact ih m
theorem bestO_some {l : List Cls} (h : 0 < l.length) : ∃ m, bestO l = some m := by
  cases l with
  | nil => simp at h
  | cons a l => exact foldC_some l a
def bcB (l : List Cls) (r : Runner) : Bool := cfB l r && decide (0 < (forL l r).length)
def bcI (l : List Cls) (r : Runner) : Int := if bcB l r then (match bestO (forL l r) with | some m => m.id | none => 0) else 0
theorem bc_no {l : List Cls} {r : Runner} (h : bcB l r = false) : bcI l r = 0 ∧ bcB l r = false := by simp [bcI, h]
theorem bc_yes {l : List Cls} {r : Runner} {m : Cls} (h : bcB l r = true) (hm : bestO (forL l r) = some m) : bcI l r = m.id ∧ bcB l r = true := by simp [bcI, h, hm]
end Go.Ori
namespace Go.Proofs.YtffkkchflohhaaaGreatDoor
open Go.RowKit Go.Ori
theorem l7Key_any (c : Cls) (w : World) (h : ageOk c) :
    Calls Tryz.prog 51 #[.agg #[.int .i64 c.id, .string c.name, .int .i64 c.low, .int .i64 c.high, .bool c.women, .bool c.men, .int .i64 c.course, .int .i64 c.most]] w fun x w' => x = .returned (.int .i64 (keyI c)) ∧ ∃ d, w' = w.ext d := by
  obtain ⟨h1, h2, h3, h4⟩ := h
  cases hw : c.women <;> cases hm : c.men
  all_goals (
    have HE := Lib.hid (show keyI c = _ by simp only [keyI, hw, hm]; rfl)
    go_enter Tryz.func51, Tryz.ntmps51
    go_wp2
    go_ret
    rw [HE.out]
    exact ⟨ret_int (by simp), (by repeat (first | with_reducible (first | exact World.gained_refl _ | exact ⟨_, rfl⟩ | apply gain_ext | apply gain_alloc | apply gain_drewN | apply gain_drew) | (refine gain_setCell ?_ (by first | exact Nat.le_refl _ | exact World.size_ext _ _ | (simp; done) | (simp; omega)) _)))⟩)
set_option maxHeartbeats 2000000 in
theorem bestClass_any (v : Value) (l : List Cls) (r : Runner) (w : World) (h : w.sl Cls.cells 8 v l) (hl : l.length ≤ 1048576) (hq : ∀ x ∈ l, Cls.small x) (hn : r.name.size ≤ 1048576) (hc : r.club.size ≤ 1048576) :
    Calls Tryz.prog 13 #[v, .agg #[.int .i64 r.id, .string r.name, .string r.club, .int .i64 r.born, .bool r.woman, .int .i64 r.card]] w fun x w' => x = .returned (.tuple #[.int .i64 (bcI l r), .bool (bcB l r)]) ∧ ∃ d, w' = w.ext d := by
  have hs := Lib.hid h
  obtain ⟨p, c, rfl, _⟩ := h
  cases hC : clssB l with
  | false =>
    have HE := Lib.hid (bc_no (l := l) (r := r) (by simp [bcB, cfB, hC]))
    go_enter Tryz.func13, Tryz.ntmps13
    go_wp2_with (first | (go_at_call 40; refine (areClasses_any _ l _ (by with_reducible (repeat (first | exact hs.out | refine World.sl_ext Cls.cells_length ?_ _ | refine sl_alloc Cls.cells_length ?_ _ | refine sl_drew ?_))) hl hq).mono ?_; rintro e w1 ⟨rfl, d1, rfl⟩) | (go_at_call 41; refine (isRunner_any _ _ hn hc).mono ?_; rintro e w1 ⟨rfl, d1, rfl⟩))
    go_ret2
    rw [HE.out.1, HE.out.2]
    exact ⟨rfl, (by repeat (first | with_reducible (first | exact World.gained_refl _ | exact ⟨_, rfl⟩ | apply gain_ext | apply gain_alloc | apply gain_drewN | apply gain_drew) | (refine gain_setCell ?_ (by first | exact Nat.le_refl _ | exact World.size_ext _ _ | (simp; done) | (simp; omega)) _)))⟩
  | true =>
  cases hR : runnerB r with
  | false =>
    have HE := Lib.hid (bc_no (l := l) (r := r) (by simp [bcB, cfB, hR]))
    go_enter Tryz.func13, Tryz.ntmps13
    go_wp2_with (first | (go_at_call 40; refine (areClasses_any _ l _ (by with_reducible (repeat (first | exact hs.out | refine World.sl_ext Cls.cells_length ?_ _ | refine sl_alloc Cls.cells_length ?_ _ | refine sl_drew ?_))) hl hq).mono ?_; rintro e w1 ⟨rfl, d1, rfl⟩) | (go_at_call 41; refine (isRunner_any _ _ hn hc).mono ?_; rintro e w1 ⟨rfl, d1, rfl⟩))
    go_ret2
    rw [HE.out.1, HE.out.2]
    exact ⟨rfl, (by repeat (first | with_reducible (first | exact World.gained_refl _ | exact ⟨_, rfl⟩ | apply gain_ext | apply gain_alloc | apply gain_drewN | apply gain_drew) | (refine gain_setCell ?_ (by first | exact Nat.le_refl _ | exact World.size_ext _ _ | (simp; done) | (simp; omega)) _)))⟩
  | true =>
    have hb := runner_born hR
    have hFl := Lib.hid (show (forL l r).length ≤ 1048576 from by have := forN_length l r l.length; unfold forL; omega)
    by_cases h0 : 0 < (forL l r).length
    · obtain ⟨m, hm⟩ := bestO_some h0
      have HE := Lib.hid (bc_yes (l := l) (r := r) (by unfold bcB; rw [decide_eq_true h0, Bool.and_true]; simp [cfB, hC, hR]) hm)
      have HM := Lib.hid hm
      have HOR := Lib.hid (forL_rise r hC)
      have HAG := Lib.hid (show ∀ x ∈ forL l r, ageOk x from fun x hx => by
        unfold forL forN at hx
        rw [List.take_length, List.mem_filter] at hx
        obtain ⟨j, hj, rfl⟩ := List.getElem_of_mem hx.1
        exact cls_ages (clssB_at hC hj))
      go_enter Tryz.func13, Tryz.ntmps13
      go_wp2_with (first | (go_at_call 40; refine (areClasses_any _ l _ (by with_reducible (repeat (first | exact hs.out | refine World.sl_ext Cls.cells_length ?_ _ | refine sl_alloc Cls.cells_length ?_ _ | refine sl_drew ?_))) hl hq).mono ?_; rintro e w1 ⟨rfl, d1, rfl⟩) | (go_at_call 41; refine (isRunner_any _ _ hn hc).mono ?_; rintro e w1 ⟨rfl, d1, rfl⟩))
      refine (classesFor_own _ l r _ (by with_reducible (repeat (first | exact hs.out | refine World.sl_ext Cls.cells_length ?_ _ | refine sl_alloc Cls.cells_length ?_ _ | refine sl_drew ?_))) hl hb).mono ?_
      rintro e w1 ⟨q, rfl, ⟨d3, rfl⟩, hoq⟩
      obtain ⟨pq, cq, rfl, -⟩ := sl_of_own Cls.cells_length hoq
      have hFl' := hFl.out
      clear hoq
      clear hm
      go_wp2_with fail
      refine (classesFor_own _ l r _ (by with_reducible (repeat (first | exact hs.out | refine World.sl_ext Cls.cells_length ?_ _ | refine sl_alloc Cls.cells_length ?_ _ | refine sl_drew ?_))) hl hb).mono ?_
      rintro e w1 ⟨q, rfl, ⟨d4, rfl⟩, hoq⟩
      have HQ := Lib.hid hoq
      clear hoq
      go_wp2_with fail
      refine (minFunc_clss _ (forL l r) _ (sl_of_own Cls.cells_length HQ.out) hFl.out h0 HAG.out HOR.out).mono ?_
      rintro e w1 ⟨m', hm', rfl, d5, rfl⟩
      obtain rfl : m' = m := by have := HM.out; rw [hm'] at this; exact Option.some.inj this
      clear hm' h0 hFl'
      have hfd : ∀ W, (Instr.field 25 (.agg #[.int .i64 m'.id, .string m'.name, .int .i64 m'.low, .int .i64 m'.high, .bool m'.women, .bool m'.men, .int .i64 m'.course, .int .i64 m'.most]) 0).run Tryz.prog W = .ok (.int .i64 m'.id) W := fun _ => by kernel_rfl
      go_wp2
      go_ret2
      rw [HE.out.1, HE.out.2]
      exact ⟨rfl, (by repeat (first | with_reducible (first | exact World.gained_refl _ | exact ⟨_, rfl⟩ | apply gain_ext | apply gain_alloc | apply gain_drewN | apply gain_drew) | (refine gain_setCell ?_ (by first | exact Nat.le_refl _ | exact World.size_ext _ _ | (simp; done) | (simp; omega)) _)))⟩
    · have HE := Lib.hid (bc_no (l := l) (r := r) (by unfold bcB; rw [decide_eq_false h0, Bool.and_false]))
      have hz : (forL l r).length = 0 := by omega
      go_enter Tryz.func13, Tryz.ntmps13
      go_wp2_with (first | (go_at_call 40; refine (areClasses_any _ l _ (by with_reducible (repeat (first | exact hs.out | refine World.sl_ext Cls.cells_length ?_ _ | refine sl_alloc Cls.cells_length ?_ _ | refine sl_drew ?_))) hl hq).mono ?_; rintro e w1 ⟨rfl, d1, rfl⟩) | (go_at_call 41; refine (isRunner_any _ _ hn hc).mono ?_; rintro e w1 ⟨rfl, d1, rfl⟩))
      refine (classesFor_own _ l r _ (by with_reducible (repeat (first | exact hs.out | refine World.sl_ext Cls.cells_length ?_ _ | refine sl_alloc Cls.cells_length ?_ _ | refine sl_drew ?_))) hl hb).mono ?_
      rintro e w1 ⟨q, rfl, ⟨d3, rfl⟩, hoq⟩
      obtain ⟨pq, cq, rfl, -⟩ := sl_of_own Cls.cells_length hoq
      generalize (forL l r).length = n at hz
      clear hoq h0
      subst hz
      go_wp2_with fail
      go_ret2
      rw [HE.out.1, HE.out.2]
      exact ⟨rfl, (by repeat (first | with_reducible (first | exact World.gained_refl _ | exact ⟨_, rfl⟩ | apply gain_ext | apply gain_alloc | apply gain_drewN | apply gain_drew) | (refine gain_setCell ?_ (by first | exact Nat.le_refl _ | exact World.size_ext _ _ | (simp; done) | (simp; omega)) _)))⟩
set_option maxHeartbeats 4000000 in
theorem specBestClass_any (v : Value) (l : List Cls) (r : Runner) (w : World) (h : w.sl Cls.cells 8 v l) (hl : l.length ≤ 1048576) (hq : ∀ x ∈ l, Cls.small x) (hn : r.name.size ≤ 1048576) (hc : r.club.size ≤ 1048576) :
    Calls Tryz.prog 14 #[v, .agg #[.int .i64 r.id, .string r.name, .string r.club, .int .i64 r.born, .bool r.woman, .int .i64 r.card]] w fun x w' => x = .returned (.tuple #[.int .i64 (bcI l r), .bool (bcB l r)]) ∧ ∃ d, w' = w.ext d := by
  have hs := Lib.hid h
  obtain ⟨p, c, rfl, _⟩ := h
  cases hC : clssB l with
  | false =>
    have HE := Lib.hid (bc_no (l := l) (r := r) (by simp [bcB, cfB, hC]))
    go_enter Tryz.func14, Tryz.ntmps14
    go_wp2_with (first | (go_at_call 48; refine (l7Good_any _ l _ (by with_reducible (repeat (first | exact hs.out | refine World.sl_ext Cls.cells_length ?_ _ | refine sl_alloc Cls.cells_length ?_ _ | refine sl_drew ?_))) hl hq).mono ?_; rintro e w1 ⟨rfl, d1, rfl⟩) | (go_at_call 49; refine (l5One_any _ _ hn hc).mono ?_; rintro e w1 ⟨rfl, d1, rfl⟩))
    go_ret2
    rw [HE.out.1, HE.out.2]
    exact ⟨rfl, (by repeat (first | with_reducible (first | exact World.gained_refl _ | exact ⟨_, rfl⟩ | apply gain_ext | apply gain_alloc | apply gain_drewN | apply gain_drew) | (refine gain_setCell ?_ (by first | exact Nat.le_refl _ | exact World.size_ext _ _ | (simp; done) | (simp; omega)) _)))⟩
  | true =>
  cases hR : runnerB r with
  | false =>
    have HE := Lib.hid (bc_no (l := l) (r := r) (by simp [bcB, cfB, hR]))
    go_enter Tryz.func14, Tryz.ntmps14
    go_wp2_with (first | (go_at_call 48; refine (l7Good_any _ l _ (by with_reducible (repeat (first | exact hs.out | refine World.sl_ext Cls.cells_length ?_ _ | refine sl_alloc Cls.cells_length ?_ _ | refine sl_drew ?_))) hl hq).mono ?_; rintro e w1 ⟨rfl, d1, rfl⟩) | (go_at_call 49; refine (l5One_any _ _ hn hc).mono ?_; rintro e w1 ⟨rfl, d1, rfl⟩))
    go_ret2
    rw [HE.out.1, HE.out.2]
    exact ⟨rfl, (by repeat (first | with_reducible (first | exact World.gained_refl _ | exact ⟨_, rfl⟩ | apply gain_ext | apply gain_alloc | apply gain_drewN | apply gain_drew) | (refine gain_setCell ?_ (by first | exact Nat.le_refl _ | exact World.size_ext _ _ | (simp; done) | (simp; omega)) _)))⟩
  | true =>
    have hb := runner_born hR
    have HCC := Lib.hid hC
    have HRR := Lib.hid hR
    go_enter Tryz.func14, Tryz.ntmps14
    go_wp2_with (first | (go_at_call 48; refine (l7Good_any _ l _ (by with_reducible (repeat (first | exact hs.out | refine World.sl_ext Cls.cells_length ?_ _ | refine sl_alloc Cls.cells_length ?_ _ | refine sl_drew ?_))) hl hq).mono ?_; rintro e w1 ⟨rfl, d1, rfl⟩) | (go_at_call 49; refine (l5One_any _ _ hn hc).mono ?_; rintro e w1 ⟨rfl, d1, rfl⟩))
    clear hC hR
    generalize hW : w.alloc (.cells #[.int .i64 r.id, .string r.name, .string r.club, .int .i64 r.born, .bool r.woman, .int .i64 r.card] 35) = W
    have hgW : ∃ d, W = w.ext d := by rw [← hW]; exact gain_alloc w.gained_refl _
    have r3 : W.cell? ⟨w.heap.size, 3, none⟩ = some (.int .i64 r.born) := by rw [← hW]; simp [go_sem]
    have r4 : W.cell? ⟨w.heap.size, 4, none⟩ = some (.bool r.woman) := by rw [← hW]; simp [go_sem]
    have obr := World.oldB_of_cell r3
    replace hs := Lib.hid (sl_up Cls.cells_length hs.out hgW)
    have HGW := Lib.hid hgW
    clear hW hgW
    go_loopw [6, 7] (fun bi i wr => ∃ k : Nat, k ≤ l.length ∧ i = .int .i64 k ∧ (∃ d, wr = W.ext d) ∧ ((bi = .int .i64 (-1) ∧ bestO (forN l r k) = none) ∨ ∃ (b : Nat) (hb : b < l.length), b < k ∧ bi = .int .i64 b ∧ bestO (forN l r k) = some l[b])) (fun _ i _ => l.length - (intOf i).toNat)
    case atStart => exact ⟨0, by omega, rfl, (by repeat (first | with_reducible (first | exact World.gained_refl _ | exact ⟨_, rfl⟩ | apply gain_ext | apply gain_alloc | apply gain_drewN | apply gain_drew) | (refine gain_setCell ?_ (by first | exact Nat.le_refl _ | exact World.size_ext _ _ | (simp; done) | (simp; omega)) _))), .inl ⟨rfl, by rw [forN_zero]; rfl⟩⟩
    case round =>
      obtain ⟨k, hk, rfl, ⟨d, rfl⟩, hbb⟩ := hrel
      by_cases hlt : k < l.length
      · obtain ⟨b, o, rfl⟩ := sl_some hs.out (by omega)
        have hck := fun j (hj : j < 8) => sl_cells hs.out hlt hj
        have HS := Lib.hid (forN_succ (r := r) hlt)
        have hagy : ageOk l[k] := cls_ages (clssB_at HCC.out hlt)
        have e0 := hck 0 (by omega)
        have e1 := hck 1 (by omega)
        have e2 := hck 2 (by omega)
        have e3 := hck 3 (by omega)
        have e4 := hck 4 (by omega)
        have e5 := hck 5 (by omega)
        have e6 := hck 6 (by omega)
        have e7 := hck 7 (by omega)
        have ob := World.oldB_of_cell e0
        have HK : Hid (∃ y, y = l[k]) := Lib.hid ⟨_, rfl⟩
        have HL : ∀ y, y = l[k] → Hid (y = l[k]) := fun y h => Lib.hid h
        have hyk := HL _ rfl
        clear HL HK
        generalize hy : l[k] = y at e0 e1 e2 e3 e4 e5 e6 e7 hck HS hagy hyk
        have HY := Lib.hid hy
        clear hck hy hyk
        simp only [Cls.cells, List.getElem?_cons_zero, List.getElem?_cons_succ, Nat.add_zero] at e0 e1 e2 e3 e4 e5 e6 e7
        have HF : Hid (forB y (2026 - r.born) r.woman = admitB y r) := Lib.hid rfl
        cases ha : admitB y r with
        | false =>
          have HS' : Hid (forN l r (k + 1) = forN l r k) := Lib.hid (by rw [HS.out, ha]; simp)
          rw [ha] at HF
          have HBB := Lib.hid hbb
          clear ha hbb
          go_wp2
          refine wp_region_gain (by kernel_rfl) (by kernel_rfl) ?_
          repeat (first | go_big_quiet_skip | (go_big_quiet_want; go_big_quiet_op; first | go_big_quiet_on | ((apply Exists.intro); (refine ⟨fun _ => ?_, ?_⟩); (· (go_at_call 50; exact Calls.gain (HF.out ▸ l7Admits_any y (2026 - r.born) r.woman _))); (go_big_quiet_on))))
          refine wpQuiet_nil ?_
          rintro _ ⟨d', rfl⟩
          go_wp2
          go_roundw
          case rel => exact ⟨k + 1, by omega, by go_num, (by repeat (first | with_reducible (first | exact World.gained_refl _ | exact ⟨_, rfl⟩ | apply gain_ext | apply gain_alloc | apply gain_drewN | apply gain_drew) | (refine gain_setCell ?_ (by first | exact Nat.le_refl _ | exact World.size_ext _ _ | (simp; done) | (simp; omega)) _))), by rw [HS'.out]; exact HBB.out.elim .inl (fun ⟨b, hb, h1, h2, h3⟩ => .inr ⟨b, hb, by omega, h2, h3⟩)⟩
          case measure => simp [intOf]; omega
        | true =>
          have HS' : Hid (forN l r (k + 1) = forN l r k ++ [y]) := Lib.hid (by rw [HS.out, ha]; rfl)
          rw [ha] at HF
          clear ha
          rcases hbb with ⟨rfl, hb0⟩ | ⟨bi, hbl, hbk, rfl, hb0⟩
          · have HN : Hid (bestO (forN l r (k + 1)) = some y) := Lib.hid (by rw [HS'.out, bestO_snoc, hb0]; rfl)
            clear hb0
            go_wp2
            refine wp_region_gain (by kernel_rfl) (by kernel_rfl) ?_
            repeat (first | go_big_quiet_skip | (go_big_quiet_want; go_big_quiet_op; first | go_big_quiet_on | ((apply Exists.intro); (refine ⟨fun _ => ?_, ?_⟩); (· (go_at_call 50; exact Calls.gain (HF.out ▸ l7Admits_any y (2026 - r.born) r.woman _))); (go_big_quiet_on))))
            refine wpQuiet_nil ?_
            rintro _ ⟨d', rfl⟩
            go_wp2
            go_roundw
            case rel => exact ⟨k + 1, by omega, by go_num, (by repeat (first | with_reducible (first | exact World.gained_refl _ | exact ⟨_, rfl⟩ | apply gain_ext | apply gain_alloc | apply gain_drewN | apply gain_drew) | (refine gain_setCell ?_ (by first | exact Nat.le_refl _ | exact World.size_ext _ _ | (simp; done) | (simp; omega)) _))), .inr ⟨k, hlt, by omega, rfl, by rw [HN.out, HY.out]⟩⟩
            case measure => simp [intOf]; omega
          · have hmk := fun j (hj : j < 8) => sl_cells hs.out hbl hj
            have hagm : ageOk l[bi] := cls_ages (clssB_at HCC.out hbl)
            have m0 := hmk 0 (by omega)
            have m1 := hmk 1 (by omega)
            have m2 := hmk 2 (by omega)
            have m3 := hmk 3 (by omega)
            have m4 := hmk 4 (by omega)
            have m5 := hmk 5 (by omega)
            have m6 := hmk 6 (by omega)
            have m7 := hmk 7 (by omega)
            have HN : Hid (bestO (forN l r (k + 1)) = stepC (some l[bi]) y) := Lib.hid (by rw [HS'.out, bestO_snoc, hb0])
            have HB0 := Lib.hid hb0
            generalize hm : l[bi] = m at m0 m1 m2 m3 m4 m5 m6 m7 hmk hagm HN HB0
            have HM := Lib.hid hm
            clear hmk hm hb0
            simp only [Cls.cells, List.getElem?_cons_zero, List.getElem?_cons_succ, Nat.add_zero] at m0 m1 m2 m3 m4 m5 m6 m7
            have hbd : decide ((bi : Int) < 0) = false := decide_eq_false (by omega)
            have HKY := Lib.hid (fun W => l7Key_any y W hagy)
            have HKM := Lib.hid (fun W => l7Key_any m W hagm)
            by_cases hkk : keyI y < keyI m
            · have HN' : Hid (bestO (forN l r (k + 1)) = some y) := Lib.hid (by rw [HN.out]; simp [stepC, hkk])
              generalize keyI y = ky at HKY hkk
              generalize keyI m = km at HKM hkk
              have hkd : decide (ky < km) = true := decide_eq_true hkk
              clear hkk
              go_wp2
              refine wp_region_gain (by kernel_rfl) (by kernel_rfl) ?_
              repeat (first | go_big_quiet_skip | (go_big_quiet_want; go_big_quiet_op; first | go_big_quiet_on | ((apply Exists.intro); (refine ⟨fun _ => ?_, ?_⟩); (· (first | (go_at_call 50; exact Calls.gain (HF.out ▸ l7Admits_any y (2026 - r.born) r.woman _)) | (go_at_call_of 51 y.name; exact Calls.gain (HKY.out _)) | (go_at_call_of 51 m.name; exact Calls.gain (HKM.out _)))); (go_big_quiet_on))))
              refine wpQuiet_nil ?_
              rintro _ ⟨d', rfl⟩
              go_wp2
              go_roundw
              case rel => exact ⟨k + 1, by omega, by go_num, (by repeat (first | with_reducible (first | exact World.gained_refl _ | exact ⟨_, rfl⟩ | apply gain_ext | apply gain_alloc | apply gain_drewN | apply gain_drew) | (refine gain_setCell ?_ (by first | exact Nat.le_refl _ | exact World.size_ext _ _ | (simp; done) | (simp; omega)) _))), .inr ⟨k, hlt, by omega, rfl, by rw [HN'.out, HY.out]⟩⟩
              case measure => simp [intOf]; omega
            · have HN' : Hid (bestO (forN l r (k + 1)) = some m) := Lib.hid (by rw [HN.out]; simp [stepC, hkk])
              generalize keyI y = ky at HKY hkk
              generalize keyI m = km at HKM hkk
              have hkd : decide (ky < km) = false := decide_eq_false hkk
              clear hkk
              go_wp2
              refine wp_region_gain (by kernel_rfl) (by kernel_rfl) ?_
              repeat (first | go_big_quiet_skip | (go_big_quiet_want; go_big_quiet_op; first | go_big_quiet_on | ((apply Exists.intro); (refine ⟨fun _ => ?_, ?_⟩); (· (first | (go_at_call 50; exact Calls.gain (HF.out ▸ l7Admits_any y (2026 - r.born) r.woman _)) | (go_at_call_of 51 y.name; exact Calls.gain (HKY.out _)) | (go_at_call_of 51 m.name; exact Calls.gain (HKM.out _)))); (go_big_quiet_on))))
              refine wpQuiet_nil ?_
              rintro _ ⟨d', rfl⟩
              go_wp2
              go_roundw
              case rel => exact ⟨k + 1, by omega, by go_num, (by repeat (first | with_reducible (first | exact World.gained_refl _ | exact ⟨_, rfl⟩ | apply gain_ext | apply gain_alloc | apply gain_drewN | apply gain_drew) | (refine gain_setCell ?_ (by first | exact Nat.le_refl _ | exact World.size_ext _ _ | (simp; done) | (simp; omega)) _))), .inr ⟨bi, hbl, by omega, rfl, by rw [HN'.out, HM.out]⟩⟩
              case measure => simp [intOf]; omega
      · obtain rfl : k = l.length := by omega
        rcases hbb with ⟨rfl, hb0⟩ | ⟨bi, hbl, hbk, rfl, hb0⟩
        · have HE := Lib.hid (bc_no (l := l) (r := r) (by
            have : ¬ 0 < (forL l r).length := fun h => by
              obtain ⟨m, hm⟩ := bestO_some h
              rw [show bestO (forL l r) = none from hb0] at hm
              cases hm
            unfold bcB; rw [decide_eq_false this, Bool.and_false]))
          clear hb0
          go_wp2
          go_ret2
          rw [HE.out.1, HE.out.2]
          exact ⟨rfl, gain_trans HGW.out (by repeat (first | with_reducible (first | exact World.gained_refl _ | exact ⟨_, rfl⟩ | apply gain_ext | apply gain_alloc | apply gain_drewN | apply gain_drew) | (refine gain_setCell ?_ (by first | exact Nat.le_refl _ | exact World.size_ext _ _ | (simp; done) | (simp; omega)) _)))⟩
        · have h0 : 0 < (forL l r).length := by
            have := bestO_mem (show bestO (forL l r) = some l[bi] from hb0)
            exact List.length_pos_of_mem this
          have HE := Lib.hid (bc_yes (l := l) (r := r) (by unfold bcB; rw [decide_eq_true h0, Bool.and_true]; simp [cfB, HCC.out, HRR.out]) hb0)
          obtain ⟨b, o, rfl⟩ := sl_some hs.out (by omega)
          have m0 := sl_cells hs.out hbl (j := 0) (by omega)
          have ob := World.oldB_of_cell m0
          generalize l[bi] = m at m0 HE
          simp only [Cls.cells, List.getElem?_cons_zero, Nat.add_zero] at m0
          clear hb0 h0
          go_wp2
          go_ret2
          rw [HE.out.1, HE.out.2]
          exact ⟨rfl, gain_trans HGW.out (by repeat (first | with_reducible (first | exact World.gained_refl _ | exact ⟨_, rfl⟩ | apply gain_ext | apply gain_alloc | apply gain_drewN | apply gain_drew) | (refine gain_setCell ?_ (by first | exact Nat.le_refl _ | exact World.size_ext _ _ | (simp; done) | (simp; omega)) _)))⟩
end Go.Proofs.YtffkkchflohhaaaGreatDoor
