/- impl.FillClasses. Condition: at most 1048576 classes and runners, their strings too. -/
import Derived.Test.YtfenempljjenpaaG17
import Derived.Test.YtfenempljjenpaaG12
import Derived.Maps.OwnOps
import Derived.Maps.Views
namespace Go
open RowKit Go.Maps
theorem ownsMap_ext {H : Type} {w w' : World} {P : Program} {k : TypeId} {R : Value → Option (DataW H × List MemPlace)} {b n : Nat} {D : DataW H} (h : w.ownsMap P k R b n D) (hg : ∃ d, w' = w.ext d) : w'.ownsMap P k R b n D := by
  obtain ⟨d, rfl⟩ := hg
  obtain ⟨es, clock, h1, h2⟩ := h
  exact ⟨es, clock, World.heap_ext_old d h1, h2⟩
theorem ownsMap_lt {H : Type} {w : World} {P : Program} {k : TypeId} {R : Value → Option (DataW H × List MemPlace)} {b n : Nat} {D : DataW H} (h : w.ownsMap P k R b n D) : b < w.heap.size := by
  obtain ⟨es, clock, h1, h2⟩ := h
  exact (Array.getElem?_eq_some_iff.1 h1).1
theorem ownsMap_grown {H : Type} {w w' : World} {P : Program} {k : TypeId} {R : Value → Option (DataW H × List MemPlace)} {b n : Nat} {D : DataW H} {row : Option Nat} (h : w.ownsMap P k R b n D) (hg : w.grownBy w' row) (hr : row ≠ some b) : w'.ownsMap P k R b n D := by
  obtain ⟨es, clock, h1, h2⟩ := h
  exact ⟨es, clock, (hg.block b (Array.getElem?_eq_some_iff.1 h1).1 (fun e => hr e.symm)).trans h1, h2⟩
theorem own_grown {α : Type} {w w' : World} {base B : Nat} {e : TypeId} {enc : α → List Value} {sz : Nat} {v : Value} {l : List α} (h : w.own base e enc sz v l) (hg : w.grownBy w' (some B)) (hb : B < base) : w'.own base e enc sz v l := by
  obtain ⟨h1, h2 | ⟨g, cap, cur, hv, hgb, hh, h3⟩⟩ := h
  · exact ⟨h1, .inl h2⟩
  · refine ⟨h1, .inr ⟨g, cap, cur, hv, hgb, (hg.block g (Array.getElem?_eq_some_iff.1 hh).1 (fun e => ?_)).trans hh, h3⟩⟩
    simp only [Option.some.injEq] at e
    omega
end Go
namespace Go.Proofs.Ytfenempljjenpaa
open Go.RowKit Go.Ori Go.Maps
theorem law_int : Keyed Try.prog 3 := int_keyed Try.underlying3
theorem zero_int (w : World) : (zeroValue 3).run Try.prog w = .ok (.int .i64 0) w := by kernel_rfl
theorem born_bd' {l : List Runner} (h : runsB l = true) {k : Nat} (hk : k < l.length) : 1920 ≤ l[k].born ∧ l[k].born ≤ 2020 := runner_born (runsB_at h hk)
/-- The map counts what was handed out. -/
def Counts (D : DataW Unit) (o : List Int) : Prop := IsMap D ∧ ∀ c : Int, 1 ≤ c → c ≤ 99 → D.atKey (.int .i64 c) (.lit (.int .i64 0)) = .lit (.int .i64 (cntO o c : Nat))
theorem counts_nil : Counts (.map []) [] := ⟨isMap_empty, fun c _ _ => rfl⟩
theorem counts_zero {D : DataW Unit} {o : List Int} (h : Counts D o) : Counts D (o ++ [0]) :=
  ⟨h.1, fun c h1 h2 => by rw [h.2 c h1 h2, cntO_snoc, if_neg (by omega)]; rfl⟩
theorem counts_put {D : DataW Unit} {o : List Int} (h : Counts D o) (x : Int) : Counts (D.put (.int .i64 x) (.lit (.int .i64 ((cntO o x : Nat) + 1 : Int)))) (o ++ [x]) :=
  ⟨h.1.put _ _, fun c h1 h2 => by
    rw [cntO_snoc]
    by_cases e : x = c
    · subst e
      rw [atKey_put_same h.1 (show WideAt.IsKeyLit (.int .i64 x) from trivial), if_pos rfl]
      rfl
    · rw [atKey_put_other (by intro q; injection q with _ q2; exact e q2.symm), h.2 c h1 h2, if_neg e]
      rfl⟩
set_option maxHeartbeats 4000000 in
theorem fillClasses_any (v vr : Value) (l : List Cls) (rs : List Runner) (w : World) (h : w.sl Cls.cells 8 v l) (hl : l.length ≤ 1048576) (hq : ∀ x ∈ l, Cls.small x) (h2 : w.sl Runner.cells 6 vr rs) (hl2 : rs.length ≤ 1048576) (hq2 : ∀ x ∈ rs, Runner.small x) :
    Calls Try.prog 6 #[v, vr] w fun x w' => ∃ q, x = .returned (.tuple #[q, .bool (fillB l rs)]) ∧ (∃ d, w' = w.ext d) ∧ w'.own w.heap.size 3 intC 1 q (fillL l rs) := by
  have hs := Lib.hid h
  have hsr := Lib.hid h2
  obtain ⟨p, c, rfl, _⟩ := h
  obtain ⟨pr, cr, rfl, _⟩ := h2
  cases hC : clssB l with
  | false =>
    have HE := Lib.hid (fill_no (l := l) (rs := rs) (by simp [fillB, hC]))
    go_enter Try.func6, Try.ntmps6
    go_wp2_with (first | (go_at_call 17; refine (areClasses_any _ l _ (by with_reducible (repeat (first | exact hs.out | refine World.sl_ext Cls.cells_length ?_ _ | refine sl_alloc Cls.cells_length ?_ _ | refine sl_drew ?_))) hl hq).mono ?_; rintro e w1 ⟨rfl, d1, rfl⟩) | (go_at_call 23; refine (areRunners_any _ rs _ (by with_reducible (repeat (first | exact hsr.out | refine World.sl_ext Runner.cells_length ?_ _ | refine sl_alloc Runner.cells_length ?_ _ | refine sl_drew ?_))) hl2 hq2).mono ?_; rintro e w1 ⟨rfl, d1, rfl⟩))
    go_ret2
    rw [HE.out.1, HE.out.2]
    exact ⟨_, rfl, (by repeat (first | with_reducible (first | exact World.gained_refl _ | exact ⟨_, rfl⟩ | apply gain_ext | apply gain_alloc | apply gain_drewN | apply gain_drew) | (refine gain_setCell ?_ (by first | exact Nat.le_refl _ | exact World.size_ext _ _ | (simp; done) | (simp; omega)) _))), own_nil _ _ _ _ _⟩
  | true =>
  cases hR : runsB rs with
  | false =>
    have HE := Lib.hid (fill_no (l := l) (rs := rs) (by simp [fillB, hR]))
    go_enter Try.func6, Try.ntmps6
    go_wp2_with (first | (go_at_call 17; refine (areClasses_any _ l _ (by with_reducible (repeat (first | exact hs.out | refine World.sl_ext Cls.cells_length ?_ _ | refine sl_alloc Cls.cells_length ?_ _ | refine sl_drew ?_))) hl hq).mono ?_; rintro e w1 ⟨rfl, d1, rfl⟩) | (go_at_call 23; refine (areRunners_any _ rs _ (by with_reducible (repeat (first | exact hsr.out | refine World.sl_ext Runner.cells_length ?_ _ | refine sl_alloc Runner.cells_length ?_ _ | refine sl_drew ?_))) hl2 hq2).mono ?_; rintro e w1 ⟨rfl, d1, rfl⟩))
    go_ret2
    rw [HE.out.1, HE.out.2]
    exact ⟨_, rfl, (by repeat (first | with_reducible (first | exact World.gained_refl _ | exact ⟨_, rfl⟩ | apply gain_ext | apply gain_alloc | apply gain_drewN | apply gain_drew) | (refine gain_setCell ?_ (by first | exact Nat.le_refl _ | exact World.size_ext _ _ | (simp; done) | (simp; omega)) _))), own_nil _ _ _ _ _⟩
  | true =>
    have HE := Lib.hid (fill_yes (l := l) (rs := rs) (by simp [fillB, hC, hR]))
    have HCC := Lib.hid hC
    have HRR := Lib.hid hR
    have hrl := runsB_len hR
    have hmm := @run_makeMap Try.prog
    go_enter Try.func6, Try.ntmps6
    go_wp2_with (first | (go_at_call 17; refine (areClasses_any _ l _ (by with_reducible (repeat (first | exact hs.out | refine World.sl_ext Cls.cells_length ?_ _ | refine sl_alloc Cls.cells_length ?_ _ | refine sl_drew ?_))) hl hq).mono ?_; rintro e w1 ⟨rfl, d1, rfl⟩) | (go_at_call 23; refine (areRunners_any _ rs _ (by with_reducible (repeat (first | exact hsr.out | refine World.sl_ext Runner.cells_length ?_ _ | refine sl_alloc Runner.cells_length ?_ _ | refine sl_drew ?_))) hl2 hq2).mono ?_; rintro e w1 ⟨rfl, d2, rfl⟩))
    clear hmm hC hR
    have hgW : ∃ d, ((w.ext d1).ext d2) = w.ext d := (by repeat (first | with_reducible (first | exact World.gained_refl _ | exact ⟨_, rfl⟩ | apply gain_ext | apply gain_alloc | apply gain_drewN | apply gain_drew) | (refine gain_setCell ?_ (by first | exact Nat.le_refl _ | exact World.size_ext _ _ | (simp; done) | (simp; omega)) _)))
    generalize (w.ext d1).ext d2 = W at hgW
    replace hs := Lib.hid (sl_up Cls.cells_length hs.out hgW)
    replace hsr := Lib.hid (sl_up Runner.cells_length hsr.out hgW)
    have HGW := Lib.hid hgW
    have HGS := Lib.hid (gain_size hgW)
    clear hgW
    have HM0 := Lib.hid (World.ownsMap_made W Try.prog 3 (plainElem (H := Unit) Try.prog 3))
    go_loopw [7, 25] (fun ov i wr => ∃ k : Nat, k ≤ rs.length ∧ i = .int .i64 k ∧ (∃ d, wr = W.ext d) ∧ wr.own (W.heap.size + 1) 3 intC 1 ov (fillN l rs k) ∧ ∃ D : DataW Unit, wr.ownsMap Try.prog 3 (plainElem (H := Unit) Try.prog 3) W.heap.size k D ∧ Counts D (fillN l rs k)) (fun _ i _ => rs.length - (intOf i).toNat)
    case atStart => exact ⟨0, by omega, rfl, (by repeat (first | with_reducible (first | exact World.gained_refl _ | exact ⟨_, rfl⟩ | apply gain_ext | apply gain_alloc | apply gain_drewN | apply gain_drew) | (refine gain_setCell ?_ (by first | exact Nat.le_refl _ | exact World.size_ext _ _ | (simp; done) | (simp; omega)) _))), own_lit' (l := ([] : List Int)) intC_length rfl (by rw [World.size_alloc]) (by rw [World.size_alloc]; exact Nat.le_refl _), .map [], ownsMap_ext HM0.out (by repeat (first | with_reducible (first | exact World.gained_refl _ | exact ⟨_, rfl⟩ | apply gain_ext | apply gain_alloc | apply gain_drewN | apply gain_drew) | (refine gain_setCell ?_ (by first | exact Nat.le_refl _ | exact World.size_ext _ _ | (simp; done) | (simp; omega)) _))), counts_nil⟩
    case round =>
      obtain ⟨k, hk, rfl, ⟨d, rfl⟩, ho, D, hM, hD⟩ := hrel
      have HO := Lib.hid ho
      have HMM := Lib.hid hM
      have HD := Lib.hid hD
      have hBlt := Lib.hid (ownsMap_lt hM)
      clear ho hM hD
      by_cases hlt : k < rs.length
      · obtain ⟨b, o, rfl⟩ := sl_some hsr.out (by omega)
        have hck := fun j (hj : j < 6) => sl_cells hsr.out hlt hj
        have HS : Hid (fillN l rs (k + 1) = fillN l rs k ++ [pickO (roomB (fillN l rs k)) (forL l rs[k])]) := Lib.hid (by rw [fillN_succ hlt, pick_for])
        have hbr := born_bd' HRR.out hlt
        have e0 := hck 0 (by omega)
        have e1 := hck 1 (by omega)
        have e2 := hck 2 (by omega)
        have e3 := hck 3 (by omega)
        have e4 := hck 4 (by omega)
        have e5 := hck 5 (by omega)
        generalize rs[k] = r at e0 e1 e2 e3 e4 e5 hck HS hbr
        clear hck
        simp only [Runner.cells, List.getElem?_cons_zero, List.getElem?_cons_succ, Nat.add_zero] at e0 e1 e2 e3 e4 e5
        have ob := World.oldB_of_cell e0
        go_wp2_with fail
        refine (classesFor_own _ l r _ (by with_reducible (repeat (first | exact hs.out | refine World.sl_ext Cls.cells_length ?_ _ | refine sl_alloc Cls.cells_length ?_ _ | refine sl_drew ?_))) hl hbr).mono ?_
        rintro e Y ⟨qv, rfl, hgq, hoq⟩
        have hgY : ∃ d', Y = (W.ext d).ext d' := gain_trans (by repeat (first | with_reducible (first | exact World.gained_refl _ | exact ⟨_, rfl⟩ | apply gain_ext | apply gain_alloc | apply gain_drewN | apply gain_drew) | (refine gain_setCell ?_ (by first | exact Nat.le_refl _ | exact World.size_ext _ _ | (simp; done) | (simp; omega)) _))) hgq
        have HGY := Lib.hid hgY
        have HQ := Lib.hid (sl_of_own Cls.cells_length hoq)
        have HO2 := Lib.hid (own_up HO.out hgY)
        have HM2 := Lib.hid (ownsMap_ext HMM.out hgY)
        have HFL := Lib.hid (show ∀ (j : Nat) (hj : j < (forL l r).length), 1 ≤ (forL l r)[j].id ∧ (forL l r)[j].id ≤ 99 ∧ 1 ≤ (forL l r)[j].most ∧ (forL l r)[j].most ≤ 500 from fun j hj => by
          have hx : (forL l r)[j] ∈ forL l r := List.getElem_mem hj
          generalize (forL l r)[j] = x at hx
          unfold forL forN at hx
          rw [List.take_length, List.mem_filter] at hx
          obtain ⟨i, hi, rfl⟩ := List.getElem_of_mem hx.1
          exact cls_id (clssB_at HCC.out hi))
        have hFl : (forL l r).length ≤ 1048576 := by have := forN_length l r l.length; unfold forL; omega
        have hcnt := fun c => cntO_le (fillN l rs k) c
        rw [fillN_length] at hcnt
        have HCN := Lib.hid hcnt
        generalize forL l r = L at HQ HS HFL hFl
        have HLO := Lib.hid (show (fillN l rs k).length ≤ 10 by rw [fillN_length]; omega)
        generalize fillN l rs k = O at HO2 HD HS HCN HLO
        obtain ⟨pq, cq, rfl, -⟩ := id HQ.out
        clear hgq hoq hgY hcnt
        go_wp2
        go_loopw [10, 33] (fun iv i wr => ∃ q : Nat, q ≤ L.length ∧ i = .int .i64 q ∧ iv = .int .i64 0 ∧ (∀ (j : Nat) (hj : j < L.length), j < q → roomB O L[j] = false) ∧ ∃ d, wr = Y.ext d) (fun _ i _ => L.length - (intOf i).toNat)
        case atStart => exact ⟨0, by omega, rfl, rfl, by simp, Y.gained_refl⟩
        case round =>
          obtain ⟨q, hq, rfl, rfl, hno, dy, rfl⟩ := hrel
          have HN := Lib.hid hno
          clear hno
          by_cases hql : q < L.length
          · obtain ⟨b3, o3, rfl⟩ := sl_some HQ.out (by omega)
            have hck := fun j (hj : j < 8) => sl_cells HQ.out hql hj
            have hid := HFL.out q hql
            have HP1 := Lib.hid (fun (hf : roomB O L[q] = true) => pickO_at (p := roomB O) hql HN.out hf)
            have HP2 := Lib.hid (fun (hf : roomB O L[q] = false) => (show ∀ (j : Nat) (hj : j < L.length), j < q + 1 → roomB O L[j] = false from fun j hj hjk => by
              by_cases e : j = q
              · subst e; exact hf
              · exact HN.out j hj (by omega)))
            have m0 := hck 0 (by omega)
            have m1 := hck 1 (by omega)
            have m2 := hck 2 (by omega)
            have m3 := hck 3 (by omega)
            have m4 := hck 4 (by omega)
            have m5 := hck 5 (by omega)
            have m6 := hck 6 (by omega)
            have m7 := hck 7 (by omega)
            generalize L[q] = y at m0 m1 m2 m3 m4 m5 m6 m7 hck hid HP1 HP2
            simp only [Cls.cells, List.getElem?_cons_zero, List.getElem?_cons_succ, Nat.add_zero] at m0 m1 m2 m3 m4 m5 m6 m7
            have ob3 := World.oldB_of_cell m0
            obtain ⟨i1, i2, i3, i4⟩ := hid
            have hat0 := Lib.hid (HD.out.2 y.id i1 i2)
            have hkey : keyOf Try.prog 3 (.int .i64 y.id) = some (.int .i64 y.id) := keyOf_int_mk Try.underlying3 (WalkArith.wf_i64 (by omega))
            have hcn := HCN.out y.id
            have HRB : Hid (roomB O y = decide ((cntO O y.id : Int) < y.most)) := Lib.hid rfl
            have HPUT := Lib.hid (counts_put HD.out y.id)
            generalize cntO O y.id = n at hat0 hcn HRB HPUT
            clear hck
            by_cases hr : (n : Int) < y.most
            · have HP1' := Lib.hid (HP1.out (by rw [HRB.out]; exact decide_eq_true hr))
              clear HP1 HP2
              set_option maxRecDepth 20000 in go_wp2_with (first | (at_lookup; refine wpList_lookup_own_int _ rfl _ _ 58 rfl 3 3 .i64 law_int Try.underlying58 Try.underlying3 (zero_int _) W.heap.size k _ rfl (ownsMap_ext HM2.out (by repeat (first | with_reducible (first | exact World.gained_refl _ | exact ⟨_, rfl⟩ | apply gain_ext | apply gain_alloc | apply gain_drewN | apply gain_drew) | (refine gain_setCell ?_ (by first | exact Nat.le_refl _ | exact World.size_ext _ _ | (simp; done) | (simp; omega)) _)))) _ _ rfl hkey ?_; intro cc hat hwc; obtain rfl : cc = (n : Int) := by (rw [hat0.out] at hat; injection hat with hat; injection hat with _ hat; exact hat.symm)) | (at_mapUpdate; refine wpList_mapUpdate_own _ rfl _ _ _ 58 rfl 3 3 law_int Try.underlying58 _ W.heap.size k _ rfl (ownsMap_ext HM2.out (by repeat (first | with_reducible (first | exact World.gained_refl _ | exact ⟨_, rfl⟩ | apply gain_ext | apply gain_alloc | apply gain_drewN | apply gain_drew) | (refine gain_setCell ?_ (by first | exact Nat.le_refl _ | exact World.size_ext _ _ | (simp; done) | (simp; omega)) _)))) (by unfold maxLen; omega) _ _ _ rfl rfl hkey _ [] (plainElem_int Try.underlying3 (WalkArith.wf_i64 (by omega))) ?_; intro w1 hown1 hgrow1) | (at_builtin; go_must (refine wpList_append_gain (W := W) (m := [y.id]) rfl (.tmp 51) (.tmp 53) rfl Try.underlying28 info_int (by rfl) (by omega) intC_length intC_one (by omega) (gain_alloc (gain_grown (gain_trans (gain_trans ⟨d, rfl⟩ HGY.out) (by repeat (first | with_reducible (first | exact World.gained_refl _ | exact ⟨_, rfl⟩ | apply gain_ext | apply gain_alloc | apply gain_drewN | apply gain_drew) | (refine gain_setCell ?_ (by first | exact Nat.le_refl _ | exact World.size_ext _ _ | (simp; done) | (simp; omega)) _)))) hgrow1 (fun b hb => by cases hb; exact Nat.le_refl _)) _) (Nat.le_succ _) (Nat.le_trans (ownsMap_lt hown1) (gain_size (by repeat (first | with_reducible (first | exact World.gained_refl _ | exact ⟨_, rfl⟩ | apply gain_ext | apply gain_alloc | apply gain_drewN | apply gain_drew) | (refine gain_setCell ?_ (by first | exact Nat.le_refl _ | exact World.size_ext _ _ | (simp; done) | (simp; omega)) _))))) rfl rfl (own_up (own_grown (own_up HO2.out (by repeat (first | with_reducible (first | exact World.gained_refl _ | exact ⟨_, rfl⟩ | apply gain_ext | apply gain_alloc | apply gain_drewN | apply gain_drew) | (refine gain_setCell ?_ (by first | exact Nat.le_refl _ | exact World.size_ext _ _ | (simp; done) | (simp; omega)) _)))) hgrow1 (Nat.lt_succ_self _)) (by repeat (first | with_reducible (first | exact World.gained_refl _ | exact ⟨_, rfl⟩ | apply gain_ext | apply gain_alloc | apply gain_drewN | apply gain_drew) | (refine gain_setCell ?_ (by first | exact Nat.le_refl _ | exact World.size_ext _ _ | (simp; done) | (simp; omega)) _)))) (sl_lit (l := [y.id]) intC_length rfl (by simp)) (by simp; have := HLO.out; omega) ?_); intro v' d' ho hg))
              go_roundw
              case rel => exact ⟨k + 1, by omega, by go_num, ⟨_, rfl⟩, by rw [HS.out, HP1'.out]; exact ho, _, ownsMap_grown (ownsMap_ext hown1 (by repeat (first | with_reducible (first | exact World.gained_refl _ | exact ⟨_, rfl⟩ | apply gain_ext | apply gain_alloc | apply gain_drewN | apply gain_drew) | (refine gain_setCell ?_ (by first | exact Nat.le_refl _ | exact World.size_ext _ _ | (simp; done) | (simp; omega)) _)))) hg (fun e => absurd (own_lt HO2.out _ e).1 (Nat.not_succ_le_self _)), by rw [HS.out, HP1'.out]; exact HPUT.out⟩
              case measure => simp [intOf]; omega
            · have HP2' := Lib.hid (HP2.out (by rw [HRB.out]; exact decide_eq_false hr))
              clear HP1 HP2
              set_option maxRecDepth 20000 in go_wp2_with (at_lookup; refine wpList_lookup_own_int _ rfl _ _ 58 rfl 3 3 .i64 law_int Try.underlying58 Try.underlying3 (zero_int _) W.heap.size k _ rfl (ownsMap_ext HM2.out (by repeat (first | with_reducible (first | exact World.gained_refl _ | exact ⟨_, rfl⟩ | apply gain_ext | apply gain_alloc | apply gain_drewN | apply gain_drew) | (refine gain_setCell ?_ (by first | exact Nat.le_refl _ | exact World.size_ext _ _ | (simp; done) | (simp; omega)) _)))) _ _ rfl hkey ?_; intro cc hat hwc; obtain rfl : cc = (n : Int) := by (rw [hat0.out] at hat; injection hat with hat; injection hat with _ hat; exact hat.symm))
              go_roundw
              case rel => exact ⟨q + 1, by omega, by go_num, rfl, HP2'.out, (by repeat (first | with_reducible (first | exact World.gained_refl _ | exact ⟨_, rfl⟩ | apply gain_ext | apply gain_alloc | apply gain_drewN | apply gain_drew) | (refine gain_setCell ?_ (by first | exact Nat.le_refl _ | exact World.size_ext _ _ | (simp; done) | (simp; omega)) _)))⟩
              case measure => simp [intOf]; omega
          · have HS' := Lib.hid (show fillN l rs (k + 1) = O ++ [0] by rw [HS.out, pickO_none (fun j hj => HN.out j hj (by omega))])
            have HCZ := Lib.hid (counts_zero HD.out)
            set_option maxRecDepth 20000 in go_wp2_with (at_builtin; go_must (refine wpList_append_gain (W := W) (m := [0]) rfl (.tmp 51) (.tmp 53) rfl Try.underlying28 info_int (by rfl) (by omega) intC_length intC_one (by omega) (gain_trans (gain_trans ⟨d, rfl⟩ HGY.out) (by repeat (first | with_reducible (first | exact World.gained_refl _ | exact ⟨_, rfl⟩ | apply gain_ext | apply gain_alloc | apply gain_drewN | apply gain_drew) | (refine gain_setCell ?_ (by first | exact Nat.le_refl _ | exact World.size_ext _ _ | (simp; done) | (simp; omega)) _)))) (Nat.le_succ _) (Nat.le_trans (ownsMap_lt HM2.out) (gain_size (by repeat (first | with_reducible (first | exact World.gained_refl _ | exact ⟨_, rfl⟩ | apply gain_ext | apply gain_alloc | apply gain_drewN | apply gain_drew) | (refine gain_setCell ?_ (by first | exact Nat.le_refl _ | exact World.size_ext _ _ | (simp; done) | (simp; omega)) _))))) rfl rfl (own_up HO2.out (by repeat (first | with_reducible (first | exact World.gained_refl _ | exact ⟨_, rfl⟩ | apply gain_ext | apply gain_alloc | apply gain_drewN | apply gain_drew) | (refine gain_setCell ?_ (by first | exact Nat.le_refl _ | exact World.size_ext _ _ | (simp; done) | (simp; omega)) _)))) (sl_lit (l := [0]) intC_length rfl (by simp)) (by simp; have := HLO.out; omega) ?_); intro v' d' ho hg)
            go_roundw
            case rel => exact ⟨k + 1, by omega, by go_num, ⟨_, rfl⟩, by rw [HS'.out]; exact ho, D, World.ownsMap.mono (ownsMap_grown (ownsMap_ext HM2.out (by repeat (first | with_reducible (first | exact World.gained_refl _ | exact ⟨_, rfl⟩ | apply gain_ext | apply gain_alloc | apply gain_drewN | apply gain_drew) | (refine gain_setCell ?_ (by first | exact Nat.le_refl _ | exact World.size_ext _ _ | (simp; done) | (simp; omega)) _)))) hg (fun e => absurd (own_lt HO2.out _ e).1 (Nat.not_succ_le_self _))) (Nat.le_succ k), by rw [HS'.out]; exact HCZ.out⟩
            case measure => simp [intOf]; omega
      · go_wp2
        go_ret2
        obtain rfl : k = rs.length := by omega
        rw [HE.out.1, HE.out.2]
        exact ⟨_, rfl, gain_trans HGW.out ⟨_, rfl⟩, own_base HO.out (Nat.le_succ_of_le HGS.out)⟩
end Go.Proofs.Ytfenempljjenpaa
