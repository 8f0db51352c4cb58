/- impl.pairsOf, confusable, ConfusableCodes, CloseControls. Condition: at most 1048576 numbers, controls; for the closures: valid controls. -/
import Derived.Test.YtedpckkoaioooaaPPairs
import Derived.Test.YtedpckkoaioooaaPairC
import Derived.Test.YtedpckkoaioooaaAreCtls
import Derived.Test.YtedpckkoaioooaaMapN
import Derived.Test.YtedpckkoaioooaaMapX
import Derived.Test.YtedpckkoaioooaaHeld
import Derived.Test.YtedpckkoaioooaaOwnAt
import Derived.Test.YtedpckkoaioooaaCut
import Derived.Test.YtedpckkoaioooaaAppWhere
namespace Go.Ori
theorem rowP_congr {f g : Ctl → Ctl → Bool} {a : Ctl} {l : List Ctl} (h : ∀ b ∈ l, f a b = g a b) : rowP f a l = rowP g a l := by
  unfold rowP
  rw [List.filter_congr h]
theorem pairsL_congr {f g : Ctl → Ctl → Bool} : ∀ {l : List Ctl}, (l.Pairwise fun a b => f a b = g a b) → pairsL f l = pairsL g l
  | [], _ => rfl
  | a :: l, h => by
    rw [List.pairwise_cons] at h
    rw [pairsL, pairsL, rowP_congr h.1, pairsL_congr h.2]
/-- A cell of another block, after an append of a literal. -/
theorem cell_app {w w' : World} {g o : Nat} {u : Value} {r : Option Nat} {lit : Obj} {w2 : World} (hc : w.cell? ⟨g, o, none⟩ = some u) (hg : w2.grownBy w' r) (hne : r ≠ some g) (d : Gain) (h2 : w2 = (w.ext d).alloc lit) : w'.cell? ⟨g, o, none⟩ = some u := by
  have h1 : w2.cell? ⟨g, o, none⟩ = some u := by rw [h2]; exact cell_alloc (cell_ext hc d) _
  rw [World.cell?_of_block (a := ⟨g, o, none⟩) (hg.block g (World.lt_of_cell (a := ⟨g, o, none⟩) (by rw [h1]; rfl)) (fun e => hne e.symm)), h1]
def confF (a b : Ctl) : Bool := confB a.code b.code
theorem conf_pairs {m : Mp} {l : List Ctl} (h : ctlsB m l = true) : pairsL confF l = pairsL likeF l :=
  pairsL_congr ((ctlsB_pair h).imp fun {a b} hab => confB_like (by omega))
theorem ctls_code {m : Mp} {l : List Ctl} (h : ctlsB m l = true) : ∀ a ∈ l, 31 ≤ a.code ∧ a.code ≤ 99 := by
  intro a ha
  obtain ⟨i, hi, rfl⟩ := List.getElem_of_mem ha
  simp only [ctlsB, Bool.and_eq_true] at h
  have := allB_iff.1 h.2 i hi
  rw [ctlAt, List.getElem?_eq_getElem hi] at this
  simp only [Bool.and_eq_true, insB_true] at this
  exact this.1.1.1
theorem ctls_cell {m : Mp} {l : List Ctl} (h : ctlsB m l = true) : ∀ a ∈ l, ∃ k : Nat, a.cell = k ∧ k < m.cost.length := by
  intro a ha
  obtain ⟨i, hi, rfl⟩ := List.getElem_of_mem ha
  obtain ⟨k, h1, h2, _⟩ := openB_true (ctlsB_open h hi)
  exact ⟨k, h1, h2⟩
theorem gapB_nat {m : Mp} {W H : Nat} (hok : MapOk m W H) (a b : Nat) : gapB m (a : Int) (b : Int) = (gapN m.wd.toNat a b : Int) := by
  rw [gapB, hok.wd]
  rfl
theorem conL_no {m : Mp} {l : List Ctl} (h : conB m l = false) : conL m l = [] := by simp [conL, h]
theorem cloL_no {m : Mp} {l : List Ctl} {d : Int} (h : cloB m l d = false) : cloL m l d = [] := by simp [cloL, h]
theorem conL_len (m : Mp) (l : List Ctl) : (conL m l).length ≤ 1048576 := by
  cases h : conB m l with
  | false => rw [conL_no h]; simp
  | true =>
    rw [conL, if_pos h]
    have h1 := ctlsB_len h
    have h2 := pairsL_len likeF l
    have h3 : l.length * l.length ≤ 10 * 10 := Nat.mul_le_mul h1 h1
    omega
theorem cloL_len (m : Mp) (l : List Ctl) (d : Int) : (cloL m l d).length ≤ 1048576 := by
  cases h : cloB m l d with
  | false => rw [cloL_no h]; simp
  | true =>
    rw [cloL, if_pos h]
    simp only [cloB, Bool.and_eq_true] at h
    have h1 := ctlsB_len h.1
    have h2 := pairsL_len (nearF m d) l
    have h3 : l.length * l.length ≤ 10 * 10 := Nat.mul_le_mul h1 h1
    omega
end Go.Ori
namespace Go.Proofs.Ytedpckkoaioooaa
open Go.RowKit Go.Ori
set_option maxHeartbeats 2000000 in
theorem confusable_any (a b : Int) (w : World) (ha : 31 ≤ a ∧ a ≤ 99) (hb : 31 ≤ b ∧ b ≤ 99) : Calls Try.prog 87 #[.int .i64 a, .int .i64 b] w fun x w' => x = .returned (.bool (confB a b)) ∧ w = w' := by
  obtain ⟨a1, a2⟩ := ha
  obtain ⟨b1, b2⟩ := hb
  have q1 : Int.tmod a 10 = a % 10 := Int.tmod_eq_emod_of_nonneg (by omega)
  have q2 : Int.tmod b 10 = b % 10 := Int.tmod_eq_emod_of_nonneg (by omega)
  have q3 : Int.tdiv a 10 = a / 10 := Int.tdiv_eq_ediv_of_nonneg (by omega)
  have q4 : Int.tdiv b 10 = b / 10 := Int.tdiv_eq_ediv_of_nonneg (by omega)
  have HC : Hid (confB a b = ((decide (a % 10 = b / 10) && decide (a / 10 = b % 10)) || (decide (a % 10 = b % 10) && decide (a / 10 - b / 10 = 1 ∨ b / 10 - a / 10 = 1)))) := Lib.hid rfl
  have m1 : 0 ≤ a % 10 ∧ a % 10 ≤ 9 := by omega
  have m2 : 0 ≤ b % 10 ∧ b % 10 ≤ 9 := by omega
  have m3 : 3 ≤ a / 10 ∧ a / 10 ≤ 9 := by omega
  have m4 : 3 ≤ b / 10 ∧ b / 10 ≤ 9 := by omega
  go_enter Try.func87, Try.ntmps87
  go_wp2_with (go_at_call 130; refine (absOf_any _ _ (by omega) (by omega)).mono ?_; rintro e w1 ⟨rfl, rfl⟩)
  all_goals go_ret
  all_goals
    refine ⟨ret_bool ?_, rfl⟩
    rw [HC.out, Bool.eq_iff_iff]
    simp only [Bool.or_eq_true, Bool.and_eq_true, decide_eq_true_eq, beq_iff_eq, true_iff, false_iff, Bool.false_eq_true]
    omega
set_option maxHeartbeats 4000000 in
theorem pairsOf_any (K : FuncId) (caps : Array Value) (f : Ctl → Ctl → Bool) (v : Value) (l : List Ctl) (w : World) (h : w.sl Ctl.cells 2 v l) (hl : l.length ≤ 10)
    (hcf : ∀ args W, (callFunc K args).run Try.prog W = .ok (.enter K args) W)
    (hcl : ∀ (a b : Ctl), a ∈ l → b ∈ l → ∀ d, Calls Try.prog K (#[.agg #[.int .i64 a.code, .int .i64 a.cell], .agg #[.int .i64 b.code, .int .i64 b.cell]] ++ caps) (w.ext d) fun x w1 => x = .returned (.bool (f a b)) ∧ ∃ d1, w1 = (w.ext d).ext d1) :
    Calls Try.prog 89 #[v, .func (.func K) #[] caps] w fun x w' => ∃ r, x = .returned r ∧ (∃ d, w' = w.ext d) ∧ w'.own w.heap.size 47 prC 2 r (pairsL f l) := by
  have hs := Lib.hid h
  have HCL := Lib.hid hcl
  obtain ⟨p, c, rfl, _, hcap⟩ := h
  clear hcl
  go_enter Try.func89, Try.ntmps89
  go_wp2
  go_loopw [5, 13] (fun o_ i_ wr => ∃ (k : Nat) (q : List (Int × Int)), k ≤ l.length ∧ i_ = .int .i64 k ∧ PO f l q k ∧ wr.own w.heap.size 47 prC 2 o_ q ∧ ∃ d, wr = w.ext d) (fun _ i_ _ => l.length - (intOf i_).toNat)
  case atStart => exact ⟨0, [], by omega, rfl, PO.start f l, own_lit' (l := ([] : List (Int × Int))) prC_length rfl rfl (gain_size (by repeat (first | with_reducible (first | exact World.gained_refl _ | exact ⟨_, rfl⟩ | apply gain_ext | apply gain_alloc | apply gain_drewN | apply gain_drew) | (refine gain_setCell ?_ (by first | exact Nat.le_refl _ | exact World.size_ext _ _ | (simp; done) | (simp; omega)) _)))), (by repeat (first | with_reducible (first | exact World.gained_refl _ | exact ⟨_, rfl⟩ | apply gain_ext | apply gain_alloc | apply gain_drewN | apply gain_drew) | (refine gain_setCell ?_ (by first | exact Nat.le_refl _ | exact World.size_ext _ _ | (simp; done) | (simp; omega)) _)))⟩
  case round =>
    obtain ⟨k, q, hk, rfl, hpo, ho, d, rfl⟩ := hrel
    have HPO := Lib.hid hpo
    have HO := Lib.hid ho
    clear hpo ho
    by_cases hlt : k < l.length
    · obtain ⟨b, o, rfl⟩ := sl_some hs.out (by omega)
      have c0 := sl_cells hs.out hlt (j := 0) (by omega)
      have c1 := sl_cells hs.out hlt (j := 1) (by omega)
      have HROW := Lib.hid (HPO.out.row hlt)
      have hmem := Lib.hid (List.getElem_mem hlt)
      obtain ⟨A, hA⟩ : ∃ A : Addr, (if c = k + 1 then some (⟨b, o, none⟩ : Addr) else some ⟨b, o + (k + 1) * 2, none⟩) = some A := by split <;> exact ⟨_, rfl⟩
      have HD := Lib.hid (sl_drop_any hs.out (k := k + 1) (by omega) hA)
      generalize l[k] = a at c0 c1 HROW hmem
      simp only [Ctl.cells, List.getElem?_cons_zero, List.getElem?_cons_succ, Nat.add_zero] at c0 c1
      have ob := World.oldB_of_cell c0
      have hp0 : (0 : Int) ≤ (k : Int) + 1 := by omega
      have hp1 : (k : Int) + 1 ≤ (l.length : Int) := by omega
      have hp2 : ((k : Int) + 1).toNat = k + 1 := by omega
      have hwr : IntKind.i64.wrap ((k : Int) + 1) = (k : Int) + 1 := IntWalk.i64_in _ (by omega)
      have hsub : ((l.length - (k + 1) : Nat) : Int) ≤ 10 := by omega
      go_wp2_with fail
      generalize hX : (w.ext d).alloc (.cells #[.int .i64 a.code, .int .i64 a.cell] 46) = X
      have xa0 : X.cell? ⟨(w.ext d).heap.size, 0, none⟩ = some (.int .i64 a.code) := by rw [← hX]; simp [go_sem]
      have xa1 : X.cell? ⟨(w.ext d).heap.size, 1, none⟩ = some (.int .i64 a.cell) := by rw [← hX]; simp [go_sem]
      have HOX : Hid (X.own w.heap.size 47 prC 2 _ q) := Lib.hid (own_up HO.out (by rw [← hX]; exact (by repeat (first | with_reducible (first | exact World.gained_refl _ | exact ⟨_, rfl⟩ | apply gain_ext | apply gain_alloc | apply gain_drewN | apply gain_drew) | (refine gain_setCell ?_ (by first | exact Nat.le_refl _ | exact World.size_ext _ _ | (simp; done) | (simp; omega)) _)))))
      obtain ⟨d1, rfl⟩ : ∃ d1, X = w.ext d1 := by rw [← hX]; exact (by repeat (first | with_reducible (first | exact World.gained_refl _ | exact ⟨_, rfl⟩ | apply gain_ext | apply gain_alloc | apply gain_drewN | apply gain_drew) | (refine gain_setCell ?_ (by first | exact Nat.le_refl _ | exact World.size_ext _ _ | (simp; done) | (simp; omega)) _)))
      have HNB : Hid (_ ≠ some (w.ext d).heap.size) := Lib.hid (fun e => by have := (own_lt HO.out _ e).2; omega)
      clear hX HO HPO
      generalize (w.ext d).heap.size = g1 at xa0 xa1 HNB ⊢
      go_loopw [5, 23] (fun o_ i_ wr => ∃ (j : Nat) (q2 : List (Int × Int)), j ≤ l.length - (k + 1) ∧ i_ = .int .i64 j ∧ PI f l q2 k a (k + 1 + j) ∧ wr.own w.heap.size 47 prC 2 o_ q2 ∧ o_.ownBlock ≠ some g1 ∧ wr.cell? ⟨g1, 0, none⟩ = some (.int .i64 a.code) ∧ wr.cell? ⟨g1, 1, none⟩ = some (.int .i64 a.cell) ∧ ∃ d, wr = w.ext d) (fun _ i_ _ => (l.length - (k + 1)) - (intOf i_).toNat)
      case atStart => exact ⟨0, q, by omega, rfl, HROW.out, HOX.out, HNB.out, xa0, xa1, _, rfl⟩
      case round =>
        clear xa0 xa1 HOX HROW HNB
        obtain ⟨j, q2, hj, rfl, hpi, ho, hnb, xa0, xa1, d2, rfl⟩ := hrel
        have HNB := Lib.hid hnb
        clear hnb
        have HPI := Lib.hid hpi
        have HO := Lib.hid ho
        have hql := hpi.len hl
        have oba := World.oldB_of_cell xa0
        clear hpi ho
        by_cases hlt2 : j < l.length - (k + 1)
        · have hltd : decide ((j : Int) < ((l.length - (k + 1) : Nat) : Int)) = true := decide_eq_true (by omega)
          obtain ⟨b2, o2, hA2⟩ := sl_some HD.out (by rw [List.length_drop]; omega)
          injection hA2 with hA2
          subst hA2
          have hjd : j < (l.drop (k + 1)).length := by rw [List.length_drop]; omega
          have y0 := sl_cells HD.out hjd (j := 0) (by omega)
          have y1 := sl_cells HD.out hjd (j := 1) (by omega)
          rw [List.getElem_drop] at y0 y1
          have hky : k + 1 + j < l.length := by omega
          have HYES := Lib.hid (fun hf => HPI.out.yes hky hf)
          have HNO := Lib.hid (fun hf => HPI.out.no hky hf)
          have hmy := Lib.hid (List.getElem_mem hky)
          generalize l[k + 1 + j] = y at y0 y1 HYES HNO hmy
          simp only [Ctl.cells, List.getElem?_cons_zero, List.getElem?_cons_succ, Nat.add_zero] at y0 y1
          have oby := World.oldB_of_cell y0
          go_wp2_with fail
          generalize hX : (w.ext d2).alloc (.cells #[.int .i64 y.code, .int .i64 y.cell] 46) = X
          have ya0 : X.cell? ⟨(w.ext d2).heap.size, 0, none⟩ = some (.int .i64 y.code) := by rw [← hX]; simp [go_sem]
          have za0 : X.cell? ⟨g1, 0, none⟩ = some (.int .i64 a.code) := by rw [← hX]; exact cell_alloc xa0 _
          have za1 : X.cell? ⟨g1, 1, none⟩ = some (.int .i64 a.cell) := by rw [← hX]; exact cell_alloc xa1 _
          have HOX : Hid (X.own w.heap.size 47 prC 2 _ q2) := Lib.hid (own_up HO.out (by rw [← hX]; exact (by repeat (first | with_reducible (first | exact World.gained_refl _ | exact ⟨_, rfl⟩ | apply gain_ext | apply gain_alloc | apply gain_drewN | apply gain_drew) | (refine gain_setCell ?_ (by first | exact Nat.le_refl _ | exact World.size_ext _ _ | (simp; done) | (simp; omega)) _)))))
          obtain ⟨d3, rfl⟩ : ∃ d3, X = w.ext d3 := by rw [← hX]; exact (by repeat (first | with_reducible (first | exact World.gained_refl _ | exact ⟨_, rfl⟩ | apply gain_ext | apply gain_alloc | apply gain_drewN | apply gain_drew) | (refine gain_setCell ?_ (by first | exact Nat.le_refl _ | exact World.size_ext _ _ | (simp; done) | (simp; omega)) _)))
          clear hX HO xa0 xa1
          generalize (w.ext d2).heap.size = g2 at ya0 ⊢
          have obz := World.oldB_of_cell za0
          have obw := World.oldB_of_cell ya0
          refine (HCL.out a y hmem.out hmy.out d3).mono ?_
          rintro e w1 ⟨rfl, d4, rfl⟩
          cases hf : f a y with
          | true =>
            have HN := Lib.hid (HYES.out hf)
            clear HYES HNO hf
            go_wp2_with (at_builtin; go_must (refine wpList_append_where (m := [(a.code, y.code)]) rfl (.tmp 31) (.tmp 37) rfl Try.underlying41 info_Pr (by rfl) (by omega) prC_length prC_one (by omega) (by repeat (first | with_reducible (first | exact World.gained_refl _ | exact ⟨_, rfl⟩ | apply gain_ext | apply gain_alloc | apply gain_drewN | apply gain_drew) | (refine gain_setCell ?_ (by first | exact Nat.le_refl _ | exact World.size_ext _ _ | (simp; done) | (simp; omega)) _))) (Nat.le_refl _) (gain_size (by repeat (first | with_reducible (first | exact World.gained_refl _ | exact ⟨_, rfl⟩ | apply gain_ext | apply gain_alloc | apply gain_drewN | apply gain_drew) | (refine gain_setCell ?_ (by first | exact Nat.le_refl _ | exact World.size_ext _ _ | (simp; done) | (simp; omega)) _)))) rfl rfl (own_up HOX.out (by repeat (first | with_reducible (first | exact World.gained_refl _ | exact ⟨_, rfl⟩ | apply gain_ext | apply gain_alloc | apply gain_drewN | apply gain_drew) | (refine gain_setCell ?_ (by first | exact Nat.le_refl _ | exact World.size_ext _ _ | (simp; done) | (simp; omega)) _)))) (sl_lit (l := [(a.code, y.code)]) prC_length rfl (by simp)) (by simp) (by simp; omega) ?_); intro v' d5 ho hg hwh; have HG9 := Lib.hid hg; have HW9 := Lib.hid hwh; have HO9 := Lib.hid ho; clear hg hwh ho)
            have zb0 := cell_app za0 HG9.out HNB.out d4 rfl
            have zb1 := cell_app za1 HG9.out HNB.out d4 rfl
            have HNB2 := Lib.hid (show v'.ownBlock ≠ some g1 from fun e => (HW9.out.elim (fun h => HNB.out (h.symm.trans e)) (fun h => by
              rw [h] at e
              injection e with e
              rw [World.size_alloc] at e
              have h1 : g1 < (w.ext d3).heap.size := obz
              have h2 := World.size_ext (w.ext d3) d4
              omega)))
            have ho := HO9.out
            clear HG9 HW9 HO9
            go_roundw
            case rel => exact ⟨j + 1, _, by omega, by go_num, HN.out, ho, HNB2.out, zb0, zb1, (by repeat (first | with_reducible (first | exact World.gained_refl _ | exact ⟨_, rfl⟩ | apply gain_ext | apply gain_alloc | apply gain_drewN | apply gain_drew) | (refine gain_setCell ?_ (by first | exact Nat.le_refl _ | exact World.size_ext _ _ | (simp; done) | (simp; omega)) _)))⟩
            case measure => simp [intOf]; omega
          | false =>
            have HN := Lib.hid (HNO.out hf)
            clear HYES HNO hf
            go_wp2
            go_roundw
            case rel => exact ⟨j + 1, q2, by omega, by go_num, HN.out, own_up HOX.out (by repeat (first | with_reducible (first | exact World.gained_refl _ | exact ⟨_, rfl⟩ | apply gain_ext | apply gain_alloc | apply gain_drewN | apply gain_drew) | (refine gain_setCell ?_ (by first | exact Nat.le_refl _ | exact World.size_ext _ _ | (simp; done) | (simp; omega)) _))), HNB.out, cell_ext za0 _, cell_ext za1 _, (by repeat (first | with_reducible (first | exact World.gained_refl _ | exact ⟨_, rfl⟩ | apply gain_ext | apply gain_alloc | apply gain_drewN | apply gain_drew) | (refine gain_setCell ?_ (by first | exact Nat.le_refl _ | exact World.size_ext _ _ | (simp; done) | (simp; omega)) _)))⟩
            case measure => simp [intOf]; omega
        · have hltd : decide ((j : Int) < ((l.length - (k + 1) : Nat) : Int)) = false := decide_eq_false (by omega)
          have HN := Lib.hid (HPI.out.fin (by omega))
          go_wp2
          go_roundw
          case rel => exact ⟨k + 1, q2, by omega, by go_num, HN.out, HO.out, _, rfl⟩
          case measure => simp [intOf]; omega
    · have HN := Lib.hid (HPO.out.fin (by omega))
      go_wp2
      go_ret
      rw [← HN.out]
      exact ⟨_, rfl, ⟨_, rfl⟩, HO.out⟩
theorem confC1_any (a b : Ctl) (w : World) (ha : 31 ≤ a.code ∧ a.code ≤ 99) (hb : 31 ≤ b.code ∧ b.code ≤ 99) :
    Calls Try.prog 90 #[.agg #[.int .i64 a.code, .int .i64 a.cell], .agg #[.int .i64 b.code, .int .i64 b.cell]] w fun x w' => x = .returned (.bool (confF a b)) ∧ ∃ d, w' = w.ext d := by
  go_enter Try.func90, Try.ntmps90
  go_wp2_with (go_at_call 87; refine (confusable_any _ _ _ ha hb).mono ?_; rintro e w1 ⟨rfl, rfl⟩)
  go_ret
  exact ⟨rfl, (by repeat (first | with_reducible (first | exact World.gained_refl _ | exact ⟨_, rfl⟩ | apply gain_ext | apply gain_alloc | apply gain_drewN | apply gain_drew) | (refine gain_setCell ?_ (by first | exact Nat.le_refl _ | exact World.size_ext _ _ | (simp; done) | (simp; omega)) _)))⟩
set_option maxHeartbeats 2000000 in
theorem closeC1_any (m : Mp) (rv cv : Value) (W H : Nat) (dist : Int) (a b : Ctl) (gm gd : Nat) (w : World) (hok : MapOk m W H) (ha : ∃ k : Nat, a.cell = k ∧ k < m.cost.length) (hb : ∃ k : Nat, b.cell = k ∧ k < m.cost.length)
    (m0 : w.cell? ⟨gm, 0, none⟩ = some (.int .i64 m.wd)) (m1 : w.cell? ⟨gm, 1, none⟩ = some (.int .i64 m.ht)) (m2 : w.cell? ⟨gm, 2, none⟩ = some rv) (m3 : w.cell? ⟨gm, 3, none⟩ = some cv) (e0 : w.cell? ⟨gd, 0, none⟩ = some (.int .i64 dist)) :
    Calls Try.prog 91 #[.agg #[.int .i64 a.code, .int .i64 a.cell], .agg #[.int .i64 b.code, .int .i64 b.cell], .pointer (some ⟨gm, 0, none⟩), .pointer (some ⟨gd, 0, none⟩)] w fun x w' => x = .returned (.bool (nearF m dist a b)) ∧ ∃ d, w' = w.ext d := by
  obtain ⟨x, hx, hx2⟩ := ha
  obtain ⟨y, hy, hy2⟩ := hb
  have HN : Hid (nearF m dist a b = decide ((gapN m.wd.toNat x y : Int) < dist)) := Lib.hid (by rw [nearF, hx, hy, gapB_nat hok])
  have HG := Lib.hid (fun W' => gapOf_any m rv cv W H x y W' hok hx2 hy2)
  rw [hx, hy, HN.out]
  have om := World.oldB_of_cell m0
  have od := World.oldB_of_cell e0
  clear hok hx hy hx2 hy2 HN
  generalize (gapN m.wd.toNat x y : Int) = GV at HG ⊢
  go_enter Try.func91, Try.ntmps91
  go_wp2
  refine wp_region_gain (by kernel_rfl) (by kernel_rfl) ?_
  repeat (first | go_big_quiet_skip | (go_big_quiet_want; go_big_quiet_op; first | go_big_quiet_on | ((apply Exists.intro); (refine ⟨fun _ => ?_, ?_⟩); (· (go_at_call 92; exact Calls.gain (HG.out _))); (go_big_quiet_on))))
  refine wpQuiet_nil ?_
  rintro _ ⟨d', rfl⟩
  go_wp2
  go_ret
  exact ⟨rfl, (by repeat (first | with_reducible (first | exact World.gained_refl _ | exact ⟨_, rfl⟩ | apply gain_ext | apply gain_alloc | apply gain_drewN | apply gain_drew) | (refine gain_setCell ?_ (by first | exact Nat.le_refl _ | exact World.size_ext _ _ | (simp; done) | (simp; omega)) _)))⟩
set_option maxHeartbeats 2000000 in
theorem confusableCodes_any (m : Mp) (rv cv v : Value) (l : List Ctl) (w : World) (hmp : w.mp rv cv m) (h : w.sl Ctl.cells 2 v l) (hl : l.length ≤ 1048576) :
    Calls Try.prog 27 #[.agg #[.int .i64 m.wd, .int .i64 m.ht, rv, cv], v] w fun x w' => ∃ R, x = .returned (.tuple #[R, .bool (conB m l)]) ∧ (∃ d, w' = w.ext d) ∧ w'.own w.heap.size 47 prC 2 R (conL m l) := by
  have hm := Lib.hid hmp
  have hs := Lib.hid h
  obtain ⟨p1, c1, p2, c2, rfl, rfl⟩ := mp_form hmp
  obtain ⟨p, c, rfl, _⟩ := id h
  have HG := Lib.hid (fun W hM hL => areControls_any m (.slice p1 m.rise.length c1) (.slice p2 m.cost.length c2) (.slice p l.length c) l W hM hL hl)
  clear hmp h
  cases hB : ctlsB m l with
  | false =>
    have h0 : conB m l = false := hB
    rw [conL_no h0, h0]
    rw [hB] at HG
    clear h0 hB
    go_enter Try.func27, Try.ntmps27
    go_wp2_with (go_at_call 13; refine (HG.out _ (mp_up (hm.out) (by repeat (first | with_reducible (first | exact World.gained_refl _ | exact ⟨_, rfl⟩ | apply gain_ext | apply gain_alloc | apply gain_drewN | apply gain_drew) | (refine gain_setCell ?_ (by first | exact Nat.le_refl _ | exact World.size_ext _ _ | (simp; done) | (simp; omega)) _)))) (by with_reducible (repeat (first | exact hs.out | refine World.sl_ext Ctl.cells_length ?_ _ | refine sl_alloc Ctl.cells_length ?_ _ | refine sl_drew ?_)))).mono ?_; rintro e w1 ⟨rfl, d1, rfl⟩)
    go_ret2
    exact ⟨_, rfl, (by repeat (first | with_reducible (first | exact World.gained_refl _ | exact ⟨_, rfl⟩ | apply gain_ext | apply gain_alloc | apply gain_drewN | apply gain_drew) | (refine gain_setCell ?_ (by first | exact Nat.le_refl _ | exact World.size_ext _ _ | (simp; done) | (simp; omega)) _))), own_nil _ _ _ _ _⟩
  | true =>
    have h0 : conB m l = true := hB
    have hl10 := ctlsB_len hB
    have HCD := Lib.hid (ctls_code hB)
    have HCP := Lib.hid (conf_pairs hB)
    rw [conL, if_pos h0, h0]
    rw [hB] at HG
    clear h0 hB
    go_enter Try.func27, Try.ntmps27
    go_wp2_with (go_at_call 13; refine (HG.out _ (mp_up (hm.out) (by repeat (first | with_reducible (first | exact World.gained_refl _ | exact ⟨_, rfl⟩ | apply gain_ext | apply gain_alloc | apply gain_drewN | apply gain_drew) | (refine gain_setCell ?_ (by first | exact Nat.le_refl _ | exact World.size_ext _ _ | (simp; done) | (simp; omega)) _)))) (by with_reducible (repeat (first | exact hs.out | refine World.sl_ext Ctl.cells_length ?_ _ | refine sl_alloc Ctl.cells_length ?_ _ | refine sl_drew ?_)))).mono ?_; rintro e w1 ⟨rfl, d1, rfl⟩)
    refine (pairsOf_any 90 _ confF _ l _ (by with_reducible (repeat (first | exact hs.out | refine World.sl_ext Ctl.cells_length ?_ _ | refine sl_alloc Ctl.cells_length ?_ _ | refine sl_drew ?_))) hl10 (fun _ _ => by kernel_rfl) (fun a b ha hb d => ?hcl)).mono ?_
    case hcl => exact confC1_any a b _ (HCD.out a ha) (HCD.out b hb)
    rintro e w1 ⟨R, rfl, ⟨d2, rfl⟩, ho⟩
    rw [HCP.out] at ho
    have HO := Lib.hid ho
    clear ho
    go_wp2_with fail
    go_ret2
    exact ⟨_, rfl, (by repeat (first | with_reducible (first | exact World.gained_refl _ | exact ⟨_, rfl⟩ | apply gain_ext | apply gain_alloc | apply gain_drewN | apply gain_drew) | (refine gain_setCell ?_ (by first | exact Nat.le_refl _ | exact World.size_ext _ _ | (simp; done) | (simp; omega)) _))), own_base HO.out (gain_size (by repeat (first | with_reducible (first | exact World.gained_refl _ | exact ⟨_, rfl⟩ | apply gain_ext | apply gain_alloc | apply gain_drewN | apply gain_drew) | (refine gain_setCell ?_ (by first | exact Nat.le_refl _ | exact World.size_ext _ _ | (simp; done) | (simp; omega)) _))))⟩
set_option maxHeartbeats 2000000 in
theorem closeControls_any (m : Mp) (rv cv v : Value) (l : List Ctl) (dist : Int) (w : World) (hmp : w.mp rv cv m) (h : w.sl Ctl.cells 2 v l) (hl : l.length ≤ 1048576) :
    Calls Try.prog 31 #[.agg #[.int .i64 m.wd, .int .i64 m.ht, rv, cv], v, .int .i64 dist] w fun x w' => ∃ R, x = .returned (.tuple #[R, .bool (cloB m l dist)]) ∧ (∃ d, w' = w.ext d) ∧ w'.own w.heap.size 47 prC 2 R (cloL m l dist) := by
  have hm := Lib.hid hmp
  have hs := Lib.hid h
  obtain ⟨p1, c1, p2, c2, rfl, rfl⟩ := mp_form hmp
  obtain ⟨p, c, rfl, _⟩ := id h
  have HG := Lib.hid (fun W hM hL => areControls_any m (.slice p1 m.rise.length c1) (.slice p2 m.cost.length c2) (.slice p l.length c) l W hM hL hl)
  clear hmp h
  by_cases hB : ctlsB m l = true
  · rw [hB] at HG
    by_cases hd : dist < 0
    · have hdd : decide (dist < 0) = true := decide_eq_true hd
      have h0 : cloB m l dist = false := by simp [cloB, hd]
      rw [cloL_no h0, h0]
      clear h0 hB
      go_enter Try.func31, Try.ntmps31
      go_wp2_with (go_at_call 13; refine (HG.out _ (mp_up (hm.out) (by repeat (first | with_reducible (first | exact World.gained_refl _ | exact ⟨_, rfl⟩ | apply gain_ext | apply gain_alloc | apply gain_drewN | apply gain_drew) | (refine gain_setCell ?_ (by first | exact Nat.le_refl _ | exact World.size_ext _ _ | (simp; done) | (simp; omega)) _)))) (by with_reducible (repeat (first | exact hs.out | refine World.sl_ext Ctl.cells_length ?_ _ | refine sl_alloc Ctl.cells_length ?_ _ | refine sl_drew ?_)))).mono ?_; rintro e w1 ⟨rfl, d1, rfl⟩)
      go_ret2
      exact ⟨_, rfl, (by repeat (first | with_reducible (first | exact World.gained_refl _ | exact ⟨_, rfl⟩ | apply gain_ext | apply gain_alloc | apply gain_drewN | apply gain_drew) | (refine gain_setCell ?_ (by first | exact Nat.le_refl _ | exact World.size_ext _ _ | (simp; done) | (simp; omega)) _))), own_nil _ _ _ _ _⟩
    · have hdd : decide (dist < 0) = false := decide_eq_false hd
      have h0 : cloB m l dist = true := by simp only [cloB, hB, Bool.true_and, decide_eq_true_eq]; omega
      have hl10 := ctlsB_len hB
      have HCC := Lib.hid (ctls_cell hB)
      obtain ⟨W, H, hok⟩ := mapB_ok (ctlsB_map hB)
      have HOK := Lib.hid hok
      rw [cloL, if_pos h0, h0]
      clear h0 hB hok
      go_enter Try.func31, Try.ntmps31
      go_wp2_with fail
      refine (HG.out _ (mp_up (hm.out) (by repeat (first | with_reducible (first | exact World.gained_refl _ | exact ⟨_, rfl⟩ | apply gain_ext | apply gain_alloc | apply gain_drewN | apply gain_drew) | (refine gain_setCell ?_ (by first | exact Nat.le_refl _ | exact World.size_ext _ _ | (simp; done) | (simp; omega)) _)))) (by with_reducible (repeat (first | exact hs.out | refine World.sl_ext Ctl.cells_length ?_ _ | refine sl_alloc Ctl.cells_length ?_ _ | refine sl_drew ?_)))).mono ?_
      rintro e w1 ⟨rfl, d1, rfl⟩
      go_wp2_with fail
      refine (pairsOf_any 91 _ (nearF m dist) _ l _ (by with_reducible (repeat (first | exact hs.out | refine World.sl_ext Ctl.cells_length ?_ _ | refine sl_alloc Ctl.cells_length ?_ _ | refine sl_drew ?_))) hl10 (fun _ _ => by kernel_rfl) (fun a b ha hb d => ?hcl)).mono ?_
      case hcl =>
        refine closeC1_any m (.slice p1 m.rise.length c1) (.slice p2 m.cost.length c2) W H dist a b _ _ _ HOK.out (HCC.out a ha) (HCC.out b hb) ?_ ?_ ?_ ?_ ?_
        all_goals simp [go_sem]
      rintro e w1 ⟨R, rfl, ⟨d2, rfl⟩, ho⟩
      have HO := Lib.hid ho
      clear ho
      go_wp2_with fail
      go_ret2
      exact ⟨_, rfl, (by repeat (first | with_reducible (first | exact World.gained_refl _ | exact ⟨_, rfl⟩ | apply gain_ext | apply gain_alloc | apply gain_drewN | apply gain_drew) | (refine gain_setCell ?_ (by first | exact Nat.le_refl _ | exact World.size_ext _ _ | (simp; done) | (simp; omega)) _))), own_base HO.out (gain_size (by repeat (first | with_reducible (first | exact World.gained_refl _ | exact ⟨_, rfl⟩ | apply gain_ext | apply gain_alloc | apply gain_drewN | apply gain_drew) | (refine gain_setCell ?_ (by first | exact Nat.le_refl _ | exact World.size_ext _ _ | (simp; done) | (simp; omega)) _))))⟩
  · have hB : ctlsB m l = false := by simpa using hB
    have h0 : cloB m l dist = false := by simp [cloB, hB]
    rw [cloL_no h0, h0]
    rw [hB] at HG
    clear h0 hB
    go_enter Try.func31, Try.ntmps31
    go_wp2_with (go_at_call 13; refine (HG.out _ (mp_up (hm.out) (by repeat (first | with_reducible (first | exact World.gained_refl _ | exact ⟨_, rfl⟩ | apply gain_ext | apply gain_alloc | apply gain_drewN | apply gain_drew) | (refine gain_setCell ?_ (by first | exact Nat.le_refl _ | exact World.size_ext _ _ | (simp; done) | (simp; omega)) _)))) (by with_reducible (repeat (first | exact hs.out | refine World.sl_ext Ctl.cells_length ?_ _ | refine sl_alloc Ctl.cells_length ?_ _ | refine sl_drew ?_)))).mono ?_; rintro e w1 ⟨rfl, d1, rfl⟩)
    go_ret2
    exact ⟨_, rfl, (by repeat (first | with_reducible (first | exact World.gained_refl _ | exact ⟨_, rfl⟩ | apply gain_ext | apply gain_alloc | apply gain_drewN | apply gain_drew) | (refine gain_setCell ?_ (by first | exact Nat.le_refl _ | exact World.size_ext _ _ | (simp; done) | (simp; omega)) _))), own_nil _ _ _ _ _⟩
end Go.Proofs.Ytedpckkoaioooaa
