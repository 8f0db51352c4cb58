/- impl.OpenSums, spec.l11Open, spec.OpenSums. Condition: at most 1048576 runners (their strings too) and entries. -/
import Derived.Deep.RegionHeldLaw
import Derived.Test.YtohmefblkfophaaDueForX
import Derived.Test.YtohmefblkfophaaInfoInt
import Derived.Test.YtohmefblkfophaaHeld
namespace Go.Proofs.Ytohmefblkfophaa
open Go.RowKit Go.Ori
def openN (f : Fees) (rs : List Runner) (l : List Ent) (k : Nat) : List Int := (l.take k).map fun e => dueL f rs e - e.paid
theorem openN_zero (f : Fees) (rs : List Runner) (l : List Ent) : openN f rs l 0 = [] := by simp [openN]
theorem openN_succ {f : Fees} {rs : List Runner} {l : List Ent} {k : Nat} (h : k < l.length) : openN f rs l (k + 1) = openN f rs l k ++ [dueL f rs l[k] - l[k].paid] := by
  unfold openN
  rw [List.take_succ_eq_append_getElem h, List.map_append]
  rfl
theorem openN_length (f : Fees) (rs : List Runner) (l : List Ent) (k : Nat) : (openN f rs l k).length ≤ k := by
  simp [openN]; omega
def openB (f : Fees) (rs : List Runner) (l : List Ent) : Bool := feesB f.adult f.child f.rent f.late && runsB rs && entsB l && l.all fun e => hasId rs e.runner
def openL (f : Fees) (rs : List Runner) (l : List Ent) : List Int := if openB f rs l then openN f rs l l.length else []
theorem openL_length (f : Fees) (rs : List Runner) (l : List Ent) (h : l.length ≤ 1048576) : (openL f rs l).length ≤ 1048576 := by
  unfold openL
  split
  · exact Nat.le_trans (openN_length f rs l _) h
  · simp
theorem dueL_bd {f : Fees} (hf : FeesOk f) (rs : List Runner) (e : Ent) : 0 ≤ dueL f rs e ∧ dueL f rs e ≤ 60001 := by
  unfold dueL
  split
  · split
    · exact dueI_bd hf _ _
    · omega
  · omega
theorem open_no {f : Fees} {rs : List Runner} {l : List Ent} (h : openB f rs l = false) : openL f rs l = [] ∧ openB f rs l = false := by simp [openL, h]
theorem open_yes {f : Fees} {rs : List Runner} {l : List Ent} (h : openB f rs l = true) : openL f rs l = openN f rs l l.length ∧ openB f rs l = true := by simp [openL, h]
set_option maxHeartbeats 4000000 in
theorem openSums_any (f : Fees) (vr v : Value) (rs : List Runner) (l : List Ent) (w : World) (h : w.sl Runner.cells 6 vr rs) (hl : rs.length ≤ 1048576) (hq : ∀ x ∈ rs, Runner.small x) (h2 : w.sl Ent.cells 5 v l) (hl2 : l.length ≤ 1048576) :
    Calls Try.prog 43 #[.agg #[.int .i64 f.adult, .int .i64 f.child, .int .i64 f.rent, .int .i64 f.late], vr, v] w fun x w' => ∃ r, x = .returned (.tuple #[r, .bool (openB f rs l)]) ∧ (∃ d, w' = w.ext d) ∧ w'.own w.heap.size 3 intC 1 r (openL f rs l) := by
  have hsr := Lib.hid h
  have hsl := Lib.hid h2
  obtain ⟨pr, cr, rfl, _⟩ := h
  obtain ⟨p, c, rfl, _⟩ := h2
  cases hF : feesB f.adult f.child f.rent f.late with
  | false =>
    have HE := Lib.hid (open_no (f := f) (rs := rs) (l := l) (by simp [openB, hF]))
    go_enter Try.func43, Try.ntmps43
    go_wp2_with (first | (go_at_call 68; refine (areFees_any _ _ _ _ _).mono ?_; rintro e w1 ⟨rfl, d1, rfl⟩) | (go_at_call 69; refine (areRunners_any _ rs _ (by with_reducible (repeat (first | exact hsr.out | refine World.sl_ext Runner.cells_length ?_ _ | refine sl_alloc Runner.cells_length ?_ _ | refine sl_drew ?_))) hl hq).mono ?_; rintro e w1 ⟨rfl, d1, rfl⟩) | (go_at_call 16; refine (areEntries_any _ l _ (by with_reducible (repeat (first | exact hsl.out | refine World.sl_ext Ent.cells_length ?_ _ | refine sl_alloc Ent.cells_length ?_ _ | refine sl_drew ?_))) hl2).mono ?_; rintro e w1 ⟨rfl, d1, rfl⟩))
    go_ret2
    rw [HE.out.1, HE.out.2]
    exact ⟨_, rfl, (by repeat (first | with_reducible (first | exact World.gained_refl _ | exact ⟨_, rfl⟩ | apply gain_ext | apply gain_alloc | apply gain_drewN | apply gain_drew) | (refine gain_setCell ?_ (by first | exact Nat.le_refl _ | exact World.size_ext _ _ | (simp; done) | (simp; omega)) _))), own_nil _ _ _ _ _⟩
  | true =>
  cases hR : runsB rs with
  | false =>
    have HE := Lib.hid (open_no (f := f) (rs := rs) (l := l) (by simp [openB, hR]))
    go_enter Try.func43, Try.ntmps43
    go_wp2_with (first | (go_at_call 68; refine (areFees_any _ _ _ _ _).mono ?_; rintro e w1 ⟨rfl, d1, rfl⟩) | (go_at_call 69; refine (areRunners_any _ rs _ (by with_reducible (repeat (first | exact hsr.out | refine World.sl_ext Runner.cells_length ?_ _ | refine sl_alloc Runner.cells_length ?_ _ | refine sl_drew ?_))) hl hq).mono ?_; rintro e w1 ⟨rfl, d1, rfl⟩) | (go_at_call 16; refine (areEntries_any _ l _ (by with_reducible (repeat (first | exact hsl.out | refine World.sl_ext Ent.cells_length ?_ _ | refine sl_alloc Ent.cells_length ?_ _ | refine sl_drew ?_))) hl2).mono ?_; rintro e w1 ⟨rfl, d1, rfl⟩))
    go_ret2
    rw [HE.out.1, HE.out.2]
    exact ⟨_, rfl, (by repeat (first | with_reducible (first | exact World.gained_refl _ | exact ⟨_, rfl⟩ | apply gain_ext | apply gain_alloc | apply gain_drewN | apply gain_drew) | (refine gain_setCell ?_ (by first | exact Nat.le_refl _ | exact World.size_ext _ _ | (simp; done) | (simp; omega)) _))), own_nil _ _ _ _ _⟩
  | true =>
  cases hE : entsB l with
  | false =>
    have HE := Lib.hid (open_no (f := f) (rs := rs) (l := l) (by simp [openB, hE]))
    go_enter Try.func43, Try.ntmps43
    go_wp2_with (first | (go_at_call 68; refine (areFees_any _ _ _ _ _).mono ?_; rintro e w1 ⟨rfl, d1, rfl⟩) | (go_at_call 69; refine (areRunners_any _ rs _ (by with_reducible (repeat (first | exact hsr.out | refine World.sl_ext Runner.cells_length ?_ _ | refine sl_alloc Runner.cells_length ?_ _ | refine sl_drew ?_))) hl hq).mono ?_; rintro e w1 ⟨rfl, d1, rfl⟩) | (go_at_call 16; refine (areEntries_any _ l _ (by with_reducible (repeat (first | exact hsl.out | refine World.sl_ext Ent.cells_length ?_ _ | refine sl_alloc Ent.cells_length ?_ _ | refine sl_drew ?_))) hl2).mono ?_; rintro e w1 ⟨rfl, d1, rfl⟩))
    go_ret2
    rw [HE.out.1, HE.out.2]
    exact ⟨_, rfl, (by repeat (first | with_reducible (first | exact World.gained_refl _ | exact ⟨_, rfl⟩ | apply gain_ext | apply gain_alloc | apply gain_drewN | apply gain_drew) | (refine gain_setCell ?_ (by first | exact Nat.le_refl _ | exact World.size_ext _ _ | (simp; done) | (simp; omega)) _))), own_nil _ _ _ _ _⟩
  | true =>
    have hok := feesOk (f := f) hF
    have HB := Lib.hid (show openB f rs l = l.all fun e => hasId rs e.runner by simp [openB, hF, hR, hE])
    have HRS := Lib.hid hR
    have hll := entsB_len hE
    go_enter Try.func43, Try.ntmps43
    go_wp2_with (first | (go_at_call 68; refine (areFees_any _ _ _ _ _).mono ?_; rintro e w1 ⟨rfl, d1, rfl⟩) | (go_at_call 69; refine (areRunners_any _ rs _ (by with_reducible (repeat (first | exact hsr.out | refine World.sl_ext Runner.cells_length ?_ _ | refine sl_alloc Runner.cells_length ?_ _ | refine sl_drew ?_))) hl hq).mono ?_; rintro e w1 ⟨rfl, d1, rfl⟩) | (go_at_call 16; refine (areEntries_any _ l _ (by with_reducible (repeat (first | exact hsl.out | refine World.sl_ext Ent.cells_length ?_ _ | refine sl_alloc Ent.cells_length ?_ _ | refine sl_drew ?_))) hl2).mono ?_; rintro e w1 ⟨rfl, d1, rfl⟩))
    have HE := Lib.hid hE
    clear hF hR hE
    generalize hW : w.alloc (.cells #[.int .i64 f.adult, .int .i64 f.child, .int .i64 f.rent, .int .i64 f.late] 52) = W
    have hgW : ∃ d, W = w.ext d := by rw [← hW]; exact gain_alloc w.gained_refl _
    have r0 : W.cell? ⟨w.heap.size, 0, none⟩ = some (.int .i64 f.adult) := by rw [← hW]; simp [go_sem]
    have r1 : W.cell? ⟨w.heap.size, 1, none⟩ = some (.int .i64 f.child) := by rw [← hW]; simp [go_sem]
    have r2 : W.cell? ⟨w.heap.size, 2, none⟩ = some (.int .i64 f.rent) := by rw [← hW]; simp [go_sem]
    have r3 : W.cell? ⟨w.heap.size, 3, none⟩ = some (.int .i64 f.late) := by rw [← hW]; simp [go_sem]
    have obr := World.oldB_of_cell r0
    replace hsr := Lib.hid (sl_up Runner.cells_length hsr.out hgW)
    replace hsl := Lib.hid (sl_up Ent.cells_length hsl.out hgW)
    have HGW := Lib.hid hgW
    have HGS := Lib.hid (gain_size hgW)
    clear hW hgW
    go_loopw [8, 29] (fun o i wr => ∃ k : Nat, k ≤ l.length ∧ i = .int .i64 k ∧ (∀ (j : Nat) (hj : j < l.length), j < k → hasId rs l[j].runner = true) ∧ (∃ d, wr = W.ext d) ∧ wr.own W.heap.size 3 intC 1 o (openN f rs l k)) (fun _ i _ => l.length - (intOf i).toNat)
    case atStart => exact ⟨0, by omega, rfl, by simp, (by repeat (first | with_reducible (first | exact World.gained_refl _ | exact ⟨_, rfl⟩ | apply gain_ext | apply gain_alloc | apply gain_drewN | apply gain_drew) | (refine gain_setCell ?_ (by first | exact Nat.le_refl _ | exact World.size_ext _ _ | (simp; done) | (simp; omega)) _))), by rw [openN_zero]; exact own_lit' (l := ([] : List Int)) intC_length rfl rfl (gain_size (by repeat (first | with_reducible (first | exact World.gained_refl _ | exact ⟨_, rfl⟩ | apply gain_ext | apply gain_alloc | apply gain_drewN | apply gain_drew) | (refine gain_setCell ?_ (by first | exact Nat.le_refl _ | exact World.size_ext _ _ | (simp; done) | (simp; omega)) _))))⟩
    case round =>
      obtain ⟨k, hk, rfl, hno, ⟨d, rfl⟩, ho⟩ := hrel
      have HO := Lib.hid ho
      have HN := Lib.hid hno
      clear ho hno
      by_cases hlt : k < l.length
      · obtain ⟨b, o, rfl⟩ := sl_some hsl.out (by omega)
        have hck := fun j (hj : j < 5) => sl_cells hsl.out hlt hj
        have HS := Lib.hid (openN_succ (f := f) (rs := rs) hlt)
        have H1 := Lib.hid (fun (hf : hasId rs l[k].runner = false) => (show openB f rs l = false by rw [openB, List.all_eq_false.2 ⟨l[k], List.getElem_mem hlt, by simp [hf]⟩, Bool.and_false]))
        have H2 := Lib.hid (fun (hf : hasId rs l[k].runner = true) => (show ∀ (j : Nat) (hj : j < l.length), j < k + 1 → hasId rs l[j].runner = true from fun j hj hjk => by
          by_cases e : j = k
          · subst e; exact hf
          · exact HN.out j hj (by omega)))
        have hpd := entB_paid (entsB_at HE.out hlt)
        have c0 := hck 0 (by omega)
        have c1 := hck 1 (by omega)
        have c2 := hck 2 (by omega)
        have c3 := hck 3 (by omega)
        have c4 := hck 4 (by omega)
        generalize l[k] = e at c0 c1 c2 c3 c4 hck HS H1 H2 hpd
        clear hck
        simp only [Ent.cells, List.getElem?_cons_zero, List.getElem?_cons_succ, Nat.add_zero] at c0 c1 c2 c3 c4
        have ob := World.oldB_of_cell c0
        have hdb := dueL_bd hok rs e
        obtain ⟨hp1, hp2⟩ := hpd
        cases hh : hasId rs e.runner with
        | false =>
          have HE' := Lib.hid (open_no (H1.out hh))
          have HH := Lib.hid hh
          clear hh
          go_wp2_with fail
          refine (dueFor_any f _ rs e _ hok (by with_reducible (repeat (first | exact hsr.out | refine World.sl_ext Runner.cells_length ?_ _ | refine sl_alloc Runner.cells_length ?_ _ | refine sl_drew ?_))) hl HRS.out).mono ?_
          rintro e w1 ⟨rfl, d1, rfl⟩
          rw [HH.out]
          go_wp2
          go_ret2
          rw [HE'.out.1, HE'.out.2]
          exact ⟨_, rfl, gain_trans HGW.out (by repeat (first | with_reducible (first | exact World.gained_refl _ | exact ⟨_, rfl⟩ | apply gain_ext | apply gain_alloc | apply gain_drewN | apply gain_drew) | (refine gain_setCell ?_ (by first | exact Nat.le_refl _ | exact World.size_ext _ _ | (simp; done) | (simp; omega)) _))), own_nil _ _ _ _ _⟩
        | true =>
          have H2' := Lib.hid (H2.out hh)
          have HH := Lib.hid hh
          clear hh
          go_wp2_with fail
          refine (dueFor_any f _ rs e _ hok (by with_reducible (repeat (first | exact hsr.out | refine World.sl_ext Runner.cells_length ?_ _ | refine sl_alloc Runner.cells_length ?_ _ | refine sl_drew ?_))) hl HRS.out).mono ?_
          rintro e1 w1 ⟨rfl, d1, rfl⟩
          rw [HH.out]
          generalize dueL f rs e = D at hdb HS
          obtain ⟨hd1, hd2⟩ := hdb
          go_wp2_with (at_builtin; go_must (refine wpList_append_gain (m := [D - e.paid]) rfl (.tmp 42) (.tmp 47) rfl Try.underlying29 info_int (by rfl) (by omega) intC_length intC_one (by omega) (by repeat (first | with_reducible (first | exact World.gained_refl _ | exact ⟨_, rfl⟩ | apply gain_ext | apply gain_alloc | apply gain_drewN | apply gain_drew) | (refine gain_setCell ?_ (by first | exact Nat.le_refl _ | exact World.size_ext _ _ | (simp; done) | (simp; omega)) _))) (Nat.le_refl _) (gain_size (by repeat (first | with_reducible (first | exact World.gained_refl _ | exact ⟨_, rfl⟩ | apply gain_ext | apply gain_alloc | apply gain_drewN | apply gain_drew) | (refine gain_setCell ?_ (by first | exact Nat.le_refl _ | exact World.size_ext _ _ | (simp; done) | (simp; omega)) _)))) rfl rfl (own_up (HO.out) (by repeat (first | with_reducible (first | exact World.gained_refl _ | exact ⟨_, rfl⟩ | apply gain_ext | apply gain_alloc | apply gain_drewN | apply gain_drew) | (refine gain_setCell ?_ (by first | exact Nat.le_refl _ | exact World.size_ext _ _ | (simp; done) | (simp; omega)) _)))) (sl_lit (l := [D - e.paid]) intC_length rfl (by simp)) (by have := openN_length f rs l k; simp; omega) ?_); intro v' d' ho hg)
          go_roundw
          case rel => exact ⟨k + 1, by omega, by go_num, H2'.out, ⟨_, rfl⟩, by rw [HS.out]; exact ho⟩
          case measure => simp [intOf]; omega
      · have HE' := Lib.hid (open_yes (f := f) (rs := rs) (l := l) (by rw [HB.out, List.all_eq_true]; intro x hx; obtain ⟨j, hj, rfl⟩ := List.getElem_of_mem hx; exact HN.out j hj (by omega)))
        go_wp2
        go_ret2
        obtain rfl : k = l.length := by omega
        rw [HE'.out.1, HE'.out.2]
        exact ⟨_, rfl, gain_trans HGW.out ⟨_, rfl⟩, own_base HO.out HGS.out⟩
end Go.Proofs.Ytohmefblkfophaa
