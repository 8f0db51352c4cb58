/- spec.l11Open, spec.OpenSums. Condition: at most 1048576 runners (their strings too) and entries. -/
import Derived.Test.YtohmefblkfophaaOpenSums
namespace Go.Proofs.Ytohmefblkfophaa
open Go.RowKit Go.Ori
set_option maxHeartbeats 1000000 in
theorem l11Open_any (f : Fees) (vr v : Value) (rs : List Runner) (l : List Ent) (w : World) (h : w.sl Runner.cells 6 vr rs) (hl : rs.length ≤ 1048576) (hq : ∀ x ∈ rs, Runner.small x) (h2 : w.sl Ent.cells 5 v l) (hl2 : l.length ≤ 1048576) :
    Calls Try.prog 73 #[.agg #[.int .i64 f.adult, .int .i64 f.child, .int .i64 f.rent, .int .i64 f.late], vr, v] w fun x w' => ∃ r, x = .returned (.tuple #[r, .bool (openB f rs l)]) ∧ (∃ d, w' = w.ext d) ∧ w'.own w.heap.size 3 intC 1 r (openL f rs l) := by
  have hsr := Lib.hid h
  have hsl := Lib.hid h2
  obtain ⟨pr, cr, rfl, _⟩ := h
  obtain ⟨p, c, rfl, _⟩ := h2
  cases hF : feesB f.adult f.child f.rent f.late with
  | false =>
    have HE := Lib.hid (open_no (f := f) (rs := rs) (l := l) (by simp [openB, hF]))
    go_enter Try.func73, Try.ntmps73
    go_wp2_with (first | (go_at_call 63; refine (l11Fees_any _ _ _ _ _).mono ?_; rintro e w1 ⟨rfl, d1, rfl⟩) | (go_at_call 64; refine (l5Good_any _ rs _ (by with_reducible (repeat (first | exact hsr.out | refine World.sl_ext Runner.cells_length ?_ _ | refine sl_alloc Runner.cells_length ?_ _ | refine sl_drew ?_))) hl hq).mono ?_; rintro e w1 ⟨rfl, d1, rfl⟩) | (go_at_call 47; refine (l11Good_any _ l _ (by with_reducible (repeat (first | exact hsl.out | refine World.sl_ext Ent.cells_length ?_ _ | refine sl_alloc Ent.cells_length ?_ _ | refine sl_drew ?_))) hl2).mono ?_; rintro e w1 ⟨rfl, d1, rfl⟩))
    go_ret2
    rw [HE.out.1, HE.out.2]
    exact ⟨_, rfl, (by repeat (first | with_reducible (first | exact World.gained_refl _ | exact ⟨_, rfl⟩ | apply gain_ext | apply gain_alloc | apply gain_drewN | apply gain_drew) | (refine gain_setCell ?_ (by first | exact Nat.le_refl _ | exact World.size_ext _ _ | (simp; done) | (simp; omega)) _))), (own_up (own_lit' (l := ([] : List Int)) (base := w.heap.size) (w := w.alloc (.cells #[.int .i64 f.adult, .int .i64 f.child, .int .i64 f.rent, .int .i64 f.late] 52)) intC_length rfl (by rw [World.size_alloc]) (gain_size (by repeat (first | with_reducible (first | exact World.gained_refl _ | exact ⟨_, rfl⟩ | apply gain_ext | apply gain_alloc | apply gain_drewN | apply gain_drew) | (refine gain_setCell ?_ (by first | exact Nat.le_refl _ | exact World.size_ext _ _ | (simp; done) | (simp; omega)) _))))) (by repeat (first | with_reducible (first | exact World.gained_refl _ | exact ⟨_, rfl⟩ | apply gain_ext | apply gain_alloc | apply gain_drewN | apply gain_drew) | (refine gain_setCell ?_ (by first | exact Nat.le_refl _ | exact World.size_ext _ _ | (simp; done) | (simp; omega)) _))))⟩
  | true =>
  cases hR : runsB rs with
  | false =>
    have HE := Lib.hid (open_no (f := f) (rs := rs) (l := l) (by simp [openB, hR]))
    go_enter Try.func73, Try.ntmps73
    go_wp2_with (first | (go_at_call 63; refine (l11Fees_any _ _ _ _ _).mono ?_; rintro e w1 ⟨rfl, d1, rfl⟩) | (go_at_call 64; refine (l5Good_any _ rs _ (by with_reducible (repeat (first | exact hsr.out | refine World.sl_ext Runner.cells_length ?_ _ | refine sl_alloc Runner.cells_length ?_ _ | refine sl_drew ?_))) hl hq).mono ?_; rintro e w1 ⟨rfl, d1, rfl⟩) | (go_at_call 47; refine (l11Good_any _ l _ (by with_reducible (repeat (first | exact hsl.out | refine World.sl_ext Ent.cells_length ?_ _ | refine sl_alloc Ent.cells_length ?_ _ | refine sl_drew ?_))) hl2).mono ?_; rintro e w1 ⟨rfl, d1, rfl⟩))
    go_ret2
    rw [HE.out.1, HE.out.2]
    exact ⟨_, rfl, (by repeat (first | with_reducible (first | exact World.gained_refl _ | exact ⟨_, rfl⟩ | apply gain_ext | apply gain_alloc | apply gain_drewN | apply gain_drew) | (refine gain_setCell ?_ (by first | exact Nat.le_refl _ | exact World.size_ext _ _ | (simp; done) | (simp; omega)) _))), (own_up (own_lit' (l := ([] : List Int)) (base := w.heap.size) (w := w.alloc (.cells #[.int .i64 f.adult, .int .i64 f.child, .int .i64 f.rent, .int .i64 f.late] 52)) intC_length rfl (by rw [World.size_alloc]) (gain_size (by repeat (first | with_reducible (first | exact World.gained_refl _ | exact ⟨_, rfl⟩ | apply gain_ext | apply gain_alloc | apply gain_drewN | apply gain_drew) | (refine gain_setCell ?_ (by first | exact Nat.le_refl _ | exact World.size_ext _ _ | (simp; done) | (simp; omega)) _))))) (by repeat (first | with_reducible (first | exact World.gained_refl _ | exact ⟨_, rfl⟩ | apply gain_ext | apply gain_alloc | apply gain_drewN | apply gain_drew) | (refine gain_setCell ?_ (by first | exact Nat.le_refl _ | exact World.size_ext _ _ | (simp; done) | (simp; omega)) _))))⟩
  | true =>
  cases hE : entsB l with
  | false =>
    have HE := Lib.hid (open_no (f := f) (rs := rs) (l := l) (by simp [openB, hE]))
    go_enter Try.func73, Try.ntmps73
    go_wp2_with (first | (go_at_call 63; refine (l11Fees_any _ _ _ _ _).mono ?_; rintro e w1 ⟨rfl, d1, rfl⟩) | (go_at_call 64; refine (l5Good_any _ rs _ (by with_reducible (repeat (first | exact hsr.out | refine World.sl_ext Runner.cells_length ?_ _ | refine sl_alloc Runner.cells_length ?_ _ | refine sl_drew ?_))) hl hq).mono ?_; rintro e w1 ⟨rfl, d1, rfl⟩) | (go_at_call 47; refine (l11Good_any _ l _ (by with_reducible (repeat (first | exact hsl.out | refine World.sl_ext Ent.cells_length ?_ _ | refine sl_alloc Ent.cells_length ?_ _ | refine sl_drew ?_))) hl2).mono ?_; rintro e w1 ⟨rfl, d1, rfl⟩))
    go_ret2
    rw [HE.out.1, HE.out.2]
    exact ⟨_, rfl, (by repeat (first | with_reducible (first | exact World.gained_refl _ | exact ⟨_, rfl⟩ | apply gain_ext | apply gain_alloc | apply gain_drewN | apply gain_drew) | (refine gain_setCell ?_ (by first | exact Nat.le_refl _ | exact World.size_ext _ _ | (simp; done) | (simp; omega)) _))), (own_up (own_lit' (l := ([] : List Int)) (base := w.heap.size) (w := w.alloc (.cells #[.int .i64 f.adult, .int .i64 f.child, .int .i64 f.rent, .int .i64 f.late] 52)) intC_length rfl (by rw [World.size_alloc]) (gain_size (by repeat (first | with_reducible (first | exact World.gained_refl _ | exact ⟨_, rfl⟩ | apply gain_ext | apply gain_alloc | apply gain_drewN | apply gain_drew) | (refine gain_setCell ?_ (by first | exact Nat.le_refl _ | exact World.size_ext _ _ | (simp; done) | (simp; omega)) _))))) (by repeat (first | with_reducible (first | exact World.gained_refl _ | exact ⟨_, rfl⟩ | apply gain_ext | apply gain_alloc | apply gain_drewN | apply gain_drew) | (refine gain_setCell ?_ (by first | exact Nat.le_refl _ | exact World.size_ext _ _ | (simp; done) | (simp; omega)) _))))⟩
  | true =>
    have hok := feesOk (f := f) hF
    have HB := Lib.hid (show openB f rs l = l.all fun e => hasId rs e.runner by simp [openB, hF, hR, hE])
    have HRS := Lib.hid hR
    have hll := entsB_len hE
    go_enter Try.func73, Try.ntmps73
    go_wp2_with (first | (go_at_call 63; refine (l11Fees_any _ _ _ _ _).mono ?_; rintro e w1 ⟨rfl, d1, rfl⟩) | (go_at_call 64; refine (l5Good_any _ rs _ (by with_reducible (repeat (first | exact hsr.out | refine World.sl_ext Runner.cells_length ?_ _ | refine sl_alloc Runner.cells_length ?_ _ | refine sl_drew ?_))) hl hq).mono ?_; rintro e w1 ⟨rfl, d1, rfl⟩) | (go_at_call 47; refine (l11Good_any _ l _ (by with_reducible (repeat (first | exact hsl.out | refine World.sl_ext Ent.cells_length ?_ _ | refine sl_alloc Ent.cells_length ?_ _ | refine sl_drew ?_))) hl2).mono ?_; rintro e w1 ⟨rfl, d1, rfl⟩))
    have HE := Lib.hid hE
    clear hF hR hE
    generalize hW : w.alloc (.cells #[.int .i64 f.adult, .int .i64 f.child, .int .i64 f.rent, .int .i64 f.late] 52) = W
    have hgW : ∃ d, W = w.ext d := by rw [← hW]; exact gain_alloc w.gained_refl _
    have r0 : W.cell? ⟨w.heap.size, 0, none⟩ = some (.int .i64 f.adult) := by rw [← hW]; simp [go_sem]
    have r1 : W.cell? ⟨w.heap.size, 1, none⟩ = some (.int .i64 f.child) := by rw [← hW]; simp [go_sem]
    have r2 : W.cell? ⟨w.heap.size, 2, none⟩ = some (.int .i64 f.rent) := by rw [← hW]; simp [go_sem]
    have r3 : W.cell? ⟨w.heap.size, 3, none⟩ = some (.int .i64 f.late) := by rw [← hW]; simp [go_sem]
    have obr := World.oldB_of_cell r0
    replace hsr := Lib.hid (sl_up Runner.cells_length hsr.out hgW)
    replace hsl := Lib.hid (sl_up Ent.cells_length hsl.out hgW)
    have HGW := Lib.hid hgW
    have HGS := Lib.hid (gain_size hgW)
    have HSZ := Lib.hid (show W.heap.size = w.heap.size + 1 by rw [← hW, World.size_alloc])
    clear hW hgW
    go_loopw [8, 9] (fun o i wr => ∃ k : Nat, k ≤ l.length ∧ i = .int .i64 k ∧ (∀ (j : Nat) (hj : j < l.length), j < k → hasId rs l[j].runner = true) ∧ (∃ d, wr = W.ext d) ∧ wr.own W.heap.size 3 intC 1 o (openN f rs l k)) (fun _ i _ => l.length - (intOf i).toNat)
    case atStart => exact ⟨0, by omega, rfl, by simp, (by repeat (first | with_reducible (first | exact World.gained_refl _ | exact ⟨_, rfl⟩ | apply gain_ext | apply gain_alloc | apply gain_drewN | apply gain_drew) | (refine gain_setCell ?_ (by first | exact Nat.le_refl _ | exact World.size_ext _ _ | (simp; done) | (simp; omega)) _))), by rw [openN_zero]; exact own_up (own_lit' (l := ([] : List Int)) (base := W.heap.size) (w := W) intC_length rfl HSZ.out.symm (Nat.le_refl _)) (by repeat (first | with_reducible (first | exact World.gained_refl _ | exact ⟨_, rfl⟩ | apply gain_ext | apply gain_alloc | apply gain_drewN | apply gain_drew) | (refine gain_setCell ?_ (by first | exact Nat.le_refl _ | exact World.size_ext _ _ | (simp; done) | (simp; omega)) _)))⟩
    case round =>
      obtain ⟨k, hk, rfl, hno, ⟨d, rfl⟩, ho⟩ := hrel
      have HO := Lib.hid ho
      have HN := Lib.hid hno
      clear ho hno
      by_cases hlt : k < l.length
      · obtain ⟨b, o, rfl⟩ := sl_some hsl.out (by omega)
        have hck := fun j (hj : j < 5) => sl_cells hsl.out hlt hj
        have HS := Lib.hid (openN_succ (f := f) (rs := rs) hlt)
        have H1 := Lib.hid (fun (hf : hasId rs l[k].runner = false) => (show openB f rs l = false by rw [openB, List.all_eq_false.2 ⟨l[k], List.getElem_mem hlt, by simp [hf]⟩, Bool.and_false]))
        have H2 := Lib.hid (fun (hf : hasId rs l[k].runner = true) => (show ∀ (j : Nat) (hj : j < l.length), j < k + 1 → hasId rs l[j].runner = true from fun j hj hjk => by
          by_cases e : j = k
          · subst e; exact hf
          · exact HN.out j hj (by omega)))
        have hpd := entB_paid (entsB_at HE.out hlt)
        have c0 := hck 0 (by omega)
        have c1 := hck 1 (by omega)
        have c2 := hck 2 (by omega)
        have c3 := hck 3 (by omega)
        have c4 := hck 4 (by omega)
        generalize l[k] = e at c0 c1 c2 c3 c4 hck HS H1 H2 hpd
        clear hck
        simp only [Ent.cells, List.getElem?_cons_zero, List.getElem?_cons_succ, Nat.add_zero] at c0 c1 c2 c3 c4
        have ob := World.oldB_of_cell c0
        have hdb := dueL_bd hok rs e
        obtain ⟨hp1, hp2⟩ := hpd
        cases hh : hasId rs e.runner with
        | false =>
          have HE' := Lib.hid (open_no (H1.out hh))
          have hi := id_no hh
          clear hh
          go_wp2_with fail
          refine (l5Find_any _ rs e.runner _ (by with_reducible (repeat (first | exact hsr.out | refine World.sl_ext Runner.cells_length ?_ _ | refine sl_alloc Runner.cells_length ?_ _ | refine sl_drew ?_))) hl).mono ?_
          rintro e w1 ⟨rfl, d1, rfl⟩
          rw [hi]
          clear hi
          go_wp2
          go_ret2
          rw [HE'.out.1, HE'.out.2]
          exact ⟨_, rfl, gain_trans HGW.out (by repeat (first | with_reducible (first | exact World.gained_refl _ | exact ⟨_, rfl⟩ | apply gain_ext | apply gain_alloc | apply gain_drewN | apply gain_drew) | (refine gain_setCell ?_ (by first | exact Nat.le_refl _ | exact World.size_ext _ _ | (simp; done) | (simp; omega)) _))), own_lit' (l := ([] : List Int)) intC_length rfl rfl (Nat.le_trans HGS.out (gain_size (by repeat (first | with_reducible (first | exact World.gained_refl _ | exact ⟨_, rfl⟩ | apply gain_ext | apply gain_alloc | apply gain_drewN | apply gain_drew) | (refine gain_setCell ?_ (by first | exact Nat.le_refl _ | exact World.size_ext _ _ | (simp; done) | (simp; omega)) _)))))⟩
        | true =>
          have H2' := Lib.hid (H2.out hh)
          have hi := id_yes hh
          have hlt2 := atId_lt hh
          obtain ⟨b2, o2, rfl⟩ := sl_some hsr.out (by omega)
          have hck := fun j (hj : j < 6) => sl_cells hsr.out hlt2 hj
          have hbb := born_bd HRS.out hlt2
          have HD : Hid (dueL f rs e = dueI f rs[atId rs e.runner] e) := Lib.hid (by rw [dueL, List.getElem?_eq_getElem hlt2]; simp [hh])
          clear hh
          have q0 := hck 0 (by omega)
          have q1 := hck 1 (by omega)
          have q2 := hck 2 (by omega)
          have q3 := hck 3 (by omega)
          have q4 := hck 4 (by omega)
          have q5 := hck 5 (by omega)
          generalize rs[atId rs e.runner] = r at q0 q1 q2 q3 q4 q5 hck hbb HD
          clear hck
          simp only [Runner.cells, List.getElem?_cons_zero, List.getElem?_cons_succ, Nat.add_zero] at q0 q1 q2 q3 q4 q5
          have ob2 := World.oldB_of_cell q0
          go_wp2_with fail
          refine (l5Find_any _ rs e.runner _ (by with_reducible (repeat (first | exact hsr.out | refine World.sl_ext Runner.cells_length ?_ _ | refine sl_alloc Runner.cells_length ?_ _ | refine sl_drew ?_))) hl).mono ?_
          rintro e1 w1 ⟨rfl, d1, rfl⟩
          rw [hi]
          clear hi
          generalize atId rs e.runner = n at hlt2 q0 q1 q2 q3 q4 q5
          rw [HD.out] at hdb HS
          have HLD := Lib.hid (fun w => l11Due_any f r e w hok hbb)
          generalize dueI f r e = D at hdb HS HLD
          obtain ⟨hd1, hd2⟩ := hdb
          have HWR := Lib.hid (show IntKind.i64.wrap (D - e.paid) = D - e.paid by simp [IntKind.wrap, IntKind.bits, IntKind.signed]; omega)
          go_upto_region 10 with fail
          set_option maxRecDepth 20000 in go_region_held_law (fun w' => w'.cell? ⟨w.heap.size, 0, none⟩ = some (.int .i64 f.adult) ∧ w'.cell? ⟨w.heap.size, 1, none⟩ = some (.int .i64 f.child) ∧ w'.cell? ⟨w.heap.size, 2, none⟩ = some (.int .i64 f.rent) ∧ w'.cell? ⟨w.heap.size, 3, none⟩ = some (.int .i64 f.late) ∧ w'.cell? ⟨b, o + k * 5, none⟩ = some (.int .i64 e.runner) ∧ w'.cell? ⟨b, o + k * 5 + 1, none⟩ = some (.int .i64 e.cls) ∧ w'.cell? ⟨b, o + k * 5 + 2, none⟩ = some (.int .i64 e.day) ∧ w'.cell? ⟨b, o + k * 5 + 3, none⟩ = some (.bool e.rent) ∧ w'.cell? ⟨b, o + k * 5 + 4, none⟩ = some (.int .i64 e.paid) ∧ w'.cell? ⟨b2, o2 + n * 6, none⟩ = some (.int .i64 r.id) ∧ w'.cell? ⟨b2, o2 + n * 6 + 1, none⟩ = some (.string r.name) ∧ w'.cell? ⟨b2, o2 + n * 6 + 2, none⟩ = some (.string r.club) ∧ w'.cell? ⟨b2, o2 + n * 6 + 3, none⟩ = some (.int .i64 r.born) ∧ w'.cell? ⟨b2, o2 + n * 6 + 4, none⟩ = some (.bool r.woman) ∧ w'.cell? ⟨b2, o2 + n * 6 + 5, none⟩ = some (.int .i64 r.card)) (refine ⟨?_, ?_, ?_, ?_, ?_, ?_, ?_, ?_, ?_, ?_, ?_, ?_, ?_, ?_, ?_⟩ <;> (with_reducible (repeat (first | assumption | refine cell_ext ?_ _ | refine cell_drew ?_ | refine cell_alloc ?_ _)))) (first | (go_at_call 66; refine (HLD.out _).mono ?_; rintro e1 w1 ⟨rfl, d1, rfl⟩) | (refine step_append_gain (W := W) (base := W.heap.size) (l := openN f rs l k) (m := [D - e.paid]) rfl (.tmp 42) (.tmp 59) rfl Try.underlying29 info_int (by rfl) (by omega) intC_length intC_one (by omega) (by repeat (first | with_reducible (first | exact World.gained_refl _ | exact ⟨_, rfl⟩ | apply gain_ext | apply gain_alloc | apply gain_drewN | apply gain_drew) | (refine gain_setCell ?_ (by first | exact Nat.le_refl _ | exact World.size_ext _ _ | (simp; done) | (simp; omega)) _))) (Nat.le_refl _) (gain_size (by repeat (first | with_reducible (first | exact World.gained_refl _ | exact ⟨_, rfl⟩ | apply gain_ext | apply gain_alloc | apply gain_drewN | apply gain_drew) | (refine gain_setCell ?_ (by first | exact Nat.le_refl _ | exact World.size_ext _ _ | (simp; done) | (simp; omega)) _)))) rfl rfl (own_up (HO.out) (by repeat (first | with_reducible (first | exact World.gained_refl _ | exact ⟨_, rfl⟩ | apply gain_ext | apply gain_alloc | apply gain_drewN | apply gain_drew) | (refine gain_setCell ?_ (by first | exact Nat.le_refl _ | exact World.size_ext _ _ | (simp; done) | (simp; omega)) _)))) (sl_lit (l := [D - e.paid]) intC_length (by rw [HWR.out]; rfl) (by simp)) (by have := openN_length f rs l k; simp; omega) ?_; intro v' d' ho hg))
          go_wp2
          go_roundw
          case rel => exact ⟨k + 1, by omega, by go_num, H2'.out, ⟨_, rfl⟩, by rw [HS.out]; exact ho⟩
          case measure => simp [intOf]; omega
      · have HE' := Lib.hid (open_yes (f := f) (rs := rs) (l := l) (by rw [HB.out, List.all_eq_true]; intro x hx; obtain ⟨j, hj, rfl⟩ := List.getElem_of_mem hx; exact HN.out j hj (by omega)))
        go_wp2
        go_ret2
        obtain rfl : k = l.length := by omega
        rw [HE'.out.1, HE'.out.2]
        exact ⟨_, rfl, gain_trans HGW.out ⟨_, rfl⟩, own_base HO.out HGS.out⟩
theorem specOpenSums_any (f : Fees) (vr v : Value) (rs : List Runner) (l : List Ent) (w : World) (h : w.sl Runner.cells 6 vr rs) (hl : rs.length ≤ 1048576) (hq : ∀ x ∈ rs, Runner.small x) (h2 : w.sl Ent.cells 5 v l) (hl2 : l.length ≤ 1048576) :
    Calls Try.prog 42 #[.agg #[.int .i64 f.adult, .int .i64 f.child, .int .i64 f.rent, .int .i64 f.late], vr, v] w fun x w' => ∃ r, x = .returned (.tuple #[r, .bool (openB f rs l)]) ∧ (∃ d, w' = w.ext d) ∧ w'.own w.heap.size 3 intC 1 r (openL f rs l) := by
  have hsr := Lib.hid h
  have hsl := Lib.hid h2
  obtain ⟨pr, cr, rfl, _⟩ := h
  obtain ⟨p, c, rfl, _⟩ := h2
  go_enter Try.func42, Try.ntmps42
  go_wp2_with fail
  refine (l11Open_any f _ _ rs l _ (by with_reducible (repeat (first | exact hsr.out | refine World.sl_ext Runner.cells_length ?_ _ | refine sl_alloc Runner.cells_length ?_ _ | refine sl_drew ?_))) hl hq (by with_reducible (repeat (first | exact hsl.out | refine World.sl_ext Ent.cells_length ?_ _ | refine sl_alloc Ent.cells_length ?_ _ | refine sl_drew ?_))) hl2).mono ?_
  rintro e w1 ⟨q, rfl, ⟨d1, rfl⟩, ho⟩
  go_wp2
  go_ret2
  exact ⟨_, rfl, (by repeat (first | with_reducible (first | exact World.gained_refl _ | exact ⟨_, rfl⟩ | apply gain_ext | apply gain_alloc | apply gain_drewN | apply gain_drew) | (refine gain_setCell ?_ (by first | exact Nat.le_refl _ | exact World.size_ext _ _ | (simp; done) | (simp; omega)) _))), own_base ho (gain_size (by repeat (first | with_reducible (first | exact World.gained_refl _ | exact ⟨_, rfl⟩ | apply gain_ext | apply gain_alloc | apply gain_drewN | apply gain_drew) | (refine gain_setCell ?_ (by first | exact Nat.le_refl _ | exact World.size_ext _ _ | (simp; done) | (simp; omega)) _))))⟩
end Go.Proofs.Ytohmefblkfophaa
