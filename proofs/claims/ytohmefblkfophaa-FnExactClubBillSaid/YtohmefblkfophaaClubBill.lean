/- impl.ClubBill, spec.ClubBill. Condition: at most 1048576 runners (their strings too) and entries. -/
import Derived.Test.YtohmefblkfophaaL11Open
namespace Go.Proofs.Ytohmefblkfophaa
open Go.RowKit Go.Ori
def billAt (f : Fees) (rs : List Runner) (club : ByteArray) (e : Ent) : Int := match rs[atId rs e.runner]? with
  | some r => if r.club.toList == club.toList then dueL f rs e - e.paid else 0
  | none => 0
theorem billAt_eq {f : Fees} {rs : List Runner} {club : ByteArray} {e : Ent} {r : Runner} (h : rs[atId rs e.runner]? = some r) : billAt f rs club e = if r.club.toList == club.toList then dueL f rs e - e.paid else 0 := by
  simp [billAt, h]
def billN (f : Fees) (rs : List Runner) (club : ByteArray) (l : List Ent) : Nat → Int
  | 0 => 0
  | k + 1 => billN f rs club l k + (match l[k]? with | some e => billAt f rs club e | none => 0)
theorem billN_succ {f : Fees} {rs : List Runner} {club : ByteArray} {l : List Ent} {k : Nat} (h : k < l.length) : billN f rs club l (k + 1) = billN f rs club l k + billAt f rs club l[k] := by
  simp [billN, List.getElem?_eq_getElem h]
theorem billAt_bd {f : Fees} (hf : FeesOk f) (rs : List Runner) (club : ByteArray) {e : Ent} (he : entB e = true) : -100000 ≤ billAt f rs club e ∧ billAt f rs club e ≤ 100000 := by
  have h1 := dueL_bd hf rs e
  have h2 := entB_paid he
  unfold billAt
  split
  · split <;> omega
  · omega
theorem billN_bd {f : Fees} (hf : FeesOk f) (rs : List Runner) (club : ByteArray) {l : List Ent} (hl : entsB l = true) (k : Nat) (hk : k ≤ l.length) : -100000 * (k : Int) ≤ billN f rs club l k ∧ billN f rs club l k ≤ 100000 * (k : Int) := by
  induction k with
  | zero => simp [billN]
  | succ k ih =>
    have := ih (by omega)
    have h1 := billAt_bd hf rs club (entsB_at hl (k := k) (by omega))
    rw [billN_succ (by omega)]
    omega
def billI (f : Fees) (rs : List Runner) (club : ByteArray) (l : List Ent) : Int := if openB f rs l then billN f rs club l l.length else 0
theorem bill_no {f : Fees} {rs : List Runner} {club : ByteArray} {l : List Ent} (h : openB f rs l = false) : billI f rs club l = 0 ∧ openB f rs l = false := by simp [billI, h]
theorem bill_yes {f : Fees} {rs : List Runner} {club : ByteArray} {l : List Ent} (h : openB f rs l = true) : billI f rs club l = billN f rs club l l.length ∧ openB f rs l = true := by simp [billI, h]
theorem openB_true {f : Fees} {rs : List Runner} {l : List Ent} (h : openB f rs l = true) : FeesOk f ∧ runsB rs = true ∧ entsB l = true ∧ ∀ (k : Nat) (hk : k < l.length), hasId rs l[k].runner = true := by
  simp only [openB, Bool.and_eq_true, List.all_eq_true] at h
  exact ⟨feesOk (by simpa [feesB] using h.1.1.1), h.1.1.2, h.1.2, fun k hk => h.2 _ (List.getElem_mem hk)⟩
set_option maxHeartbeats 2000000 in
theorem clubBill_any (f : Fees) (vr v : Value) (rs : List Runner) (l : List Ent) (club : ByteArray) (w : World) (h : w.sl Runner.cells 6 vr rs) (hl : rs.length ≤ 1048576) (hq : ∀ x ∈ rs, Runner.small x) (h2 : w.sl Ent.cells 5 v l) (hl2 : l.length ≤ 1048576) :
    Calls Try.prog 46 #[.agg #[.int .i64 f.adult, .int .i64 f.child, .int .i64 f.rent, .int .i64 f.late], vr, v, .string club] w fun x w' => x = .returned (.tuple #[.int .i64 (billI f rs club l), .bool (openB f rs l)]) ∧ ∃ d, w' = w.ext d := by
  have hsr := Lib.hid h
  have hsl := Lib.hid h2
  obtain ⟨pr, cr, rfl, _⟩ := h
  obtain ⟨p, c, rfl, _⟩ := h2
  have HO := Lib.hid (fun W (hg : ∃ d, W = w.ext d) => openSums_any f _ _ rs l W (sl_up Runner.cells_length hsr.out hg) hl hq (sl_up Ent.cells_length hsl.out hg) hl2)
  cases hB : openB f rs l with
  | false =>
    have HE := Lib.hid (bill_no (club := club) hB)
    rw [hB] at HO
    clear hB
    go_enter Try.func46, Try.ntmps46
    go_wp2_with fail
    refine (HO.out _ (by repeat (first | with_reducible (first | exact World.gained_refl _ | exact ⟨_, rfl⟩ | apply gain_ext | apply gain_alloc | apply gain_drewN | apply gain_drew) | (refine gain_setCell ?_ (by first | exact Nat.le_refl _ | exact World.size_ext _ _ | (simp; done) | (simp; omega)) _)))).mono ?_
    rintro e w1 ⟨q, rfl, ⟨d1, rfl⟩, ho⟩
    clear ho
    go_wp2
    go_ret2
    rw [HE.out.1]
    exact ⟨rfl, (by repeat (first | with_reducible (first | exact World.gained_refl _ | exact ⟨_, rfl⟩ | apply gain_ext | apply gain_alloc | apply gain_drewN | apply gain_drew) | (refine gain_setCell ?_ (by first | exact Nat.le_refl _ | exact World.size_ext _ _ | (simp; done) | (simp; omega)) _)))⟩
  | true =>
    have HE := Lib.hid (bill_yes (club := club) hB)
    have HOL := Lib.hid (open_yes hB).1
    rw [hB] at HO
    obtain ⟨hok, hR, hEn, hall⟩ := openB_true hB
    have hll := entsB_len hEn
    have HALL := Lib.hid hall
    have HRS := Lib.hid hR
    have HEN := Lib.hid hEn
    clear hB hall hR hEn
    go_enter Try.func46, Try.ntmps46
    go_wp2_with fail
    refine (HO.out _ (by repeat (first | with_reducible (first | exact World.gained_refl _ | exact ⟨_, rfl⟩ | apply gain_ext | apply gain_alloc | apply gain_drewN | apply gain_drew) | (refine gain_setCell ?_ (by first | exact Nat.le_refl _ | exact World.size_ext _ _ | (simp; done) | (simp; omega)) _)))).mono ?_
    rintro e W ⟨q, rfl, hgq, ho⟩
    have hgW : ∃ d, W = w.ext d := gain_trans (by repeat (first | with_reducible (first | exact World.gained_refl _ | exact ⟨_, rfl⟩ | apply gain_ext | apply gain_alloc | apply gain_drewN | apply gain_drew) | (refine gain_setCell ?_ (by first | exact Nat.le_refl _ | exact World.size_ext _ _ | (simp; done) | (simp; omega)) _))) hgq
    replace hsr := Lib.hid (sl_up Runner.cells_length hsr.out hgW)
    replace hsl := Lib.hid (sl_up Ent.cells_length hsl.out hgW)
    have HGW := Lib.hid hgW
    have hsq := Lib.hid (sl_of_own intC_length ho)
    rw [HOL.out] at hsq
    have hol : (openN f rs l l.length).length = l.length := by simp [openN]
    obtain ⟨pq, cq, rfl, _⟩ := id hsq.out
    clear hgq hgW ho
    go_wp2
    go_loopw [12, 26] (fun s i wr => ∃ k : Nat, k ≤ l.length ∧ i = .int .i64 k ∧ s = .int .i64 (billN f rs club l k) ∧ ∃ d, wr = W.ext d) (fun _ i _ => l.length - (intOf i).toNat)
    case atStart => exact ⟨0, by omega, rfl, rfl, W.gained_refl⟩
    case round =>
      obtain ⟨k, hk, rfl, rfl, d, rfl⟩ := hrel
      by_cases hlt : k < l.length
      · obtain ⟨b, o, rfl⟩ := sl_some hsl.out (by omega)
        obtain ⟨b3, o3, rfl⟩ := sl_some hsq.out (by omega)
        have hck := fun j (hj : j < 5) => sl_cells hsl.out hlt hj
        have c9 := sl_int hsq.out (k := k) (by omega)
        have HS := Lib.hid (billN_succ (f := f) (rs := rs) (club := club) hlt)
        have hh := HALL.out k hlt
        have hbd := billN_bd hok rs club HEN.out k hk
        have hpd := entB_paid (entsB_at HEN.out hlt)
        have e9 : (openN f rs l l.length)[k]'(by omega) = dueL f rs l[k] - l[k].paid := by simp [openN]
        rw [e9] at c9
        have c0 := hck 0 (by omega)
        have c1 := hck 1 (by omega)
        have c2 := hck 2 (by omega)
        have c3 := hck 3 (by omega)
        have c4 := hck 4 (by omega)
        clear e9
        generalize l[k] = e at c0 c1 c2 c3 c4 c9 hck HS hh hpd
        clear hck
        simp only [Ent.cells, List.getElem?_cons_zero, List.getElem?_cons_succ, Nat.add_zero] at c0 c1 c2 c3 c4
        have ob := World.oldB_of_cell c0
        have ob9 := World.oldB_of_cell c9
        have hi := id_yes hh
        have hlt2 := atId_lt hh
        obtain ⟨b2, o2, rfl⟩ := sl_some hsr.out (by omega)
        have q2 := sl_cells hsr.out hlt2 (j := 2) (by omega)
        rw [billAt_eq (List.getElem?_eq_getElem hlt2)] at HS
        have hdb := dueL_bd hok rs e
        generalize rs[atId rs e.runner] = r at q2 HS
        simp only [Runner.cells, List.getElem?_cons_zero, List.getElem?_cons_succ, Nat.add_zero] at q2
        have ob2 := World.oldB_of_cell q2
        have HIX := Lib.hid (fun W' hW' => runnerIndex_any (.slice (some ⟨b2, o2, none⟩) rs.length cr) rs e.runner W' hW' hl)
        rw [hi] at HIX
        clear hi hh
        generalize atId rs e.runner = n at hlt2 q2 HIX
        generalize dueL f rs e = D at hdb HS c9
        obtain ⟨hd1, hd2⟩ := hdb
        obtain ⟨hp1, hp2⟩ := hpd
        obtain ⟨hb1, hb2⟩ := hbd
        have hol' : k < (openN f rs l l.length).length := by omega
        cases hcl : (r.club.toList == club.toList) with
        | true =>
          have HS' : Hid (billN f rs club l (k + 1) = billN f rs club l k + (D - e.paid)) := Lib.hid (by rw [HS.out, hcl]; rfl)
          generalize billN f rs club l k = B at hb1 hb2 HS'
          clear HS
          go_wp2_with fail
          refine (HIX.out _ (by with_reducible (repeat (first | exact hsr.out | refine World.sl_ext Runner.cells_length ?_ _ | refine sl_alloc Runner.cells_length ?_ _ | refine sl_drew ?_)))).mono ?_
          rintro e1 w1 ⟨rfl, d1, rfl⟩
          go_wp2
          go_roundw
          case rel => exact ⟨k + 1, by omega, by go_num, by rw [HS'.out], (by repeat (first | with_reducible (first | exact World.gained_refl _ | exact ⟨_, rfl⟩ | apply gain_ext | apply gain_alloc | apply gain_drewN | apply gain_drew) | (refine gain_setCell ?_ (by first | exact Nat.le_refl _ | exact World.size_ext _ _ | (simp; done) | (simp; omega)) _)))⟩
          case measure => simp [intOf]; omega
        | false =>
          have HS' : Hid (billN f rs club l (k + 1) = billN f rs club l k) := Lib.hid (by rw [HS.out, hcl]; simp)
          generalize billN f rs club l k = B at hb1 hb2 HS'
          clear HS
          go_wp2_with fail
          refine (HIX.out _ (by with_reducible (repeat (first | exact hsr.out | refine World.sl_ext Runner.cells_length ?_ _ | refine sl_alloc Runner.cells_length ?_ _ | refine sl_drew ?_)))).mono ?_
          rintro e1 w1 ⟨rfl, d1, rfl⟩
          go_wp2
          go_roundw
          case rel => exact ⟨k + 1, by omega, by go_num, by rw [HS'.out], (by repeat (first | with_reducible (first | exact World.gained_refl _ | exact ⟨_, rfl⟩ | apply gain_ext | apply gain_alloc | apply gain_drewN | apply gain_drew) | (refine gain_setCell ?_ (by first | exact Nat.le_refl _ | exact World.size_ext _ _ | (simp; done) | (simp; omega)) _)))⟩
          case measure => simp [intOf]; omega
      · go_wp2
        go_ret2
        obtain rfl : k = l.length := by omega
        rw [HE.out.1]
        exact ⟨rfl, gain_trans HGW.out (by repeat (first | with_reducible (first | exact World.gained_refl _ | exact ⟨_, rfl⟩ | apply gain_ext | apply gain_alloc | apply gain_drewN | apply gain_drew) | (refine gain_setCell ?_ (by first | exact Nat.le_refl _ | exact World.size_ext _ _ | (simp; done) | (simp; omega)) _)))⟩
set_option maxHeartbeats 2000000 in
theorem specClubBill_any (f : Fees) (vr v : Value) (rs : List Runner) (l : List Ent) (club : ByteArray) (w : World) (h : w.sl Runner.cells 6 vr rs) (hl : rs.length ≤ 1048576) (hq : ∀ x ∈ rs, Runner.small x) (h2 : w.sl Ent.cells 5 v l) (hl2 : l.length ≤ 1048576) :
    Calls Try.prog 45 #[.agg #[.int .i64 f.adult, .int .i64 f.child, .int .i64 f.rent, .int .i64 f.late], vr, v, .string club] w fun x w' => x = .returned (.tuple #[.int .i64 (billI f rs club l), .bool (openB f rs l)]) ∧ ∃ d, w' = w.ext d := by
  have hsr := Lib.hid h
  have hsl := Lib.hid h2
  obtain ⟨pr, cr, rfl, _⟩ := h
  obtain ⟨p, c, rfl, _⟩ := h2
  have HO := Lib.hid (fun W (hg : ∃ d, W = w.ext d) => l11Open_any f _ _ rs l W (sl_up Runner.cells_length hsr.out hg) hl hq (sl_up Ent.cells_length hsl.out hg) hl2)
  cases hB : openB f rs l with
  | false =>
    have HE := Lib.hid (bill_no (club := club) hB)
    rw [hB] at HO
    clear hB
    go_enter Try.func45, Try.ntmps45
    go_wp2_with fail
    refine (HO.out _ (by repeat (first | with_reducible (first | exact World.gained_refl _ | exact ⟨_, rfl⟩ | apply gain_ext | apply gain_alloc | apply gain_drewN | apply gain_drew) | (refine gain_setCell ?_ (by first | exact Nat.le_refl _ | exact World.size_ext _ _ | (simp; done) | (simp; omega)) _)))).mono ?_
    rintro e w1 ⟨q, rfl, ⟨d1, rfl⟩, ho⟩
    clear ho
    go_wp2
    go_ret2
    rw [HE.out.1]
    exact ⟨rfl, (by repeat (first | with_reducible (first | exact World.gained_refl _ | exact ⟨_, rfl⟩ | apply gain_ext | apply gain_alloc | apply gain_drewN | apply gain_drew) | (refine gain_setCell ?_ (by first | exact Nat.le_refl _ | exact World.size_ext _ _ | (simp; done) | (simp; omega)) _)))⟩
  | true =>
    have HE := Lib.hid (bill_yes (club := club) hB)
    have HOL := Lib.hid (open_yes hB).1
    rw [hB] at HO
    obtain ⟨hok, hR, hEn, hall⟩ := openB_true hB
    have hll := entsB_len hEn
    have HALL := Lib.hid hall
    have HRS := Lib.hid hR
    have HEN := Lib.hid hEn
    clear hB hall hR hEn
    go_enter Try.func45, Try.ntmps45
    go_wp2_with fail
    refine (HO.out _ (by repeat (first | with_reducible (first | exact World.gained_refl _ | exact ⟨_, rfl⟩ | apply gain_ext | apply gain_alloc | apply gain_drewN | apply gain_drew) | (refine gain_setCell ?_ (by first | exact Nat.le_refl _ | exact World.size_ext _ _ | (simp; done) | (simp; omega)) _)))).mono ?_
    rintro e W ⟨q, rfl, hgq, ho⟩
    have hgW : ∃ d, W = w.ext d := gain_trans (by repeat (first | with_reducible (first | exact World.gained_refl _ | exact ⟨_, rfl⟩ | apply gain_ext | apply gain_alloc | apply gain_drewN | apply gain_drew) | (refine gain_setCell ?_ (by first | exact Nat.le_refl _ | exact World.size_ext _ _ | (simp; done) | (simp; omega)) _))) hgq
    replace hsr := Lib.hid (sl_up Runner.cells_length hsr.out hgW)
    replace hsl := Lib.hid (sl_up Ent.cells_length hsl.out hgW)
    have HGW := Lib.hid hgW
    have hsq := Lib.hid (sl_of_own intC_length ho)
    rw [HOL.out] at hsq
    have hol : (openN f rs l l.length).length = l.length := by simp [openN]
    obtain ⟨pq, cq, rfl, _⟩ := id hsq.out
    clear hgq hgW ho
    go_wp2
    go_loopw [12, 13] (fun s i wr => ∃ k : Nat, k ≤ l.length ∧ i = .int .i64 k ∧ s = .int .i64 (billN f rs club l k) ∧ ∃ d, wr = W.ext d) (fun _ i _ => l.length - (intOf i).toNat)
    case atStart => exact ⟨0, by omega, rfl, rfl, W.gained_refl⟩
    case round =>
      obtain ⟨k, hk, rfl, rfl, d, rfl⟩ := hrel
      by_cases hlt : k < l.length
      · obtain ⟨b, o, rfl⟩ := sl_some hsl.out (by omega)
        obtain ⟨b3, o3, rfl⟩ := sl_some hsq.out (by omega)
        have hck := fun j (hj : j < 5) => sl_cells hsl.out hlt hj
        have c9 := sl_int hsq.out (k := k) (by omega)
        have HS := Lib.hid (billN_succ (f := f) (rs := rs) (club := club) hlt)
        have hh := HALL.out k hlt
        have hbd := billN_bd hok rs club HEN.out k hk
        have hpd := entB_paid (entsB_at HEN.out hlt)
        have e9 : (openN f rs l l.length)[k]'(by omega) = dueL f rs l[k] - l[k].paid := by simp [openN]
        rw [e9] at c9
        have c0 := hck 0 (by omega)
        have c1 := hck 1 (by omega)
        have c2 := hck 2 (by omega)
        have c3 := hck 3 (by omega)
        have c4 := hck 4 (by omega)
        clear e9
        generalize l[k] = e at c0 c1 c2 c3 c4 c9 hck HS hh hpd
        clear hck
        simp only [Ent.cells, List.getElem?_cons_zero, List.getElem?_cons_succ, Nat.add_zero] at c0 c1 c2 c3 c4
        have ob := World.oldB_of_cell c0
        have ob9 := World.oldB_of_cell c9
        have hi := id_yes hh
        have hlt2 := atId_lt hh
        obtain ⟨b2, o2, rfl⟩ := sl_some hsr.out (by omega)
        have q2 := sl_cells hsr.out hlt2 (j := 2) (by omega)
        rw [billAt_eq (List.getElem?_eq_getElem hlt2)] at HS
        have hdb := dueL_bd hok rs e
        generalize rs[atId rs e.runner] = r at q2 HS
        simp only [Runner.cells, List.getElem?_cons_zero, List.getElem?_cons_succ, Nat.add_zero] at q2
        have ob2 := World.oldB_of_cell q2
        have HIX := Lib.hid (fun W' hW' => l5Find_any (.slice (some ⟨b2, o2, none⟩) rs.length cr) rs e.runner W' hW' hl)
        rw [hi] at HIX
        clear hi hh
        generalize atId rs e.runner = n at hlt2 q2 HIX
        generalize dueL f rs e = D at hdb HS c9
        obtain ⟨hd1, hd2⟩ := hdb
        obtain ⟨hp1, hp2⟩ := hpd
        obtain ⟨hb1, hb2⟩ := hbd
        have hol' : k < (openN f rs l l.length).length := by omega
        cases hcl : (r.club.toList == club.toList) with
        | true =>
          have HS' : Hid (billN f rs club l (k + 1) = billN f rs club l k + (D - e.paid)) := Lib.hid (by rw [HS.out, hcl]; rfl)
          generalize billN f rs club l k = B at hb1 hb2 HS'
          clear HS
          go_wp2_with fail
          refine (HIX.out _ (by with_reducible (repeat (first | exact hsr.out | refine World.sl_ext Runner.cells_length ?_ _ | refine sl_alloc Runner.cells_length ?_ _ | refine sl_drew ?_)))).mono ?_
          rintro e1 w1 ⟨rfl, d1, rfl⟩
          go_wp2
          go_roundw
          case rel => exact ⟨k + 1, by omega, by go_num, by rw [HS'.out], (by repeat (first | with_reducible (first | exact World.gained_refl _ | exact ⟨_, rfl⟩ | apply gain_ext | apply gain_alloc | apply gain_drewN | apply gain_drew) | (refine gain_setCell ?_ (by first | exact Nat.le_refl _ | exact World.size_ext _ _ | (simp; done) | (simp; omega)) _)))⟩
          case measure => simp [intOf]; omega
        | false =>
          have HS' : Hid (billN f rs club l (k + 1) = billN f rs club l k) := Lib.hid (by rw [HS.out, hcl]; simp)
          generalize billN f rs club l k = B at hb1 hb2 HS'
          clear HS
          go_wp2_with fail
          refine (HIX.out _ (by with_reducible (repeat (first | exact hsr.out | refine World.sl_ext Runner.cells_length ?_ _ | refine sl_alloc Runner.cells_length ?_ _ | refine sl_drew ?_)))).mono ?_
          rintro e1 w1 ⟨rfl, d1, rfl⟩
          go_wp2
          go_roundw
          case rel => exact ⟨k + 1, by omega, by go_num, by rw [HS'.out], (by repeat (first | with_reducible (first | exact World.gained_refl _ | exact ⟨_, rfl⟩ | apply gain_ext | apply gain_alloc | apply gain_drewN | apply gain_drew) | (refine gain_setCell ?_ (by first | exact Nat.le_refl _ | exact World.size_ext _ _ | (simp; done) | (simp; omega)) _)))⟩
          case measure => simp [intOf]; omega
      · go_wp2
        go_ret2
        obtain rfl : k = l.length := by omega
        rw [HE.out.1]
        exact ⟨rfl, gain_trans HGW.out (by repeat (first | with_reducible (first | exact World.gained_refl _ | exact ⟨_, rfl⟩ | apply gain_ext | apply gain_alloc | apply gain_drewN | apply gain_drew) | (refine gain_setCell ?_ (by first | exact Nat.le_refl _ | exact World.size_ext _ _ | (simp; done) | (simp; omega)) _)))⟩
end Go.Proofs.Ytohmefblkfophaa
