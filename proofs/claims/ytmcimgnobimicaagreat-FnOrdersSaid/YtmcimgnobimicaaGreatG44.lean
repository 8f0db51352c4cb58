/- impl.bestRoute. Conditions: a valid map; two cells of it, with a route between them. -/
import Derived.Test.YtmcimgnobimicaaGreatG24
import Derived.Test.YtmcimgnobimicaaGreatG25
import Derived.Test.YtmcimgnobimicaaGreatG26
import Derived.Test.YtmcimgnobimicaaGreatG3
namespace Go.Ori
theorem find_at {α : Type} {l : List α} {p : α → Bool} {j : Nat} (hj : j < l.length) (h : ∀ (q : Nat) (hq : q < l.length), q < j → p l[q] = false) (hp : p l[j] = true) : l.find? p = some l[j] := by
  rw [List.find?_eq_some_iff_getElem]
  exact ⟨hp, j, hj, rfl, fun q hq => by simp [h q (by omega) hq]⟩
theorem route_len {m : Mp} {W H a b : Nat} (hm : MapOk m W H) (ha : a < m.cost.length) (hb : b < m.cost.length) (hi : timeB m a b < 1073741824) : (routeL m a b).length ≤ 1001 := by
  have h1 := (rest_chain hm hb _ a (Nat.le_refl _) ha hi).1
  have h2 := timeB_bd hm ha hb hi
  have : ((timesL m b).getD a 0).toNat ≤ 1000 := by
    have : (timesL m b).getD a 0 = timeB m a b := rfl
    omega
  rw [route_eq, List.length_cons]
  omega
end Go.Ori
namespace Go.Proofs.YtmcimgnobimicaaGreat
open Go.RowKit Go.Ori
set_option maxHeartbeats 4000000 in
theorem bestRoute_any (m : Mp) (rv cv : Value) (W H a b : Nat) (w : World) (hok : MapOk m W H) (h : w.mp rv cv m) (ha : a < m.cost.length) (hb : b < m.cost.length) (hi : timeB m a b < 1073741824) :
    Calls Tryz.prog 91 #[.agg #[.int .i64 m.wd, .int .i64 m.ht, rv, cv], .int .i64 a, .int .i64 b] w fun x w' => ∃ v', x = .returned v' ∧ (∃ d, w' = w.ext d) ∧ w'.own w.heap.size 3 intC 1 v' (natL (routeL m a b)) := by
  have HLEN := Lib.hid (route_len hok ha hb hi)
  have HTI := Lib.hid (times_inv hok hb)
  have HI : Hid ((timesL m b).getD a 0 < 1073741824) := Lib.hid hi
  have hm := Lib.hid h
  obtain ⟨b1, o1, c1, b2, o2, c2, hin⟩ := mp_in h hok
  have hn := hok.n36
  have HIN := Lib.hid hin
  have HK := Lib.hid hok
  obtain rfl := hin.rv
  obtain rfl := hin.cv
  have ob1 := hin.ob1
  have ob2 := hin.ob2
  clear h hin hok
  clear hi ob1 ob2
  go_enter Tryz.func91, Tryz.ntmps91
  go_wp2_with fail
  generalize hW0 : w.alloc (.cells #[.int .i64 m.wd, .int .i64 m.ht, .slice (some ⟨b1, o1, none⟩) m.cost.length c1, .slice (some ⟨b2, o2, none⟩) m.cost.length c2] 26) = W0
  have hbx : MBox w W0 w.heap.size m (.slice (some ⟨b1, o1, none⟩) m.cost.length c1) (.slice (some ⟨b2, o2, none⟩) m.cost.length c2) := by rw [← hW0]; exact mbox
  have HG := Lib.hid hbx.up
  have bx0 := hbx.c0
  have bx1 := hbx.c1
  have bx2 := hbx.c2
  have bx3 := hbx.c3
  have HM0 := Lib.hid (mp_up hm.out HG.out)
  clear hW0 hbx
  refine (timesTo_any m _ _ W H b _ HK.out HM0.out hb).mono ?_
  rintro e w1 ⟨tv, rfl, ⟨d1, rfl⟩, htv⟩
  obtain ⟨tg, tcap, rfl, _, _⟩ := own_addr htv (by rw [HTI.out.len]; omega)
  rw [HTI.out.len] at htv ⊢
  have HTV := Lib.hid (sl_of_own intC_length htv)
  have HOT := Lib.hid htv
  clear htv
  generalize hW2 : W0.ext d1 = W2 at HTV HOT ⊢
  have HG2 := Lib.hid (gain_trans HG.out ⟨_, hW2.symm⟩)
  have HM2 := Lib.hid (mp_up hm.out HG2.out)
  have hsz2 := gain_size HG2.out
  have y0 := cell_up bx0 ⟨_, hW2.symm⟩
  have y1 := cell_up bx1 ⟨_, hW2.symm⟩
  have y2 := cell_up bx2 ⟨_, hW2.symm⟩
  have y3 := cell_up bx3 ⟨_, hW2.symm⟩
  have oby := World.oldB_of_cell y0
  clear hW2 bx0 bx1 bx2 bx3 HG HM0 hm
  go_wp2_with fail
  go_loopw [1, 8] (fun av ov wr => ∃ (c : Nat) (D : List Nat), av = .int .i64 c ∧ c < m.cost.length ∧ (timesL m b).getD c 0 < 1073741824 ∧ D ++ restR m c b = routeL m a b ∧ (∃ d, wr = W2.ext d) ∧ wr.own W2.heap.size 3 intC 1 ov (natL D)) (fun av _ _ => ((timesL m b).getD (intOf av).toNat 0).toNat)
  case atStart => exact ⟨a, [a], rfl, ha, HI.out, rfl, (by repeat (first | with_reducible (first | exact World.gained_refl _ | exact ⟨_, rfl⟩ | apply gain_ext | apply gain_alloc | apply gain_drewN | apply gain_drew) | (refine gain_setCell ?_ (by first | exact Nat.le_refl _ | exact World.size_ext _ _ | (simp; done) | (simp; omega)) _))), own_lit' (l := [(a : Int)]) intC_length rfl rfl (gain_size (by repeat (first | with_reducible (first | exact World.gained_refl _ | exact ⟨_, rfl⟩ | apply gain_ext | apply gain_alloc | apply gain_drewN | apply gain_drew) | (refine gain_setCell ?_ (by first | exact Nat.le_refl _ | exact World.size_ext _ _ | (simp; done) | (simp; omega)) _))))⟩
  case round =>
    obtain ⟨c, D, rfl, hc, hci, hD, ⟨d, rfl⟩, ho⟩ := hrel
    have HO := Lib.hid ho
    have HD := Lib.hid hD
    have HCI := Lib.hid hci
    clear ho hD hci
    by_cases hcb : c = b
    · have HE := Lib.hid (show D = routeL m a b by rw [← HD.out, hcb, rest_end, List.append_nil])
      have hcbb : ((c : Int) != (b : Int)) = false := by simp [hcb]
      clear hcb
      go_wp2
      go_ret
      rw [← HE.out]
      exact ⟨_, rfl, gain_trans HG2.out ⟨_, rfl⟩, own_base HO.out hsz2⟩
    · have hcbb : ((c : Int) != (b : Int)) = true := by simp; omega
      have HHOP := Lib.hid (hop_ok HK.out hb hc hcb HCI.out)
      have HRS := Lib.hid (rest_step HK.out hb hc hcb HCI.out)
      clear hcb
      go_wp2_with fail
      have HKS := Lib.hid (fun k (hk : k ∈ nextL m c) => next_lt k hk)
      have hkl : (nextL m c).length ≤ 36 := Nat.le_trans (nextTo_len m c m.cost.length) hn
      obtain ⟨tc, _⟩ := own_at HOT.out (k := c) (by rw [HTI.out.len]; exact hc)
      have hc0 := HTI.out.lo c
      have hc1 := HTI.out.hi c
      have obt := World.oldB_of_cell tc
      refine (cellsNextTo_any m _ _ W H c _ HK.out (mp_up (HM2.out) (by repeat (first | with_reducible (first | exact World.gained_refl _ | exact ⟨_, rfl⟩ | apply gain_ext | apply gain_alloc | apply gain_drewN | apply gain_drew) | (refine gain_setCell ?_ (by first | exact Nat.le_refl _ | exact World.size_ext _ _ | (simp; done) | (simp; omega)) _)))) hc).mono ?_
      rintro e w1 ⟨v, rfl, ⟨d2, rfl⟩, hv⟩
      have HFD := Lib.hid HHOP.out.1
      have HON := Lib.hid (fun k (hk : onB m b c k = true) => (by simpa only [onB, decide_eq_true_eq] using hk : (timesL m b).getD k 0 + stepZ m c k = (timesL m b).getD c 0))
      have HOF := Lib.hid (fun k (hk : onB m b c k = false) => (by simpa only [onB, decide_eq_false_iff_not] using hk : ¬ (timesL m b).getD k 0 + stepZ m c k = (timesL m b).getD c 0))
      generalize nextL m c = ks at hv HKS hkl HFD
      obtain ⟨p3, c3, hv3, _⟩ := id (sl_of_own intC_length hv)
      rw [natL_length] at hv3
      subst hv3
      have HV := Lib.hid (sl_of_own intC_length hv)
      clear hv
      go_wp2_with fail
      go_loopw [1, 23] (fun av i wr => ∃ j : Nat, j ≤ ks.length ∧ i = .int .i64 j ∧ av = .int .i64 c ∧ (∀ (q : Nat) (hq : q < ks.length), q < j → onB m b c ks[q] = false) ∧ ∃ d', wr = ((W2.ext d).ext d2).ext d') (fun _ i _ => ks.length - (intOf i).toNat)
      case atStart => exact ⟨0, by omega, rfl, rfl, by simp, (by repeat (first | with_reducible (first | exact World.gained_refl _ | exact ⟨_, rfl⟩ | apply gain_ext | apply gain_alloc | apply gain_drewN | apply gain_drew) | (refine gain_setCell ?_ (by first | exact Nat.le_refl _ | exact World.size_ext _ _ | (simp; done) | (simp; omega)) _)))⟩
      case round =>
        obtain ⟨j, hj, rfl, rfl, hno, ⟨d3, rfl⟩⟩ := hrel
        have HNO := Lib.hid hno
        clear hno
        by_cases hlj : j < ks.length
        · obtain ⟨b3, o3, rfl⟩ := sl_some HV.out (by rw [natL_length]; omega)
          have ck := sl_int HV.out (k := j) (by rw [natL_length]; exact hlj)
          rw [natL_get] at ck
          have hkn := HKS.out ks[j] (List.getElem_mem hlj)
          have HFE := Lib.hid (fun (hp : onB m b c ks[j] = true) => (show hopN m b c = ks[j] from by
            have h1 := find_at hlj HNO.out hp
            rw [HFD.out] at h1
            exact Option.some.inj h1))
          have HNX := Lib.hid (fun (hp : onB m b c ks[j] = false) => (show ∀ (q : Nat) (hq : q < ks.length), q < j + 1 → onB m b c ks[q] = false from fun q hq hqj => by
            by_cases e : q = j
            · subst e; exact hp
            · exact HNO.out q hq (by omega)))
          generalize ks[j] = k at ck hkn HFE HNX
          obtain ⟨tk, _⟩ := own_at HOT.out (k := k) (by rw [HTI.out.len]; exact hkn)
          have hk0 := HTI.out.lo k
          have hk1 := HTI.out.hi k
          have obk := World.oldB_of_cell ck
          obtain ⟨_, hs0, hs1⟩ := stepZ_le HK.out c k
          have HST := Lib.hid (fun w' hw' => stepTime_any m (.slice (some ⟨b1, o1, none⟩) m.cost.length c1) (.slice (some ⟨b2, o2, none⟩) m.cost.length c2) W H c k w' HK.out hw' hc hkn)
          cases hon : onB m b c k with
          | true =>
            have hE := HON.out k hon
            have hhop := HFE.out hon
            have hless := HHOP.out.2.2.2
            rw [hhop] at hless
            have HR := Lib.hid (show (D ++ [k]) ++ restR m k b = routeL m a b by rw [← HD.out, HRS.out, hhop]; simp)
            have hsm : (timesL m b).getD k 0 < 1073741824 := by have := HCI.out; omega
            have HLES := Lib.hid hless
            have HSM := Lib.hid hsm
            have HLD := Lib.hid (show (natL D).length + 1 ≤ 2097152 by
              rw [natL_length]
              have h1 := HLEN.out
              rw [← HD.out, List.length_append] at h1
              omega)
            generalize (timesL m b).getD k 0 = lk at tk hk0 hk1 hE
            generalize (timesL m b).getD c 0 = lc at tc hc0 hc1 hE
            generalize stepZ m c k = st at HST hs0 hs1 hE
            have hEb : (lk + st == lc) = true := by simpa using hE
            clear hE hhop hless hsm hon HFE HNX
            go_wp2
            refine wp_region_gain (by kernel_rfl) (by kernel_rfl) ?_
            repeat (first | go_big_quiet_skip | (go_big_quiet_want; go_big_quiet_op; first | go_big_quiet_on | ((apply Exists.intro); (refine ⟨fun _ => ?_, ?_⟩); (· (go_at_call 82; exact Calls.gain (HST.out _ (mp_up (HM2.out) (by repeat (first | with_reducible (first | exact World.gained_refl _ | exact ⟨_, rfl⟩ | apply gain_ext | apply gain_alloc | apply gain_drewN | apply gain_drew) | (refine gain_setCell ?_ (by first | exact Nat.le_refl _ | exact World.size_ext _ _ | (simp; done) | (simp; omega)) _))))))); (go_big_quiet_on))))
            refine wpQuiet_nil ?_
            rintro _ ⟨d', rfl⟩
            go_wp2_with (at_builtin; go_must (refine wpList_append_gain (m := [(k : Int)]) rfl (.tmp 43) (.tmp 45) rfl Tryz.underlying24 info_int (by rfl) (by omega) intC_length intC_one (by omega) (by repeat (first | with_reducible (first | exact World.gained_refl _ | exact ⟨_, rfl⟩ | apply gain_ext | apply gain_alloc | apply gain_drewN | apply gain_drew) | (refine gain_setCell ?_ (by first | exact Nat.le_refl _ | exact World.size_ext _ _ | (simp; done) | (simp; omega)) _))) (Nat.le_refl _) (gain_size (by repeat (first | with_reducible (first | exact World.gained_refl _ | exact ⟨_, rfl⟩ | apply gain_ext | apply gain_alloc | apply gain_drewN | apply gain_drew) | (refine gain_setCell ?_ (by first | exact Nat.le_refl _ | exact World.size_ext _ _ | (simp; done) | (simp; omega)) _)))) rfl rfl (own_up (HO.out) (by repeat (first | with_reducible (first | exact World.gained_refl _ | exact ⟨_, rfl⟩ | apply gain_ext | apply gain_alloc | apply gain_drewN | apply gain_drew) | (refine gain_setCell ?_ (by first | exact Nat.le_refl _ | exact World.size_ext _ _ | (simp; done) | (simp; omega)) _)))) (sl_lit (l := [(k : Int)]) intC_length rfl (by simp)) (by simp only [List.length_singleton]; exact HLD.out) ?_); intro v' d' ho hg)
            go_roundw
            case rel => exact ⟨k, D ++ [k], rfl, hkn, HSM.out, HR.out, ⟨_, rfl⟩, by rw [natL_app]; exact ho⟩
            case measure =>
              have h1 := HLES.out
              have h2 := HTI.out.lo k
              simp only [intOf, Int.toNat_natCast]
              omega
          | false =>
            have hE := HOF.out k hon
            have HNX' := Lib.hid (HNX.out hon)
            generalize (timesL m b).getD k 0 = lk at tk hk0 hk1 hE
            generalize (timesL m b).getD c 0 = lc at tc hc0 hc1 hE
            generalize stepZ m c k = st at HST hs0 hs1 hE
            have hEb : (lk + st == lc) = false := by simpa using hE
            clear hE hon HFE HNX
            go_wp2
            refine wp_region_gain (by kernel_rfl) (by kernel_rfl) ?_
            repeat (first | go_big_quiet_skip | (go_big_quiet_want; go_big_quiet_op; first | go_big_quiet_on | ((apply Exists.intro); (refine ⟨fun _ => ?_, ?_⟩); (· (go_at_call 82; exact Calls.gain (HST.out _ (mp_up (HM2.out) (by repeat (first | with_reducible (first | exact World.gained_refl _ | exact ⟨_, rfl⟩ | apply gain_ext | apply gain_alloc | apply gain_drewN | apply gain_drew) | (refine gain_setCell ?_ (by first | exact Nat.le_refl _ | exact World.size_ext _ _ | (simp; done) | (simp; omega)) _))))))); (go_big_quiet_on))))
            refine wpQuiet_nil ?_
            rintro _ ⟨d', rfl⟩
            go_wp2
            go_roundw
            case rel => exact ⟨j + 1, by omega, by go_num, rfl, HNX'.out, (by repeat (first | with_reducible (first | exact World.gained_refl _ | exact ⟨_, rfl⟩ | apply gain_ext | apply gain_alloc | apply gain_drewN | apply gain_drew) | (refine gain_setCell ?_ (by first | exact Nat.le_refl _ | exact World.size_ext _ _ | (simp; done) | (simp; omega)) _)))⟩
            case measure => simp [intOf]; omega
        · exfalso
          have h1 := List.find?_eq_none.2 (fun x hx => by
            obtain ⟨q, hq, rfl⟩ := List.getElem_of_mem hx
            have := HNO.out q hq (by omega)
            simp [this] : ∀ x ∈ ks, ¬ onB m b c x = true)
          rw [HFD.out] at h1
          cases h1
set_option maxHeartbeats 4000000 in
theorem l4Best_any (m : Mp) (rv cv : Value) (W H a b : Nat) (w : World) (hok : MapOk m W H) (h : w.mp rv cv m) (ha : a < m.cost.length) (hb : b < m.cost.length) (hi : timeB m a b < 1073741824) :
    Calls Tryz.prog 92 #[.agg #[.int .i64 m.wd, .int .i64 m.ht, rv, cv], .int .i64 a, .int .i64 b] w fun x w' => ∃ v', x = .returned v' ∧ (∃ d, w' = w.ext d) ∧ w'.own w.heap.size 3 intC 1 v' (natL (routeL m a b)) := by
  have HLEN := Lib.hid (route_len hok ha hb hi)
  have HTI := Lib.hid (times_inv hok hb)
  have HI : Hid ((timesL m b).getD a 0 < 1073741824) := Lib.hid hi
  have hm := Lib.hid h
  obtain ⟨b1, o1, c1, b2, o2, c2, hin⟩ := mp_in h hok
  have hn := hok.n36
  have HIN := Lib.hid hin
  have HK := Lib.hid hok
  obtain rfl := hin.rv
  obtain rfl := hin.cv
  have ob1 := hin.ob1
  have ob2 := hin.ob2
  clear h hin hok
  clear hi ob1 ob2
  go_enter Tryz.func92, Tryz.ntmps92
  go_wp2_with fail
  generalize hW0 : w.alloc (.cells #[.int .i64 m.wd, .int .i64 m.ht, .slice (some ⟨b1, o1, none⟩) m.cost.length c1, .slice (some ⟨b2, o2, none⟩) m.cost.length c2] 26) = W0
  have hbx : MBox w W0 w.heap.size m (.slice (some ⟨b1, o1, none⟩) m.cost.length c1) (.slice (some ⟨b2, o2, none⟩) m.cost.length c2) := by rw [← hW0]; exact mbox
  have HG := Lib.hid hbx.up
  have bx0 := hbx.c0
  have bx1 := hbx.c1
  have bx2 := hbx.c2
  have bx3 := hbx.c3
  have HM0 := Lib.hid (mp_up hm.out HG.out)
  clear hW0 hbx
  refine (l4To_any m _ _ W H b _ HK.out HM0.out hb).mono ?_
  rintro e w1 ⟨tv, rfl, ⟨d1, rfl⟩, htv⟩
  obtain ⟨tg, tcap, rfl, _, _⟩ := own_addr htv (by rw [sE_length, HTI.out.len]; omega)
  rw [sE_length, HTI.out.len] at htv ⊢
  have HTV := Lib.hid (sl_of_own intC_length htv)
  have HOT := Lib.hid htv
  clear htv
  generalize hW2 : W0.ext d1 = W2 at HTV HOT ⊢
  have HG2 := Lib.hid (gain_trans HG.out ⟨_, hW2.symm⟩)
  have HM2 := Lib.hid (mp_up hm.out HG2.out)
  have hsz2 := gain_size HG2.out
  have y0 := cell_up bx0 ⟨_, hW2.symm⟩
  have y1 := cell_up bx1 ⟨_, hW2.symm⟩
  have y2 := cell_up bx2 ⟨_, hW2.symm⟩
  have y3 := cell_up bx3 ⟨_, hW2.symm⟩
  have oby := World.oldB_of_cell y0
  clear hW2 bx0 bx1 bx2 bx3 HG HM0 hm
  go_wp2_with fail
  go_loopw [8, 9] (fun ov av wr => ∃ (c : Nat) (D : List Nat), av = .int .i64 c ∧ c < m.cost.length ∧ (timesL m b).getD c 0 < 1073741824 ∧ D ++ restR m c b = routeL m a b ∧ (∃ d, wr = W2.ext d) ∧ wr.own W2.heap.size 3 intC 1 ov (natL D)) (fun _ av _ => ((timesL m b).getD (intOf av).toNat 0).toNat)
  case atStart => exact ⟨a, [a], rfl, ha, HI.out, rfl, (by repeat (first | with_reducible (first | exact World.gained_refl _ | exact ⟨_, rfl⟩ | apply gain_ext | apply gain_alloc | apply gain_drewN | apply gain_drew) | (refine gain_setCell ?_ (by first | exact Nat.le_refl _ | exact World.size_ext _ _ | (simp; done) | (simp; omega)) _))), own_lit' (l := [(a : Int)]) intC_length rfl rfl (gain_size (by repeat (first | with_reducible (first | exact World.gained_refl _ | exact ⟨_, rfl⟩ | apply gain_ext | apply gain_alloc | apply gain_drewN | apply gain_drew) | (refine gain_setCell ?_ (by first | exact Nat.le_refl _ | exact World.size_ext _ _ | (simp; done) | (simp; omega)) _))))⟩
  case round =>
    obtain ⟨c, D, rfl, hc, hci, hD, ⟨d, rfl⟩, ho⟩ := hrel
    have HO := Lib.hid ho
    have HD := Lib.hid hD
    have HCI := Lib.hid hci
    clear ho hD hci
    by_cases hcb : c = b
    · have HE := Lib.hid (show D = routeL m a b by rw [← HD.out, hcb, rest_end, List.append_nil])
      have hcbb : ((c : Int) != (b : Int)) = false := by simp [hcb]
      clear hcb
      go_wp2
      go_ret
      rw [← HE.out]
      exact ⟨_, rfl, gain_trans HG2.out ⟨_, rfl⟩, own_base HO.out hsz2⟩
    · have hcbb : ((c : Int) != (b : Int)) = true := by simp; omega
      have HHOP := Lib.hid (hop_ok HK.out hb hc hcb HCI.out)
      have HRS := Lib.hid (rest_step HK.out hb hc hcb HCI.out)
      clear hcb
      go_wp2_with fail
      have HKS := Lib.hid (fun k (hk : k ∈ nextL m c) => next_lt k hk)
      have hkl : (nextL m c).length ≤ 36 := Nat.le_trans (nextTo_len m c m.cost.length) hn
      obtain ⟨tc, _⟩ := own_at HOT.out (k := c) (by rw [sE_length, HTI.out.len]; exact hc)
      rw [sE_getD HTI.out hc, if_neg (by have := HCI.out; omega)] at tc
      have hc0 := HTI.out.lo c
      have hc1 := HTI.out.hi c
      have obt := World.oldB_of_cell tc
      refine (l2Next_any m _ _ W H c _ HK.out (mp_up (HM2.out) (by repeat (first | with_reducible (first | exact World.gained_refl _ | exact ⟨_, rfl⟩ | apply gain_ext | apply gain_alloc | apply gain_drewN | apply gain_drew) | (refine gain_setCell ?_ (by first | exact Nat.le_refl _ | exact World.size_ext _ _ | (simp; done) | (simp; omega)) _)))) hc).mono ?_
      rintro e w1 ⟨v, rfl, ⟨d2, rfl⟩, hv⟩
      have HFD := Lib.hid HHOP.out.1
      have HON := Lib.hid (fun k (hk : onB m b c k = true) => (by simpa only [onB, decide_eq_true_eq] using hk : (timesL m b).getD k 0 + stepZ m c k = (timesL m b).getD c 0))
      have HOF := Lib.hid (fun k (hk : onB m b c k = false) => (by simpa only [onB, decide_eq_false_iff_not] using hk : ¬ (timesL m b).getD k 0 + stepZ m c k = (timesL m b).getD c 0))
      generalize nextL m c = ks at hv HKS hkl HFD
      obtain ⟨p3, c3, hv3, _⟩ := id (sl_of_own intC_length hv)
      rw [natL_length] at hv3
      subst hv3
      have HV := Lib.hid (sl_of_own intC_length hv)
      clear hv
      go_wp2_with fail
      go_loopw [9, 11] (fun av i wr => ∃ j : Nat, j ≤ ks.length ∧ i = .int .i64 j ∧ av = .int .i64 c ∧ (∀ (q : Nat) (hq : q < ks.length), q < j → onB m b c ks[q] = false) ∧ ∃ d', wr = ((W2.ext d).ext d2).ext d') (fun _ i _ => ks.length - (intOf i).toNat)
      case atStart => exact ⟨0, by omega, rfl, rfl, by simp, (by repeat (first | with_reducible (first | exact World.gained_refl _ | exact ⟨_, rfl⟩ | apply gain_ext | apply gain_alloc | apply gain_drewN | apply gain_drew) | (refine gain_setCell ?_ (by first | exact Nat.le_refl _ | exact World.size_ext _ _ | (simp; done) | (simp; omega)) _)))⟩
      case round =>
        obtain ⟨j, hj, rfl, rfl, hno, ⟨d3, rfl⟩⟩ := hrel
        have HNO := Lib.hid hno
        clear hno
        by_cases hlj : j < ks.length
        · obtain ⟨b3, o3, rfl⟩ := sl_some HV.out (by rw [natL_length]; omega)
          have ck := sl_int HV.out (k := j) (by rw [natL_length]; exact hlj)
          rw [natL_get] at ck
          have hkn := HKS.out ks[j] (List.getElem_mem hlj)
          have HFE := Lib.hid (fun (hp : onB m b c ks[j] = true) => (show hopN m b c = ks[j] from by
            have h1 := find_at hlj HNO.out hp
            rw [HFD.out] at h1
            exact Option.some.inj h1))
          have HNX := Lib.hid (fun (hp : onB m b c ks[j] = false) => (show ∀ (q : Nat) (hq : q < ks.length), q < j + 1 → onB m b c ks[q] = false from fun q hq hqj => by
            by_cases e : q = j
            · subst e; exact hp
            · exact HNO.out q hq (by omega)))
          generalize ks[j] = k at ck hkn HFE HNX
          obtain ⟨tk, _⟩ := own_at HOT.out (k := k) (by rw [sE_length, HTI.out.len]; exact hkn)
          rw [sE_getD HTI.out hkn] at tk
          have hk0 := HTI.out.lo k
          have hk1 := HTI.out.hi k
          have obk := World.oldB_of_cell ck
          obtain ⟨_, hs0, hs1⟩ := stepZ_le HK.out c k
          have HST := Lib.hid (fun w' hw' => l2Step_any m (.slice (some ⟨b1, o1, none⟩) m.cost.length c1) (.slice (some ⟨b2, o2, none⟩) m.cost.length c2) W H c k w' HK.out hw' hc hkn)
          cases hon : onB m b c k with
          | true =>
            have hE := HON.out k hon
            have hhop := HFE.out hon
            have hless := HHOP.out.2.2.2
            rw [hhop] at hless
            have HR := Lib.hid (show (D ++ [k]) ++ restR m k b = routeL m a b by rw [← HD.out, HRS.out, hhop]; simp)
            have hsm : (timesL m b).getD k 0 < 1073741824 := by have := HCI.out; omega
            have HLES := Lib.hid hless
            have HSM := Lib.hid hsm
            have HLD := Lib.hid (show (natL D).length + 1 ≤ 2097152 by
              rw [natL_length]
              have h1 := HLEN.out
              rw [← HD.out, List.length_append] at h1
              omega)
            rw [if_neg (by omega)] at tk
            generalize (timesL m b).getD k 0 = lk at tk hk0 hk1 hE
            generalize (timesL m b).getD c 0 = lc at tc hc0 hc1 hE
            generalize stepZ m c k = st at HST hs0 hs1 hE
            have hEb : (lk + st == lc) = true := by simpa using hE
            have hge : decide (0 ≤ lk) = true := decide_eq_true hk0
            clear hE hhop hless hsm hon HFE HNX
            go_wp2
            refine wp_region_gain (by kernel_rfl) (by kernel_rfl) ?_
            repeat (first | go_big_quiet_skip | (go_big_quiet_want; go_big_quiet_op; first | go_big_quiet_on | ((apply Exists.intro); (refine ⟨fun _ => ?_, ?_⟩); (· (go_at_call 86; exact Calls.gain (HST.out _ (mp_up (HM2.out) (by repeat (first | with_reducible (first | exact World.gained_refl _ | exact ⟨_, rfl⟩ | apply gain_ext | apply gain_alloc | apply gain_drewN | apply gain_drew) | (refine gain_setCell ?_ (by first | exact Nat.le_refl _ | exact World.size_ext _ _ | (simp; done) | (simp; omega)) _))))))); (go_big_quiet_on))))
            refine wpQuiet_nil ?_
            rintro _ ⟨d', rfl⟩
            go_wp2_with (at_builtin; go_must (refine wpList_append_gain (m := [(k : Int)]) rfl (.tmp 57) (.tmp 59) rfl Tryz.underlying24 info_int (by rfl) (by omega) intC_length intC_one (by omega) (by repeat (first | with_reducible (first | exact World.gained_refl _ | exact ⟨_, rfl⟩ | apply gain_ext | apply gain_alloc | apply gain_drewN | apply gain_drew) | (refine gain_setCell ?_ (by first | exact Nat.le_refl _ | exact World.size_ext _ _ | (simp; done) | (simp; omega)) _))) (Nat.le_refl _) (gain_size (by repeat (first | with_reducible (first | exact World.gained_refl _ | exact ⟨_, rfl⟩ | apply gain_ext | apply gain_alloc | apply gain_drewN | apply gain_drew) | (refine gain_setCell ?_ (by first | exact Nat.le_refl _ | exact World.size_ext _ _ | (simp; done) | (simp; omega)) _)))) rfl rfl (own_up (HO.out) (by repeat (first | with_reducible (first | exact World.gained_refl _ | exact ⟨_, rfl⟩ | apply gain_ext | apply gain_alloc | apply gain_drewN | apply gain_drew) | (refine gain_setCell ?_ (by first | exact Nat.le_refl _ | exact World.size_ext _ _ | (simp; done) | (simp; omega)) _)))) (sl_lit (l := [(k : Int)]) intC_length rfl (by simp)) (by simp only [List.length_singleton]; exact HLD.out) ?_); intro v' d' ho hg)
            go_roundw
            case rel => exact ⟨k, D ++ [k], rfl, hkn, HSM.out, HR.out, ⟨_, rfl⟩, by rw [natL_app]; exact ho⟩
            case measure =>
              have h1 := HLES.out
              have h2 := HTI.out.lo k
              simp only [intOf, Int.toNat_natCast]
              omega
          | false =>
            have hE := HOF.out k hon
            have HNX' := Lib.hid (HNX.out hon)
            generalize (timesL m b).getD k 0 = lk at tk hk0 hk1 hE
            generalize (timesL m b).getD c 0 = lc at tc hc0 hc1 hE
            generalize stepZ m c k = st at HST hs0 hs1 hE
            by_cases hinf : lk = 1073741824
            · rw [if_pos hinf] at tk
              clear hE hon HFE HNX hinf
              go_wp2
              refine wp_region_gain (by kernel_rfl) (by kernel_rfl) ?_
              repeat (first | go_big_quiet_skip | (go_big_quiet_want; go_big_quiet_op; first | go_big_quiet_on | ((apply Exists.intro); (refine ⟨fun _ => ?_, ?_⟩); (· (go_at_call 86; exact Calls.gain (HST.out _ (mp_up (HM2.out) (by repeat (first | with_reducible (first | exact World.gained_refl _ | exact ⟨_, rfl⟩ | apply gain_ext | apply gain_alloc | apply gain_drewN | apply gain_drew) | (refine gain_setCell ?_ (by first | exact Nat.le_refl _ | exact World.size_ext _ _ | (simp; done) | (simp; omega)) _))))))); (go_big_quiet_on))))
              refine wpQuiet_nil ?_
              rintro _ ⟨d', rfl⟩
              go_wp2
              go_roundw
              case rel => exact ⟨j + 1, by omega, by go_num, rfl, HNX'.out, (by repeat (first | with_reducible (first | exact World.gained_refl _ | exact ⟨_, rfl⟩ | apply gain_ext | apply gain_alloc | apply gain_drewN | apply gain_drew) | (refine gain_setCell ?_ (by first | exact Nat.le_refl _ | exact World.size_ext _ _ | (simp; done) | (simp; omega)) _)))⟩
              case measure => simp [intOf]; omega
            · rw [if_neg hinf] at tk
              have hge : decide (0 ≤ lk) = true := decide_eq_true hk0
              have hEb : (lk + st == lc) = false := by simpa using hE
              clear hE hon HFE HNX hinf
              go_wp2
              refine wp_region_gain (by kernel_rfl) (by kernel_rfl) ?_
              repeat (first | go_big_quiet_skip | (go_big_quiet_want; go_big_quiet_op; first | go_big_quiet_on | ((apply Exists.intro); (refine ⟨fun _ => ?_, ?_⟩); (· (go_at_call 86; exact Calls.gain (HST.out _ (mp_up (HM2.out) (by repeat (first | with_reducible (first | exact World.gained_refl _ | exact ⟨_, rfl⟩ | apply gain_ext | apply gain_alloc | apply gain_drewN | apply gain_drew) | (refine gain_setCell ?_ (by first | exact Nat.le_refl _ | exact World.size_ext _ _ | (simp; done) | (simp; omega)) _))))))); (go_big_quiet_on))))
              refine wpQuiet_nil ?_
              rintro _ ⟨d', rfl⟩
              go_wp2
              go_roundw
              case rel => exact ⟨j + 1, by omega, by go_num, rfl, HNX'.out, (by repeat (first | with_reducible (first | exact World.gained_refl _ | exact ⟨_, rfl⟩ | apply gain_ext | apply gain_alloc | apply gain_drewN | apply gain_drew) | (refine gain_setCell ?_ (by first | exact Nat.le_refl _ | exact World.size_ext _ _ | (simp; done) | (simp; omega)) _)))⟩
              case measure => simp [intOf]; omega
        · exfalso
          have h1 := List.find?_eq_none.2 (fun x hx => by
            obtain ⟨q, hq, rfl⟩ := List.getElem_of_mem hx
            have := HNO.out q hq (by omega)
            simp [this] : ∀ x ∈ ks, ¬ onB m b c x = true)
          rw [HFD.out] at h1
          cases h1
end Go.Proofs.YtmcimgnobimicaaGreat
