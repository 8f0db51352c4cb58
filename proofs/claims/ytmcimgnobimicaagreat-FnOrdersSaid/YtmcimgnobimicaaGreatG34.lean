/- spec.l8Order. Conditions: codes that stand for controls which can all be reached from one another, at most seven. -/
import Derived.Test.YtmcimgnobimicaaGreatG30
import Derived.Test.YtmcimgnobimicaaGreatG33
import Derived.Test.YtmcimgnobimicaaGreatG28
import Derived.Test.YtmcimgnobimicaaGreatG14
import Derived.Test.YtmcimgnobimicaaGreatG2
import Derived.Test.YtmcimgnobimicaaGreatG3
namespace Go.Ori
theorem legs_bd {m : Mp} {l : List Ctl} {t : List Int} (h : Crs m l t) : ∀ x ∈ legsT m l t (t.length - 1), 0 ≤ x ∧ x ≤ 1000 := by
  intro x hx
  obtain ⟨W, H, hok⟩ := mapB_ok (ctlsB_map h.good)
  simp only [legsT, List.mem_map, List.mem_range] at hx
  obtain ⟨i, hi, rfl⟩ := hx
  have h1 : i < t.length := by omega
  have h2 : i + 1 < t.length := by omega
  have hw := h.way i h2
  rw [legT, List.getD_eq_getElem?_getD, List.getD_eq_getElem?_getD, List.getElem?_eq_getElem h1, List.getElem?_eq_getElem h2, Option.getD_some, Option.getD_some]
  exact timeB_bd hok (cellK_open h.good (h.has i h1)).2.1 (cellK_open h.good (h.has (i + 1) h2)).2.1 hw
theorem better_yes {s t : List Int × Int} (h : s.2 < 0 ∨ t.2 < s.2) : better s t = t := by simp [better, h]
theorem better_keep {s t : List Int × Int} (h : ¬ (s.2 < 0 ∨ t.2 < s.2)) : better s t = s := by simp only [better, if_neg h]
theorem legs_sum {m : Mp} {l : List Ctl} {t : List Int} (h : Crs m l t) : sumZ (legsT m l t (t.length - 1)) = sumT (tmT m l) t := by
  refine sumT_crs t fun i hi => ?_
  obtain ⟨W, H, hok⟩ := mapB_ok (ctlsB_map h.good)
  exact (timeB_bd hok (cellK_open h.good (h.has i (by omega))).2.1 (cellK_open h.good (h.has (i + 1) hi)).2.1 (h.way i hi)).1
end Go.Ori
namespace Go.Proofs.YtmcimgnobimicaaGreat
open Go.RowKit Go.Ori
set_option maxHeartbeats 8000000 in
set_option maxRecDepth 20000 in
theorem l8Order_any (m : Mp) (rv cv v : Value) (l : List Ctl) (fin : Int) (hl : l.length ≤ 1048576) : ∀ (n : Nat) (bv lv : Value) (begun left : List Int) (w : World) (hmp : w.mp rv cv m) (h : w.sl Ctl.cells 2 v l) (hb : w.sl intC 1 bv begun) (hlf : w.sl intC 1 lv left) (hn : left.length = n) (hO : GoodO m l fin begun left),
    Calls Tryz.prog 31 #[.agg #[.int .i64 m.wd, .int .i64 m.ht, rv, cv], v, bv, lv, .int .i64 fin] w fun x w' => ∃ r, x = .returned (.tuple #[r, .int .i64 (ordS (tmT m l) fin n begun left).2]) ∧ (∃ d, w' = w.ext d) ∧ w'.own w.heap.size 3 intC 1 r (ordS (tmT m l) fin n begun left).1
  | 0, bv, lv, begun, left, w, hmp, h, hb, hlf, hn, hO => by
    obtain rfl : left = [] := List.length_eq_zero_iff.1 hn
    have HC := Lib.hid hO.leaf
    have HSUM := Lib.hid (legs_sum HC.out)
    have HBD := Lib.hid (legs_bd HC.out)
    have hm := Lib.hid hmp
    have hs := Lib.hid h
    have hbs := Lib.hid hb
    have hlen := hO.len
    simp only [List.length_nil, Nat.add_zero] at hlen
    obtain ⟨p1, c1, p2, c2, rfl, rfl⟩ := mp_form hmp
    obtain ⟨pb, cb, rfl, _⟩ := hb
    obtain ⟨pl, cl, rfl, _⟩ := hlf
    have HE : Hid (ordS (tmT m l) fin 0 begun [] = (begun ++ [fin], sumT (tmT m l) (begun ++ [fin]))) := Lib.hid rfl
    rw [HE.out]
    clear hmp h hO HE
    go_enter Tryz.func31, Tryz.ntmps31
    go_wp2_with fail
    generalize hW0 : w.alloc (.cells #[.int .i64 m.wd, .int .i64 m.ht, .slice p1 m.rise.length c1, .slice p2 m.cost.length c2] 26) = W0
    have hbx : MBox w W0 w.heap.size m (.slice p1 m.rise.length c1) (.slice p2 m.cost.length c2) := by rw [← hW0]; exact mbox
    have HUP := Lib.hid hbx.up
    have HM0 := Lib.hid (mp_up hm.out hbx.up)
    have HS0 := Lib.hid (sl_up Ctl.cells_length hs.out hbx.up)
    have HB0 := Lib.hid (sl_up intC_length hbs.out hbx.up)
    have bx0 := hbx.c0
    have bx1 := hbx.c1
    have bx2 := hbx.c2
    have bx3 := hbx.c3
    have obx := hbx.ob
    have HSZ := Lib.hid hbx.sz
    clear hW0 hbx hm hs hbs
    generalize w.heap.size = gM at bx0 bx1 bx2 bx3 obx ⊢
    refine (l1Own_any _ begun _ (by with_reducible (repeat (first | exact HB0.out | refine World.sl_ext intC_length ?_ _ | refine sl_alloc intC_length ?_ _ | refine sl_drew ?_))) (by omega)).mono ?_
    rintro e w1 ⟨v1, rfl, ⟨d1, rfl⟩, ho⟩
    have HO := Lib.hid ho
    clear ho
    go_wp2_with (at_builtin; go_must (refine wpList_append_gain (W := W0) (base := W0.heap.size) (m := [fin]) rfl (.tmp 23) (.tmp 25) rfl Tryz.underlying24 info_int (by rfl) (by omega) intC_length intC_one (by omega) (by repeat (first | with_reducible (first | exact World.gained_refl _ | exact ⟨_, rfl⟩ | apply gain_ext | apply gain_alloc | apply gain_drewN | apply gain_drew) | (refine gain_setCell ?_ (by first | exact Nat.le_refl _ | exact World.size_ext _ _ | (simp; done) | (simp; omega)) _))) (Nat.le_refl _) (gain_size (by repeat (first | with_reducible (first | exact World.gained_refl _ | exact ⟨_, rfl⟩ | apply gain_ext | apply gain_alloc | apply gain_drewN | apply gain_drew) | (refine gain_setCell ?_ (by first | exact Nat.le_refl _ | exact World.size_ext _ _ | (simp; done) | (simp; omega)) _)))) rfl rfl (own_up (HO.out) (by repeat (first | with_reducible (first | exact World.gained_refl _ | exact ⟨_, rfl⟩ | apply gain_ext | apply gain_alloc | apply gain_drewN | apply gain_drew) | (refine gain_setCell ?_ (by first | exact Nat.le_refl _ | exact World.size_ext _ _ | (simp; done) | (simp; omega)) _)))) (sl_lit (l := [fin]) intC_length rfl (by rfl)) (by simp; omega) ?_); intro v2 d2 ho2 hg2)
    have HO2 := Lib.hid ho2
    clear ho2 hg2 HO
    refine (l8Times_any m _ _ v _ l (begun ++ [fin]) _ (mp_up (HM0.out) (by repeat (first | with_reducible (first | exact World.gained_refl _ | exact ⟨_, rfl⟩ | apply gain_ext | apply gain_alloc | apply gain_drewN | apply gain_drew) | (refine gain_setCell ?_ (by first | exact Nat.le_refl _ | exact World.size_ext _ _ | (simp; done) | (simp; omega)) _)))) (by with_reducible (repeat (first | exact HS0.out | refine World.sl_ext Ctl.cells_length ?_ _ | refine sl_alloc Ctl.cells_length ?_ _ | refine sl_drew ?_))) hl (sl_of_own intC_length HO2.out) HC.out).mono ?_
    rintro e w1 ⟨r, rfl, ⟨d3, rfl⟩, ho3⟩
    go_wp2_with fail
    refine (l8Sum_any _ _ _ (sl_of_own intC_length ho3) (by rw [legsT_length]; simp; omega) HBD.out).mono ?_
    rw [HSUM.out]
    rintro e w1 ⟨rfl, d4, rfl⟩
    go_wp2
    go_ret2
    exact ⟨_, rfl, gain_trans HUP.out (by repeat (first | with_reducible (first | exact World.gained_refl _ | exact ⟨_, rfl⟩ | apply gain_ext | apply gain_alloc | apply gain_drewN | apply gain_drew) | (refine gain_setCell ?_ (by first | exact Nat.le_refl _ | exact World.size_ext _ _ | (simp; done) | (simp; omega)) _))), own_base (own_up HO2.out (by repeat (first | with_reducible (first | exact World.gained_refl _ | exact ⟨_, rfl⟩ | apply gain_ext | apply gain_alloc | apply gain_drewN | apply gain_drew) | (refine gain_setCell ?_ (by first | exact Nat.le_refl _ | exact World.size_ext _ _ | (simp; done) | (simp; omega)) _)))) HSZ.out⟩
  | n + 1, bv, lv, begun, left, w, hmp, h, hb, hlf, hn, hO => by
    have ih := l8Order_any m rv cv v l fin hl n
    have hm := Lib.hid hmp
    have hs := Lib.hid h
    have hbs := Lib.hid hb
    have hls := Lib.hid hlf
    have hlen := hO.len
    have HOO := Lib.hid (fun (k : Nat) (hk : k < left.length) => hO.step hk)
    obtain ⟨p1, c1, p2, c2, rfl, rfl⟩ := mp_form hmp
    obtain ⟨pb, cb, rfl, _⟩ := hb
    obtain ⟨pl, cl, rfl, _, hcl⟩ := hlf
    have IH := Lib.hid ih
    have HEK := Lib.hid (fun k => ordK_succ (tmT m l) fin n begun left k)
    have HEF := Lib.hid (ordK_full (tmT m l) fin n begun left)
    have HPO := Lib.hid (fun (k : Nat) (hk : k < left.length) => ordS_pos (tmT m l) fin (tmT_pos m l) n (begun ++ [left.getD k 0]) (left.eraseIdx k) (by rw [List.length_eraseIdx, if_pos hk]; omega))
    have hl0 : (left.length : Int) ≠ 0 := by omega
    have hl1 : ((left.length : Int) == 0) = false := by simpa using hl0
    have HN := Lib.hid (fun (k : Nat) (hk : k < left.length) => (show (left.eraseIdx k).length = n by rw [List.length_eraseIdx, if_pos hk]; omega))
    rw [← HEF.out]
    clear hmp h hO ih
    clear hn
    go_enter Tryz.func31, Tryz.ntmps31
    go_wp2_with fail
    generalize hW0 : w.alloc (.cells #[.int .i64 m.wd, .int .i64 m.ht, .slice p1 m.rise.length c1, .slice p2 m.cost.length c2] 26) = W0
    have hbx : MBox w W0 w.heap.size m (.slice p1 m.rise.length c1) (.slice p2 m.cost.length c2) := by rw [← hW0]; exact mbox
    have HUP := Lib.hid hbx.up
    have HM0 := Lib.hid (mp_up hm.out hbx.up)
    have HS0 := Lib.hid (sl_up Ctl.cells_length hs.out hbx.up)
    have HB0 := Lib.hid (sl_up intC_length hbs.out hbx.up)
    have HL0 := Lib.hid (sl_up intC_length hls.out hbx.up)
    have bx0 := hbx.c0
    have bx1 := hbx.c1
    have bx2 := hbx.c2
    have bx3 := hbx.c3
    have obx := hbx.ob
    have HSZ := Lib.hid hbx.sz
    have hse := hbx.se
    clear hW0 hbx hm hs hbs hls
    generalize w.heap.size = gM at bx0 bx1 bx2 bx3 obx hse ⊢
    go_loopw [13, 14, 15] (fun o_ n_ i_ wr => ∃ k : Nat, k ≤ left.length ∧ i_ = .int .i64 k ∧ n_ = .int .i64 (ordK (tmT m l) fin n begun left k).2 ∧ wr.own W0.heap.size 3 intC 1 o_ (ordK (tmT m l) fin n begun left k).1 ∧ ∃ d, wr = W0.ext d) (fun _ _ i_ _ => left.length - (intOf i_).toNat)
    case atStart => exact ⟨0, by omega, rfl, rfl, own_up (own_lit' (w := W0) (base := W0.heap.size) (l := ([] : List Int)) (C := #[]) (g := gM + 1) intC_length rfl hse.symm (Nat.le_refl _)) (by repeat (first | with_reducible (first | exact World.gained_refl _ | exact ⟨_, rfl⟩ | apply gain_ext | apply gain_alloc | apply gain_drewN | apply gain_drew) | (refine gain_setCell ?_ (by first | exact Nat.le_refl _ | exact World.size_ext _ _ | (simp; done) | (simp; omega)) _))), (by repeat (first | with_reducible (first | exact World.gained_refl _ | exact ⟨_, rfl⟩ | apply gain_ext | apply gain_alloc | apply gain_drewN | apply gain_drew) | (refine gain_setCell ?_ (by first | exact Nat.le_refl _ | exact World.size_ext _ _ | (simp; done) | (simp; omega)) _)))⟩
    case round =>
      obtain ⟨k, hk, rfl, rfl, ho, d, rfl⟩ := hrel
      have HO := Lib.hid ho
      clear ho
      by_cases hlt : k < left.length
      · obtain ⟨b, o, rfl⟩ := sl_some HL0.out (by omega)
        have y0 := sl_int HL0.out hlt
        have oby := World.oldB_of_cell y0
        have hkd : decide ((k : Int) < (left.length : Int)) = true := decide_eq_true (by omega)
        have hk0 : (0 : Int) ≤ (k : Int) := by omega
        have hk1 : (k : Int) < (left.length : Int) := by omega
        have hk2 : (k : Int) ≤ (cl : Int) := by omega
        have hk3 : (k : Int) + 1 ≤ (left.length : Int) := by omega
        have hk4 : (k : Int) + 1 ≤ (cl : Int) := by omega
        obtain ⟨A, hA⟩ : ∃ A : Addr, (if cl = k + 1 then some (⟨b, o, none⟩ : Addr) else some ⟨b, o + (k + 1) * 1, none⟩) = some A := by split <;> exact ⟨_, rfl⟩
        have hw1 : IntKind.i64.wrap ((k : Int) + 1) = (k : Int) + 1 := IntWalk.i64_in _ (by omega)
        have hw2 : ((k : Int) + 1).toNat = k + 1 := by omega
        have hw3 : (0 : Int) ≤ (k : Int) + 1 := by omega
        have HK := Lib.hid (HOO.out k hlt)
        have HPK := Lib.hid (HPO.out k hlt)
        have HSK := Lib.hid (HEK.out k)
        have e : left.getD k 0 = left[k] := by simp [List.getD_eq_getElem?_getD, hlt]
        rw [e] at HSK HPK
        have HER : Hid (left.take k ++ left.drop (k + 1) = left.eraseIdx k) := Lib.hid (List.eraseIdx_eq_take_drop_succ _ _).symm
        clear e
        generalize left[k] = y at y0 HK HPK HSK
        have hA2 : (if cl = k + 1 then some (⟨b, o, none⟩ : Addr) else some ⟨b, o + (k + 1), none⟩) = some A := by simpa using hA
        have HLX := Lib.hid (sl_up (w' := W0.ext d) intC_length HL0.out (by repeat (first | with_reducible (first | exact World.gained_refl _ | exact ⟨_, rfl⟩ | apply gain_ext | apply gain_alloc | apply gain_drewN | apply gain_drew) | (refine gain_setCell ?_ (by first | exact Nat.le_refl _ | exact World.size_ext _ _ | (simp; done) | (simp; omega)) _))))
        go_upto_region 8 with fail
        refine wp_region_held_drew (S := (fun w' => w'.cell? ⟨gM, 0, none⟩ = some (.int .i64 m.wd))) (by kernel_rfl) (by (try dsimp only); (with_reducible (repeat (first | assumption | refine cell_ext ?_ _ | refine cell_drew ?_ | refine cell_alloc ?_ _)))) (fun hHeld => ?_)
        refine wpAnyH_take (i := 0) (oi := ⟨_, _, _, _, _, _⟩) (v := ?_) rfl (by kernel_rfl) (by kernel_rfl) (by kernel_rfl) (fun _ _ _ h => h) (Or.inl ⟨by rfl, ?_⟩) (by assumption) ?_
        rotate_left
        · intro w hSw; (try dsimp only at hSw); go_simp; (try with_reducible rfl)
        try simp only [Act.put, List.setIfInBounds_toArray, List.set_cons_zero, List.set_cons_succ]
        refine wpAnyH_take (i := 1) (oi := ⟨_, _, _, _, _, _⟩) (v := ?_) rfl (by kernel_rfl) (by kernel_rfl) (by kernel_rfl) (fun _ _ _ h => h) (Or.inl ⟨by rfl, ?_⟩) (by assumption) ?_
        rotate_left
        · intro w hSw; (try dsimp only at hSw); go_simp; (try with_reducible rfl)
        try simp only [Act.put, List.setIfInBounds_toArray, List.set_cons_zero, List.set_cons_succ]
        refine wpAnyH_take (i := 2) (oi := ⟨_, _, _, _, _, _⟩) (v := ?_) rfl (by kernel_rfl) (by kernel_rfl) (by kernel_rfl) (fun _ _ _ h => h) (Or.inl ⟨by rfl, ?_⟩) (by assumption) ?_
        rotate_left
        · intro w hSw; (try dsimp only at hSw); go_simp; (try with_reducible rfl)
        try simp only [Act.put, List.setIfInBounds_toArray, List.set_cons_zero, List.set_cons_succ]
        refine wpAnyH_take (i := 4) (oi := ⟨_, _, _, _, _, _⟩) (v := ?_) rfl (by kernel_rfl) (by kernel_rfl) (by kernel_rfl) (fun _ _ _ h => h) (Or.inl ⟨by rfl, ?_⟩) (by assumption) ?_
        rotate_left
        · intro w hSw; (try dsimp only at hSw); go_simp; (try with_reducible rfl)
        try simp only [Act.put, List.setIfInBounds_toArray, List.set_cons_zero, List.set_cons_succ]
        refine wpAnyH_take (i := 5) (oi := ⟨_, _, _, _, _, _⟩) (v := ?_) rfl (by kernel_rfl) (by kernel_rfl) (by kernel_rfl) (fun _ _ _ h => h) (Or.inl ⟨by rfl, ?_⟩) (by assumption) ?_
        rotate_left
        · intro w hSw; (try dsimp only at hSw); go_simp; (try with_reducible rfl)
        try simp only [Act.put, List.setIfInBounds_toArray, List.set_cons_zero, List.set_cons_succ]
        refine wpAnyH_take (i := 6) (oi := ⟨_, _, _, _, _, _⟩) (v := ?_) rfl (by kernel_rfl) (by kernel_rfl) (by kernel_rfl) (fun _ _ _ h => h) (Or.inl ⟨by rfl, ?_⟩) (by assumption) ?_
        rotate_left
        · intro w hSw; (try dsimp only at hSw); go_simp; (try with_reducible rfl)
        try simp only [Act.put, List.setIfInBounds_toArray, List.set_cons_zero, List.set_cons_succ]
        refine wpAnyH_take (i := 7) (oi := ⟨_, _, _, _, _, _⟩) (v := ?_) rfl (by kernel_rfl) (by kernel_rfl) (by kernel_rfl) (fun _ _ _ h => h) (Or.inl ⟨by rfl, ?_⟩) (by assumption) ?_
        rotate_left
        · intro w hSw; (try dsimp only at hSw); go_simp; (try with_reducible rfl)
        try simp only [Act.put, List.setIfInBounds_toArray, List.set_cons_zero, List.set_cons_succ]
        refine wpAnyH_ready (rs := [3]) (by kernel_rfl) (by simp) ?_
        refine AllReadyH.cons rfl (fun K hK => ?_) AllReadyH.nil
        go_simp
        go_wp2_with (go_at_call 54; refine (l1Own_any _ (left.take k) _ (sl_take (by with_reducible (repeat (first | exact HLX.out | refine World.sl_ext intC_length ?_ _ | refine sl_alloc intC_length ?_ _ | refine sl_drew ?_))) (by omega)) (by rw [List.length_take]; omega)).mono ?_; rintro e w1 ⟨v1, rfl, ⟨d1, rfl⟩, ho1⟩; have HAO := Lib.hid (apart2_new HO.out ho1); have HV1 := Lib.hid (own_base (b := W0.heap.size) ho1 (World.size_ext W0 d)); clear ho1)
        refine hK.out _ _ ?_ (fun hHeld => ?_)
        · (try dsimp only); (with_reducible (repeat (first | assumption | refine cell_ext ?_ _ | refine cell_drew ?_ | refine cell_alloc ?_ _)))
        clear hK K
        try simp only [Act.put, List.setIfInBounds_toArray, List.set_cons_zero, List.set_cons_succ]
        refine wpAnyH_ready (rs := [8]) (by kernel_rfl) (by simp) ?_
        refine AllReadyH.cons rfl (fun K hK => ?_) (AllReadyH.nil)
        refine step_append_gain (W := W0) (w := ((W0.ext d).drew).ext d1) (base := W0.heap.size) (v := v1) (m := left.drop (k + 1)) (u := .slice (some A) (left.length - (k + 1)) (cl - (k + 1))) rfl (.tmp 43) (.tmp 47) rfl Tryz.underlying24 info_int (by rfl) (by omega) intC_length intC_one (by omega) (by repeat (first | with_reducible (first | exact World.gained_refl _ | exact ⟨_, rfl⟩ | apply gain_ext | apply gain_alloc | apply gain_drewN | apply gain_drew) | (refine gain_setCell ?_ (by first | exact Nat.le_refl _ | exact World.size_ext _ _ | (simp; done) | (simp; omega)) _))) (Nat.le_refl _) (gain_size (by repeat (first | with_reducible (first | exact World.gained_refl _ | exact ⟨_, rfl⟩ | apply gain_ext | apply gain_alloc | apply gain_drewN | apply gain_drew) | (refine gain_setCell ?_ (by first | exact Nat.le_refl _ | exact World.size_ext _ _ | (simp; done) | (simp; omega)) _)))) (by first | rfl | (simp; done)) (by first | rfl | (simp; done)) HV1.out (sl_drop_any (by with_reducible (repeat (first | exact HLX.out | refine World.sl_ext intC_length ?_ _ | refine sl_alloc intC_length ?_ _ | refine sl_drew ?_))) (by omega) hA) (by simp; omega) ?_
        intro v2 d2 ho2 hg2
        rw [HER.out] at ho2
        have HV2 := Lib.hid ho2
        have HOY := Lib.hid (own_mark (own_up HO.out (by repeat (first | with_reducible (first | exact World.gained_refl _ | exact ⟨_, rfl⟩ | apply gain_ext | apply gain_alloc | apply gain_drewN | apply gain_drew) | (refine gain_setCell ?_ (by first | exact Nat.le_refl _ | exact World.size_ext _ _ | (simp; done) | (simp; omega)) _)))) hg2 HAO.out)
        clear ho2 hg2 HV1 HAO HO
        (try dsimp only)
        refine hK.out _ _ ?_ (fun hHeld => ?_)
        · (try dsimp only); (with_reducible (repeat (first | assumption | refine cell_ext ?_ _ | refine cell_drew ?_ | refine cell_alloc ?_ _)))
        clear hK K
        try simp only [Act.put, List.setIfInBounds_toArray]
        refine wpAnyH_take (i := 9) (oi := ⟨_, _, _, _, _, _⟩) (v := ?_) rfl (by kernel_rfl) (by kernel_rfl) (by kernel_rfl) (fun _ _ _ h => h) (Or.inl ⟨by rfl, ?_⟩) (by assumption) ?_
        rotate_left
        · intro w hSw; (try dsimp only at hSw); go_simp; (try with_reducible rfl)
        try simp only [Act.put, List.setIfInBounds_toArray, List.set_cons_zero, List.set_cons_succ]
        refine wpAnyH_done (by kernel_rfl) ?_ _
        go_upto_region 9 with fail
        have HLY := Lib.hid (sl_up (w' := W0.ext d2) intC_length HL0.out (by repeat (first | with_reducible (first | exact World.gained_refl _ | exact ⟨_, rfl⟩ | apply gain_ext | apply gain_alloc | apply gain_drewN | apply gain_drew) | (refine gain_setCell ?_ (by first | exact Nat.le_refl _ | exact World.size_ext _ _ | (simp; done) | (simp; omega)) _))))
        have HBY := Lib.hid (sl_up (w' := W0.ext d2) intC_length HB0.out (by repeat (first | with_reducible (first | exact World.gained_refl _ | exact ⟨_, rfl⟩ | apply gain_ext | apply gain_alloc | apply gain_drewN | apply gain_drew) | (refine gain_setCell ?_ (by first | exact Nat.le_refl _ | exact World.size_ext _ _ | (simp; done) | (simp; omega)) _))))
        have hdY := World.size_ext W0 d2
        clear HLX hA hA2
        refine wp_region_held_drew (S := (fun w' => w'.cell? ⟨gM, 0, none⟩ = some (.int .i64 m.wd) ∧ w'.cell? ⟨gM, 1, none⟩ = some (.int .i64 m.ht) ∧ w'.cell? ⟨gM, 2, none⟩ = some (.slice p1 m.rise.length c1) ∧ w'.cell? ⟨gM, 3, none⟩ = some (.slice p2 m.cost.length c2) ∧ w'.cell? ⟨b, o + k, none⟩ = some (.int .i64 y))) (by kernel_rfl) (by (try dsimp only); (refine ⟨?_, ?_, ?_, ?_, ?_⟩ <;> (with_reducible (repeat (first | assumption | refine cell_ext ?_ _ | refine cell_drew ?_ | refine cell_alloc ?_ _))))) (fun hHeld => ?_)
        refine wpAnyH_take (i := 0) (oi := ⟨_, _, _, _, _, _⟩) (v := ?_) rfl (by kernel_rfl) (by kernel_rfl) (by kernel_rfl) (fun _ _ _ h => h) (Or.inl ⟨by rfl, ?_⟩) (by assumption) ?_
        rotate_left
        · intro w hSw; (try dsimp only at hSw); go_simp; (try with_reducible rfl)
        try simp only [Act.put, List.setIfInBounds_toArray, List.set_cons_zero, List.set_cons_succ]
        refine wpAnyH_take (i := 1) (oi := ⟨_, _, _, _, _, _⟩) (v := ?_) rfl (by kernel_rfl) (by kernel_rfl) (by kernel_rfl) (fun _ _ _ h => h) (Or.inl ⟨by rfl, ?_⟩) (by assumption) ?_
        rotate_left
        · intro w hSw; (try dsimp only at hSw); go_simp; (try with_reducible rfl)
        try simp only [Act.put, List.setIfInBounds_toArray, List.set_cons_zero, List.set_cons_succ]
        refine wpAnyH_take (i := 2) (oi := ⟨_, _, _, _, _, _⟩) (v := ?_) rfl (by kernel_rfl) (by kernel_rfl) (by kernel_rfl) (fun _ _ _ h => h) (Or.inl ⟨by rfl, ?_⟩) (by assumption) ?_
        rotate_left
        · intro w hSw; (try dsimp only at hSw); go_simp; (try with_reducible rfl)
        try simp only [Act.put, List.setIfInBounds_toArray, List.set_cons_zero, List.set_cons_succ]
        refine wpAnyH_take (i := 4) (oi := ⟨_, _, _, _, _, _⟩) (v := ?_) rfl (by kernel_rfl) (by kernel_rfl) (by kernel_rfl) (fun _ _ _ h => h) (Or.inl ⟨by rfl, ?_⟩) (by assumption) ?_
        rotate_left
        · intro w hSw; (try dsimp only at hSw); go_simp; (try with_reducible rfl)
        try simp only [Act.put, List.setIfInBounds_toArray, List.set_cons_zero, List.set_cons_succ]
        refine wpAnyH_take (i := 5) (oi := ⟨_, _, _, _, _, _⟩) (v := ?_) rfl (by kernel_rfl) (by kernel_rfl) (by kernel_rfl) (fun _ _ _ h => h) (Or.inl ⟨by rfl, ?_⟩) (by assumption) ?_
        rotate_left
        · intro w hSw; (try dsimp only at hSw); go_simp; (try with_reducible rfl)
        try simp only [Act.put, List.setIfInBounds_toArray, List.set_cons_zero, List.set_cons_succ]
        refine wpAnyH_take (i := 6) (oi := ⟨_, _, _, _, _, _⟩) (v := ?_) rfl (by kernel_rfl) (by kernel_rfl) (by kernel_rfl) (fun _ _ _ h => h) (Or.inl ⟨by rfl, ?_⟩) (by assumption) ?_
        rotate_left
        · intro w hSw; (try dsimp only at hSw); go_simp; (try with_reducible rfl)
        try simp only [Act.put, List.setIfInBounds_toArray, List.set_cons_zero, List.set_cons_succ]
        refine wpAnyH_take (i := 7) (oi := ⟨_, _, _, _, _, _⟩) (v := ?_) rfl (by kernel_rfl) (by kernel_rfl) (by kernel_rfl) (fun _ _ _ h => h) (Or.inl ⟨by rfl, ?_⟩) (by assumption) ?_
        rotate_left
        · intro w hSw; (try dsimp only at hSw); go_simp; (try with_reducible rfl)
        try simp only [Act.put, List.setIfInBounds_toArray, List.set_cons_zero, List.set_cons_succ]
        refine wpAnyH_take (i := 10) (oi := ⟨_, _, _, _, _, _⟩) (v := ?_) rfl (by kernel_rfl) (by kernel_rfl) (by kernel_rfl) (fun _ _ _ h => h) (Or.inl ⟨by rfl, ?_⟩) (by assumption) ?_
        rotate_left
        · intro w hSw; (try dsimp only at hSw); go_simp; (try with_reducible rfl)
        try simp only [Act.put, List.setIfInBounds_toArray, List.set_cons_zero, List.set_cons_succ]
        refine wpAnyH_take (i := 11) (oi := ⟨_, _, _, _, _, _⟩) (v := ?_) rfl (by kernel_rfl) (by kernel_rfl) (by kernel_rfl) (fun _ _ _ h => h) (Or.inl ⟨by rfl, ?_⟩) (by assumption) ?_
        rotate_left
        · intro w hSw; (try dsimp only at hSw); go_simp; (try with_reducible rfl)
        try simp only [Act.put, List.setIfInBounds_toArray, List.set_cons_zero, List.set_cons_succ]
        refine wpAnyH_ready (rs := [3, 8]) (by kernel_rfl) (by simp) ?_
        refine AllReadyH.cons rfl (fun K hK => ?_) (AllReadyH.cons rfl (fun K hK => ?_) (AllReadyH.nil))
        · go_simp
          go_wp2_with (go_at_call 54; refine (l1Own_any _ begun _ (by with_reducible (repeat (first | exact HBY.out | refine World.sl_ext intC_length ?_ _ | refine sl_alloc intC_length ?_ _ | refine sl_drew ?_))) (by omega)).mono ?_; rintro e w1 ⟨v3, rfl, ⟨d3, rfl⟩, ho3⟩; have HAP := Lib.hid (apart2_new HV2.out ho3); have HAO := Lib.hid (apart2_new HOY.out ho3); have HV3 := Lib.hid (own_base (b := W0.heap.size) ho3 hdY); clear ho3)
          (try dsimp only)
          refine hK.out _ _ ?_ (fun hHeld => ?_)
          · (try dsimp only); (refine ⟨?_, ?_, ?_, ?_, ?_⟩ <;> (with_reducible (repeat (first | assumption | refine cell_ext ?_ _ | refine cell_drew ?_ | refine cell_alloc ?_ _))))
          clear hK K
          try simp only [Act.put, List.setIfInBounds_toArray]
          refine wpAnyH_ready (rs := [8]) (by kernel_rfl) (by simp) ?_
          refine AllReadyH.cons rfl (fun K hK => ?_) (AllReadyH.nil)
          go_simp
          have HU := Lib.hid (sl_lit (w := ((W0.ext d2).drew).ext d3) (e := 3) (l := [y]) (C := #[.int .i64 y]) (g := (((W0.ext d2).drew).ext d3).heap.size) intC_length rfl rfl)
          (try dsimp only)
          refine hK.out _ _ ?_ (fun hHeld => ?_)
          · (try dsimp only); (refine ⟨?_, ?_, ?_, ?_, ?_⟩ <;> (with_reducible (repeat (first | assumption | refine cell_ext ?_ _ | refine cell_drew ?_ | refine cell_alloc ?_ _))))
          clear hK K
          try simp only [Act.put, List.setIfInBounds_toArray]
          refine wpAnyH_ready (rs := [9]) (by kernel_rfl) (by simp) ?_
          refine AllReadyH.cons rfl (fun K hK => ?_) (AllReadyH.nil)
          refine step_append_gain (W := W0) (w := (((W0.ext d2).drew).ext d3).alloc (.cells #[.int .i64 y] 3)) (base := W0.heap.size) (v := v3) (m := [y]) (u := .slice (some ⟨(((W0.ext d2).drew).ext d3).heap.size, 0, none⟩) 1 1) rfl (.tmp 53) (.tmp 58) rfl Tryz.underlying24 info_int (by rfl) (by omega) intC_length intC_one (by omega) (by repeat (first | with_reducible (first | exact World.gained_refl _ | exact ⟨_, rfl⟩ | apply gain_ext | apply gain_alloc | apply gain_drewN | apply gain_drew) | (refine gain_setCell ?_ (by first | exact Nat.le_refl _ | exact World.size_ext _ _ | (simp; done) | (simp; omega)) _))) (Nat.le_refl _) (gain_size (by repeat (first | with_reducible (first | exact World.gained_refl _ | exact ⟨_, rfl⟩ | apply gain_ext | apply gain_alloc | apply gain_drewN | apply gain_drew) | (refine gain_setCell ?_ (by first | exact Nat.le_refl _ | exact World.size_ext _ _ | (simp; done) | (simp; omega)) _)))) (by first | rfl | (simp; done)) (by first | rfl | (simp; done)) (own_up HV3.out (by repeat (first | with_reducible (first | exact World.gained_refl _ | exact ⟨_, rfl⟩ | apply gain_ext | apply gain_alloc | apply gain_drewN | apply gain_drew) | (refine gain_setCell ?_ (by first | exact Nat.le_refl _ | exact World.size_ext _ _ | (simp; done) | (simp; omega)) _)))) HU.out (by simp; omega) ?_
          intro v4 d4 ho4 hg4
          have HV4 := Lib.hid ho4
          have HR4 := Lib.hid (own_mark (own_up HV2.out (by repeat (first | with_reducible (first | exact World.gained_refl _ | exact ⟨_, rfl⟩ | apply gain_ext | apply gain_alloc | apply gain_drewN | apply gain_drew) | (refine gain_setCell ?_ (by first | exact Nat.le_refl _ | exact World.size_ext _ _ | (simp; done) | (simp; omega)) _)))) hg4 HAP.out)
          have HO4 := Lib.hid (own_mark (own_up HOY.out (by repeat (first | with_reducible (first | exact World.gained_refl _ | exact ⟨_, rfl⟩ | apply gain_ext | apply gain_alloc | apply gain_drewN | apply gain_drew) | (refine gain_setCell ?_ (by first | exact Nat.le_refl _ | exact World.size_ext _ _ | (simp; done) | (simp; omega)) _)))) hg4 HAO.out)
          clear ho4 hg4 HV3 HU HAP HAO HV2 HOY
          (try dsimp only)
          refine hK.out _ _ ?_ (fun hHeld => ?_)
          · (try dsimp only); (refine ⟨?_, ?_, ?_, ?_, ?_⟩ <;> (with_reducible (repeat (first | assumption | refine cell_ext ?_ _ | refine cell_drew ?_ | refine cell_alloc ?_ _))))
          clear hK K
          try simp only [Act.put, List.setIfInBounds_toArray]
          refine wpAnyH_ready (rs := [12]) (by kernel_rfl) (by simp) ?_
          refine AllReadyH.cons rfl (fun K hK => ?_) (AllReadyH.nil)
          go_simp
          go_wp2_with fail
          refine (IH.out v4 v2 (begun ++ [y]) (left.eraseIdx k) _ (mp_up (HM0.out) (by repeat (first | with_reducible (first | exact World.gained_refl _ | exact ⟨_, rfl⟩ | apply gain_ext | apply gain_alloc | apply gain_drewN | apply gain_drew) | (refine gain_setCell ?_ (by first | exact Nat.le_refl _ | exact World.size_ext _ _ | (simp; done) | (simp; omega)) _)))) (by with_reducible (repeat (first | exact HS0.out | refine World.sl_ext Ctl.cells_length ?_ _ | refine sl_alloc Ctl.cells_length ?_ _ | refine sl_drew ?_))) (sl_of_own intC_length HV4.out) (sl_of_own intC_length HR4.out) (HN.out k hlt) HK.out).mono ?_
          rintro e w1 ⟨r, rfl, ⟨d5, rfl⟩, ho5⟩
          have HR5 := Lib.hid (own_base (b := W0.heap.size) ho5 (World.size_ext W0 d4))
          have HO5 := Lib.hid (own_up (w' := (W0.ext d4).ext d5) HO4.out ⟨_, rfl⟩)
          clear ho5 HV4 HR4 HO4
          (try dsimp only)
          refine hK.out _ _ ?_ (fun hHeld => ?_)
          · (try dsimp only); (refine ⟨?_, ?_, ?_, ?_, ?_⟩ <;> (with_reducible (repeat (first | assumption | refine cell_ext ?_ _ | refine cell_drew ?_ | refine cell_alloc ?_ _))))
          clear hK K
          try simp only [Act.put, List.setIfInBounds_toArray]
          refine wpAnyH_take (i := 13) (oi := ⟨_, _, _, _, _, _⟩) (v := ?_) rfl (by kernel_rfl) (by kernel_rfl) (by kernel_rfl) (fun _ _ _ h => h) (Or.inl ⟨by rfl, ?_⟩) (by assumption) ?_
          rotate_left
          · intro w hSw; (try dsimp only at hSw); go_simp; (try with_reducible rfl)
          try simp only [Act.put, List.setIfInBounds_toArray, List.set_cons_zero, List.set_cons_succ]
          refine wpAnyH_take (i := 14) (oi := ⟨_, _, _, _, _, _⟩) (v := ?_) rfl (by kernel_rfl) (by kernel_rfl) (by kernel_rfl) (fun _ _ _ h => h) (Or.inl ⟨by rfl, ?_⟩) (by assumption) ?_
          rotate_left
          · intro w hSw; (try dsimp only at hSw); go_simp; (try with_reducible rfl)
          try simp only [Act.put, List.setIfInBounds_toArray, List.set_cons_zero, List.set_cons_succ]
          refine wpAnyH_take (i := 15) (oi := ⟨_, _, _, _, _, _⟩) (v := ?_) rfl (by kernel_rfl) (by kernel_rfl) (by kernel_rfl) (fun _ _ _ h => h) (Or.inl ⟨by rfl, ?_⟩) (by assumption) ?_
          rotate_left
          · intro w hSw; (try dsimp only at hSw); go_simp; (try with_reducible rfl)
          try simp only [Act.put, List.setIfInBounds_toArray, List.set_cons_zero, List.set_cons_succ]
          refine wpAnyH_take (i := 16) (oi := ⟨_, _, _, _, _, _⟩) (v := ?_) rfl (by kernel_rfl) (by kernel_rfl) (by kernel_rfl) (fun _ _ _ h => h) (Or.inl ⟨by rfl, ?_⟩) (by assumption) ?_
          rotate_left
          · intro w hSw; (try dsimp only at hSw); go_simp; (try with_reducible rfl)
          try simp only [Act.put, List.setIfInBounds_toArray, List.set_cons_zero, List.set_cons_succ]
          refine wpAnyH_take (i := 17) (oi := ⟨_, _, _, _, _, _⟩) (v := ?_) rfl (by kernel_rfl) (by kernel_rfl) (by kernel_rfl) (fun _ _ _ h => h) (Or.inl ⟨by rfl, ?_⟩) (by assumption) ?_
          rotate_left
          · intro w hSw; (try dsimp only at hSw); go_simp; (try with_reducible rfl)
          try simp only [Act.put, List.setIfInBounds_toArray, List.set_cons_zero, List.set_cons_succ]
          refine wpAnyH_done (by kernel_rfl) ?_ _
          generalize ordS (tmT m l) fin n (begun ++ [y]) (left.eraseIdx k) = R at HR5 HSK HPK ⊢
          generalize ordK (tmT m l) fin n begun left k = S at HO5 HSK ⊢
          by_cases hc1 : S.2 < 0
          · have hd1 : decide (S.2 < 0) = true := decide_eq_true hc1
            have HE := Lib.hid (HSK.out.trans (better_yes (.inl hc1)))
            clear hc1
            go_wp2
            go_roundw
            case rel => exact ⟨k + 1, by omega, by go_num, by rw [HE.out], by rw [HE.out]; exact HR5.out, (by repeat (first | with_reducible (first | exact World.gained_refl _ | exact ⟨_, rfl⟩ | apply gain_ext | apply gain_alloc | apply gain_drewN | apply gain_drew) | (refine gain_setCell ?_ (by first | exact Nat.le_refl _ | exact World.size_ext _ _ | (simp; done) | (simp; omega)) _)))⟩
            case measure => simp [intOf]; omega
          · have hd1 : decide (S.2 < 0) = false := decide_eq_false hc1
            by_cases hc2 : R.2 < S.2
            · have hd2 : decide (R.2 < S.2) = true := decide_eq_true hc2
              have HE := Lib.hid (HSK.out.trans (better_yes (.inr hc2)))
              clear hc1 hc2
              go_wp2
              go_roundw
              case rel => exact ⟨k + 1, by omega, by go_num, by rw [HE.out], by rw [HE.out]; exact HR5.out, (by repeat (first | with_reducible (first | exact World.gained_refl _ | exact ⟨_, rfl⟩ | apply gain_ext | apply gain_alloc | apply gain_drewN | apply gain_drew) | (refine gain_setCell ?_ (by first | exact Nat.le_refl _ | exact World.size_ext _ _ | (simp; done) | (simp; omega)) _)))⟩
              case measure => simp [intOf]; omega
            · have hd2 : decide (R.2 < S.2) = false := decide_eq_false hc2
              have HE := Lib.hid (HSK.out.trans (better_keep (by omega)))
              clear hc1 hc2
              go_wp2
              go_roundw
              case rel => exact ⟨k + 1, by omega, by go_num, by rw [HE.out], by rw [HE.out]; exact HO5.out, (by repeat (first | with_reducible (first | exact World.gained_refl _ | exact ⟨_, rfl⟩ | apply gain_ext | apply gain_alloc | apply gain_drewN | apply gain_drew) | (refine gain_setCell ?_ (by first | exact Nat.le_refl _ | exact World.size_ext _ _ | (simp; done) | (simp; omega)) _)))⟩
              case measure => simp [intOf]; omega
        · go_simp
          have hsA : (W0.ext d2).heap.size ≤ (((W0.ext d2).alloc (.cells #[.int .i64 y] 3)).drew).heap.size := by
            show _ ≤ ((W0.ext d2).alloc (.cells #[.int .i64 y] 3)).heap.size
            rw [World.size_alloc]
            exact Nat.le_succ _
          have HU := Lib.hid (sl_lit (w := (W0.ext d2)) (e := 3) (l := [y]) (C := #[.int .i64 y]) (g := (W0.ext d2).heap.size) intC_length rfl rfl)
          (try dsimp only)
          refine hK.out _ _ ?_ (fun hHeld => ?_)
          · (try dsimp only); (refine ⟨?_, ?_, ?_, ?_, ?_⟩ <;> (with_reducible (repeat (first | assumption | refine cell_ext ?_ _ | refine cell_drew ?_ | refine cell_alloc ?_ _))))
          clear hK K
          try simp only [Act.put, List.setIfInBounds_toArray]
          refine wpAnyH_ready (rs := [3]) (by kernel_rfl) (by simp) ?_
          refine AllReadyH.cons rfl (fun K hK => ?_) (AllReadyH.nil)
          go_simp
          go_wp2_with (go_at_call 54; refine (l1Own_any _ begun _ (by with_reducible (repeat (first | exact HBY.out | refine World.sl_ext intC_length ?_ _ | refine sl_alloc intC_length ?_ _ | refine sl_drew ?_))) (by omega)).mono ?_; rintro e w1 ⟨v3, rfl, ⟨d3, rfl⟩, ho3⟩; have HAP := Lib.hid (apart2_new (w := W0.ext d2) HV2.out (own_base ho3 hsA)); have HAO := Lib.hid (apart2_new (w := W0.ext d2) HOY.out (own_base ho3 hsA)); have HV3 := Lib.hid (own_base (b := W0.heap.size) ho3 (Nat.le_trans hdY hsA)); clear ho3)
          (try dsimp only)
          refine hK.out _ _ ?_ (fun hHeld => ?_)
          · (try dsimp only); (refine ⟨?_, ?_, ?_, ?_, ?_⟩ <;> (with_reducible (repeat (first | assumption | refine cell_ext ?_ _ | refine cell_drew ?_ | refine cell_alloc ?_ _))))
          clear hK K
          try simp only [Act.put, List.setIfInBounds_toArray]
          refine wpAnyH_ready (rs := [9]) (by kernel_rfl) (by simp) ?_
          refine AllReadyH.cons rfl (fun K hK => ?_) (AllReadyH.nil)
          refine step_append_gain (W := W0) (w := (((W0.ext d2).alloc (.cells #[.int .i64 y] 3)).drew).ext d3) (base := W0.heap.size) (v := v3) (m := [y]) (u := .slice (some ⟨(W0.ext d2).heap.size, 0, none⟩) 1 1) rfl (.tmp 53) (.tmp 58) rfl Tryz.underlying24 info_int (by rfl) (by omega) intC_length intC_one (by omega) (by repeat (first | with_reducible (first | exact World.gained_refl _ | exact ⟨_, rfl⟩ | apply gain_ext | apply gain_alloc | apply gain_drewN | apply gain_drew) | (refine gain_setCell ?_ (by first | exact Nat.le_refl _ | exact World.size_ext _ _ | (simp; done) | (simp; omega)) _))) (Nat.le_refl _) (gain_size (by repeat (first | with_reducible (first | exact World.gained_refl _ | exact ⟨_, rfl⟩ | apply gain_ext | apply gain_alloc | apply gain_drewN | apply gain_drew) | (refine gain_setCell ?_ (by first | exact Nat.le_refl _ | exact World.size_ext _ _ | (simp; done) | (simp; omega)) _)))) (by first | rfl | (simp; done)) (by first | rfl | (simp; done)) HV3.out (World.sl_ext intC_length (sl_drew HU.out) _) (by simp; omega) ?_
          intro v4 d4 ho4 hg4
          have HV4 := Lib.hid ho4
          have HR4 := Lib.hid (own_mark (own_up HV2.out (by repeat (first | with_reducible (first | exact World.gained_refl _ | exact ⟨_, rfl⟩ | apply gain_ext | apply gain_alloc | apply gain_drewN | apply gain_drew) | (refine gain_setCell ?_ (by first | exact Nat.le_refl _ | exact World.size_ext _ _ | (simp; done) | (simp; omega)) _)))) hg4 HAP.out)
          have HO4 := Lib.hid (own_mark (own_up HOY.out (by repeat (first | with_reducible (first | exact World.gained_refl _ | exact ⟨_, rfl⟩ | apply gain_ext | apply gain_alloc | apply gain_drewN | apply gain_drew) | (refine gain_setCell ?_ (by first | exact Nat.le_refl _ | exact World.size_ext _ _ | (simp; done) | (simp; omega)) _)))) hg4 HAO.out)
          clear ho4 hg4 HV3 HU HAP HAO HV2 HOY
          (try dsimp only)
          refine hK.out _ _ ?_ (fun hHeld => ?_)
          · (try dsimp only); (refine ⟨?_, ?_, ?_, ?_, ?_⟩ <;> (with_reducible (repeat (first | assumption | refine cell_ext ?_ _ | refine cell_drew ?_ | refine cell_alloc ?_ _))))
          clear hK K
          try simp only [Act.put, List.setIfInBounds_toArray]
          refine wpAnyH_ready (rs := [12]) (by kernel_rfl) (by simp) ?_
          refine AllReadyH.cons rfl (fun K hK => ?_) (AllReadyH.nil)
          go_simp
          go_wp2_with fail
          refine (IH.out v4 v2 (begun ++ [y]) (left.eraseIdx k) _ (mp_up (HM0.out) (by repeat (first | with_reducible (first | exact World.gained_refl _ | exact ⟨_, rfl⟩ | apply gain_ext | apply gain_alloc | apply gain_drewN | apply gain_drew) | (refine gain_setCell ?_ (by first | exact Nat.le_refl _ | exact World.size_ext _ _ | (simp; done) | (simp; omega)) _)))) (by with_reducible (repeat (first | exact HS0.out | refine World.sl_ext Ctl.cells_length ?_ _ | refine sl_alloc Ctl.cells_length ?_ _ | refine sl_drew ?_))) (sl_of_own intC_length HV4.out) (sl_of_own intC_length HR4.out) (HN.out k hlt) HK.out).mono ?_
          rintro e w1 ⟨r, rfl, ⟨d5, rfl⟩, ho5⟩
          have HR5 := Lib.hid (own_base (b := W0.heap.size) ho5 (World.size_ext W0 d4))
          have HO5 := Lib.hid (own_up (w' := (W0.ext d4).ext d5) HO4.out ⟨_, rfl⟩)
          clear ho5 HV4 HR4 HO4
          (try dsimp only)
          refine hK.out _ _ ?_ (fun hHeld => ?_)
          · (try dsimp only); (refine ⟨?_, ?_, ?_, ?_, ?_⟩ <;> (with_reducible (repeat (first | assumption | refine cell_ext ?_ _ | refine cell_drew ?_ | refine cell_alloc ?_ _))))
          clear hK K
          try simp only [Act.put, List.setIfInBounds_toArray]
          refine wpAnyH_take (i := 13) (oi := ⟨_, _, _, _, _, _⟩) (v := ?_) rfl (by kernel_rfl) (by kernel_rfl) (by kernel_rfl) (fun _ _ _ h => h) (Or.inl ⟨by rfl, ?_⟩) (by assumption) ?_
          rotate_left
          · intro w hSw; (try dsimp only at hSw); go_simp; (try with_reducible rfl)
          try simp only [Act.put, List.setIfInBounds_toArray, List.set_cons_zero, List.set_cons_succ]
          refine wpAnyH_take (i := 14) (oi := ⟨_, _, _, _, _, _⟩) (v := ?_) rfl (by kernel_rfl) (by kernel_rfl) (by kernel_rfl) (fun _ _ _ h => h) (Or.inl ⟨by rfl, ?_⟩) (by assumption) ?_
          rotate_left
          · intro w hSw; (try dsimp only at hSw); go_simp; (try with_reducible rfl)
          try simp only [Act.put, List.setIfInBounds_toArray, List.set_cons_zero, List.set_cons_succ]
          refine wpAnyH_take (i := 15) (oi := ⟨_, _, _, _, _, _⟩) (v := ?_) rfl (by kernel_rfl) (by kernel_rfl) (by kernel_rfl) (fun _ _ _ h => h) (Or.inl ⟨by rfl, ?_⟩) (by assumption) ?_
          rotate_left
          · intro w hSw; (try dsimp only at hSw); go_simp; (try with_reducible rfl)
          try simp only [Act.put, List.setIfInBounds_toArray, List.set_cons_zero, List.set_cons_succ]
          refine wpAnyH_take (i := 16) (oi := ⟨_, _, _, _, _, _⟩) (v := ?_) rfl (by kernel_rfl) (by kernel_rfl) (by kernel_rfl) (fun _ _ _ h => h) (Or.inl ⟨by rfl, ?_⟩) (by assumption) ?_
          rotate_left
          · intro w hSw; (try dsimp only at hSw); go_simp; (try with_reducible rfl)
          try simp only [Act.put, List.setIfInBounds_toArray, List.set_cons_zero, List.set_cons_succ]
          refine wpAnyH_take (i := 17) (oi := ⟨_, _, _, _, _, _⟩) (v := ?_) rfl (by kernel_rfl) (by kernel_rfl) (by kernel_rfl) (fun _ _ _ h => h) (Or.inl ⟨by rfl, ?_⟩) (by assumption) ?_
          rotate_left
          · intro w hSw; (try dsimp only at hSw); go_simp; (try with_reducible rfl)
          try simp only [Act.put, List.setIfInBounds_toArray, List.set_cons_zero, List.set_cons_succ]
          refine wpAnyH_done (by kernel_rfl) ?_ _
          generalize ordS (tmT m l) fin n (begun ++ [y]) (left.eraseIdx k) = R at HR5 HSK HPK ⊢
          generalize ordK (tmT m l) fin n begun left k = S at HO5 HSK ⊢
          by_cases hc1 : S.2 < 0
          · have hd1 : decide (S.2 < 0) = true := decide_eq_true hc1
            have HE := Lib.hid (HSK.out.trans (better_yes (.inl hc1)))
            clear hc1
            go_wp2
            go_roundw
            case rel => exact ⟨k + 1, by omega, by go_num, by rw [HE.out], by rw [HE.out]; exact HR5.out, (by repeat (first | with_reducible (first | exact World.gained_refl _ | exact ⟨_, rfl⟩ | apply gain_ext | apply gain_alloc | apply gain_drewN | apply gain_drew) | (refine gain_setCell ?_ (by first | exact Nat.le_refl _ | exact World.size_ext _ _ | (simp; done) | (simp; omega)) _)))⟩
            case measure => simp [intOf]; omega
          · have hd1 : decide (S.2 < 0) = false := decide_eq_false hc1
            by_cases hc2 : R.2 < S.2
            · have hd2 : decide (R.2 < S.2) = true := decide_eq_true hc2
              have HE := Lib.hid (HSK.out.trans (better_yes (.inr hc2)))
              clear hc1 hc2
              go_wp2
              go_roundw
              case rel => exact ⟨k + 1, by omega, by go_num, by rw [HE.out], by rw [HE.out]; exact HR5.out, (by repeat (first | with_reducible (first | exact World.gained_refl _ | exact ⟨_, rfl⟩ | apply gain_ext | apply gain_alloc | apply gain_drewN | apply gain_drew) | (refine gain_setCell ?_ (by first | exact Nat.le_refl _ | exact World.size_ext _ _ | (simp; done) | (simp; omega)) _)))⟩
              case measure => simp [intOf]; omega
            · have hd2 : decide (R.2 < S.2) = false := decide_eq_false hc2
              have HE := Lib.hid (HSK.out.trans (better_keep (by omega)))
              clear hc1 hc2
              go_wp2
              go_roundw
              case rel => exact ⟨k + 1, by omega, by go_num, by rw [HE.out], by rw [HE.out]; exact HO5.out, (by repeat (first | with_reducible (first | exact World.gained_refl _ | exact ⟨_, rfl⟩ | apply gain_ext | apply gain_alloc | apply gain_drewN | apply gain_drew) | (refine gain_setCell ?_ (by first | exact Nat.le_refl _ | exact World.size_ext _ _ | (simp; done) | (simp; omega)) _)))⟩
              case measure => simp [intOf]; omega
      · obtain rfl : k = left.length := by omega
        go_wp2
        go_ret2
        exact ⟨_, rfl, gain_trans HUP.out ⟨_, rfl⟩, own_base HO.out HSZ.out⟩
end Go.Proofs.YtmcimgnobimicaaGreat
