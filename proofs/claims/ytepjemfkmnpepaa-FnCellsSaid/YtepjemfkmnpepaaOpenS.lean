/- spec.OpenParts. No condition. -/
import Derived.Test.YtepjemfkmnpepaaPartS
import Derived.Test.YtepjemfkmnpepaaRows2
import Derived.Test.YtepjemfkmnpepaaNest
namespace Go.Ori
noncomputable def partsZ (m : Mp) (k : Nat) : List (List Int) := (partsN m k).map natL
noncomputable def openPL (m : Mp) : List (List Int) := if mapB m then partsZ m m.cost.length else []
theorem partsZ_len (m : Mp) (k : Nat) : (partsZ m k).length ≤ k := by rw [partsZ, List.length_map]; exact parts_len m k
theorem partsZ_head {m : Mp} {k : Nat} (h : IsHead m k) : partsZ m (k + 1) = partsZ m k ++ [natL (partL m k)] := by rw [partsZ, parts_head h, List.map_append]; rfl
theorem partsZ_no {m : Mp} {k : Nat} (h : ¬ IsHead m k) : partsZ m (k + 1) = partsZ m k := by rw [partsZ, parts_no h]; rfl
theorem part_pos {m : Mp} {k : Nat} (hk : k < m.cost.length) : 0 < (natL (partL m k)).length := by
  rw [natL_length]
  exact List.length_pos_of_mem (part_mem.2 ⟨hk, .here⟩)
theorem part_head {m : Mp} {k : Nat} (hk : k < m.cost.length) (h0 : 0 < costAt m k) : (natL (partL m k))[0]'(part_pos hk) = (k : Int) ↔ IsHead m k := by
  have hp := part_pos hk
  rw [head_first hk h0, natL_get]
  rw [natL_length] at hp
  rw [List.head?_eq_getElem?, List.getElem?_eq_getElem hp, Option.some.injEq]
  constructor <;> intro h <;> omega
theorem part_le (m : Mp) (k : Nat) : (natL (partL m k)).length ≤ m.cost.length := by rw [natL_length]; exact part_len m k
end Go.Ori
namespace Go.Proofs.Ytepjemfkmnpepaa
open Go.RowKit Go.Ori
set_option maxHeartbeats 2000000 in
theorem specOpenParts_any (m : Mp) (rv cv : Value) (w : World) (h : w.mp rv cv m) :
    Calls Try.prog 12 #[.agg #[.int .i64 m.wd, .int .i64 m.ht, rv, cv]] w fun x w' => ∃ r vs, x = .returned (.tuple #[r, .bool (mapB m)]) ∧ (∃ d, w' = w.ext d) ∧ World.rows2 24 3 w' w.heap.size r vs (openPL m) := by
  have hm := Lib.hid h
  have HM := Lib.hid (fun W hW => l2Map_any m rv cv W hW)
  cases hM : mapB m with
  | false =>
    have h0 : openPL m = [] := by simp [openPL, hM]
    rw [h0]
    rw [hM] at HM
    clear h0 hM
    go_enter Try.func12, Try.ntmps12
    go_wp2_with (go_at_call 24; refine (HM.out _ (mp_up (hm.out) (by repeat (first | with_reducible (first | exact World.gained_refl _ | exact ⟨_, rfl⟩ | apply gain_ext | apply gain_alloc | apply gain_drewN | apply gain_drew) | (refine gain_setCell ?_ (by first | exact Nat.le_refl _ | exact World.size_ext _ _ | (simp; done) | (simp; omega)) _))))).mono ?_; rintro e w1 ⟨rfl, d1, rfl⟩)
    go_ret2
    exact ⟨_, [], rfl, (by repeat (first | with_reducible (first | exact World.gained_refl _ | exact ⟨_, rfl⟩ | apply gain_ext | apply gain_alloc | apply gain_drewN | apply gain_drew) | (refine gain_setCell ?_ (by first | exact Nat.le_refl _ | exact World.size_ext _ _ | (simp; done) | (simp; omega)) _))), rows2_nil (own_up (own_lit' (w := w.alloc (.cells #[.int .i64 m.wd, .int .i64 m.ht, rv, cv] 26)) (base := w.heap.size) (l := ([] : List Value)) (C := #[]) valC_length rfl (World.size_alloc _ _).symm (gain_size (by repeat (first | with_reducible (first | exact World.gained_refl _ | exact ⟨_, rfl⟩ | apply gain_ext | apply gain_alloc | apply gain_drewN | apply gain_drew) | (refine gain_setCell ?_ (by first | exact Nat.le_refl _ | exact World.size_ext _ _ | (simp; done) | (simp; omega)) _))))) (by repeat (first | with_reducible (first | exact World.gained_refl _ | exact ⟨_, rfl⟩ | apply gain_ext | apply gain_alloc | apply gain_drewN | apply gain_drew) | (refine gain_setCell ?_ (by first | exact Nat.le_refl _ | exact World.size_ext _ _ | (simp; done) | (simp; omega)) _))))⟩
  | true =>
    have h0 : openPL m = partsZ m m.cost.length := by simp [openPL, hM]
    rw [h0]
    rw [hM] at HM
    obtain ⟨W, H, hok⟩ := mapB_ok hM
    obtain ⟨b1, o1, c1, b2, o2, c2, hin⟩ := mp_in h hok
    have hn := hok.n36
    have HK := Lib.hid hok
    have HIN := Lib.hid hin
    have HPT := Lib.hid (fun k (hk : k < m.cost.length) W' hW => l2Part_any m rv cv W H k W' hok hW hk)
    obtain rfl := hin.rv
    obtain rfl := hin.cv
    clear h0 hM hok hin h
    go_enter Try.func12, Try.ntmps12
    go_wp2_with (go_at_call 24; refine (HM.out _ (mp_up (hm.out) (by repeat (first | with_reducible (first | exact World.gained_refl _ | exact ⟨_, rfl⟩ | apply gain_ext | apply gain_alloc | apply gain_drewN | apply gain_drew) | (refine gain_setCell ?_ (by first | exact Nat.le_refl _ | exact World.size_ext _ _ | (simp; done) | (simp; omega)) _))))).mono ?_; rintro e w1 ⟨rfl, d1, rfl⟩)
    generalize hW0 : w.alloc (.cells #[.int .i64 m.wd, .int .i64 m.ht, .slice (some ⟨b1, o1, none⟩) m.cost.length c1, .slice (some ⟨b2, o2, none⟩) m.cost.length c2] 26) = W0
    have hbx : MBox w W0 w.heap.size m (.slice (some ⟨b1, o1, none⟩) m.cost.length c1) (.slice (some ⟨b2, o2, none⟩) m.cost.length c2) := by rw [← hW0]; exact mbox
    have HUP := Lib.hid hbx.up
    have HM0 := Lib.hid (mp_up hm.out hbx.up)
    have HI0 := Lib.hid (HIN.out.up hbx.up)
    have ob1 := HI0.out.ob1
    have ob2 := HI0.out.ob2
    have bx0 := hbx.c0
    have bx1 := hbx.c1
    have bx2 := hbx.c2
    have bx3 := hbx.c3
    have obx := hbx.ob
    have HSZ := Lib.hid hbx.sz
    have hse := hbx.se
    clear hW0 hbx hm HM HIN
    generalize w.heap.size = gM at bx0 bx1 bx2 bx3 obx hse ⊢
    go_loopw [4, 5] (fun o_ i_ wr => ∃ (k : Nat) (vs : List Value), k ≤ m.cost.length ∧ i_ = .int .i64 k ∧ World.rows2 24 3 wr W0.heap.size o_ vs (partsZ m k) ∧ ∃ d, wr = W0.ext d) (fun _ i_ _ => m.cost.length - (intOf i_).toNat)
    case atStart => exact ⟨0, [], by omega, rfl, rows2_nil (own_up (own_lit' (w := W0) (base := W0.heap.size) (l := ([] : List Value)) (C := #[]) (g := gM + 1) valC_length rfl hse.symm (Nat.le_refl _)) (by repeat (first | with_reducible (first | exact World.gained_refl _ | exact ⟨_, rfl⟩ | apply gain_ext | apply gain_alloc | apply gain_drewN | apply gain_drew) | (refine gain_setCell ?_ (by first | exact Nat.le_refl _ | exact World.size_ext _ _ | (simp; done) | (simp; omega)) _)))), (by repeat (first | with_reducible (first | exact World.gained_refl _ | exact ⟨_, rfl⟩ | apply gain_ext | apply gain_alloc | apply gain_drewN | apply gain_drew) | (refine gain_setCell ?_ (by first | exact Nat.le_refl _ | exact World.size_ext _ _ | (simp; done) | (simp; omega)) _)))⟩
    case round =>
      obtain ⟨k, vs, hk, rfl, hr, d, rfl⟩ := hrel
      have HR := Lib.hid hr
      have hvl : vs.length ≤ 36 := by rw [hr.len]; have := partsZ_len m k; omega
      obtain ⟨pr, kr, rfl, _⟩ := sl_of_own valC_length hr.out
      clear hr
      by_cases hlt : k < m.cost.length
      · have ck := HI0.out.co k hlt
        have hc0 := (HK.out.cr k).1
        by_cases h1 : 0 < costAt m k
        · have hz : (costAt m k == 0) = false := by simp; omega
          have HPH : Hid (∀ h0 : 0 < (natL (partL m k)).length, ((natL (partL m k))[0]'h0 = (k : Int) ↔ IsHead m k)) := Lib.hid (fun _ => part_head hlt h1)
          have HEQ := Lib.hid (show ∃ Q, natL (partL m k) = Q from ⟨_, rfl⟩)
          have HPP := Lib.hid (part_pos hlt)
          have HLE := Lib.hid (part_le m k)
          generalize costAt m k = cc at ck hz
          go_wp2_with fail
          refine (HPT.out k hlt _ (mp_up (HM0.out) (by repeat (first | with_reducible (first | exact World.gained_refl _ | exact ⟨_, rfl⟩ | apply gain_ext | apply gain_alloc | apply gain_drewN | apply gain_drew) | (refine gain_setCell ?_ (by first | exact Nat.le_refl _ | exact World.size_ext _ _ | (simp; done) | (simp; omega)) _))))).mono ?_
          rintro e w1 ⟨v', rfl, ⟨d3, rfl⟩, ho⟩
          have HO := Lib.hid ho
          clear ho
          generalize hQ : natL (partL m k) = Q at HPH HPP HLE HO
          have HQE := Lib.hid hQ
          clear hQ HEQ
          have hq0 := HPP.out
          have hle := HLE.out
          obtain ⟨p6, k6, rfl, _⟩ := sl_of_own intC_length HO.out
          obtain ⟨b6, o6, rfl⟩ := sl_some (sl_of_own intC_length HO.out) hq0
          have y0 := sl_int (sl_of_own intC_length HO.out) hq0
          have HH := Lib.hid (HPH.out hq0)
          clear HPH
          generalize Q[0] = y at y0 HH
          simp only [Nat.add_zero] at y0
          have oby := World.oldB_of_cell y0
          have hq1 : (0 : Int) < (Q.length : Int) := by omega
          by_cases hy : y = (k : Int)
          · have hyb : (y == (k : Int)) = true := by simp [hy]
            have HS := Lib.hid (partsZ_head (HH.out.1 hy))
            clear hy
            go_wp2_with (at_builtin; go_must (refine wpList_append_val (x := _) rfl (.tmp 33) (.tmp 35) rfl Try.underlying34 info_slc (by rfl) (by omega) (by repeat (first | with_reducible (first | exact World.gained_refl _ | exact ⟨_, rfl⟩ | apply gain_ext | apply gain_alloc | apply gain_drewN | apply gain_drew) | (refine gain_setCell ?_ (by first | exact Nat.le_refl _ | exact World.size_ext _ _ | (simp; done) | (simp; omega)) _))) (Nat.le_refl _) (gain_size (by repeat (first | with_reducible (first | exact World.gained_refl _ | exact ⟨_, rfl⟩ | apply gain_ext | apply gain_alloc | apply gain_drewN | apply gain_drew) | (refine gain_setCell ?_ (by first | exact Nat.le_refl _ | exact World.size_ext _ _ | (simp; done) | (simp; omega)) _)))) rfl rfl rfl (own_up (HR.out.out) (by repeat (first | with_reducible (first | exact World.gained_refl _ | exact ⟨_, rfl⟩ | apply gain_ext | apply gain_alloc | apply gain_drewN | apply gain_drew) | (refine gain_setCell ?_ (by first | exact Nat.le_refl _ | exact World.size_ext _ _ | (simp; done) | (simp; omega)) _)))) (cell_lit (by first | rfl | simp [World.size_alloc])) (by omega) ?_); intro v9 d9 ho hg)
            go_roundw
            case rel => exact ⟨k + 1, _, by omega, by go_num, by rw [HS.out, HQE.out]; exact rows2_snoc (rows2_up HR.out (by repeat (first | with_reducible (first | exact World.gained_refl _ | exact ⟨_, rfl⟩ | apply gain_ext | apply gain_alloc | apply gain_drewN | apply gain_drew) | (refine gain_setCell ?_ (by first | exact Nat.le_refl _ | exact World.size_ext _ _ | (simp; done) | (simp; omega)) _)))) (own_base (own_up HO.out (by repeat (first | with_reducible (first | exact World.gained_refl _ | exact ⟨_, rfl⟩ | apply gain_ext | apply gain_alloc | apply gain_drewN | apply gain_drew) | (refine gain_setCell ?_ (by first | exact Nat.le_refl _ | exact World.size_ext _ _ | (simp; done) | (simp; omega)) _)))) (gain_size (by repeat (first | with_reducible (first | exact World.gained_refl _ | exact ⟨_, rfl⟩ | apply gain_ext | apply gain_alloc | apply gain_drewN | apply gain_drew) | (refine gain_setCell ?_ (by first | exact Nat.le_refl _ | exact World.size_ext _ _ | (simp; done) | (simp; omega)) _))))) (by decide) ho hg, (by repeat (first | with_reducible (first | exact World.gained_refl _ | exact ⟨_, rfl⟩ | apply gain_ext | apply gain_alloc | apply gain_drewN | apply gain_drew) | (refine gain_setCell ?_ (by first | exact Nat.le_refl _ | exact World.size_ext _ _ | (simp; done) | (simp; omega)) _)))⟩
            case measure => simp [intOf]; omega
          · have hyb : (y == (k : Int)) = false := by simp [hy]
            have HS := Lib.hid (partsZ_no (fun h => hy (HH.out.2 h)))
            clear hy
            go_wp2
            go_roundw
            case rel => exact ⟨k + 1, vs, by omega, by go_num, by rw [HS.out]; exact rows2_up HR.out (by repeat (first | with_reducible (first | exact World.gained_refl _ | exact ⟨_, rfl⟩ | apply gain_ext | apply gain_alloc | apply gain_drewN | apply gain_drew) | (refine gain_setCell ?_ (by first | exact Nat.le_refl _ | exact World.size_ext _ _ | (simp; done) | (simp; omega)) _))), (by repeat (first | with_reducible (first | exact World.gained_refl _ | exact ⟨_, rfl⟩ | apply gain_ext | apply gain_alloc | apply gain_drewN | apply gain_drew) | (refine gain_setCell ?_ (by first | exact Nat.le_refl _ | exact World.size_ext _ _ | (simp; done) | (simp; omega)) _)))⟩
            case measure => simp [intOf]; omega
        · have hz : (costAt m k == 0) = true := by simp; omega
          have HS := Lib.hid (partsZ_no (m := m) (k := k) (fun h => h1 h.1))
          generalize costAt m k = cc at ck hz
          clear h1 hc0
          go_wp2
          go_roundw
          case rel => exact ⟨k + 1, vs, by omega, by go_num, by rw [HS.out]; exact rows2_up HR.out (by repeat (first | with_reducible (first | exact World.gained_refl _ | exact ⟨_, rfl⟩ | apply gain_ext | apply gain_alloc | apply gain_drewN | apply gain_drew) | (refine gain_setCell ?_ (by first | exact Nat.le_refl _ | exact World.size_ext _ _ | (simp; done) | (simp; omega)) _))), (by repeat (first | with_reducible (first | exact World.gained_refl _ | exact ⟨_, rfl⟩ | apply gain_ext | apply gain_alloc | apply gain_drewN | apply gain_drew) | (refine gain_setCell ?_ (by first | exact Nat.le_refl _ | exact World.size_ext _ _ | (simp; done) | (simp; omega)) _)))⟩
          case measure => simp [intOf]; omega
      · obtain rfl : k = m.cost.length := by omega
        go_wp2
        go_ret2
        exact ⟨_, vs, rfl, gain_trans HUP.out ⟨_, rfl⟩, rows2_base HR.out HSZ.out⟩
end Go.Proofs.Ytepjemfkmnpepaa
