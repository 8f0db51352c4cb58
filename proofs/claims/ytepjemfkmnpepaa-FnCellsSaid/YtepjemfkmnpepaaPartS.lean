/- spec.l2Part. No condition. -/
import Derived.Test.YtepjemfkmnpepaaPParts
import Derived.Test.YtepjemfkmnpepaaStepC
import Derived.Test.YtepjemfkmnpepaaL1Put
namespace Go.Ori
theorem sum01 {α : Type} (q : α → Prop) [DecidablePred q] : ∀ l : List α, (l.map fun x => if q x then 1 else 0).sum ≤ l.length
  | [] => Nat.le_refl _
  | a :: l => by
    have := sum01 q l
    rw [List.map_cons, List.sum_cons, List.length_cons]
    split <;> omega
/-- While a part is gathered: in order, all reached, with the first cell. -/
structure PL (m : Mp) (c : Nat) (L : List Int) : Prop where
  asc : L.Pairwise (· < ·)
  re : ∀ x ∈ L, ∃ k : Nat, x = k ∧ Reach m c k
  me : (c : Int) ∈ L
theorem PL.start (m : Mp) (c : Nat) : PL m c [(c : Int)] := ⟨by simp, fun x hx => ⟨c, by simpa using hx, .here⟩, by simp⟩
theorem PL.put {m : Mp} {c a b : Nat} {L : List Int} (h : PL m c L) (ha : (a : Int) ∈ L) (hb : b ∈ nextL m a) (hn : (b : Int) ∉ L) : PL m c (putL L b) ∧ (putL L b).length = L.length + 1 := by
  refine ⟨⟨putL_sorted h.asc hn, fun x hx => ?_, putG_mem.2 (.inr h.me)⟩, putG_length⟩
  rcases putG_mem.1 hx with rfl | hx
  · obtain ⟨k, e, hk⟩ := h.re _ ha
    obtain rfl : a = k := by omega
    exact ⟨b, rfl, hk.on hb⟩
  · exact h.re x hx
theorem PL.nat {m : Mp} {c : Nat} {L : List Int} (h : PL m c L) : L = natL (L.map Int.toNat) ∧ (L.map Int.toNat).Pairwise (· < ·) := by
  have hp : ∀ x ∈ L, ((x.toNat : Nat) : Int) = x := fun x hx => by
    obtain ⟨k, rfl, _⟩ := h.re x hx
    rfl
  refine ⟨?_, ?_⟩
  · rw [natL, List.map_map]
    conv => lhs; rw [← List.map_id L]
    exact List.map_congr_left fun x hx => (hp x hx).symm
  · rw [List.pairwise_map]
    exact h.asc.imp_of_mem fun {a b} ha hb hab => by
      have := hp a ha; have := hp b hb; omega
theorem PL.mem {m : Mp} {c k : Nat} {L : List Int} (h : PL m c L) : k ∈ L.map Int.toNat ↔ (k : Int) ∈ L := by
  rw [List.mem_map]
  constructor
  · rintro ⟨x, hx, e⟩
    obtain ⟨j, rfl, _⟩ := h.re x hx
    obtain rfl : j = k := by simpa using e
    exact hx
  · intro hx
    exact ⟨_, hx, by simp⟩
theorem PL.len {m : Mp} {c : Nat} {L : List Int} (h : PL m c L) (hc : c < m.cost.length) : L.length ≤ m.cost.length := by
  have h1 := len_count (n := m.cost.length) (p := L.map Int.toNat) (h.nat.2.imp fun h => by omega) (fun k hk => by
    obtain ⟨j, e, hj⟩ := h.re _ (h.mem.1 hk)
    obtain rfl : k = j := by omega
    exact reach_lt hc hj)
  have h2 := sum01 (fun x => x ∈ L.map Int.toNat) (List.range m.cost.length)
  rw [List.length_map] at h1
  rw [List.length_range] at h2
  exact Nat.le_trans (Nat.le_of_eq h1) h2
theorem PL.fin {m : Mp} {c : Nat} {L : List Int} (h : PL m c L) (hc : c < m.cost.length) (hcl : ∀ a : Nat, (a : Int) ∈ L → ∀ b ∈ nextL m a, (b : Int) ∈ L) : L = natL (partL m c) := by
  have h1 : L.map Int.toNat = partL m c := part_eq hc h.nat.2 fun k => by
    rw [h.mem]
    constructor
    · intro hk
      obtain ⟨j, e, hj⟩ := h.re _ hk
      obtain rfl : k = j := by omega
      exact hj
    · intro hr
      exact h.mem.1 (reach_closed (l := L.map Int.toNat) (h.mem.2 h.me) (fun a ha b hb => h.mem.2 (hcl a (h.mem.1 ha) b hb)) hr)
  rw [← h1]
  exact h.nat.1
/-- A pass over the cells: at the i-th; at its k-th neighbour. -/
def MI (m : Mp) (c : Nat) (n0 : Nat) (L : List Int) (G : Bool) (i : Nat) : Prop := PL m c L ∧ n0 ≤ L.length ∧ (G = true → n0 < L.length) ∧ (G = false → ∀ a : Nat, a < i → (a : Int) ∈ L → ∀ b ∈ nextL m a, (b : Int) ∈ L)
def MK (m : Mp) (c : Nat) (n0 : Nat) (L : List Int) (G : Bool) (i k : Nat) : Prop := MI m c n0 L G i ∧ (i : Int) ∈ L ∧ (G = false → ∀ b ∈ (nextL m i).take k, (b : Int) ∈ L)
theorem MI.start {m : Mp} {c : Nat} {L : List Int} (h : PL m c L) : MI m c L.length L false 0 := ⟨h, Nat.le_refl _, (fun h => by cases h), fun _ a ha => by omega⟩
theorem MI.skip {m : Mp} {c n0 i : Nat} {L : List Int} {G : Bool} (h : MI m c n0 L G i) (hi : (i : Int) ∉ L) : MI m c n0 L G (i + 1) := by
  refine ⟨h.1, h.2.1, h.2.2.1, fun hg a ha hm => ?_⟩
  rcases Nat.lt_or_ge a i with e | e
  · exact h.2.2.2 hg a e hm
  · obtain rfl : a = i := by omega
    exact absurd hm hi
theorem MK.start {m : Mp} {c n0 i : Nat} {L : List Int} {G : Bool} (h : MI m c n0 L G i) (hi : (i : Int) ∈ L) : MK m c n0 L G i 0 := ⟨h, hi, fun _ b hb => by simp at hb⟩
theorem MK.old {m : Mp} {c n0 i k : Nat} {L : List Int} {G : Bool} (h : MK m c n0 L G i k) (hk : k < (nextL m i).length) (hm : ((nextL m i)[k] : Int) ∈ L) : MK m c n0 L G i (k + 1) := by
  refine ⟨h.1, h.2.1, fun hg b hb => ?_⟩
  rw [List.take_succ_eq_append_getElem hk, List.mem_append, List.mem_singleton] at hb
  rcases hb with hb | rfl
  · exact h.2.2 hg b hb
  · exact hm
theorem MK.new {m : Mp} {c n0 i k : Nat} {L : List Int} {G : Bool} (h : MK m c n0 L G i k) (hk : k < (nextL m i).length) (hm : ((nextL m i)[k] : Int) ∉ L) : MK m c n0 (putL L (nextL m i)[k]) true i (k + 1) := by
  obtain ⟨h1, h2⟩ := h.1.1.put h.2.1 (List.getElem_mem hk) hm
  have := h.1.2.1
  exact ⟨⟨h1, by omega, (fun _ => by omega), (fun h => by cases h)⟩, putG_mem.2 (.inr h.2.1), (fun h => by cases h)⟩
theorem MK.fin {m : Mp} {c n0 i k : Nat} {L : List Int} {G : Bool} (h : MK m c n0 L G i k) (hk : (nextL m i).length ≤ k) : MI m c n0 L G (i + 1) := by
  refine ⟨h.1.1, h.1.2.1, h.1.2.2.1, fun hg a ha hm => ?_⟩
  rcases Nat.lt_or_ge a i with e | e
  · exact h.1.2.2.2 hg a e hm
  · obtain rfl : a = i := by omega
    have := h.2.2 hg
    rwa [List.take_of_length_le hk] at this
def sliceLen : Value → Nat
  | .slice _ n _ => n
  | _ => 0
def boolN : Value → Nat
  | .bool true => 1
  | _ => 0
def loopM (n : Nat) (o g : Value) : Nat := 2 * (n - sliceLen o) + boolN g
end Go.Ori
namespace Go.Proofs.Ytepjemfkmnpepaa
open Go.RowKit Go.Ori
set_option maxHeartbeats 4000000 in
theorem l2Part_any (m : Mp) (rv cv : Value) (W H c : Nat) (w : World) (hok : MapOk m W H) (h : w.mp rv cv m) (hc : c < m.cost.length) :
    Calls Try.prog 30 #[.agg #[.int .i64 m.wd, .int .i64 m.ht, rv, cv], .int .i64 c] w fun x w' => ∃ v', x = .returned v' ∧ (∃ d, w' = w.ext d) ∧ w'.own w.heap.size 3 intC 1 v' (natL (partL m c)) := by
  have hm := Lib.hid h
  obtain ⟨b1, o1, c1, b2, o2, c2, hin⟩ := mp_in h hok
  have hn := hok.n36
  have HK := Lib.hid hok
  have HNX := Lib.hid (fun i (hi : i < m.cost.length) W' hW => l2Next_any m rv cv W H i W' hok hW hi)
  obtain rfl := hin.rv
  obtain rfl := hin.cv
  clear hok hin h
  go_enter Try.func30, Try.ntmps30
  go_wp2_with fail
  generalize hW0 : w.alloc (.cells #[.int .i64 m.wd, .int .i64 m.ht, .slice (some ⟨b1, o1, none⟩) m.cost.length c1, .slice (some ⟨b2, o2, none⟩) m.cost.length c2] 26) = W0
  have hbx : MBox w W0 w.heap.size m (.slice (some ⟨b1, o1, none⟩) m.cost.length c1) (.slice (some ⟨b2, o2, none⟩) m.cost.length c2) := by rw [← hW0]; exact mbox
  have HUP := Lib.hid hbx.up
  have HM0 := Lib.hid (mp_up hm.out hbx.up)
  have bx0 := hbx.c0
  have bx1 := hbx.c1
  have bx2 := hbx.c2
  have bx3 := hbx.c3
  have obx := hbx.ob
  have HSZ := Lib.hid hbx.sz
  have hsz := hbx.sz
  have hse := hbx.se
  clear hW0 hbx hm
  generalize w.heap.size = gM at bx0 bx1 bx2 bx3 obx hsz hse ⊢
  go_loopw [5, 6] (fun o_ g_ wr => ∃ (L : List Int) (G : Bool), g_ = .bool G ∧ PL m c L ∧ (G = false → ∀ a : Nat, a < m.cost.length → (a : Int) ∈ L → ∀ b ∈ nextL m a, (b : Int) ∈ L) ∧ wr.own W0.heap.size 3 intC 1 o_ L ∧ ∃ d, wr = W0.ext d) (fun o_ g_ _ => loopM m.cost.length o_ g_)
  case atStart => exact ⟨_, true, rfl, PL.start m c, (fun h => by cases h), own_lit' (l := [(c : Int)]) (C := #[.int .i64 c]) intC_length rfl hse.symm (Nat.le_refl _), (by repeat (first | with_reducible (first | exact World.gained_refl _ | exact ⟨_, rfl⟩ | apply gain_ext | apply gain_alloc | apply gain_drewN | apply gain_drew) | (refine gain_setCell ?_ (by first | exact Nat.le_refl _ | exact World.size_ext _ _ | (simp; done) | (simp; omega)) _)))⟩
  case round =>
    obtain ⟨L, G, rfl, hpl, hfin, ho, d, rfl⟩ := hrel
    have HPL := Lib.hid hpl
    have HFI := Lib.hid hfin
    have HO := Lib.hid ho
    have hL0 := hpl.len hc
    obtain ⟨p0, k0, rfl, _⟩ := sl_of_own intC_length ho
    clear hpl hfin ho
    cases G with
    | false =>
      have HE := Lib.hid (HPL.out.fin hc (fun a ha b hb => HFI.out rfl a (by
        obtain ⟨k, e, hk⟩ := HPL.out.re _ ha
        obtain rfl : a = k := by omega
        exact reach_lt hc hk) ha b hb))
      go_wp2
      go_ret
      rw [← HE.out]
      exact ⟨_, rfl, gain_trans HUP.out ⟨_, rfl⟩, own_base HO.out HSZ.out⟩
    | true =>
      have HMI := Lib.hid (MI.start HPL.out)
      go_wp2_with fail
      go_loopw [5, 6, 7] (fun o_ g_ i_ wr => ∃ (L2 : List Int) (G : Bool) (i : Nat), i ≤ m.cost.length ∧ i_ = .int .i64 i ∧ g_ = .bool G ∧ MI m c L.length L2 G i ∧ wr.own W0.heap.size 3 intC 1 o_ L2 ∧ ∃ d, wr = W0.ext d) (fun _ _ i_ _ => m.cost.length - (intOf i_).toNat)
      case atStart => exact ⟨L, false, 0, by omega, rfl, rfl, HMI.out, HO.out, _, rfl⟩
      case round =>
        clear HPL HFI HMI HO
        obtain ⟨L2, G, i, hi, rfl, rfl, hmi, ho, d2, rfl⟩ := hrel
        have HMI := Lib.hid hmi
        have HO := Lib.hid ho
        have hl2 := hmi.1.len hc
        obtain ⟨p2, k2, rfl, _⟩ := sl_of_own intC_length ho
        clear hmi ho
        by_cases hlt : i < m.cost.length
        · have HX := Lib.hid (fun W' hL => l1Has_any (.slice p2 L2.length k2) L2 (i : Int) W' hL (by omega))
          cases hH : hasB L2 (i : Int) with
          | false =>
            have HS := Lib.hid (HMI.out.skip (fun h => by rw [hasB_iff.2 h] at hH; cases hH))
            rw [hH] at HX
            clear hH
            go_wp2_with (go_at_call 37; refine (HX.out _ (by with_reducible (repeat (first | exact sl_of_own intC_length HO.out | refine World.sl_ext intC_length ?_ _ | refine sl_alloc intC_length ?_ _ | refine sl_drew ?_)))).mono ?_; rintro e w1 ⟨rfl, d3, rfl⟩)
            go_roundw
            case rel => exact ⟨L2, G, i + 1, by omega, by go_num, rfl, HS.out, own_up HO.out (by repeat (first | with_reducible (first | exact World.gained_refl _ | exact ⟨_, rfl⟩ | apply gain_ext | apply gain_alloc | apply gain_drewN | apply gain_drew) | (refine gain_setCell ?_ (by first | exact Nat.le_refl _ | exact World.size_ext _ _ | (simp; done) | (simp; omega)) _))), (by repeat (first | with_reducible (first | exact World.gained_refl _ | exact ⟨_, rfl⟩ | apply gain_ext | apply gain_alloc | apply gain_drewN | apply gain_drew) | (refine gain_setCell ?_ (by first | exact Nat.le_refl _ | exact World.size_ext _ _ | (simp; done) | (simp; omega)) _)))⟩
            case measure => simp [intOf]; omega
          | true =>
            have HMK := Lib.hid (MK.start HMI.out (hasB_iff.1 hH))
            rw [hH] at HX
            clear hH
            go_wp2_with (go_at_call 37; refine (HX.out _ (by with_reducible (repeat (first | exact sl_of_own intC_length HO.out | refine World.sl_ext intC_length ?_ _ | refine sl_alloc intC_length ?_ _ | refine sl_drew ?_)))).mono ?_; rintro e w1 ⟨rfl, d3, rfl⟩)
            refine (HNX.out i hlt _ (mp_up (HM0.out) (by repeat (first | with_reducible (first | exact World.gained_refl _ | exact ⟨_, rfl⟩ | apply gain_ext | apply gain_alloc | apply gain_drewN | apply gain_drew) | (refine gain_setCell ?_ (by first | exact Nat.le_refl _ | exact World.size_ext _ _ | (simp; done) | (simp; omega)) _))))).mono ?_
            rintro e w1 ⟨v', rfl, ⟨d4, rfl⟩, hn'⟩
            have HQ := Lib.hid (sl_of_own intC_length hn')
            clear hn'
            have HQL := Lib.hid (natL_length (nextL m i))
            have hq4 := next_len m i
            have HOLD := Lib.hid (fun (L3 : List Int) (G : Bool) (k : Nat) (hk : k < (natL (nextL m i)).length) (h : MK m c L.length L3 G i k) (hm : (natL (nextL m i))[k] ∈ L3) => h.old (by rw [← natL_length]; exact hk) (by rw [natL_get] at hm; exact hm))
            have HNEW := Lib.hid (fun (L3 : List Int) (G : Bool) (k : Nat) (hk : k < (natL (nextL m i)).length) (h : MK m c L.length L3 G i k) (hm : (natL (nextL m i))[k] ∉ L3) => (show MK m c L.length (putL L3 (natL (nextL m i))[k]) true i (k + 1) from by rw [natL_get] at hm ⊢; exact h.new (by rw [← natL_length]; exact hk) hm))
            have HFIN := Lib.hid (fun (L3 : List Int) (G : Bool) (k : Nat) (hk : (natL (nextL m i)).length ≤ k) (h : MK m c L.length L3 G i k) => h.fin (by rw [← natL_length]; exact hk))
            generalize natL (nextL m i) = Q at HQ HQL HOLD HNEW HFIN hq4
            clear HQL HMI
            obtain ⟨p3, k3, rfl, _⟩ := HQ.out
            go_wp2_with fail
            go_loopw [5, 6, 9] (fun o_ g_ k_ wr => ∃ (L3 : List Int) (G : Bool) (k : Nat), k ≤ Q.length ∧ k_ = .int .i64 k ∧ g_ = .bool G ∧ MK m c L.length L3 G i k ∧ wr.own W0.heap.size 3 intC 1 o_ L3 ∧ wr.sl intC 1 (.slice p3 Q.length k3) Q ∧ ∃ d, wr = W0.ext d) (fun _ _ k_ _ => Q.length - (intOf k_).toNat)
            case atStart => exact ⟨L2, G, 0, by omega, rfl, rfl, HMK.out, own_up HO.out (by repeat (first | with_reducible (first | exact World.gained_refl _ | exact ⟨_, rfl⟩ | apply gain_ext | apply gain_alloc | apply gain_drewN | apply gain_drew) | (refine gain_setCell ?_ (by first | exact Nat.le_refl _ | exact World.size_ext _ _ | (simp; done) | (simp; omega)) _))), (by with_reducible (repeat (first | exact HQ.out | refine World.sl_ext intC_length ?_ _ | refine sl_alloc intC_length ?_ _ | refine sl_drew ?_))), (by repeat (first | with_reducible (first | exact World.gained_refl _ | exact ⟨_, rfl⟩ | apply gain_ext | apply gain_alloc | apply gain_drewN | apply gain_drew) | (refine gain_setCell ?_ (by first | exact Nat.le_refl _ | exact World.size_ext _ _ | (simp; done) | (simp; omega)) _)))⟩
            case round =>
              clear HMK HO HQ HX
              obtain ⟨L3, G, k, hk, rfl, rfl, hmk, ho, hq, d5, rfl⟩ := hrel
              have HMK := Lib.hid hmk
              have HO := Lib.hid ho
              have HQ := Lib.hid hq
              have hl3 := hmk.1.1.len hc
              have h03 : 0 < L3.length := List.length_pos_of_mem hmk.1.1.me
              obtain ⟨p4, k4, rfl, _⟩ := sl_of_own intC_length ho
              obtain ⟨b4, o4, rfl⟩ := sl_some (sl_of_own intC_length HO.out) h03
              clear hmk ho hq
              by_cases hk2 : k < Q.length
              · obtain ⟨b5, o5, rfl⟩ := sl_some HQ.out (by omega)
                have c0 := sl_int HQ.out hk2
                have HYES := Lib.hid (HOLD.out L3 G k hk2 HMK.out)
                have HNO := Lib.hid (HNEW.out L3 G k hk2 HMK.out)
                generalize Q[k] = y at c0 HYES HNO
                have ob := World.oldB_of_cell c0
                have HX := Lib.hid (fun W' hL => l1Has_any (.slice (some ⟨b4, o4, none⟩) L3.length k4) L3 y W' hL (by omega))
                cases hH : hasB L3 y with
                | true =>
                  have HS := Lib.hid (HYES.out (hasB_iff.1 hH))
                  rw [hH] at HX
                  clear hH HYES HNO
                  go_wp2_with (go_at_call 37; refine (HX.out _ (by with_reducible (repeat (first | exact sl_of_own intC_length HO.out | refine World.sl_ext intC_length ?_ _ | refine sl_alloc intC_length ?_ _ | refine sl_drew ?_)))).mono ?_; rintro e w1 ⟨rfl, d6, rfl⟩)
                  go_roundw
                  case rel => exact ⟨L3, G, k + 1, by omega, by go_num, rfl, HS.out, own_up HO.out (by repeat (first | with_reducible (first | exact World.gained_refl _ | exact ⟨_, rfl⟩ | apply gain_ext | apply gain_alloc | apply gain_drewN | apply gain_drew) | (refine gain_setCell ?_ (by first | exact Nat.le_refl _ | exact World.size_ext _ _ | (simp; done) | (simp; omega)) _))), (by with_reducible (repeat (first | exact HQ.out | refine World.sl_ext intC_length ?_ _ | refine sl_alloc intC_length ?_ _ | refine sl_drew ?_))), (by repeat (first | with_reducible (first | exact World.gained_refl _ | exact ⟨_, rfl⟩ | apply gain_ext | apply gain_alloc | apply gain_drewN | apply gain_drew) | (refine gain_setCell ?_ (by first | exact Nat.le_refl _ | exact World.size_ext _ _ | (simp; done) | (simp; omega)) _)))⟩
                  case measure => simp [intOf]; omega
                | false =>
                  have HS := Lib.hid (HNO.out (fun h => by rw [hasB_iff.2 h] at hH; cases hH))
                  have HP := Lib.hid (fun W' hL => l1Put_any b4 o4 k4 L3 y W' hL (by omega) hH)
                  rw [hH] at HX
                  clear hH HYES HNO
                  go_wp2_with (go_at_call 37; refine (HX.out _ (by with_reducible (repeat (first | exact sl_of_own intC_length HO.out | refine World.sl_ext intC_length ?_ _ | refine sl_alloc intC_length ?_ _ | refine sl_drew ?_)))).mono ?_; rintro e w1 ⟨rfl, d6, rfl⟩)
                  refine (HP.out _ (by with_reducible (repeat (first | exact sl_of_own intC_length HO.out | refine World.sl_ext intC_length ?_ _ | refine sl_alloc intC_length ?_ _ | refine sl_drew ?_)))).mono ?_
                  rintro e w1 ⟨v', rfl, ⟨d7, rfl⟩, ho⟩
                  have HO2 := Lib.hid (own_base (b := W0.heap.size) ho (gain_size (by repeat (first | with_reducible (first | exact World.gained_refl _ | exact ⟨_, rfl⟩ | apply gain_ext | apply gain_alloc | apply gain_drewN | apply gain_drew) | (refine gain_setCell ?_ (by first | exact Nat.le_refl _ | exact World.size_ext _ _ | (simp; done) | (simp; omega)) _)))))
                  clear ho HO HX HP
                  go_wp2_with fail
                  go_roundw
                  case rel => exact ⟨putL L3 y, true, k + 1, by omega, by go_num, rfl, HS.out, HO2.out, (by with_reducible (repeat (first | exact HQ.out | refine World.sl_ext intC_length ?_ _ | refine sl_alloc intC_length ?_ _ | refine sl_drew ?_))), (by repeat (first | with_reducible (first | exact World.gained_refl _ | exact ⟨_, rfl⟩ | apply gain_ext | apply gain_alloc | apply gain_drewN | apply gain_drew) | (refine gain_setCell ?_ (by first | exact Nat.le_refl _ | exact World.size_ext _ _ | (simp; done) | (simp; omega)) _)))⟩
                  case measure => simp [intOf]; omega
              · have HS := Lib.hid (HFIN.out L3 G k (by omega) HMK.out)
                go_wp2
                go_roundw
                case rel => exact ⟨L3, G, i + 1, by omega, by go_num, rfl, HS.out, HO.out, _, rfl⟩
                case measure => simp [intOf]; omega
        · have HPL := Lib.hid HMI.out.1
          have hmi := HMI.out
          have hG : G = true → L.length < L2.length := hmi.2.2.1
          have hle := hmi.2.1
          have HCL := Lib.hid (fun hg (a : Nat) (ha : a < m.cost.length) => hmi.2.2.2 hg a (by omega))
          clear hmi
          go_wp2
          go_roundw
          case rel => exact ⟨L2, G, rfl, HPL.out, fun hg a ha => HCL.out hg a ha, HO.out, _, rfl⟩
          case measure =>
            simp only [loopM, sliceLen, boolN]
            cases G with
            | true => have := hG rfl; simp only [boolN]; omega
            | false => simp only [boolN]; omega
end Go.Proofs.Ytepjemfkmnpepaa
