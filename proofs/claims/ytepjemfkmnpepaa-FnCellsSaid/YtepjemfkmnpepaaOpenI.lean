/- impl.OpenParts. No condition. -/
import Derived.Test.YtepjemfkmnpepaaPOpen
import Derived.Test.YtepjemfkmnpepaaOpenS
import Derived.Test.YtepjemfkmnpepaaMapX
import Derived.Test.YtepjemfkmnpepaaMapB
import Derived.Test.YtepjemfkmnpepaaSortI
import Derived.Test.YtepjemfkmnpepaaAppWhere
import Derived.Test.YtepjemfkmnpepaaOwnAt
namespace Go
open RowKit Go.Ori
theorem own_made_bool {w : World} {n : Nat} {e : TypeId} (hn : n ≤ 1048576) : (w.alloc (.cells (madeCells #[Value.bool false] n) e)).own w.heap.size e boolC 1 (.slice (some ⟨w.heap.size, 0, none⟩) n n) (List.replicate n false) := by
  have h := owns_of_row (w := w.alloc (.cells (madeCells #[Value.bool false] n) e)) (enc := boolC) (sz := 1) (base := w.heap.size) (l := List.replicate n false) (cap := n) boolC_length (heap_alloc_new w _) (Nat.le_refl _) (by simp [madeCells]) (by simp) (by unfold maxLen; omega) (fun j hj => by
    simp only [List.length_replicate, Nat.mul_one] at hj
    have h1 := flat_get (enc := boolC) boolC_length (List.replicate n false) j (by simpa using hj) 0 (by omega)
    rw [Nat.mul_one, Nat.add_zero] at h1
    rw [h1]
    simp [madeCells, boolC, hj, Nat.mod_one])
  simpa [World.own] using h
theorem own_at_bool {w : World} {base g n cap : Nat} {e : TypeId} {l : List Bool} (h : w.own base e boolC 1 (.slice (some ⟨g, 0, none⟩) n cap) l) {k : Nat} (hk : k < l.length) :
    w.cell? ⟨g, k, none⟩ = some (.bool l[k]) ∧ w.frozen? ⟨g, k, none⟩ = false := by
  have hc := own_flat h (q := k) (by omega)
  have h1 := flat_get (enc := boolC) boolC_length l k hk 0 (by omega)
  rw [Nat.mul_one, Nat.add_zero] at h1
  rw [h1] at hc
  refine ⟨hc, ?_⟩
  obtain ⟨_, ⟨hv, _⟩ | ⟨g', cap', cur, hv, hb, hh, hle, hcap, hs, ht⟩⟩ := h
  · cases hv
  · simp only [Value.slice.injEq, Option.some.injEq, Addr.mk.injEq, and_true] at hv
    obtain ⟨rfl, rfl, rfl⟩ := hv
    exact World.free_of_heap hh k
theorem own_set_bool {w : World} {base g n cap : Nat} {e : TypeId} {l : List Bool} (h : w.own base e boolC 1 (.slice (some ⟨g, 0, none⟩) n cap) l) {k : Nat} (hk : k < l.length) (x : Bool) : (w.setCell ⟨g, k, none⟩ (.bool x)).own base e boolC 1 (.slice (some ⟨g, 0, none⟩) n cap) (l.set k x) := by
  have := own_put boolC_length h hk x
  rw [Nat.mul_one] at this
  exact this
theorem rows2_keep {e1 e : TypeId} {w w' : World} {lo b : Nat} {u v : Value} {vs : List Value} {m : List Int} {l : List (List Int)} (h : World.rows2 e1 e w lo u vs l) (hv : w.own b e intC 1 v m) (n1 : e ≠ e1) (ha : ∀ y ∈ vs, Apart2 y v) (hg : w.grownBy w' v.ownBlock) : World.rows2 e1 e w' lo u vs l :=
  ⟨own_mark h.out hg (apart_type h.out hv n1.symm), h.len, fun i hi hi' => own_mark (h.row i hi hi') hg (ha _ (List.getElem_mem _))⟩
/-- While the parts are gathered: the marks, the parts, the part at hand. -/
structure OSt (tB t2 tI : TypeId) (W0 X wr : World) (n gs : Nat) (o p : Value) (vs : List Value) (R : List (List Int)) (S : List Bool) (L : List Int) : Prop where
  up : ∃ d, wr = W0.ext d
  seen : wr.own W0.heap.size tB boolC 1 (.slice (some ⟨gs, 0, none⟩) n n) S
  part : wr.own X.heap.size tI intC 1 p L
  rows : World.rows2 t2 tI wr W0.heap.size o vs R
  old : ∀ y ∈ vs, ∀ b, y.ownBlock = some b → b < X.heap.size
  le : W0.heap.size ≤ X.heap.size
  nBI : tB ≠ tI
  nB2 : tB ≠ t2
  n2I : t2 ≠ tI
section
variable {tB t2 tI : TypeId} {W0 X wr wr' : World} {n gs : Nat} {o p : Value} {vs : List Value} {R : List (List Int)} {S : List Bool} {L : List Int}
theorem OSt.on (h : OSt tB t2 tI W0 X wr n gs o p vs R S L) (hg : ∃ d, wr' = wr.ext d) : OSt tB t2 tI W0 X wr' n gs o p vs R S L :=
  ⟨gain_trans h.up hg, own_up h.seen hg, own_up h.part hg, rows2_up h.rows hg, h.old, h.le, h.nBI, h.nB2, h.n2I⟩
theorem OSt.gs_ge (h : OSt tB t2 tI W0 X wr n gs o p vs R S L) : W0.heap.size ≤ gs := (own_lt h.seen gs rfl).1
theorem OSt.set (h : OSt tB t2 tI W0 X wr n gs o p vs R S L) {k : Nat} (hk : k < S.length) (b : Bool) : OSt tB t2 tI W0 X (wr.setCell ⟨gs, k, none⟩ (.bool b)) n gs o p vs R (S.set k b) L := by
  have hg : wr.grownBy (wr.setCell ⟨gs, k, none⟩ (.bool b)) (some gs) := only_setCell (only_refl _ _) rfl _
  exact ⟨gain_setCell h.up h.gs_ge _, own_set_bool h.seen hk b, own_mark (v := .slice (some ⟨gs, 0, none⟩) n n) h.part hg (apart_type h.part h.seen h.nBI.symm),
    rows2_mark (v := .slice (some ⟨gs, 0, none⟩) n n) h.rows h.seen h.nB2 h.nBI hg, h.old, h.le, h.nBI, h.nB2, h.n2I⟩
theorem OSt.setKeep (h : OSt tB t2 tI W0 X wr n gs o p vs R S L) {b : Nat} {v : Value} {Q : List Int} (hv : wr.own b tI intC 1 v Q) (k : Nat) (x : Value) : (wr.setCell ⟨gs, k, none⟩ x).own b tI intC 1 v Q :=
  own_mark (v := .slice (some ⟨gs, 0, none⟩) n n) hv (only_setCell (only_refl _ _) rfl _) (apart_type hv h.seen h.nBI.symm)
theorem OSt.apart (h : OSt tB t2 tI W0 X wr n gs o p vs R S L) : ∀ y ∈ vs, Apart2 y p := fun y hy b hb hp => by
  have := h.old y hy b hb
  have := (own_lt h.part b hp).1
  omega
theorem OSt.app (h : OSt tB t2 tI W0 X wr n gs o p vs R S L) {p' : Value} {L' : List Int} (hu : ∃ d, wr' = W0.ext d) (hp : wr'.own X.heap.size tI intC 1 p' L') (hg : wr.grownBy wr' p.ownBlock) : OSt tB t2 tI W0 X wr' n gs o p' vs R S L' :=
  ⟨hu, own_mark h.seen hg (apart_type h.seen h.part h.nBI), hp, rows2_keep h.rows h.part h.n2I.symm h.apart hg, h.old, h.le, h.nBI, h.nB2, h.n2I⟩
theorem apart_grown {w : World} {b : Nat} {e : TypeId} {p p' v : Value} {Q : List Int} (h : Apart2 v p) (hv : w.own b e intC 1 v Q) (hw : p'.ownBlock = p.ownBlock ∨ p'.ownBlock = some w.heap.size) : Apart2 v p' := fun q hq hp => by
  rcases hw with e | e
  · exact h q hq (by rw [← e]; exact hp)
  · rw [e] at hp
    injection hp with hp
    have := (own_lt hv q hq).2
    omega
/-- The part is laid by. -/
theorem OSt.fin (h : OSt tB t2 tI W0 X wr n gs o p vs R S L) {o' : Value} (ho : wr'.own W0.heap.size t2 valC 1 o' (vs ++ [p])) (hg : wr.grownBy wr' o.ownBlock) :
    wr'.own W0.heap.size tB boolC 1 (.slice (some ⟨gs, 0, none⟩) n n) S ∧ World.rows2 t2 tI wr' W0.heap.size o' (vs ++ [p]) (R ++ [L]) :=
  ⟨own_mark h.seen hg (apart_type h.seen h.rows.out h.nB2), rows2_snoc h.rows (own_base h.part h.le) h.n2I ho hg⟩
end
end Go
namespace Go.Proofs.Ytepjemfkmnpepaa
open Go.RowKit Go.Ori
theorem info_bool : (Try.prog.info? 4).map (fun i => (i.zero, i.size, i.bytes)) = some (some (.bool false), 1, 1) := by kernel_rfl
theorem sortIntsO_any (W w : World) (B g cap : Nat) (l : List Int) (hW : ∃ d, w = W.ext d) (hB : W.heap.size ≤ B) (ho : w.own B 3 intC 1 (.slice (some ⟨g, 0, none⟩) l.length cap) l) (hl : l.length ≤ 1048576) :
    Calls Try.prog 29 #[.slice (some ⟨g, 0, none⟩) l.length cap] w fun x w' => x = .returned (.tuple #[]) ∧ (∃ d, w' = W.ext d) ∧ w'.own B 3 intC 1 (.slice (some ⟨g, 0, none⟩) l.length cap) (l.mergeSort fun x y => decide (x ≤ y)) ∧ w.grownBy w' (some g) := by
  refine (Try.slices_Sort_int g 0 cap l w (holds_own ho) (own_lt ho g rfl).2 (by omega)).mono ?_
  rintro e w' ⟨rfl, n, os, rfl⟩
  have hlen : (l.mergeSort fun x y => decide (x ≤ y)).length = l.length := List.length_mergeSort l
  have h := own_rewritten hW hB ho hlen [] (List.append_nil _).symm n os
  rw [hlen] at h
  exact ⟨rfl, h.1, h.2, putRow_only g n _ os⟩
set_option maxHeartbeats 4000000 in
theorem impOpenParts_any (m : Mp) (rv cv : Value) (w : World) (h : w.mp rv cv m) :
    Calls Try.prog 11 #[.agg #[.int .i64 m.wd, .int .i64 m.ht, rv, cv]] w fun x w' => ∃ r vs, x = .returned (.tuple #[r, .bool (mapB m)]) ∧ (∃ d, w' = w.ext d) ∧ World.rows2 24 3 w' w.heap.size r vs (openPL m) := by
  have hm := Lib.hid h
  have HM := Lib.hid (fun W hW => isMap_any m rv cv W hW)
  cases hM : mapB m with
  | false =>
    have h0 : openPL m = [] := by simp [openPL, hM]
    rw [h0]
    rw [hM] at HM
    clear h0 hM
    go_enter Try.func11, Try.ntmps11
    go_wp2_with (go_at_call 28; refine (HM.out _ (mp_up (hm.out) (by repeat (first | with_reducible (first | exact World.gained_refl _ | exact ⟨_, rfl⟩ | apply gain_ext | apply gain_alloc | apply gain_drewN | apply gain_drew) | (refine gain_setCell ?_ (by first | exact Nat.le_refl _ | exact World.size_ext _ _ | (simp; done) | (simp; omega)) _))))).mono ?_; rintro e w1 ⟨rfl, d1, rfl⟩)
    go_ret2
    exact ⟨_, [], rfl, (by repeat (first | with_reducible (first | exact World.gained_refl _ | exact ⟨_, rfl⟩ | apply gain_ext | apply gain_alloc | apply gain_drewN | apply gain_drew) | (refine gain_setCell ?_ (by first | exact Nat.le_refl _ | exact World.size_ext _ _ | (simp; done) | (simp; omega)) _))), rows2_nil (own_nil _ _ _ _ _)⟩
  | true =>
    have h0 : openPL m = partsZ m m.cost.length := by simp [openPL, hM]
    rw [h0]
    rw [hM] at HM
    obtain ⟨W, H, hok⟩ := mapB_ok hM
    obtain ⟨b1, o1, c1, b2, o2, c2, hin⟩ := mp_in h hok
    have hn := hok.n36
    have HK := Lib.hid hok
    have HIN := Lib.hid hin
    have HCN := Lib.hid (fun c (hc : c < m.cost.length) W' hW => cellsNextTo_any m rv cv W H c W' hok hW hc)
    obtain rfl := hin.rv
    obtain rfl := hin.cv
    have hmk := fun w => run_make_rows (P := Try.prog) Try.underlying52 info_bool m.cost.length (by omega) (by omega) w
    clear h0 hM hok hin h
    go_enter Try.func11, Try.ntmps11
    go_wp2_with fail
    generalize hW0 : w.alloc (.cells #[.int .i64 m.wd, .int .i64 m.ht, .slice (some ⟨b1, o1, none⟩) m.cost.length c1, .slice (some ⟨b2, o2, none⟩) m.cost.length c2] 26) = W0
    have hbx : MBox w W0 w.heap.size m (.slice (some ⟨b1, o1, none⟩) m.cost.length c1) (.slice (some ⟨b2, o2, none⟩) m.cost.length c2) := by rw [← hW0]; exact mbox
    have HM0 := Lib.hid (mp_up hm.out hbx.up)
    refine (HM.out _ (mp_up (HM0.out) (by repeat (first | with_reducible (first | exact World.gained_refl _ | exact ⟨_, rfl⟩ | apply gain_ext | apply gain_alloc | apply gain_drewN | apply gain_drew) | (refine gain_setCell ?_ (by first | exact Nat.le_refl _ | exact World.size_ext _ _ | (simp; done) | (simp; omega)) _))))).mono ?_
    rintro e w1 ⟨rfl, d1, rfl⟩
    have HUP := Lib.hid (gain_trans hbx.up (show ∃ d, W0.ext d1 = W0.ext d from ⟨_, rfl⟩))
    have HMX := Lib.hid (mp_up HM0.out (show ∃ d, W0.ext d1 = W0.ext d from ⟨_, rfl⟩))
    have HI0 := Lib.hid (HIN.out.up HUP.out)
    have bx0 := cell_ext hbx.c0 d1
    have bx1 := cell_ext hbx.c1 d1
    have bx2 := cell_ext hbx.c2 d1
    have bx3 := cell_ext hbx.c3 d1
    have HSZ := Lib.hid (Nat.le_trans hbx.sz (World.size_ext W0 d1))
    clear hbx hm HM HIN HM0 hW0
    generalize W0.ext d1 = W1 at HUP HMX HI0 bx0 bx1 bx2 bx3 HSZ ⊢
    clear d1 W0
    have obx := World.oldB_of_cell bx0
    have ob1 := HI0.out.ob1
    have ob2 := HI0.out.ob2
    generalize w.heap.size = gM at bx0 bx1 bx2 bx3 obx ⊢
    have HS0 := Lib.hid (own_made_bool (w := W1) (n := m.cost.length) (e := 4) (by omega))
    obtain ⟨gs, HGS⟩ : ∃ gs, Hid (W1.heap.size = gs) := ⟨_, Lib.hid rfl⟩
    have HSZ1 := Lib.hid (World.size_alloc W1 (.cells (madeCells #[Value.bool false] m.cost.length) 4))
    go_wp2_with fail
    clear hmk
    simp only [HGS.out]
    go_loopw [5, 23] (fun o_ i_ wr => ∃ (k : Nat) (vs : List Value), k ≤ m.cost.length ∧ i_ = .int .i64 k ∧ wr.own W1.heap.size 4 boolC 1 (.slice (some ⟨gs, 0, none⟩) m.cost.length m.cost.length) (seenL m k []) ∧ World.rows2 24 3 wr W1.heap.size o_ vs (partsZ m k) ∧ ∃ d, wr = W1.ext d) (fun _ i_ _ => m.cost.length - (intOf i_).toNat)
    case atStart =>
      refine ⟨0, [], by omega, rfl, ?_, rows2_nil (own_base (own_up (own_lit' (w := W1.alloc (.cells (madeCells #[Value.bool false] m.cost.length) 4)) (base := (W1.alloc (.cells (madeCells #[Value.bool false] m.cost.length) 4)).heap.size) (l := ([] : List Value)) (C := #[]) (g := gs + 1) valC_length rfl (by rw [HSZ1.out, HGS.out]) (Nat.le_refl _)) (by repeat (first | with_reducible (first | exact World.gained_refl _ | exact ⟨_, rfl⟩ | apply gain_ext | apply gain_alloc | apply gain_drewN | apply gain_drew) | (refine gain_setCell ?_ (by first | exact Nat.le_refl _ | exact World.size_ext _ _ | (simp; done) | (simp; omega)) _)))) (by rw [HSZ1.out]; omega)), (by repeat (first | with_reducible (first | exact World.gained_refl _ | exact ⟨_, rfl⟩ | apply gain_ext | apply gain_alloc | apply gain_drewN | apply gain_drew) | (refine gain_setCell ?_ (by first | exact Nat.le_refl _ | exact World.size_ext _ _ | (simp; done) | (simp; omega)) _)))⟩
      rw [seenL_zero]
      have h := own_up (w' := (W1.alloc (.cells (madeCells #[Value.bool false] m.cost.length) 4)).alloc (.cells #[] 24)) HS0.out (by repeat (first | with_reducible (first | exact World.gained_refl _ | exact ⟨_, rfl⟩ | apply gain_ext | apply gain_alloc | apply gain_drewN | apply gain_drew) | (refine gain_setCell ?_ (by first | exact Nat.le_refl _ | exact World.size_ext _ _ | (simp; done) | (simp; omega)) _)))
      rw [HGS.out] at h ⊢
      exact h
    case round =>
      clear HS0 HSZ1
      obtain ⟨k, vs, hk, rfl, hse, hr, d, rfl⟩ := hrel
      have HS := Lib.hid hse
      have HR := Lib.hid hr
      have hvl : vs.length ≤ 36 := by rw [hr.len]; have := partsZ_len m k; omega
      obtain ⟨pr, kr, rfl, _⟩ := sl_of_own valC_length hr.out
      have hgo := World.size_ext W1 d
      clear hr
      by_cases hlt : k < m.cost.length
      · have ck := HI0.out.co k hlt
        have hc0 := (HK.out.cr k).1
        obtain ⟨s0, z0⟩ := own_at_bool hse (k := k) (by rw [seenL_len]; exact hlt)
        have obs := World.oldB_of_cell s0
        have hk0 : (0 : Int) ≤ (k : Int) := by omega
        have hk1 : (k : Int) < (m.cost.length : Int) := by omega
        clear hse
        by_cases h1 : 0 < costAt m k
        · have hz : (costAt m k == 0) = false := by simp; omega
          have HF := Lib.hid (seenL_first (m := m) (by rw [seenL_len]; exact hlt) h1)
          by_cases hh : IsHead m k
          · have hs1 : (seenL m k [])[k]'(by rw [seenL_len]; exact hlt) = false := by
              cases hx : (seenL m k [])[k]'(by rw [seenL_len]; exact hlt) with
              | false => rfl
              | true => exact absurd hh (HF.out.1 hx)
            rw [hs1] at s0
            clear HF hs1
            have HH := Lib.hid hh
            clear hh h1 hc0
            generalize costAt m k = cc at ck hz
            go_upto_region 9 with fail
            have HO0 : Hid (OSt 4 24 3 W1 (W1.ext d) ((W1.ext d).alloc (.cells #[.int .i64 (k : Int)] 3)) m.cost.length gs (.slice pr vs.length kr) (.slice (some ⟨(W1.ext d).heap.size, 0, none⟩) 1 1) vs (partsZ m k) (seenL m k []) [(k : Int)]) := Lib.hid
              ⟨(by repeat (first | with_reducible (first | exact World.gained_refl _ | exact ⟨_, rfl⟩ | apply gain_ext | apply gain_alloc | apply gain_drewN | apply gain_drew) | (refine gain_setCell ?_ (by first | exact Nat.le_refl _ | exact World.size_ext _ _ | (simp; done) | (simp; omega)) _))), own_up HS.out (by repeat (first | with_reducible (first | exact World.gained_refl _ | exact ⟨_, rfl⟩ | apply gain_ext | apply gain_alloc | apply gain_drewN | apply gain_drew) | (refine gain_setCell ?_ (by first | exact Nat.le_refl _ | exact World.size_ext _ _ | (simp; done) | (simp; omega)) _))), own_lit' (w := W1.ext d) (base := (W1.ext d).heap.size) (l := [(k : Int)]) (C := #[.int .i64 k]) intC_length rfl rfl (Nat.le_refl _), rows2_up HR.out (by repeat (first | with_reducible (first | exact World.gained_refl _ | exact ⟨_, rfl⟩ | apply gain_ext | apply gain_alloc | apply gain_drewN | apply gain_drew) | (refine gain_setCell ?_ (by first | exact Nat.le_refl _ | exact World.size_ext _ _ | (simp; done) | (simp; omega)) _))), fun y hy b hb => by
                obtain ⟨i, hi, rfl⟩ := List.getElem_of_mem hy
                exact (own_lt (HR.out.row i (by rw [← HR.out.len]; exact hi) hi) b hb).2, hgo, by decide, by decide, by decide⟩
            have HO1 := Lib.hid (HO0.out.set (k := k) (by rw [seenL_len]; exact hlt) true)
            rw [seenL_put, List.nil_append] at HO1
            clear HO0
            have HFT := Lib.hid (FT.start m k)
            go_wp2_with fail
            go_loopw [8, 9] (fun p_ t_ wr => ∃ (L : List Nat) (t : Nat), t_ = .int .i64 t ∧ FT m k L t ∧ OSt 4 24 3 W1 (W1.ext d) wr m.cost.length gs (.slice pr vs.length kr) p_ vs (partsZ m k) (seenL m k L) (natL L)) (fun _ t_ _ => m.cost.length - (intOf t_).toNat)
            case atStart => exact ⟨[k], 0, rfl, HFT.out, HO1.out⟩
            case round =>
              clear HO1 HFT s0 z0 ck obs HS HR
              obtain ⟨L, t, rfl, hft, hos⟩ := hrel
              have HFT := Lib.hid hft
              have hll := hft.1.len hlt
              have htl := hft.2.1
              have hL0 : 0 < (natL L).length := by rw [natL_length]; exact List.length_pos_of_mem hft.1.me
              obtain ⟨d2, rfl⟩ := hos.up
              have HOS := Lib.hid hos
              obtain ⟨gp, cp, hpv, hgp1, hgp2⟩ := own_addr hos.part hL0
              rw [natL_length] at hpv
              subst hpv
              clear hft hos hL0
              by_cases hlt2 : t < L.length
              · obtain ⟨c, hc⟩ : ∃ c, L[t] = c := ⟨_, rfl⟩
                have HFQ := Lib.hid (FQ.start HFT.out hlt2)
                rw [hc] at HFQ
                have hcn : c < m.cost.length := reach_lt hlt (HFT.out.1.re c (by rw [← hc]; exact List.getElem_mem hlt2))
                have c0 : (W1.ext d2).cell? ⟨gp, t, none⟩ = some (.int .i64 (c : Int)) := by
                  have h := own_at (n := L.length) HOS.out.part (k := t) (by rw [natL_length]; exact hlt2)
                  rw [h.1]
                  simp [natL, List.getD_eq_getElem?_getD, hlt2, hc]
                have obp := World.oldB_of_cell c0
                have ht0 : (0 : Int) ≤ (t : Int) := by omega
                have ht1 : (t : Int) < (L.length : Int) := by omega
                clear hc HFT
                go_wp2_with fail
                refine wp_region_held_drew (S := (fun w' => w'.cell? ⟨gM, 0, none⟩ = some (.int .i64 m.wd) ∧ w'.cell? ⟨gM, 1, none⟩ = some (.int .i64 m.ht) ∧ w'.cell? ⟨gM, 2, none⟩ = some (.slice (some ⟨b1, o1, none⟩) m.cost.length c1) ∧ w'.cell? ⟨gM, 3, none⟩ = some (.slice (some ⟨b2, o2, none⟩) m.cost.length c2) ∧ w'.cell? ⟨gp, t, none⟩ = some (.int .i64 (c : Int)))) (by kernel_rfl) (by (try dsimp only); (refine ⟨?_, ?_, ?_, ?_, ?_⟩ <;> (with_reducible (repeat (first | assumption | refine cell_ext ?_ _ | refine cell_drew ?_ | refine cell_alloc ?_ _))))) (fun hHeld => ?_)
                refine wpAnyH_take (i := 0) (oi := ⟨_, _, _, _, _, _⟩) (v := ?_) rfl (by kernel_rfl) (by kernel_rfl) (by kernel_rfl) (fun _ _ _ h => h) (Or.inl ⟨by rfl, ?_⟩) (by assumption) ?_
                rotate_left
                · intro w hSw; (try dsimp only at hSw); go_simp; (try with_reducible rfl)
                try simp only [Act.put, List.setIfInBounds_toArray, List.set_cons_zero, List.set_cons_succ]
                refine wpAnyH_take (i := 1) (oi := ⟨_, _, _, _, _, _⟩) (v := ?_) rfl (by kernel_rfl) (by kernel_rfl) (by kernel_rfl) (fun _ _ _ h => h) (Or.inl ⟨by rfl, ?_⟩) (by assumption) ?_
                rotate_left
                · intro w hSw; (try dsimp only at hSw); go_simp; (try with_reducible rfl)
                try simp only [Act.put, List.setIfInBounds_toArray, List.set_cons_zero, List.set_cons_succ]
                refine wpAnyH_take (i := 2) (oi := ⟨_, _, _, _, _, _⟩) (v := ?_) rfl (by kernel_rfl) (by kernel_rfl) (by kernel_rfl) (fun _ _ _ h => h) (Or.inl ⟨by rfl, ?_⟩) (by assumption) ?_
                rotate_left
                · intro w hSw; (try dsimp only at hSw); go_simp; (try with_reducible rfl)
                try simp only [Act.put, List.setIfInBounds_toArray, List.set_cons_zero, List.set_cons_succ]
                refine wpAnyH_take (i := 3) (oi := ⟨_, _, _, _, _, _⟩) (v := ?_) rfl (by kernel_rfl) (by kernel_rfl) (by kernel_rfl) (fun _ _ _ h => h) (Or.inl ⟨by rfl, ?_⟩) (by assumption) ?_
                rotate_left
                · intro w hSw; (try dsimp only at hSw); go_simp; (try with_reducible rfl)
                try simp only [Act.put, List.setIfInBounds_toArray, List.set_cons_zero, List.set_cons_succ]
                refine wpAnyH_take (i := 4) (oi := ⟨_, _, _, _, _, _⟩) (v := ?_) rfl (by kernel_rfl) (by kernel_rfl) (by kernel_rfl) (fun _ _ _ h => h) (Or.inl ⟨by rfl, ?_⟩) (by assumption) ?_
                rotate_left
                · intro w hSw; (try dsimp only at hSw); go_simp; (try with_reducible rfl)
                try simp only [Act.put, List.setIfInBounds_toArray, List.set_cons_zero, List.set_cons_succ]
                refine wpAnyH_take (i := 7) (oi := ⟨_, _, _, _, _, _⟩) (v := ?_) rfl (by kernel_rfl) (by kernel_rfl) (by kernel_rfl) (fun _ _ _ h => h) (Or.inl ⟨by rfl, ?_⟩) (by assumption) ?_
                rotate_left
                · intro w hSw; (try dsimp only at hSw); go_simp; (try with_reducible rfl)
                try simp only [Act.put, List.setIfInBounds_toArray, List.set_cons_zero, List.set_cons_succ]
                refine wpAnyH_ready (rs := [5]) (by kernel_rfl) (by simp) ?_
                refine AllReadyH.cons rfl (fun K hK => ?_) AllReadyH.nil
                go_simp
                go_wp2_with (go_at_call 23; refine (HCN.out c hcn _ (mp_up (HMX.out) (by repeat (first | with_reducible (first | exact World.gained_refl _ | exact ⟨_, rfl⟩ | apply gain_ext | apply gain_alloc | apply gain_drewN | apply gain_drew) | (refine gain_setCell ?_ (by first | exact Nat.le_refl _ | exact World.size_ext _ _ | (simp; done) | (simp; omega)) _))))).mono ?_; rintro e w1 ⟨v', rfl, ⟨d3, rfl⟩, ho⟩; have HN := Lib.hid ho; clear ho; obtain ⟨p3, k3, hpv, _⟩ := sl_of_own intC_length HN.out; rw [natL_length] at hpv; subst hpv)
                refine hK.out _ _ ?_ (fun hHeld => ?_)
                · (try dsimp only); (refine ⟨?_, ?_, ?_, ?_, ?_⟩ <;> (with_reducible (repeat (first | assumption | refine cell_ext ?_ _ | refine cell_drew ?_ | refine cell_alloc ?_ _))))
                clear hK K
                try simp only [Act.put, List.setIfInBounds_toArray, List.set_cons_zero, List.set_cons_succ]
                refine wpAnyH_take (i := 6) (oi := ⟨_, _, _, _, _, _⟩) (v := ?_) rfl (by kernel_rfl) (by kernel_rfl) (by kernel_rfl) (fun _ _ _ h => h) (Or.inl ⟨by rfl, ?_⟩) (by assumption) ?_
                rotate_left
                · intro w hSw; (try dsimp only at hSw); go_simp; (try with_reducible rfl)
                try simp only [Act.put, List.setIfInBounds_toArray, List.set_cons_zero, List.set_cons_succ]
                refine wpAnyH_done (by kernel_rfl) ?_ _
                have HAP := Lib.hid (apart2_new HOS.out.part HN.out).symm
                go_wp2_with fail
                go_loopw [8, 54] (fun p_ q_ wr => ∃ (L : List Nat) (q : Nat), q ≤ (nextL m c).length ∧ q_ = .int .i64 q ∧ FQ m k L t c q ∧ OSt 4 24 3 W1 (W1.ext d) wr m.cost.length gs (.slice pr vs.length kr) p_ vs (partsZ m k) (seenL m k L) (natL L) ∧ wr.own 0 3 intC 1 (.slice p3 (nextL m c).length k3) (natL (nextL m c)) ∧ Apart2 (.slice p3 (nextL m c).length k3) p_) (fun _ q_ _ => (nextL m c).length - (intOf q_).toNat)
                case atStart => exact ⟨L, 0, by omega, rfl, HFQ.out, HOS.out.on (by repeat (first | with_reducible (first | exact World.gained_refl _ | exact ⟨_, rfl⟩ | apply gain_ext | apply gain_alloc | apply gain_drewN | apply gain_drew) | (refine gain_setCell ?_ (by first | exact Nat.le_refl _ | exact World.size_ext _ _ | (simp; done) | (simp; omega)) _))), own_base HN.out (Nat.zero_le _), HAP.out⟩
                case round =>
                  clear HFQ HOS HN HAP c0 obp ht0 ht1 hlt2 htl hll hgp1 hgp2
                  obtain ⟨L, q, hq, rfl, hfq, hos, hnx, hap⟩ := hrel
                  have HFQ := Lib.hid hfq
                  have hll := hfq.1.1.len hlt
                  have htl : t < L.length := (List.getElem?_eq_some_iff.1 hfq.2.1).1
                  obtain ⟨d4, rfl⟩ := hos.up
                  have HOS := Lib.hid hos
                  have HNX := Lib.hid hnx
                  have HAP := Lib.hid hap
                  obtain ⟨gp2, cp2, hpv, hgp1, hgp2⟩ := own_addr hos.part (by rw [natL_length]; omega)
                  rw [natL_length] at hpv
                  subst hpv
                  clear hfq hos hnx hap
                  by_cases hlt3 : q < (nextL m c).length
                  · obtain ⟨b3, o3, rfl⟩ := sl_some (l := natL (nextL m c)) (sl_of_own intC_length HNX.out) (by rw [natL_length]; omega)
                    have y0 := sl_int (sl_of_own intC_length HNX.out) (k := q) (by rw [natL_length]; exact hlt3)
                    rw [natL_get] at y0
                    have hyl := next_at_lt hlt3
                    obtain ⟨s0, z0⟩ := own_at_bool HOS.out.seen (k := (nextL m c)[q]) (by rw [seenL_len]; exact hyl)
                    have HE := Lib.hid (seenL_next hlt HH.out HFQ.out hlt3 (by rw [seenL_len]; exact hyl))
                    have HOLD := Lib.hid (fun hm => HFQ.out.old hlt3 hm)
                    have HNEW := Lib.hid (fun hm => HFQ.out.new hlt3 hm)
                    have hq4 : q ≤ 36 := by have := next_len m c; rw [natL_length] at this; omega
                    generalize (nextL m c)[q] = y at y0 hyl s0 z0 HE HOLD HNEW
                    have obs := World.oldB_of_cell s0
                    have oby := World.oldB_of_cell y0
                    have hy0 : (0 : Int) ≤ (y : Int) := by omega
                    have hy1 : (y : Int) < (m.cost.length : Int) := by omega
                    have hyl2 : y < (seenL m k L).length := by rw [seenL_len]; exact hyl
                    by_cases hm : y ∈ L
                    · rw [HE.out.2 hm] at s0
                      have HS := Lib.hid (HOLD.out hm)
                      clear HE HOLD HNEW hm HFQ
                      go_wp2
                      go_roundw
                      case rel => exact ⟨L, q + 1, by omega, by go_num, HS.out, HOS.out, HNX.out, HAP.out⟩
                      case measure => simp [intOf]; omega
                    · have hsf : (seenL m k L)[y] = false := by
                        cases hx : (seenL m k L)[y] with
                        | false => rfl
                        | true => exact absurd (HE.out.1 hx) hm
                      rw [hsf] at s0
                      have HS := Lib.hid (HNEW.out hm)
                      have hln := HS.out.1.1.len hlt
                      rw [List.length_append] at hln
                      simp only [List.length_cons, List.length_nil] at hln
                      have HO2 := Lib.hid (HOS.out.set hyl2 true)
                      rw [seenL_put] at HO2
                      have HN2 := Lib.hid (HOS.out.setKeep HNX.out y (.bool true))
                      clear HE HOLD HNEW hm HFQ hsf HNX
                      go_upto_region 18 with fail
                      obtain ⟨d5, e5⟩ := HO2.out.up
                      rw [e5] at HO2 HN2 ⊢
                      clear e5 s0 z0 y0 obs oby HOS
                      have hbz : (W1.ext d).heap.size ≤ (W1.ext d5).heap.size := by
                        have := own_lt HO2.out.part gp2 rfl
                        omega
                      go_wp2_with (at_builtin; go_must (refine wpList_append_where (W := W1) (base := (W1.ext d).heap.size) (m := [(y : Int)]) rfl (.tmp 66) (.tmp 68) rfl Try.underlying24 info_int (by rfl) (by omega) intC_length intC_one (by omega) (by repeat (first | with_reducible (first | exact World.gained_refl _ | exact ⟨_, rfl⟩ | apply gain_ext | apply gain_alloc | apply gain_drewN | apply gain_drew) | (refine gain_setCell ?_ (by first | exact Nat.le_refl _ | exact World.size_ext _ _ | (simp; done) | (simp; omega)) _))) hgo (Nat.le_trans hbz (gain_size (by repeat (first | with_reducible (first | exact World.gained_refl _ | exact ⟨_, rfl⟩ | apply gain_ext | apply gain_alloc | apply gain_drewN | apply gain_drew) | (refine gain_setCell ?_ (by first | exact Nat.le_refl _ | exact World.size_ext _ _ | (simp; done) | (simp; omega)) _))))) rfl rfl (own_up (HO2.out.part) (by repeat (first | with_reducible (first | exact World.gained_refl _ | exact ⟨_, rfl⟩ | apply gain_ext | apply gain_alloc | apply gain_drewN | apply gain_drew) | (refine gain_setCell ?_ (by first | exact Nat.le_refl _ | exact World.size_ext _ _ | (simp; done) | (simp; omega)) _)))) (sl_lit (l := [(y : Int)]) intC_length rfl (by rfl)) (by simp) (by rw [natL_length]; simp; omega) ?_); intro p' d6 ho hg hw)
                      have HO3 := Lib.hid ((HO2.out.on (wr' := (W1.ext d5).alloc (.cells #[.int .i64 (y : Int)] 3)) (by repeat (first | with_reducible (first | exact World.gained_refl _ | exact ⟨_, rfl⟩ | apply gain_ext | apply gain_alloc | apply gain_drewN | apply gain_drew) | (refine gain_setCell ?_ (by first | exact Nat.le_refl _ | exact World.size_ext _ _ | (simp; done) | (simp; omega)) _)))).app ⟨_, rfl⟩ ho hg)
                      rw [← natL_snoc] at HO3
                      have HN3 := Lib.hid (own_mark (own_up HN2.out (by repeat (first | with_reducible (first | exact World.gained_refl _ | exact ⟨_, rfl⟩ | apply gain_ext | apply gain_alloc | apply gain_drewN | apply gain_drew) | (refine gain_setCell ?_ (by first | exact Nat.le_refl _ | exact World.size_ext _ _ | (simp; done) | (simp; omega)) _)))) hg HAP.out)
                      have HAP3 := Lib.hid (apart_grown HAP.out (own_up HN2.out (by repeat (first | with_reducible (first | exact World.gained_refl _ | exact ⟨_, rfl⟩ | apply gain_ext | apply gain_alloc | apply gain_drewN | apply gain_drew) | (refine gain_setCell ?_ (by first | exact Nat.le_refl _ | exact World.size_ext _ _ | (simp; done) | (simp; omega)) _)))) hw)
                      go_roundw
                      case rel => exact ⟨L ++ [y], q + 1, by omega, by go_num, HS.out, HO3.out, HN3.out, HAP3.out⟩
                      case measure => simp [intOf]; omega
                  · have HS := Lib.hid (HFQ.out.fin (by omega))
                    clear HFQ HNX HAP
                    go_wp2
                    go_roundw
                    case rel => exact ⟨L, t + 1, by go_num, HS.out, HOS.out⟩
                    case measure => simp [intOf]; omega
              · have HSO := Lib.hid (sortIntsO_any W1 (W1.ext d2) (W1.ext d).heap.size gp cp (natL L) ⟨_, rfl⟩ hgo (by rw [natL_length]; exact HOS.out.part) (by rw [natL_length]; omega))
                rw [natL_length, HFT.out.sort hlt (by omega)] at HSO
                have HSD := Lib.hid (seenL_done hlt HH.out HFT.out (by omega))
                have HPH := Lib.hid (partsZ_head HH.out)
                clear HFT
                go_wp2_with fail
                refine HSO.out.mono ?_
                rintro e w1 ⟨rfl, ⟨d3, rfl⟩, hso, hsg⟩
                have HO2 := Lib.hid (HOS.out.app ⟨_, rfl⟩ hso hsg)
                clear hso hsg HSO HOS
                go_wp2_with (at_builtin; go_must (refine wpList_append_val (x := _) rfl (.tmp 73) (.tmp 75) rfl Try.underlying34 info_slc (by rfl) (by omega) (by repeat (first | with_reducible (first | exact World.gained_refl _ | exact ⟨_, rfl⟩ | apply gain_ext | apply gain_alloc | apply gain_drewN | apply gain_drew) | (refine gain_setCell ?_ (by first | exact Nat.le_refl _ | exact World.size_ext _ _ | (simp; done) | (simp; omega)) _))) (Nat.le_refl _) (gain_size (by repeat (first | with_reducible (first | exact World.gained_refl _ | exact ⟨_, rfl⟩ | apply gain_ext | apply gain_alloc | apply gain_drewN | apply gain_drew) | (refine gain_setCell ?_ (by first | exact Nat.le_refl _ | exact World.size_ext _ _ | (simp; done) | (simp; omega)) _)))) rfl rfl rfl (own_up (HO2.out.rows.out) (by repeat (first | with_reducible (first | exact World.gained_refl _ | exact ⟨_, rfl⟩ | apply gain_ext | apply gain_alloc | apply gain_drewN | apply gain_drew) | (refine gain_setCell ?_ (by first | exact Nat.le_refl _ | exact World.size_ext _ _ | (simp; done) | (simp; omega)) _)))) (cell_lit (by first | rfl | simp [World.size_alloc])) (by omega) ?_); intro v9 d9 ho hg)
                have HF := Lib.hid ((HO2.out.on (wr' := (W1.ext d3).alloc (.cells #[.slice (some ⟨gp, 0, none⟩) L.length cp] 24)) (by repeat (first | with_reducible (first | exact World.gained_refl _ | exact ⟨_, rfl⟩ | apply gain_ext | apply gain_alloc | apply gain_drewN | apply gain_drew) | (refine gain_setCell ?_ (by first | exact Nat.le_refl _ | exact World.size_ext _ _ | (simp; done) | (simp; omega)) _)))).fin ho hg)
                go_roundw
                case rel => exact ⟨k + 1, _, by omega, by go_num, by rw [HSD.out]; exact HF.out.1, by rw [HPH.out]; exact HF.out.2, (by repeat (first | with_reducible (first | exact World.gained_refl _ | exact ⟨_, rfl⟩ | apply gain_ext | apply gain_alloc | apply gain_drewN | apply gain_drew) | (refine gain_setCell ?_ (by first | exact Nat.le_refl _ | exact World.size_ext _ _ | (simp; done) | (simp; omega)) _)))⟩
                case measure => simp [intOf]; omega
          · have hs1 : (seenL m k [])[k]'(by rw [seenL_len]; exact hlt) = true := HF.out.2 hh
            rw [hs1] at s0
            have HS2 := Lib.hid (seenL_skip hh)
            have HP := Lib.hid (partsZ_no hh)
            clear HF hs1 hh h1 hc0
            generalize costAt m k = cc at ck hz
            go_wp2
            go_roundw
            case rel => exact ⟨k + 1, vs, by omega, by go_num, by rw [HS2.out]; exact HS.out, by rw [HP.out]; exact rows2_up HR.out (by repeat (first | with_reducible (first | exact World.gained_refl _ | exact ⟨_, rfl⟩ | apply gain_ext | apply gain_alloc | apply gain_drewN | apply gain_drew) | (refine gain_setCell ?_ (by first | exact Nat.le_refl _ | exact World.size_ext _ _ | (simp; done) | (simp; omega)) _))), (by repeat (first | with_reducible (first | exact World.gained_refl _ | exact ⟨_, rfl⟩ | apply gain_ext | apply gain_alloc | apply gain_drewN | apply gain_drew) | (refine gain_setCell ?_ (by first | exact Nat.le_refl _ | exact World.size_ext _ _ | (simp; done) | (simp; omega)) _)))⟩
            case measure => simp [intOf]; omega
        · have hz : (costAt m k == 0) = true := by simp; omega
          have hh : ¬ IsHead m k := fun h => h1 h.1
          have HS2 := Lib.hid (seenL_skip hh)
          have HP := Lib.hid (partsZ_no hh)
          clear hh h1 hc0
          generalize costAt m k = cc at ck hz
          go_wp2
          go_roundw
          case rel => exact ⟨k + 1, vs, by omega, by go_num, by rw [HS2.out]; exact HS.out, by rw [HP.out]; exact rows2_up HR.out (by repeat (first | with_reducible (first | exact World.gained_refl _ | exact ⟨_, rfl⟩ | apply gain_ext | apply gain_alloc | apply gain_drewN | apply gain_drew) | (refine gain_setCell ?_ (by first | exact Nat.le_refl _ | exact World.size_ext _ _ | (simp; done) | (simp; omega)) _))), (by repeat (first | with_reducible (first | exact World.gained_refl _ | exact ⟨_, rfl⟩ | apply gain_ext | apply gain_alloc | apply gain_drewN | apply gain_drew) | (refine gain_setCell ?_ (by first | exact Nat.le_refl _ | exact World.size_ext _ _ | (simp; done) | (simp; omega)) _)))⟩
          case measure => simp [intOf]; omega
      · obtain rfl : k = m.cost.length := by omega
        go_wp2
        go_ret2
        exact ⟨_, vs, rfl, gain_trans HUP.out ⟨_, rfl⟩, rows2_base HR.out HSZ.out⟩
end Go.Proofs.Ytepjemfkmnpepaa
