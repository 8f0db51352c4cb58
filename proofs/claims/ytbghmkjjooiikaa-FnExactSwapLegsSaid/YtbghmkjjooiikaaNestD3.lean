/- laws.markIntSSS on slices whose rows lie apart: what it leaves in the rows; laws.heldIntSS, laws.heldIntSSS find it there. Conditions: a size of at most 1048576, small numbers. -/
import Derived.Test.YtbghmkjjooiikaaNestD
namespace Go
open RowKit Go.Ori
theorem rows2_keep {e1 e : TypeId} {w w' : World} {lo : Nat} {u : Value} {vs ws : List Value} {l : List (List Int)} (h : World.rows2 e1 e w lo u vs l) (hk : World.apartKept ws w w') (h1 : ∀ x ∈ ws, Apart2 u x) (h2 : ∀ y ∈ vs, ∀ x ∈ ws, Apart2 y x) : World.rows2 e1 e w' lo u vs l :=
  ⟨hk.keep h.out h1, h.len, fun i hi hi' => hk.keep (h.row i hi hi') (h2 _ (List.getElem_mem hi'))⟩
/-- A slice of slices of rows of ints of the call's own; us: the slices of rows; vss: the rows; all rows lie apart. -/
structure World.rows3 (e2 e1 e : TypeId) (w : World) (lo : Nat) (v : Value) (us : List Value) (vss : List (List Value)) (l : List (List (List Int))) : Prop where
  out : w.own lo e2 valC 1 v us
  len : us.length = l.length
  len2 : vss.length = l.length
  row : ∀ (i : Nat) (h : i < l.length) (h1 : i < us.length) (h2 : i < vss.length), World.rows2 e1 e w lo us[i] vss[i] l[i]
  ap1 : ∀ x ∈ vss, x.Pairwise Apart2
  ap2 : vss.Pairwise fun a b => ∀ x ∈ a, ∀ y ∈ b, Apart2 x y
theorem rows3_own {e2 e1 e : TypeId} {w : World} {lo : Nat} {v : Value} {us : List Value} {vss : List (List Value)} {l : List (List (List Int))} (h : World.rows3 e2 e1 e w lo v us vss l) : World.own3 e2 e1 e w lo v l :=
  ⟨us, h.out, h.len, fun i hi hi' => rows2_own (h.row i hi hi' (by rw [h.len2]; exact hi))⟩
theorem rows3_up {e2 e1 e : TypeId} {w w' : World} {lo : Nat} {v : Value} {us : List Value} {vss : List (List Value)} {l : List (List (List Int))} (h : World.rows3 e2 e1 e w lo v us vss l) (hg : ∃ d, w' = w.ext d) : World.rows3 e2 e1 e w' lo v us vss l :=
  ⟨own_up h.out hg, h.len, h.len2, fun i hi h1 h2 => rows2_up (h.row i hi h1 h2) hg, h.ap1, h.ap2⟩
end Go
namespace Go.Proofs.Ytbghmkjjooiikaa
open Go.RowKit Go.Ori
set_option maxHeartbeats 1000000 in
theorem markIntSSSD_any (A : World) (v : Value) (us : List Value) (vss : List (List Value)) (l : List (List (List Int))) (w : World) (lo : Nat) (k0 : Int) (h0 : 0 ≤ k0) (h1 : k0 ≤ 4194304) (hl : tot3 l ≤ 1048576) (h : World.rows3 31 34 3 w lo v us vss l) (hA : ∃ d, w = A.ext d) (hB : A.heap.size ≤ lo) :
    Calls Try.prog 15 #[v, .int .i64 k0] w fun x w' => x = .returned (.int .i64 (k0 + (cnt3 l : Nat))) ∧ World.rows3 31 34 3 w' lo v us vss (marks3 k0 l) ∧ ∃ d, w' = A.ext d := by
  have HR := Lib.hid h
  have HA := Lib.hid hA
  have HT := Lib.hid (fun (k : Nat) (hk : k < l.length) => Nat.le_trans (tot3_at hk) hl)
  have hll : l.length ≤ 1048576 := Nat.le_trans (tot3_len l) hl
  have hcl : cnt3 l ≤ 1048576 := Nat.le_trans (cnt3_le l) hl
  have HCE : Hid (cnt3 l = psum cnt2 l l.length) := Lib.hid rfl
  have hvl := Lib.hid h.len
  have hvl2 := Lib.hid h.len2
  obtain ⟨p, c, hv, _⟩ := sl_of_own valC_length h.out
  subst hv
  rw [hvl.out] at HR ⊢
  clear h hA
  go_enter Try.func15, Try.ntmps15
  go_wp2
  go_loopw [1, 5] (fun t i wr => ∃ k : Nat, k ≤ l.length ∧ i = .int .i64 k ∧ t = .int .i64 (k0 + (psum cnt2 l k : Nat)) ∧ (∃ d, wr = A.ext d) ∧ wr.own lo 31 valC 1 (.slice p l.length c) us ∧ (∀ (j : Nat) (hj : j < l.length) (hj' : j < us.length) (hj2 : j < vss.length), j < k → World.rows2 34 3 wr lo us[j] vss[j] (marks2 (k0 + (psum cnt2 l j : Nat)) l[j])) ∧ ∀ (j : Nat) (hj : j < l.length) (hj' : j < us.length) (hj2 : j < vss.length), k ≤ j → World.rows2 34 3 wr lo us[j] vss[j] l[j]) (fun _ i _ => l.length - (intOf i).toNat)
  case atStart => exact ⟨0, by omega, rfl, by simp [psum_zero], HA.out, HR.out.out, fun j _ _ _ h => absurd h (Nat.not_lt_zero _), fun j hj hj' hj2 _ => HR.out.row j hj hj' hj2⟩
  case round =>
    obtain ⟨k, hk, rfl, rfl, hgA, hout, hdone, htodo⟩ := hrel
    have HGA := Lib.hid hgA
    have HOUT := Lib.hid hout
    have HDN := Lib.hid hdone
    have HTD := Lib.hid htodo
    clear hgA hdone htodo
    by_cases hlt : k < l.length
    · have hkv : k < us.length := by rw [hvl.out]; exact hlt
      have hkv2 : k < vss.length := by rw [hvl2.out]; exact hlt
      obtain ⟨b, o, rfl⟩ := sl_some (sl_of_own valC_length hout) (by rw [hvl.out]; omega)
      have c0 := sl_cells (sl_of_own valC_length hout) hkv (j := 0) (by omega)
      simp only [valC, List.getElem?_cons_zero, Nat.add_zero, Nat.mul_one] at c0
      have ob := World.oldB_of_cell c0
      have hrow := HTD.out k hlt hkv hkv2 (Nat.le_refl _)
      have hTk := Lib.hid (HT.out k hlt)
      have HS := Lib.hid (psum_succ cnt2 l hlt)
      have hle := psum_le cnt2 l (k := k) (by omega)
      rw [← HCE.out] at hle
      have hne : ∀ x ∈ vss[k]'hkv2, ∃ (m : List Int), wr.own lo 3 intC 1 x m := fun x hx => by
        obtain ⟨i, hi, rfl⟩ := List.getElem_of_mem hx
        exact ⟨_, hrow.row i (by rw [← hrow.len]; exact hi) hi⟩
      have HNE := Lib.hid hne
      have HSTEP := Lib.hid (fun (w' : World) (hk' : World.apartKept (vss[k]'hkv2) wr w') (hm : World.rows2 34 3 w' lo (us[k]'hkv) (vss[k]'hkv2) (marks2 (k0 + (psum cnt2 l k : Nat)) l[k])) =>
        (⟨hk'.keep HOUT.out (fun x hx => by obtain ⟨m, hm⟩ := HNE.out x hx; exact apart_type HOUT.out hm (by decide)),
          fun j hj hj' hj2 hjk => by
            by_cases e : j = k
            · subst e; exact hm
            · exact rows2_keep (HDN.out j hj hj' hj2 (by omega)) hk' (fun x hx => by obtain ⟨m, hm⟩ := HNE.out x hx; exact apart_type (HDN.out j hj hj' hj2 (by omega)).out hm (by decide)) (fun y hy x hx => List.pairwise_iff_getElem.1 HR.out.ap2 j k hj2 hkv2 (by omega) y hy x hx),
          fun j hj hj' hj2 hjk => rows2_keep (HTD.out j hj hj' hj2 (by omega)) hk' (fun x hx => by obtain ⟨m, hm⟩ := HNE.out x hx; exact apart_type (HTD.out j hj hj' hj2 (by omega)).out hm (by decide)) (fun y hy x hx => (List.pairwise_iff_getElem.1 HR.out.ap2 k j hkv2 hj2 (by omega) x hx y hy).symm)⟩ :
        w'.own lo 31 valC 1 (.slice (some ⟨b, o, none⟩) l.length c) us ∧ (∀ (j : Nat) (hj : j < l.length) (hj' : j < us.length) (hj2 : j < vss.length), j < k + 1 → World.rows2 34 3 w' lo us[j] vss[j] (marks2 (k0 + (psum cnt2 l j : Nat)) l[j])) ∧ ∀ (j : Nat) (hj : j < l.length) (hj' : j < us.length) (hj2 : j < vss.length), k + 1 ≤ j → World.rows2 34 3 w' lo us[j] vss[j] l[j]))
      have HK0 := Lib.hid (markIntSSD_any A (us[k]'hkv) (vss[k]'hkv2) l[k] wr lo (k0 + (psum cnt2 l k : Nat)) (by omega) (by omega) hTk.out hrow (HR.out.ap1 _ (List.getElem_mem hkv2)) HGA.out hB)
      clear hout hrow hne
      generalize us[k]'hkv = u at c0 HSTEP HK0
      have hS := HS.out
      have HS2 := Lib.hid hS
      clear hS
      generalize cnt2 l[k] = n at HS2 HK0
      generalize psum cnt2 l k = S at HS2 hle HSTEP HK0 ⊢
      clear HS
      go_wp2_with fail
      refine HK0.out.mono ?_
      rintro e w1 ⟨rfl, hm, hak, hgA1⟩
      have HM := Lib.hid (HSTEP.out w1 hak hm)
      have HG1 := Lib.hid hgA1
      clear hm hak hgA1
      go_wp2
      go_roundw
      case rel => exact ⟨k + 1, by omega, by go_num, by rw [HS2.out]; apply congrArg; omega, HG1.out, HM.out.1, HM.out.2.1, HM.out.2.2⟩
      case measure => simp [intOf]; omega
    · clear hout
      go_wp2
      go_ret
      obtain rfl : k = l.length := by omega
      exact ⟨by rw [HCE.out]; rfl, ⟨HOUT.out, by rw [hvl.out, marks3_length], by rw [hvl2.out, marks3_length], fun i hi h1 h2 => by
        rw [marks3_length] at hi
        rw [marks3_get _ _ _ _ hi]
        exact HDN.out i hi h1 h2 hi, HR.out.ap1, HR.out.ap2⟩, HGA.out⟩
theorem heldIntS1_any (v : Value) (l : List Int) (w : World) (k0 : Int) (h0 : 0 ≤ k0) (h1 : k0 ≤ 16777216) (hl : tot1 l ≤ 1048576) (h : w.sl1 v (marks k0 l.length)) :
    Calls Try.prog 77 #[v, .int .i64 k0] w fun x w' => x = .returned (.int .i64 (k0 + (cnt1 l : Nat))) ∧ ∃ d, w' = w.ext d := heldIntS_any v l.length w k0 h0 h1 hl h
set_option maxHeartbeats 1000000 in
theorem heldIntSS_any (v : Value) (l : List (List Int)) (w : World) (k0 : Int) (h0 : 0 ≤ k0) (h1 : k0 ≤ 8388608) (hl : tot2 l ≤ 1048576) (h : w.sl2 v (marks2 k0 l)) :
    Calls Try.prog 92 #[v, .int .i64 k0] w fun x w' => x = .returned (.int .i64 (k0 + (cnt2 l : Nat))) ∧ ∃ d, w' = w.ext d := by
  have hs := Lib.hid h
  have HT := Lib.hid (fun (k : Nat) (hk : k < l.length) => Nat.le_trans (tot2_at hk) hl)
  have hll : l.length ≤ 1048576 := Nat.le_trans (tot2_len l) hl
  have hcl : cnt2 l ≤ 1048576 := Nat.le_trans (cnt2_le l) hl
  have HCE : Hid (cnt2 l = psum cnt1 l l.length) := Lib.hid rfl
  have HML := Lib.hid (marks2_length k0 l)
  obtain ⟨p, c, hv⟩ := sl2_form h
  rw [HML.out] at hv
  subst hv
  clear h
  go_enter Try.func92, Try.ntmps92
  go_wp2
  go_loopw [1, 5] (fun t i wr => ∃ k : Nat, k ≤ l.length ∧ i = .int .i64 k ∧ t = .int .i64 (k0 + (psum cnt1 l k : Nat)) ∧ ∃ d, wr = w.ext d) (fun _ i _ => l.length - (intOf i).toNat)
  case atStart => exact ⟨0, by omega, rfl, by simp [psum_zero], w.gained_refl⟩
  case round =>
    obtain ⟨k, hk, rfl, rfl, d, rfl⟩ := hrel
    by_cases hlt : k < l.length
    · obtain ⟨b, o, rfl⟩ := slOf_some hs.out (by rw [HML.out]; omega)
      obtain ⟨u, c0, hu⟩ := slOf_at hs.out (k := k) (by rw [HML.out]; exact hlt)
      rw [marks2_get _ _ _ _ hlt] at hu
      have ob := World.oldB_of_cell c0
      have hTk := HT.out k hlt
      have HS := Lib.hid (psum_succ cnt1 l hlt)
      have hle := psum_le cnt1 l (k := k) (by omega)
      rw [← HCE.out] at hle
      have HK0 := Lib.hid (fun W (hg : ∃ d, W = w.ext d) => heldIntS1_any u l[k] W (k0 + (psum cnt1 l k : Nat)) (by omega) (by omega) hTk (sl1_up hu hg))
      have HS2 := Lib.hid HS.out
      generalize cnt1 l[k] = n at HS2 HK0
      generalize psum cnt1 l k = S at HS2 hle HK0 ⊢
      clear HS hu hTk
      go_wp2_with fail
      refine (HK0.out _ (by repeat (first | with_reducible (first | exact World.gained_refl _ | exact ⟨_, rfl⟩ | apply gain_ext | apply gain_alloc | apply gain_drewN | apply gain_drew) | (refine gain_setCell ?_ (by first | exact Nat.le_refl _ | exact World.size_ext _ _ | (simp; done) | (simp; omega)) _)))).mono ?_
      rintro e w1 ⟨rfl, d1, rfl⟩
      go_wp2
      go_roundw
      case rel => exact ⟨k + 1, by omega, by go_num, by rw [HS2.out]; apply congrArg; omega, (by repeat (first | with_reducible (first | exact World.gained_refl _ | exact ⟨_, rfl⟩ | apply gain_ext | apply gain_alloc | apply gain_drewN | apply gain_drew) | (refine gain_setCell ?_ (by first | exact Nat.le_refl _ | exact World.size_ext _ _ | (simp; done) | (simp; omega)) _)))⟩
      case measure => simp [intOf]; omega
    · go_wp2
      go_ret
      obtain rfl : k = l.length := by omega
      exact ⟨by rw [HCE.out]; rfl, _, rfl⟩
set_option maxHeartbeats 1000000 in
theorem heldIntSSS_any (v : Value) (l : List (List (List Int))) (w : World) (k0 : Int) (h0 : 0 ≤ k0) (h1 : k0 ≤ 4194304) (hl : tot3 l ≤ 1048576) (h : w.sl3 v (marks3 k0 l)) :
    Calls Try.prog 16 #[v, .int .i64 k0] w fun x w' => x = .returned (.int .i64 (k0 + (cnt3 l : Nat))) ∧ ∃ d, w' = w.ext d := by
  have hs := Lib.hid h
  have HT := Lib.hid (fun (k : Nat) (hk : k < l.length) => Nat.le_trans (tot3_at hk) hl)
  have hll : l.length ≤ 1048576 := Nat.le_trans (tot3_len l) hl
  have hcl : cnt3 l ≤ 1048576 := Nat.le_trans (cnt3_le l) hl
  have HCE : Hid (cnt3 l = psum cnt2 l l.length) := Lib.hid rfl
  have HML := Lib.hid (marks3_length k0 l)
  obtain ⟨p, c, hv⟩ := sl3_form h
  rw [HML.out] at hv
  subst hv
  clear h
  go_enter Try.func16, Try.ntmps16
  go_wp2
  go_loopw [1, 5] (fun t i wr => ∃ k : Nat, k ≤ l.length ∧ i = .int .i64 k ∧ t = .int .i64 (k0 + (psum cnt2 l k : Nat)) ∧ ∃ d, wr = w.ext d) (fun _ i _ => l.length - (intOf i).toNat)
  case atStart => exact ⟨0, by omega, rfl, by simp [psum_zero], w.gained_refl⟩
  case round =>
    obtain ⟨k, hk, rfl, rfl, d, rfl⟩ := hrel
    by_cases hlt : k < l.length
    · obtain ⟨b, o, rfl⟩ := slOf_some hs.out (by rw [HML.out]; omega)
      obtain ⟨u, c0, hu⟩ := slOf_at hs.out (k := k) (by rw [HML.out]; exact hlt)
      rw [marks3_get _ _ _ _ hlt] at hu
      have ob := World.oldB_of_cell c0
      have hTk := HT.out k hlt
      have HS := Lib.hid (psum_succ cnt2 l hlt)
      have hle := psum_le cnt2 l (k := k) (by omega)
      rw [← HCE.out] at hle
      have HK0 := Lib.hid (fun W (hg : ∃ d, W = w.ext d) => heldIntSS_any u l[k] W (k0 + (psum cnt2 l k : Nat)) (by omega) (by omega) hTk (sl2_up hu hg))
      have HS2 := Lib.hid HS.out
      generalize cnt2 l[k] = n at HS2 HK0
      generalize psum cnt2 l k = S at HS2 hle HK0 ⊢
      clear HS hu hTk
      go_wp2_with fail
      refine (HK0.out _ (by repeat (first | with_reducible (first | exact World.gained_refl _ | exact ⟨_, rfl⟩ | apply gain_ext | apply gain_alloc | apply gain_drewN | apply gain_drew) | (refine gain_setCell ?_ (by first | exact Nat.le_refl _ | exact World.size_ext _ _ | (simp; done) | (simp; omega)) _)))).mono ?_
      rintro e w1 ⟨rfl, d1, rfl⟩
      go_wp2
      go_roundw
      case rel => exact ⟨k + 1, by omega, by go_num, by rw [HS2.out]; apply congrArg; omega, (by repeat (first | with_reducible (first | exact World.gained_refl _ | exact ⟨_, rfl⟩ | apply gain_ext | apply gain_alloc | apply gain_drewN | apply gain_drew) | (refine gain_setCell ?_ (by first | exact Nat.le_refl _ | exact World.size_ext _ _ | (simp; done) | (simp; omega)) _)))⟩
      case measure => simp [intOf]; omega
    · go_wp2
      go_ret
      obtain rfl : k = l.length := by omega
      exact ⟨by rw [HCE.out]; rfl, _, rfl⟩
end Go.Proofs.Ytbghmkjjooiikaa
