/- Slices of slices of the call's own whose rows lie apart: what they are, what is said of them grown. No condition. -/
import Derived.Test.YtbghmkjjooiikaaNestMark
import Derived.Test.YtbghmkjjooiikaaMarkIntS
import Derived.Test.YtbghmkjjooiikaaRows2
namespace Go
open RowKit Go.Ori
def marks2 (k : Int) (l : List (List Int)) : List (List Int) := (List.range l.length).map fun i => Go.Proofs.Ytbghmkjjooiikaa.marks (k + (psum cnt1 l i : Nat)) (l.getD i []).length
theorem marks2_length (k : Int) (l : List (List Int)) : (marks2 k l).length = l.length := by simp [marks2]
theorem marks2_get (k : Int) (l : List (List Int)) (i : Nat) (h : i < (marks2 k l).length) (h' : i < l.length) : (marks2 k l)[i] = Go.Proofs.Ytbghmkjjooiikaa.marks (k + (psum cnt1 l i : Nat)) l[i].length := by
  simp [marks2, List.getElem?_eq_getElem h']
def marks3 (k : Int) (l : List (List (List Int))) : List (List (List Int)) := (List.range l.length).map fun i => marks2 (k + (psum cnt2 l i : Nat)) (l.getD i [])
theorem marks3_length (k : Int) (l : List (List (List Int))) : (marks3 k l).length = l.length := by simp [marks3]
theorem marks3_get (k : Int) (l : List (List (List Int))) (i : Nat) (h : i < (marks3 k l).length) (h' : i < l.length) : (marks3 k l)[i] = marks2 (k + (psum cnt2 l i : Nat)) l[i] := by
  simp [marks3, List.getElem?_eq_getElem h']
end Go
namespace Go.Proofs.Ytbghmkjjooiikaa
open Go.RowKit Go.Ori
set_option maxHeartbeats 1000000 in
/-- laws.markIntSS, what it leaves in the rows. -/
theorem markIntSSD_any (A : World) (v : Value) (vs : List Value) (l : List (List Int)) (w : World) (lo : Nat) (k0 : Int) (h0 : 0 ≤ k0) (h1 : k0 ≤ 8388608) (hl : tot2 l ≤ 1048576) (h : World.rows2 34 3 w lo v vs l) (hp : vs.Pairwise Apart2) (hA : ∃ d, w = A.ext d) (hB : A.heap.size ≤ lo) :
    Calls Try.prog 91 #[v, .int .i64 k0] w fun x w' => x = .returned (.int .i64 (k0 + (cnt2 l : Nat))) ∧ World.rows2 34 3 w' lo v vs (marks2 k0 l) ∧ World.apartKept vs w w' ∧ ∃ d, w' = A.ext d := by
  have HR := Lib.hid h
  have HP := Lib.hid hp
  have HA := Lib.hid hA
  have HT := Lib.hid (fun (k : Nat) (hk : k < l.length) => Nat.le_trans (tot2_at hk) hl)
  have hll : l.length ≤ 1048576 := Nat.le_trans (tot2_len l) hl
  have hcl : cnt2 l ≤ 1048576 := Nat.le_trans (cnt2_le l) hl
  have HCE : Hid (cnt2 l = psum cnt1 l l.length) := Lib.hid rfl
  have hvl := Lib.hid h.len
  obtain ⟨p, c, hv, _⟩ := sl_of_own valC_length h.out
  subst hv
  rw [hvl.out] at HR ⊢
  clear h hp hA
  go_enter Try.func91, Try.ntmps91
  go_wp2
  go_loopw [1, 5] (fun t i wr => ∃ k : Nat, k ≤ l.length ∧ i = .int .i64 k ∧ t = .int .i64 (k0 + (psum cnt1 l k : Nat)) ∧ (∃ d, wr = A.ext d) ∧ World.apartKept vs w wr ∧ wr.own lo 34 valC 1 (.slice p l.length c) vs ∧ (∀ (j : Nat) (hj : j < l.length) (hj' : j < vs.length), j < k → wr.own lo 3 intC 1 vs[j] (marks (k0 + (psum cnt1 l j : Nat)) l[j].length)) ∧ ∀ (j : Nat) (hj : j < l.length) (hj' : j < vs.length), k ≤ j → wr.own lo 3 intC 1 vs[j] l[j]) (fun _ i _ => l.length - (intOf i).toNat)
  case atStart => exact ⟨0, by omega, rfl, by simp [psum_zero], HA.out, apartKept_refl _ _, HR.out.out, fun j _ _ h => absurd h (Nat.not_lt_zero _), fun j hj hj' _ => HR.out.row j hj hj'⟩
  case round =>
    obtain ⟨k, hk, rfl, rfl, hgA, hak, hout, hdone, htodo⟩ := hrel
    have HGA := Lib.hid hgA
    have HAK := Lib.hid hak
    have HOUT := Lib.hid hout
    have HDN := Lib.hid hdone
    have HTD := Lib.hid htodo
    clear hgA hak hdone htodo
    by_cases hlt : k < l.length
    · have hkv : k < vs.length := by rw [hvl.out]; exact hlt
      obtain ⟨b, o, rfl⟩ := sl_some (sl_of_own valC_length hout) (by rw [hvl.out]; omega)
      have c0 := sl_cells (sl_of_own valC_length hout) hkv (j := 0) (by omega)
      simp only [valC, List.getElem?_cons_zero, Nat.add_zero, Nat.mul_one] at c0
      have ob := World.oldB_of_cell c0
      have hrow := HTD.out k hlt hkv (Nat.le_refl _)
      have hTk := HT.out k hlt
      have HS := Lib.hid (psum_succ cnt1 l hlt)
      have hle := psum_le cnt1 l (k := k) (by omega)
      rw [← HCE.out] at hle
      have HSTEP := Lib.hid (fun (w' : World) (hg : wr.grownBy w' (vs[k]'hkv).ownBlock) (hm : w'.own lo 3 intC 1 (vs[k]'hkv) (marks (k0 + (psum cnt1 l k : Nat)) l[k].length)) =>
        (⟨apartKept_step HAK.out (List.getElem_mem hkv) hg, own_mark HOUT.out hg (apart_type HOUT.out hrow (by decide)),
          fun j hj hj' hjk => by
            by_cases e : j = k
            · subst e; exact hm
            · exact own_mark (HDN.out j hj hj' (by omega)) hg (List.pairwise_iff_getElem.1 HP.out j k hj' hkv (by omega)),
          fun j hj hj' hjk => own_mark (HTD.out j hj hj' (by omega)) hg (List.pairwise_iff_getElem.1 HP.out k j hkv hj' (by omega)).symm⟩ :
        World.apartKept vs w w' ∧ w'.own lo 34 valC 1 (.slice (some ⟨b, o, none⟩) l.length c) vs ∧ (∀ (j : Nat) (hj : j < l.length) (hj' : j < vs.length), j < k + 1 → w'.own lo 3 intC 1 vs[j] (marks (k0 + (psum cnt1 l j : Nat)) l[j].length)) ∧ ∀ (j : Nat) (hj : j < l.length) (hj' : j < vs.length), k + 1 ≤ j → w'.own lo 3 intC 1 vs[j] l[j]))
      have HROW := Lib.hid hrow
      clear hout hrow
      generalize vs[k]'hkv = u at c0 HROW HSTEP
      have HU : Hid (∀ (x : World) (k1 : Int), 0 ≤ k1 → k1 ≤ 16777216 → x = wr → Calls Try.prog 76 #[u, .int .i64 k1] x fun e w' => e = .returned (.int .i64 (k1 + (l[k].length : Nat))) ∧ w'.own lo 3 intC 1 u (marks k1 l[k].length) ∧ wr.grownBy w' u.ownBlock ∧ ∃ d, w' = A.ext d) := Lib.hid (fun x k1 a1 a2 e => by
        subst e
        exact markIntS_any A u l[k].length l[k] _ lo k1 a1 a2 hTk rfl HROW.out HGA.out hB)
      have hS : psum cnt1 l (k + 1) = psum cnt1 l k + l[k].length := HS.out
      have HS2 := Lib.hid hS
      clear hS hTk
      have HK0 := Lib.hid (HU.out _ (k0 + (psum cnt1 l k : Nat)) (by omega) (by omega) rfl)
      generalize l[k].length = n at HS2 HSTEP HK0
      generalize psum cnt1 l k = S at HS2 hle HSTEP HK0 ⊢
      clear HU HROW HS
      go_wp2_with fail
      refine HK0.out.mono ?_
      rintro e w1 ⟨rfl, hm, hg, hgA1⟩
      have HM := Lib.hid (HSTEP.out w1 hg hm)
      have HG1 := Lib.hid hgA1
      clear hm hg hgA1
      go_wp2
      go_roundw
      case rel => exact ⟨k + 1, by omega, by go_num, by rw [HS2.out]; apply congrArg; omega, HG1.out, HM.out.1, HM.out.2.1, HM.out.2.2.1, HM.out.2.2.2⟩
      case measure => simp [intOf]; omega
    · clear hout
      go_wp2
      go_ret
      obtain rfl : k = l.length := by omega
      exact ⟨by rw [HCE.out]; rfl, ⟨HOUT.out, by rw [hvl.out, marks2_length], fun i hi hi' => by
        rw [marks2_length] at hi
        rw [marks2_get _ _ _ _ hi]
        exact HDN.out i hi hi' hi⟩, HAK.out, HGA.out⟩
end Go.Proofs.Ytbghmkjjooiikaa
