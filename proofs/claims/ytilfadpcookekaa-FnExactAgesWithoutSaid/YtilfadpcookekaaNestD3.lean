/- laws.markIntSSS on slices whose rows lie apart: what it leaves in the rows; laws.heldIntSS, laws.heldIntSSS find it there. Conditions: a size of at most 1048576, small numbers. -/
import Derived.Test.YtilfadpcookekaaNestD
namespace Go
open RowKit Go.Ori
theorem rows2_keep {e1 e : TypeId} {w w' : World} {lo : Nat} {u : Value} {vs ws : List Value} {l : List (List Int)} (h : World.rows2 e1 e w lo u vs l) (hk : World.apartKept ws w w') (h1 : ∀ x ∈ ws, Apart2 u x) (h2 : ∀ y ∈ vs, ∀ x ∈ ws, Apart2 y x) : World.rows2 e1 e w' lo u vs l :=
  ⟨hk.keep h.out h1, h.len, fun i hi hi' => hk.keep (h.row i hi hi') (h2 _ (List.getElem_mem hi'))⟩
/-- A slice of slices of rows of ints of the call's own; us: the slices of rows; vss: the rows; all rows lie apart. -/
structure World.rows3 (e2 e1 e : TypeId) (w : World) (lo : Nat) (v : Value) (us : List Value) (vss : List (List Value)) (l : List (List (List Int))) : Prop where
  out : w.own lo e2 valC 1 v us
  len : us.length = l.length
  len2 : vss.length = l.length
  row : ∀ (i : Nat) (h : i < l.length) (h1 : i < us.length) (h2 : i < vss.length), World.rows2 e1 e w lo us[i] vss[i] l[i]
  ap1 : ∀ x ∈ vss, x.Pairwise Apart2
  ap2 : vss.Pairwise fun a b => ∀ x ∈ a, ∀ y ∈ b, Apart2 x y
theorem rows3_own {e2 e1 e : TypeId} {w : World} {lo : Nat} {v : Value} {us : List Value} {vss : List (List Value)} {l : List (List (List Int))} (h : World.rows3 e2 e1 e w lo v us vss l) : World.own3 e2 e1 e w lo v l :=
  ⟨us, h.out, h.len, fun i hi hi' => rows2_own (h.row i hi hi' (by rw [h.len2]; exact hi))⟩
theorem rows3_up {e2 e1 e : TypeId} {w w' : World} {lo : Nat} {v : Value} {us : List Value} {vss : List (List Value)} {l : List (List (List Int))} (h : World.rows3 e2 e1 e w lo v us vss l) (hg : ∃ d, w' = w.ext d) : World.rows3 e2 e1 e w' lo v us vss l :=
  ⟨own_up h.out hg, h.len, h.len2, fun i hi h1 h2 => rows2_up (h.row i hi h1 h2) hg, h.ap1, h.ap2⟩
end Go
namespace Go.Proofs.Ytilfadpcookekaa
open Go.RowKit Go.Ori
theorem heldIntS1_any (v : Value) (l : List Int) (w : World) (k0 : Int) (h0 : 0 ≤ k0) (h1 : k0 ≤ 16777216) (hl : tot1 l ≤ 1048576) (h : w.sl1 v (marks k0 l.length)) :
    Calls Try.prog 19 #[v, .int .i64 k0] w fun x w' => x = .returned (.int .i64 (k0 + (cnt1 l : Nat))) ∧ ∃ d, w' = w.ext d := heldIntS_any v l.length w k0 h0 h1 hl h
set_option maxHeartbeats 1000000 in
theorem heldIntSS_any (v : Value) (l : List (List Int)) (w : World) (k0 : Int) (h0 : 0 ≤ k0) (h1 : k0 ≤ 8388608) (hl : tot2 l ≤ 1048576) (h : w.sl2 v (marks2 k0 l)) :
    Calls Try.prog 14 #[v, .int .i64 k0] w fun x w' => x = .returned (.int .i64 (k0 + (cnt2 l : Nat))) ∧ ∃ d, w' = w.ext d := by
  have hs := Lib.hid h
  have HT := Lib.hid (fun (k : Nat) (hk : k < l.length) => Nat.le_trans (tot2_at hk) hl)
  have hll : l.length ≤ 1048576 := Nat.le_trans (tot2_len l) hl
  have hcl : cnt2 l ≤ 1048576 := Nat.le_trans (cnt2_le l) hl
  have HCE : Hid (cnt2 l = psum cnt1 l l.length) := Lib.hid rfl
  have HML := Lib.hid (marks2_length k0 l)
  obtain ⟨p, c, hv⟩ := sl2_form h
  rw [HML.out] at hv
  subst hv
  clear h
  go_enter Try.func14, Try.ntmps14
  go_wp2
  go_loopw [1, 5] (fun t i wr => ∃ k : Nat, k ≤ l.length ∧ i = .int .i64 k ∧ t = .int .i64 (k0 + (psum cnt1 l k : Nat)) ∧ ∃ d, wr = w.ext d) (fun _ i _ => l.length - (intOf i).toNat)
  case atStart => exact ⟨0, by omega, rfl, by simp [psum_zero], w.gained_refl⟩
  case round =>
    obtain ⟨k, hk, rfl, rfl, d, rfl⟩ := hrel
    by_cases hlt : k < l.length
    · obtain ⟨b, o, rfl⟩ := slOf_some hs.out (by rw [HML.out]; omega)
      obtain ⟨u, c0, hu⟩ := slOf_at hs.out (k := k) (by rw [HML.out]; exact hlt)
      rw [marks2_get _ _ _ _ hlt] at hu
      have ob := World.oldB_of_cell c0
      have hTk := HT.out k hlt
      have HS := Lib.hid (psum_succ cnt1 l hlt)
      have hle := psum_le cnt1 l (k := k) (by omega)
      rw [← HCE.out] at hle
      have HK0 := Lib.hid (fun W (hg : ∃ d, W = w.ext d) => heldIntS1_any u l[k] W (k0 + (psum cnt1 l k : Nat)) (by omega) (by omega) hTk (sl1_up hu hg))
      have HS2 := Lib.hid HS.out
      generalize cnt1 l[k] = n at HS2 HK0
      generalize psum cnt1 l k = S at HS2 hle HK0 ⊢
      clear HS hu hTk
      go_wp2_with fail
      refine (HK0.out _ (by repeat (first | with_reducible (first | exact World.gained_refl _ | exact ⟨_, rfl⟩ | apply gain_ext | apply gain_alloc | apply gain_drewN | apply gain_drew) | (refine gain_setCell ?_ (by first | exact Nat.le_refl _ | exact World.size_ext _ _ | (simp; done) | (simp; omega)) _)))).mono ?_
      rintro e w1 ⟨rfl, d1, rfl⟩
      go_wp2
      go_roundw
      case rel => exact ⟨k + 1, by omega, by go_num, by rw [HS2.out]; apply congrArg; omega, (by repeat (first | with_reducible (first | exact World.gained_refl _ | exact ⟨_, rfl⟩ | apply gain_ext | apply gain_alloc | apply gain_drewN | apply gain_drew) | (refine gain_setCell ?_ (by first | exact Nat.le_refl _ | exact World.size_ext _ _ | (simp; done) | (simp; omega)) _)))⟩
      case measure => simp [intOf]; omega
    · go_wp2
      go_ret
      obtain rfl : k = l.length := by omega
      exact ⟨by rw [HCE.out]; rfl, _, rfl⟩
end Go.Proofs.Ytilfadpcookekaa
