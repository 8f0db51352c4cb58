/- spec.l1Split: the parts of a text between bytes. Condition: at most 1048576 bytes. -/
import Derived.Test.YtffkkchflohhaaaGreatDoorPParse
import Derived.Test.YtffkkchflohhaaaGreatDoorStrC
import Derived.Test.YtffkkchflohhaaaGreatDoorCut
namespace Go.Ori
theorem toL_len (s : ByteArray) : (toL s).length = s.size := rfl
theorem toL_at {s : ByteArray} {i : Nat} (h : i < s.size) : (toL s)[i]'h = s[i] := rfl
theorem toL_cut (s : ByteArray) (a b : Nat) : toL (s.extract a b) = ((toL s).drop a).take (b - a) := by
  rw [toL, Lib.extract_data]
/-- A part ends. -/
theorem split_hit {c : UInt8} {s : ByteArray} {ws : List ByteArray} {f i : Nat} (hfi : f ≤ i) (hi : i < s.size) (hw : ws.map toL ++ splitU c ((toL s).drop f) = splitU c (toL s)) (hno : ∀ j, f ≤ j → j < i → ∀ h : j < s.size, s[j] ≠ c) (hc : s[i] = c) :
    (ws ++ [s.extract f i]).map toL ++ splitU c ((toL s).drop (i + 1)) = splitU c (toL s) := by
  have hd : (toL s).drop f = toL (s.extract f i) ++ c :: (toL s).drop (i + 1) := by
    rw [toL_cut, ← hc, ← toL_at hi, ← List.drop_eq_getElem_cons hi]
    conv => lhs; rw [← List.take_append_drop (i - f) ((toL s).drop f)]
    rw [List.drop_drop, show f + (i - f) = i by omega]
  have hn : c ∉ toL (s.extract f i) := fun e => by
    rw [toL_cut] at e
    obtain ⟨j, hj, e⟩ := List.getElem_of_mem e
    rw [List.length_take, List.length_drop, toL_len] at hj
    rw [List.getElem_take, List.getElem_drop] at e
    exact hno (f + j) (by omega) (by omega) (by omega) e
  rw [← hw, hd, splitU_cut hn, List.map_append, List.append_assoc]
  rfl
/-- The last part. -/
theorem split_end {c : UInt8} {s : ByteArray} {ws : List ByteArray} {f : Nat} (hf : f ≤ s.size) (hw : ws.map toL ++ splitU c ((toL s).drop f) = splitU c (toL s)) (hno : ∀ j, f ≤ j → j < s.size → ∀ h : j < s.size, s[j] ≠ c) :
    (ws ++ [s.extract f s.size]).map toL = splitU c (toL s) := by
  have hd : toL (s.extract f s.size) = (toL s).drop f := by
    rw [toL_cut, List.take_of_length_le (by rw [List.length_drop, toL_len]; omega)]
  have hn : c ∉ (toL s).drop f := fun e => by
    obtain ⟨j, hj, e⟩ := List.getElem_of_mem e
    rw [List.length_drop, toL_len] at hj
    rw [List.getElem_drop] at e
    exact hno (f + j) (by omega) (by omega) (by omega) e
  rw [← hw, splitU_one hn, List.map_append, ← hd]
  rfl
end Go.Ori
namespace Go.Proofs.YtffkkchflohhaaaGreatDoor
open Go.RowKit Go.Ori
theorem info_str : (Tryz.prog.info? 9).map (fun i => (i.zero, i.size, i.bytes)) = some (some (.string ByteArray.empty), 1, 16) := by kernel_rfl
set_option maxHeartbeats 4000000 in
theorem l1Split_any (s : ByteArray) (c : UInt8) (w : World) (hs : s.size ≤ 1048576) :
    Calls Tryz.prog 37 #[.string s, .int .u8 c.toNat] w fun x w' => ∃ r ws, x = .returned r ∧ (∃ d, w' = w.ext d) ∧ w'.own w.heap.size 9 strC 1 r ws ∧ ws.map toL = splitU c (toL s) ∧ ws.length ≤ s.size + 1 := by
  have HE := Lib.hid (own_lit' (w := w) (e := 9) (base := w.heap.size) (C := #[]) (l := ([] : List ByteArray)) (g := w.heap.size) strC_length rfl rfl (Nat.le_refl _))
  go_enter Tryz.func37, Tryz.ntmps37
  go_wp2_with fail
  go_loopw [5, 6, 7] (fun ov f_ i_ wr => ∃ (f i : Nat) (ws : List ByteArray), f ≤ i ∧ i ≤ s.size ∧ f_ = .int .i64 f ∧ i_ = .int .i64 i ∧ ws.length ≤ f ∧ (∃ d, wr = w.ext d) ∧ wr.own w.heap.size 9 strC 1 ov ws ∧ ws.map toL ++ splitU c ((toL s).drop f) = splitU c (toL s) ∧ ∀ j, f ≤ j → j < i → ∀ h : j < s.size, s[j] ≠ c) (fun _ _ i_ _ => s.size - (intOf i_).toNat)
  case atStart => exact ⟨0, 0, [], by omega, by omega, rfl, rfl, by simp, (by repeat (first | with_reducible (first | exact World.gained_refl _ | exact ⟨_, rfl⟩ | apply gain_ext | apply gain_alloc | apply gain_drewN | apply gain_drew) | (refine gain_setCell ?_ (by first | exact Nat.le_refl _ | exact World.size_ext _ _ | (simp; done) | (simp; omega)) _))), HE.out, by simp, fun j h1 h2 => by omega⟩
  case round =>
    obtain ⟨f, i, ws, hfi, hi, rfl, rfl, hwl, ⟨d, rfl⟩, ho, hw, hno⟩ := hrel
    have HO := Lib.hid ho
    have HW := Lib.hid hw
    have HN := Lib.hid hno
    clear ho hw hno HE
    by_cases hlt : i < s.size
    · have hlti : decide ((i : Int) < (s.size : Int)) = true := decide_eq_true (by omega)
      by_cases hc : s[i] = c
      · have HW' := Lib.hid (split_hit hfi hlt HW.out HN.out hc)
        have hcb : (((s[i].toNat : Nat) : Int) == ((c.toNat : Nat) : Int)) = true := by rw [hc]; simp
        have hcd : decide (((s[i].toNat : Nat) : Int) = ((c.toNat : Nat) : Int)) = true := by rw [hc]; simp
        have hf1 : (f : Int) ≤ (i : Int) := by omega
        have hi1 : (i : Int) ≤ (s.size : Int) := by omega
        clear hc
        have HSL := Lib.hid hwl
        clear hwl
        go_wp2_with (at_builtin; go_must (refine wpList_append_gain (m := [s.extract f i]) rfl (.tmp 20) (.tmp 25) rfl Tryz.underlying53 info_str (by rfl) (by omega) strC_length strC_one (by omega) (by repeat (first | with_reducible (first | exact World.gained_refl _ | exact ⟨_, rfl⟩ | apply gain_ext | apply gain_alloc | apply gain_drewN | apply gain_drew) | (refine gain_setCell ?_ (by first | exact Nat.le_refl _ | exact World.size_ext _ _ | (simp; done) | (simp; omega)) _))) (Nat.le_refl _) (gain_size (by repeat (first | with_reducible (first | exact World.gained_refl _ | exact ⟨_, rfl⟩ | apply gain_ext | apply gain_alloc | apply gain_drewN | apply gain_drew) | (refine gain_setCell ?_ (by first | exact Nat.le_refl _ | exact World.size_ext _ _ | (simp; done) | (simp; omega)) _)))) rfl rfl (own_up (HO.out) (by repeat (first | with_reducible (first | exact World.gained_refl _ | exact ⟨_, rfl⟩ | apply gain_ext | apply gain_alloc | apply gain_drewN | apply gain_drew) | (refine gain_setCell ?_ (by first | exact Nat.le_refl _ | exact World.size_ext _ _ | (simp; done) | (simp; omega)) _)))) (sl_lit (l := [s.extract f i]) strC_length rfl (by simp)) ((by have := HSL.out; simp; omega)) ?_); intro v' d' ho' hg')
        have HO' := Lib.hid ho'
        clear ho' hg'
        go_wp2_with fail
        go_roundw
        case rel => exact ⟨i + 1, i + 1, _, by omega, by omega, by go_num, by go_num, by have := HSL.out; simp; omega, (by repeat (first | with_reducible (first | exact World.gained_refl _ | exact ⟨_, rfl⟩ | apply gain_ext | apply gain_alloc | apply gain_drewN | apply gain_drew) | (refine gain_setCell ?_ (by first | exact Nat.le_refl _ | exact World.size_ext _ _ | (simp; done) | (simp; omega)) _))), HO'.out, HW'.out, fun j h1 h2 => by omega⟩
        case measure => simp [intOf]; omega
      · have hcb : (((s[i].toNat : Nat) : Int) == ((c.toNat : Nat) : Int)) = false := by
          rw [beq_eq_false_iff_ne]
          intro e
          exact hc (UInt8.toNat_inj.1 (by omega))
        have HN' := Lib.hid (show ∀ j, f ≤ j → j < i + 1 → ∀ h : j < s.size, s[j] ≠ c from fun j h1 h2 h3 => by
          by_cases e : j = i
          · subst e; exact hc
          · exact HN.out j h1 (by omega) h3)
        go_wp2_with fail
        go_roundw
        case rel => exact ⟨f, i + 1, ws, by omega, by omega, rfl, by go_num, hwl, ⟨_, rfl⟩, HO.out, HW.out, HN'.out⟩
        case measure => simp [intOf]; omega
    · obtain rfl : i = s.size := by omega
      have HW' := Lib.hid (split_end (by omega) HW.out (fun j h1 h2 h3 => HN.out j h1 (by omega) h3))
      have hlti : decide (((s.size : Nat) : Int) < (s.size : Int)) = false := decide_eq_false (by omega)
      have HSL := Lib.hid hwl
      have hf1 : (f : Int) ≤ (s.size : Int) := by omega
      clear hwl
      go_wp2_with (at_builtin; go_must (refine wpList_append_gain (m := [s.extract f s.size]) rfl (.tmp 29) (.tmp 33) rfl Tryz.underlying53 info_str (by rfl) (by omega) strC_length strC_one (by omega) (by repeat (first | with_reducible (first | exact World.gained_refl _ | exact ⟨_, rfl⟩ | apply gain_ext | apply gain_alloc | apply gain_drewN | apply gain_drew) | (refine gain_setCell ?_ (by first | exact Nat.le_refl _ | exact World.size_ext _ _ | (simp; done) | (simp; omega)) _))) (Nat.le_refl _) (gain_size (by repeat (first | with_reducible (first | exact World.gained_refl _ | exact ⟨_, rfl⟩ | apply gain_ext | apply gain_alloc | apply gain_drewN | apply gain_drew) | (refine gain_setCell ?_ (by first | exact Nat.le_refl _ | exact World.size_ext _ _ | (simp; done) | (simp; omega)) _)))) rfl rfl (own_up (HO.out) (by repeat (first | with_reducible (first | exact World.gained_refl _ | exact ⟨_, rfl⟩ | apply gain_ext | apply gain_alloc | apply gain_drewN | apply gain_drew) | (refine gain_setCell ?_ (by first | exact Nat.le_refl _ | exact World.size_ext _ _ | (simp; done) | (simp; omega)) _)))) (sl_lit (l := [s.extract f s.size]) strC_length rfl (by simp)) ((by have := HSL.out; simp; omega)) ?_); intro v' d' ho' hg')
      have HO' := Lib.hid ho'
      clear ho' hg'
      go_wp2_with fail
      go_ret
      exact ⟨_, _, rfl, (by repeat (first | with_reducible (first | exact World.gained_refl _ | exact ⟨_, rfl⟩ | apply gain_ext | apply gain_alloc | apply gain_drewN | apply gain_drew) | (refine gain_setCell ?_ (by first | exact Nat.le_refl _ | exact World.size_ext _ _ | (simp; done) | (simp; omega)) _))), HO'.out, HW'.out, by have := HSL.out; simp; omega⟩
end Go.Proofs.YtffkkchflohhaaaGreatDoor
