/- impl.isTimed, impl.rowTime, spec.l9Times, spec.l9Leg, impl.LegTimesOf, spec.LegTimesOf. Condition: sizes of at most 1048576. -/
import Derived.Test.YtlofdpbdnkcnkaaVarCount
namespace Go.Ori
def timesB (ts : List (List Int)) (legs forks : Int) : Bool := rowsB forks legs 1000 ts
def timedB (l : List (List (List Int))) (legs forks : Int) (ts : List (List Int)) : Bool := planB l legs forks && timesB ts legs forks
theorem timesB_true {ts : List (List Int)} {L F : Nat} (h : timesB ts L F = true) : ts.length = F ∧ ∀ (f : Nat) (hf : f < ts.length), ts[f].length = L ∧ ∀ (v : Nat) (hv : v < ts[f].length), 0 ≤ ts[f][v] ∧ ts[f][v] ≤ 1000 := by
  simp only [timesB, rowsB, Bool.and_eq_true, decide_eq_true_eq, List.all_eq_true] at h
  refine ⟨by omega, fun f hf => ?_⟩
  have h5 := h.2 ts[f] (List.getElem_mem hf)
  simp only [rowB, Bool.and_eq_true, decide_eq_true_eq, List.all_eq_true] at h5
  refine ⟨by omega, fun v hv => ?_⟩
  have h6 := h5.2 ts[f][v] (List.getElem_mem hv)
  rw [insB_true] at h6
  exact h6
/-- The time of a row's variants at its first k forks. -/
def rowT (row : List Int) (ts : List (List Int)) : Nat → Int
  | 0 => 0
  | k + 1 => rowT row ts k + (ts.getD k []).getD (row.getD k 0).toNat 0
def legN (l : List (List (List Int))) (F : Nat) (ts : List (List Int)) (G : Nat) (k : Nat) : List Int := (l.take k).map fun rows => rowT (rows.getD G []) ts F
theorem legN_zero (l : List (List (List Int))) (F : Nat) (ts : List (List Int)) (G : Nat) : legN l F ts G 0 = [] := by simp [legN]
theorem legN_succ {l : List (List (List Int))} {F : Nat} {ts : List (List Int)} {G k : Nat} (h : k < l.length) : legN l F ts G (k + 1) = legN l F ts G k ++ [rowT (l[k].getD G []) ts F] := by
  unfold legN
  rw [List.take_succ_eq_append_getElem h, List.map_append]
  rfl
theorem legN_length (l : List (List (List Int))) (F : Nat) (ts : List (List Int)) (G k : Nat) : (legN l F ts G k).length ≤ k := by simp [legN]; omega
def legB' (l : List (List (List Int))) (legs forks : Int) (ts : List (List Int)) (leg : Int) : Bool := timedB l legs forks ts && insB leg 0 (legs - 1)
def legL (l : List (List (List Int))) (legs forks : Int) (ts : List (List Int)) (leg : Int) : List Int := if legB' l legs forks ts leg then legN l forks.toNat ts leg.toNat l.length else []
theorem legL_length (l : List (List (List Int))) (legs forks : Int) (ts : List (List Int)) (leg : Int) (h : l.length ≤ 1048576) : (legL l legs forks ts leg).length ≤ 1048576 := by
  unfold legL
  split
  · exact Nat.le_trans (legN_length _ _ _ _ _) h
  · simp
theorem leg_no {l : List (List (List Int))} {legs forks : Int} {ts : List (List Int)} {leg : Int} (h : legB' l legs forks ts leg = false) : legL l legs forks ts leg = [] ∧ legB' l legs forks ts leg = false := by simp [legL, h]
/-- What a valid row is, to a valid table of times. -/
structure RowOk (row : List Int) (ts : List (List Int)) (L F : Nat) : Prop where
  len : row.length = F
  tlen : ts.length = F
  var : ∀ (f : Nat) (hf : f < row.length), 0 ≤ row[f] ∧ row[f] < L
  tim : ∀ (f : Nat) (hf : f < ts.length), ts[f].length = L ∧ ∀ (v : Nat) (hv : v < ts[f].length), 0 ≤ ts[f][v] ∧ ts[f][v] ≤ 1000
theorem rowT_bd {row : List Int} {ts : List (List Int)} {L F : Nat} (h : RowOk row ts L F) (k : Nat) (hk : k ≤ F) : 0 ≤ rowT row ts k ∧ rowT row ts k ≤ 1000 * (k : Int) := by
  induction k with
  | zero => simp [rowT]
  | succ k ih =>
    have h1 := ih (by omega)
    have hk1 : k < row.length := by rw [h.len]; omega
    have hk2 : k < ts.length := by rw [h.tlen]; omega
    have h2 := h.var k hk1
    have h3 := h.tim k hk2
    have h4 : (row[k]).toNat < ts[k].length := by omega
    have h5 := h3.2 _ h4
    rw [rowT]
    simp only [List.getD_eq_getElem?_getD, List.getElem?_eq_getElem hk1, List.getElem?_eq_getElem hk2, Option.getD_some, List.getElem?_eq_getElem h4]
    omega
end Go.Ori
namespace Go.Proofs.Ytlofdpbdnkcnkaa
open Go.RowKit Go.Ori
set_option maxHeartbeats 1000000 in
theorem rowTime_any (v v2 : Value) (row : List Int) (ts : List (List Int)) (L F : Nat) (w : World) (h : w.sl1 v row) (h2 : w.sl2 v2 ts) (hok : RowOk row ts L F) (hF : F ≤ 4) (hL : L ≤ 4) :
    Calls Try.prog 44 #[v, v2] w fun x w' => x = .returned (.int .i64 (rowT row ts F)) ∧ ∃ d, w' = w.ext d := by
  have hsx := Lib.hid h
  have hst := Lib.hid h2
  obtain ⟨p, c, rfl⟩ := sl1_form h
  obtain ⟨p2, c2, rfl⟩ := sl2_form h2
  clear h h2
  go_enter Try.func44, Try.ntmps44
  go_wp2
  go_loopw [5, 10] (fun s i wr => ∃ k : Nat, k ≤ row.length ∧ i = .int .i64 k ∧ s = .int .i64 (rowT row ts k) ∧ ∃ d, wr = w.ext d) (fun _ i _ => row.length - (intOf i).toNat)
  case atStart => exact ⟨0, by omega, rfl, rfl, w.gained_refl⟩
  case round =>
    obtain ⟨k, hk, rfl, rfl, d, rfl⟩ := hrel
    by_cases hlt : k < row.length
    · skip
      obtain ⟨b, o, rfl⟩ := sl_some hsx.out (by have := hok.len; omega)
      obtain ⟨bt, ot, rfl⟩ := slOf_some hst.out (by have := hok.len; have := hok.tlen; omega)
      have hk1 : k < row.length := by have := hok.len; omega
      have hk2 : k < ts.length := by have := hok.len; have := hok.tlen; omega
      have hk4 : k < 4 := by have := hok.len; omega
      have e1 := sl_int hsx.out hk1
      obtain ⟨u, e2, hu⟩ := slOf_at hst.out hk2
      have h2 := hok.var k hk1
      have h3 := hok.tim k hk2
      have h4 : (row[k]).toNat < ts[k].length := by omega
      have h5 := h3.2 _ h4
      have hbd := rowT_bd hok k (by have := hok.len; omega)
      obtain ⟨pu, cu, rfl⟩ := sl1_form hu
      obtain ⟨b2, o2, rfl⟩ := sl_some hu (by omega)
      have e3 := sl_int hu h4
      have HS : Hid (rowT row ts (k + 1) = rowT row ts k + ts[k][(row[k]).toNat]) := Lib.hid (by
        rw [rowT]
        simp only [List.getD_eq_getElem?_getD, List.getElem?_eq_getElem hk1, List.getElem?_eq_getElem hk2, Option.getD_some, List.getElem?_eq_getElem h4])
      have hx : ((row[k]).toNat : Int) = row[k] := by omega
      generalize ts[k][(row[k]).toNat] = m at HS h5 e3
      generalize (row[k]).toNat = V at hx h4 e3
      rw [← hx] at e1 h2
      clear hx hu h3
      generalize ts[k].length = n2 at h4 e2
      have ob1 := World.oldB_of_cell e1
      have ob2 := World.oldB_of_cell e2
      have ob3 := World.oldB_of_cell e3
      obtain ⟨h5a, h5b⟩ := h5
      obtain ⟨hb1, hb2⟩ := hbd
      generalize rowT row ts k = T at hb1 hb2 HS
      go_wp2
      go_roundw
      case rel => exact ⟨k + 1, by omega, by go_num, by rw [HS.out], _, rfl⟩
      case measure => simp [intOf]; omega
    · go_wp2
      go_ret
      have hkk : k = F := by have := hok.len; omega
      rw [hkk]
      exact ⟨rfl, _, rfl⟩
end Go.Proofs.Ytlofdpbdnkcnkaa
