/- slices.IndexFunc, slices.ContainsFunc over classes; the closure of impl.AreClasses. Condition: at most 1048576 classes. -/
import Derived.Test.YtffkkchflohhaaaGreatDoorRows
import Derived.Test.YtffkkchflohhaaaGreatDoorPWord
namespace Go.Proofs.YtffkkchflohhaaaGreatDoor
open Go.RowKit Go.Ori
set_option maxHeartbeats 1000000 in
theorem indexFunc_clss (K : FuncId) (caps : Array Value) (f : Cls → Bool) (v : Value) (l : List Cls) (w : World) (h : w.sl Cls.cells 8 v l) (hl : l.length ≤ 1048576)
    (hcf : ∀ args W, (callFunc K args).run Tryz.prog W = .ok (.enter K args) W)
    (hcl : ∀ (n : Cls) d, Calls Tryz.prog K (#[.agg #[.int .i64 n.id, .string n.name, .int .i64 n.low, .int .i64 n.high, .bool n.women, .bool n.men, .int .i64 n.course, .int .i64 n.most]] ++ caps) (w.ext d) fun x w1 => x = .returned (.bool (f n)) ∧ ∃ d1, w1 = (w.ext d).ext d1) :
    Calls Tryz.prog 77 #[v, .func (.func K) #[] caps] w fun x w' => x = .returned (.int .i64 (idxB l f)) ∧ ∃ d, w' = w.ext d := by
  have hs := Lib.hid h
  obtain ⟨p, c, rfl, _⟩ := h
  have HCL := Lib.hid hcl
  clear hcl
  go_enter Tryz.func77, Tryz.ntmps77
  go_wp2
  go_loopw [8] (fun i wr => ∃ k : Nat, k ≤ l.length ∧ i = .int .i64 k ∧ (∀ (j : Nat) (hj : j < l.length), j < k → f l[j] = false) ∧ ∃ d, wr = w.ext d) (fun i _ => l.length - (intOf i).toNat)
  case atStart => exact ⟨0, by omega, rfl, by simp, w.gained_refl⟩
  case round =>
    obtain ⟨k, hk, rfl, hno, d, rfl⟩ := hrel
    have HN := Lib.hid hno
    clear hno
    by_cases hlt : k < l.length
    · obtain ⟨b, o, rfl⟩ := sl_some hs.out (by omega)
      have hck := fun j (hj : j < 8) => sl_cells hs.out hlt hj
      have c0 := hck 0 (by omega)
      have c1 := hck 1 (by omega)
      have c2 := hck 2 (by omega)
      have c3 := hck 3 (by omega)
      have c4 := hck 4 (by omega)
      have c5 := hck 5 (by omega)
      have c6 := hck 6 (by omega)
      have c7 := hck 7 (by omega)
      have H1 := Lib.hid (fun (hf : f l[k] = true) => idxB_some hlt (HN.out) hf)
      have H2 := Lib.hid (fun (hf : f l[k] = false) => (show ∀ (j : Nat) (hj : j < l.length), j < k + 1 → f l[j] = false from fun j hj hjk => by
        by_cases e : j = k
        · subst e; exact hf
        · exact HN.out j hj (by omega)))
      have HMY := Lib.hid (List.getElem_mem hlt)
      generalize l[k] = y at c0 c1 c2 c3 c4 c5 c6 c7 hck H1 H2 HMY
      clear hck
      simp only [Cls.cells, List.getElem?_cons_zero, List.getElem?_cons_succ, Nat.add_zero] at c0 c1 c2 c3 c4 c5 c6 c7
      have ob := World.oldB_of_cell c0
      go_wp2_with fail
      refine (HCL.out y d).mono ?_
      rintro e w1 ⟨rfl, d1, rfl⟩
      cases hf : f y
      · have H2' := Lib.hid (H2.out hf)
        clear hf
        go_wp2
        go_roundw
        case rel => exact ⟨k + 1, by omega, by go_num, H2'.out, gain_ext ⟨_, rfl⟩ _⟩
        case measure => simp [intOf]; omega
      · have H1' := Lib.hid (H1.out hf)
        clear hf
        go_wp2
        go_ret
        exact ⟨ret_int H1'.out.symm, gain_ext ⟨_, rfl⟩ _⟩
    · go_wp2
      go_ret
      exact ⟨ret_int (by rw [idxB_none (fun j hj => HN.out j hj (by omega))]), _, rfl⟩
theorem containsFunc_clss (K : FuncId) (caps : Array Value) (f : Cls → Bool) (v : Value) (l : List Cls) (w : World) (h : w.sl Cls.cells 8 v l) (hl : l.length ≤ 1048576)
    (hcf : ∀ args W, (callFunc K args).run Tryz.prog W = .ok (.enter K args) W)
    (hcl : ∀ (n : Cls) d, Calls Tryz.prog K (#[.agg #[.int .i64 n.id, .string n.name, .int .i64 n.low, .int .i64 n.high, .bool n.women, .bool n.men, .int .i64 n.course, .int .i64 n.most]] ++ caps) (w.ext d) fun x w1 => x = .returned (.bool (f n)) ∧ ∃ d1, w1 = (w.ext d).ext d1) :
    Calls Tryz.prog 67 #[v, .func (.func K) #[] caps] w fun x w' => x = .returned (.bool (l.any f)) ∧ ∃ d, w' = w.ext d := by
  have HI := Lib.hid (indexFunc_clss K caps f v l w h hl hcf hcl)
  clear hcl hcf
  go_enter Tryz.func67, Tryz.ntmps67
  go_wp2_with fail
  refine HI.out.mono ?_
  rintro e w1 ⟨rfl, d1, rfl⟩
  have HA := Lib.hid (idxB_any l f)
  go_wp2
  go_ret
  exact ⟨ret_bool HA.out, _, rfl⟩
theorem areClasses1_any (n : Cls) (s : ByteArray) (g : Nat) (w : World) (ob : w.oldB g) (hc : w.cell? ⟨g, 1, none⟩ = some (.string s)) :
    Calls Tryz.prog 68 #[.agg #[.int .i64 n.id, .string n.name, .int .i64 n.low, .int .i64 n.high, .bool n.women, .bool n.men, .int .i64 n.course, .int .i64 n.most], .pointer (some ⟨g, 0, none⟩)] w fun x w' => x = .returned (.bool (n.name.toList == s.toList)) ∧ ∃ d, w' = w.ext d := by
  go_enter Tryz.func68, Tryz.ntmps68
  go_wp2
  go_ret
  exact ⟨rfl, gain_alloc w.gained_refl _⟩
end Go.Proofs.YtffkkchflohhaaaGreatDoor
