/- laws.szClassS: what is left of a size. No condition but that lengths are Go's. -/
import Derived.Test.YtoodomaecgankaaSzCls
namespace Go.Proofs.Ytoodomaecgankaa
open Go.RowKit Go.Ori
set_option maxHeartbeats 1000000 in
theorem szClassS_any (v : Value) (l : List Cls) (left : Int) (w : World) (h : w.sl Cls.cells 8 v l) (hm : l.length ≤ 9223372036854775807) (hq : ∀ x ∈ l, Cls.ok x) (h0 : 0 ≤ left) (h1 : left ≤ 1048576) :
    Calls Try.prog 5 #[v, .int .i64 left] w fun x w' => ∃ r, x = .returned (.int .i64 r) ∧ (∃ d, w' = w.ext d) ∧ r ≤ left ∧ (0 ≤ r → (l.length : Int) ≤ left ∧ ∀ x ∈ l, Cls.small x) := by
  have hs := Lib.hid h
  have HQ := Lib.hid hq
  clear hq
  obtain ⟨p, c, rfl, _⟩ := h
  by_cases hlen : (l.length : Int) ≤ left
  · go_enter Try.func5, Try.ntmps5
    go_wp2
    go_loopw [1, 5] (fun q i wr => ∃ (k : Nat) (r : Int), k ≤ l.length ∧ i = .int .i64 k ∧ q = .int .i64 r ∧ 0 ≤ r ∧ r ≤ left ∧ (∀ (j : Nat) (hj : j < l.length), j < k → Cls.small l[j]) ∧ ∃ d, wr = w.ext d) (fun _ i _ => l.length - (intOf i).toNat)
    case atStart => exact ⟨0, _, by omega, rfl, rfl, by omega, by omega, by simp, w.gained_refl⟩
    case round =>
      obtain ⟨k, r, hk, rfl, rfl, hr0, hr1, hsm, d, rfl⟩ := hrel
      have HS := Lib.hid hsm
      clear hsm
      by_cases hlt : k < l.length
      · obtain ⟨b, o, rfl⟩ := sl_some hs.out (by omega)
        have hck := fun j (hj : j < 8) => sl_cells hs.out hlt hj
        have hok := Lib.hid (HQ.out _ (List.getElem_mem hlt))
        have HS2 := Lib.hid (fun (hx : Cls.small l[k]) => (show ∀ (j : Nat) (hj : j < l.length), j < k + 1 → Cls.small l[j] from fun j hj hjk => by
          by_cases e : j = k
          · subst e; exact hx
          · exact HS.out j hj (by omega)))
        have c0 := hck 0 (by omega)
        have c1 := hck 1 (by omega)
        have c2 := hck 2 (by omega)
        have c3 := hck 3 (by omega)
        have c4 := hck 4 (by omega)
        have c5 := hck 5 (by omega)
        have c6 := hck 6 (by omega)
        have c7 := hck 7 (by omega)
        generalize l[k] = y at c0 c1 c2 c3 c4 c5 c6 c7 hck hok HS2
        clear hck
        simp only [Cls.cells, List.getElem?_cons_zero, List.getElem?_cons_succ, Nat.add_zero] at c0 c1 c2 c3 c4 c5 c6 c7
        have ob := World.oldB_of_cell c0
        go_wp2_with fail
        refine (szClass_any y _ _ hok.out (by omega) (by omega)).mono ?_
        rintro e w1 ⟨r2, rfl, ⟨d2, rfl⟩, hr2, hx⟩
        have HX := Lib.hid hx
        clear hx
        by_cases hp : 0 ≤ r2
        · go_wp2
          go_roundw
          case rel => exact ⟨k + 1, r2, by omega, by go_num, rfl, hp, by omega, HS2.out (HX.out hp), (by repeat (first | with_reducible (first | exact World.gained_refl _ | exact ⟨_, rfl⟩ | apply gain_ext | apply gain_alloc | apply gain_drewN | apply gain_drew) | (refine gain_setCell ?_ (by first | exact Nat.le_refl _ | exact World.size_ext _ _ | (simp; done) | (simp; omega)) _)))⟩
          case measure => simp [intOf]; omega
        · go_wp2
          go_ret
          exact ⟨_, rfl, (by repeat (first | with_reducible (first | exact World.gained_refl _ | exact ⟨_, rfl⟩ | apply gain_ext | apply gain_alloc | apply gain_drewN | apply gain_drew) | (refine gain_setCell ?_ (by first | exact Nat.le_refl _ | exact World.size_ext _ _ | (simp; done) | (simp; omega)) _))), by omega, fun h => absurd h (by omega)⟩
      · go_wp2
        go_ret
        refine ⟨_, rfl, (by repeat (first | with_reducible (first | exact World.gained_refl _ | exact ⟨_, rfl⟩ | apply gain_ext | apply gain_alloc | apply gain_drewN | apply gain_drew) | (refine gain_setCell ?_ (by first | exact Nat.le_refl _ | exact World.size_ext _ _ | (simp; done) | (simp; omega)) _))), hr1, fun _ => ⟨hlen, fun x hx => ?_⟩⟩
        obtain ⟨j, hj, rfl⟩ := List.getElem_of_mem hx
        exact HS.out j hj (by omega)
  · go_enter Try.func5, Try.ntmps5
    go_wp2
    go_ret
    exact ⟨_, rfl, (by repeat (first | with_reducible (first | exact World.gained_refl _ | exact ⟨_, rfl⟩ | apply gain_ext | apply gain_alloc | apply gain_drewN | apply gain_drew) | (refine gain_setCell ?_ (by first | exact Nat.le_refl _ | exact World.size_ext _ _ | (simp; done) | (simp; omega)) _))), by omega, fun h => absurd h (by omega)⟩
end Go.Proofs.Ytoodomaecgankaa
