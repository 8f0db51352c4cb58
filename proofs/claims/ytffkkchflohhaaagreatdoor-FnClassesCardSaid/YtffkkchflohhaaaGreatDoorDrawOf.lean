/- spec.l1Cur's of: one of some texts; a row in memory while it is drawn. Condition: the reader has been asked less than a million times. -/
import Derived.Test.YtffkkchflohhaaaGreatDoorCurP
import Derived.Test.YtffkkchflohhaaaGreatDoorHeld
import Derived.Test.YtffkkchflohhaaaGreatDoorRowD
import Derived.Test.YtffkkchflohhaaaGreatDoorStrC
namespace Go.Proofs.YtffkkchflohhaaaGreatDoor
open Go.RowKit Go.Ori
set_option maxHeartbeats 1000000 in
theorem of_any (W w : World) (g n : Nat) (v : Value) (l : List ByteArray) (lo : Nat) (h : Cur 62 W w g n) (hn : n ≤ 1000000) (ho : w.own lo 9 strC 1 v l) (hlo : g < lo) (h0 : 0 < l.length) (hl : l.length ≤ 1048576) :
    Calls Tryz.prog 63 #[.pointer (some ⟨g, 0, none⟩), v] w fun x w' => ∃ r : ByteArray, x = .returned (.string r) ∧ r ∈ l ∧ Cur 62 W w' g (n + 2) ∧ w.grownBy w' (some g) := by
  have HC := Lib.hid h
  have HO := Lib.hid ho
  obtain ⟨p, c, rfl, _⟩ := sl_of_own strC_length ho
  clear h ho
  go_enter Tryz.func63, Tryz.ntmps63
  go_wp2_with fail
  refine (pick_any W _ g n _ HC.out hn).mono ?_
  rintro e w1 ⟨r, rfl, q1, q2, hc1, hg1⟩
  have HC1 := Lib.hid hc1
  have HG1 := Lib.hid hg1
  have hs1 := sl_of_own strC_length (own_cur HO.out hlo hg1)
  obtain ⟨k, rfl⟩ : ∃ k : Nat, r = k := ⟨r.toNat, by omega⟩
  have hk : k < l.length := by omega
  obtain ⟨b, o, rfl⟩ := sl_some hs1 h0
  have c0 := sl_str hs1 hk
  have HM := Lib.hid (List.getElem_mem hk)
  generalize l[k] = y at c0 HM
  have ob := World.oldB_of_cell c0
  clear hc1 hg1 hs1 q2
  go_wp2
  go_ret
  exact ⟨_, rfl, HM.out, HC1.out, HG1.out⟩
end Go.Proofs.YtffkkchflohhaaaGreatDoor
