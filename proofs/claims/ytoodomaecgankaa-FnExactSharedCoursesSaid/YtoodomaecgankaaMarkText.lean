/- laws.markText. Condition: a small number. -/
import Derived.Test.YtoodomaecgankaaRows
import Derived.Test.YtoodomaecgankaaPlain
import Derived.Test.YtoodomaecgankaaHeld
import Derived.Lib.SlBytesRow
namespace Go.Ori
def digStr (q : Nat) : ByteArray := ⟨#[UInt8.ofNat (48 + q % 10)]⟩
theorem digStr_size (q : Nat) : (digStr q).size = 1 := rfl
def markGo (k : Nat) (s : ByteArray) : ByteArray := if h : k = 0 then s else markGo (k / 10) (digStr k ++ s)
termination_by k
decreasing_by omega
def markStr (k : Int) : ByteArray := if k ≤ 0 then ⟨#[109, 48]⟩ else ⟨#[109]⟩ ++ markGo k.toNat ⟨#[]⟩
theorem digByte (q : Nat) : ((UInt8.ofNat (48 + q % 10)).toNat : Int) = 48 + (q : Int) % 10 := by
  rw [UInt8.toNat_ofNat']
  omega
theorem markGo_zero (s : ByteArray) : markGo 0 s = s := by rw [markGo]; simp
theorem markGo_succ {k : Nat} (h : 0 < k) (s : ByteArray) : markGo k s = markGo (k / 10) (digStr k ++ s) := by
  rw [markGo, dif_neg (by omega)]
end Go.Ori
namespace Go.Proofs.Ytoodomaecgankaa
open Go.RowKit Go.Ori
set_option maxHeartbeats 1000000 in
theorem markText_any (k0 : Int) (w : World) (h1 : k0 ≤ 67108864) (hm : -67108864 ≤ k0) :
    Calls Try.prog 37 #[.int .i64 k0] w fun x w' => x = .returned (.string (markStr k0)) ∧ ∃ d, w' = w.ext d := by
  by_cases h0 : k0 ≤ 0
  · have hM : Hid (markStr k0 = ⟨#[109, 48]⟩) := Lib.hid (by unfold markStr; rw [if_pos h0])
    go_enter Try.func37, Try.ntmps37
    go_wp2
    go_ret
    rw [hM.out]
    exact ⟨rfl, w.gained_refl⟩
  · have hM : Hid (markStr k0 = ⟨#[109]⟩ ++ markGo k0.toNat ⟨#[]⟩) := Lib.hid (by unfold markStr; rw [if_neg h0])
    go_enter Try.func37, Try.ntmps37
    go_wp2
    go_loopw [0, 3] (fun k s wr => ∃ (q : Nat) (t : ByteArray), k = .int .i64 q ∧ s = .string t ∧ t.size + q ≤ k0.toNat ∧ markGo q t = markGo k0.toNat ⟨#[]⟩ ∧ ∃ d, wr = w.ext d) (fun k _ _ => (intOf k).toNat)
    case atStart => exact ⟨k0.toNat, _, by rw [Int.toNat_of_nonneg (by omega)], rfl, by show 0 + _ ≤ _; omega, rfl, w.gained_refl⟩
    case round =>
      obtain ⟨q, t, rfl, rfl, hs, hG, d, rfl⟩ := hrel
      have HG := Lib.hid hG
      clear hG
      by_cases hq : 0 < q
      · have HS := Lib.hid (markGo_succ hq t)
        clear hM
        have hcv : ∀ W : World, (convert 34 9 (.slice (some ⟨W.heap.size, 0, none⟩) 1 1)).run Try.prog (W.alloc (.cells #[.int .u8 (48 + (q : Int) % 10)] 5)) = .ok (.string (digStr q)) (W.alloc (.cells #[.int .u8 (48 + (q : Int) % 10)] 5)) := fun W =>
          Lib.run_convert_whole (W.alloc (.cells #[.int .u8 (48 + (q : Int) % 10)] 5)) _ _ _ Try.underlying34 Try.underlying5 Try.underlying9 W.heap.size 0 (digStr q) (fun i hi => by
            have hi' : i < 1 := hi
            obtain rfl : i = 0 := by omega
            rw [World.cell?_alloc_new]
            show some (Value.int .u8 (48 + (q : Int) % 10)) = some (.int .u8 ((UInt8.ofNat (48 + q % 10)).toNat : Int))
            rw [digByte]) 1
        have hdz := digStr_size q
        set_option maxRecDepth 4000 in go_wp2
        go_roundw
        case rel => exact ⟨q / 10, _, by go_num, rfl, by rw [ByteArray.size_append, hdz]; omega, by rw [← HS.out]; exact HG.out, (by repeat (first | with_reducible (first | exact World.gained_refl _ | exact ⟨_, rfl⟩ | apply gain_ext | apply gain_alloc | apply gain_drewN | apply gain_drew) | (refine gain_setCell ?_ (by first | exact Nat.le_refl _ | exact World.size_ext _ _ | (simp; done) | (simp; omega)) _)))⟩
        case measure => simp [intOf]; omega
      · obtain rfl : q = 0 := by omega
        go_wp2
        go_ret
        rw [hM.out, ← HG.out, markGo_zero]
        exact ⟨rfl, _, rfl⟩
end Go.Proofs.Ytoodomaecgankaa
