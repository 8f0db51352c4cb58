/- spec.l1Cur's classes. Condition: the reader has been asked less than ten thousand times. -/
import Derived.Test.YtffkkchflohhaaaGreatDoorDrawCls
import Derived.Test.YtffkkchflohhaaaGreatDoorLstD
import Derived.Test.YtffkkchflohhaaaGreatDoorAreClasses
import Derived.Test.YtffkkchflohhaaaGreatDoorInfoCls
import Derived.Lib.SlBytesRow
namespace Go.Proofs.YtffkkchflohhaaaGreatDoor
open Go.RowKit Go.Ori
theorem byteStr (k : Nat) (hk : k < 256) (W : World) : (convert 22 9 (.slice (some ⟨W.heap.size, 0, none⟩) 1 1)).run Tryz.prog (W.alloc (.cells #[.int .u8 (k : Int)] 5)) = .ok (.string ⟨#[UInt8.ofNat k]⟩) (W.alloc (.cells #[.int .u8 (k : Int)] 5)) :=
  Lib.run_convert_whole (W.alloc (.cells #[.int .u8 (k : Int)] 5)) _ _ _ Tryz.underlying22 Tryz.underlying5 Tryz.underlying9 W.heap.size 0 ⟨#[UInt8.ofNat k]⟩ (fun i hi => by
    have hi' : i < 1 := hi
    obtain rfl : i = 0 := by omega
    rw [World.cell?_alloc_new]
    show some (Value.int .u8 (k : Int)) = some (.int .u8 ((UInt8.ofNat k).toNat : Int))
    have e : (UInt8.ofNat k).toNat = k := by simp; omega
    rw [e]) 1
abbrev CSm (c : Cls) : Prop := c.name.size ≤ 1048576
set_option maxHeartbeats 8000000 in
set_option maxRecDepth 100000 in
theorem classes_any (W w : World) (g n : Nat) (h : Cur 62 W w g n) (hn : n ≤ 10000) :
    Calls Tryz.prog 66 #[.pointer (some ⟨g, 0, none⟩)] w fun x w' => ∃ (v : Value) (l : List Cls), x = .returned v ∧ LSt 62 25 Cls.cells 8 CSm W w w' g (n + 1000) v l ∧ l.length ≤ 20 := by
  have HL0 : Hid (LSt 62 25 Cls.cells 8 CSm W w (w.alloc (.cells #[] 25)) g n (.slice (some ⟨w.heap.size, 0, none⟩) 0 0) []) := Lib.hid
    ⟨h.gain (by repeat (first | with_reducible (first | exact World.gained_refl _ | exact ⟨_, rfl⟩ | apply gain_ext | apply gain_alloc | apply gain_drewN | apply gain_drew) | (refine gain_setCell ?_ (by first | exact Nat.le_refl _ | exact World.size_ext _ _ | (simp; done) | (simp; omega)) _))), own_lit' (w := w) (base := w.heap.size) (l := ([] : List Cls)) (C := #[]) Cls.cells_length rfl rfl (Nat.le_refl _), only_gain (only_refl _ _) (by repeat (first | with_reducible (first | exact World.gained_refl _ | exact ⟨_, rfl⟩ | apply gain_ext | apply gain_alloc | apply gain_drewN | apply gain_drew) | (refine gain_setCell ?_ (by first | exact Nat.le_refl _ | exact World.size_ext _ _ | (simp; done) | (simp; omega)) _))), h.lt, h.ge, by simp⟩
  clear h
  go_enter Tryz.func66, Tryz.ntmps66
  go_wp2_with fail
  refine (pick_any W _ g n _ HL0.out.cur (by omega)).mono ?_
  rintro e w1 ⟨r, rfl, q1, q2, hc1, hg1⟩
  obtain ⟨k0, rfl⟩ : ∃ k : Nat, r = k := ⟨r.toNat, by omega⟩
  have hk0 : k0 ≤ 8 := by omega
  have HL1 := Lib.hid ((HL0.out.on hc1 hg1).le (show n + 2 ≤ n + 2 + 90 * (8 - k0) by omega))
  clear hc1 hg1 q1 q2 HL0
  go_wp2_with fail
  go_loopw [3, 4, 5] (fun o_ id_ n_ wr => ∃ (l : List Cls) (k : Nat) (id : Int), n_ = .int .i64 k ∧ k ≤ 8 ∧ id_ = .int .i64 id ∧ l.length + k ≤ 8 ∧ LSt 62 25 Cls.cells 8 CSm W w wr g (n + 2 + 90 * (8 - k)) o_ l) (fun _ _ n_ _ => (intOf n_).toNat)
  case atStart => exact ⟨[], k0, 0, rfl, hk0, rfl, by simp; omega, HL1.out⟩
  case round =>
    clear HL1
    obtain ⟨l, k, id, rfl, hk, rfl, hlk, hls⟩ := hrel
    rename_i X0
    have HL2 := Lib.hid hls
    obtain ⟨po, ko, rfl, _⟩ := sl_of_own Cls.cells_length hls.own
    clear hls
    by_cases hlt : 0 < k
    · have hkd : decide (0 < (k : Int)) = true := decide_eq_true (by omega)
      go_wp2_with fail
      refine (pick_any W _ g _ _ HL2.out.cur (by omega)).mono ?_
      rintro e X ⟨r, rfl, -, -, hc1, hg1⟩
      have HL3 := Lib.hid (HL2.out.on hc1 hg1)
      clear hc1 hg1 HL2
      go_wp2_with (at_builtin; go_must (refine wpList_append_gain (W := X) (base := X.heap.size) (m := l) rfl (.tmp 20) (.tmp 21) rfl Tryz.underlying33 info_Cls (by rfl) (by omega) Cls.cells_length Cls.cells_one (by omega) (by repeat (first | with_reducible (first | exact World.gained_refl _ | exact ⟨_, rfl⟩ | apply gain_ext | apply gain_alloc | apply gain_drewN | apply gain_drew) | (refine gain_setCell ?_ (by first | exact Nat.le_refl _ | exact World.size_ext _ _ | (simp; done) | (simp; omega)) _))) (Nat.le_refl _) (gain_size (by repeat (first | with_reducible (first | exact World.gained_refl _ | exact ⟨_, rfl⟩ | apply gain_ext | apply gain_alloc | apply gain_drewN | apply gain_drew) | (refine gain_setCell ?_ (by first | exact Nat.le_refl _ | exact World.size_ext _ _ | (simp; done) | (simp; omega)) _)))) rfl rfl (own_lit' (w := X) (base := X.heap.size) (l := ([] : List Cls)) (C := #[]) Cls.cells_length rfl rfl (Nat.le_refl _)) (by with_reducible (repeat (first | exact sl_of_own Cls.cells_length HL3.out.own | refine World.sl_ext Cls.cells_length ?_ _ | refine sl_alloc Cls.cells_length ?_ _ | refine sl_drew ?_))) (by simp; omega) ?_); intro v2 d2 ho2 hg2)
      rw [List.nil_append] at ho2
      have HAP := Lib.hid (apart2_new HL3.out.own ho2)
      have HL4 := Lib.hid (HL3.out.up (wr' := X.ext d2) ⟨_, rfl⟩)
      have hXw := HL3.out.size
      have hgX := HL3.out.cur.lt
      have hV1 := HL3.out.wle
      refine (class_any W _ g _ _ HL4.out.cur (by omega)).mono ?_
      rintro e X3 ⟨c, rfl, hz, hc1, hg1⟩
      have HL5 := Lib.hid (HL4.out.on hc1 hg1)
      have HV := Lib.hid (own_cur ho2 hgX hg1)
      have hX3 : X.heap.size ≤ X3.heap.size := Nat.le_trans (World.size_ext X d2) (only_size hg1)
      clear hc1 hg1 ho2 hg2 HL3 HL4
      go_wp2_with (at_builtin; go_must (refine wpList_append_gain (W := W) (base := X.heap.size) (m := [c]) rfl (.tmp 22) (.tmp 26) rfl Tryz.underlying33 info_Cls (by rfl) (by omega) Cls.cells_length Cls.cells_one (by omega) (gain_alloc HL5.out.cur.up _) (Nat.le_trans hV1 hXw) (Nat.le_trans hX3 (gain_size (by repeat (first | with_reducible (first | exact World.gained_refl _ | exact ⟨_, rfl⟩ | apply gain_ext | apply gain_alloc | apply gain_drewN | apply gain_drew) | (refine gain_setCell ?_ (by first | exact Nat.le_refl _ | exact World.size_ext _ _ | (simp; done) | (simp; omega)) _))))) rfl rfl (own_up (HV.out) (by repeat (first | with_reducible (first | exact World.gained_refl _ | exact ⟨_, rfl⟩ | apply gain_ext | apply gain_alloc | apply gain_drewN | apply gain_drew) | (refine gain_setCell ?_ (by first | exact Nat.le_refl _ | exact World.size_ext _ _ | (simp; done) | (simp; omega)) _)))) (sl_lit (l := [c]) Cls.cells_length rfl (by rfl)) (by simp; omega) ?_); intro v3 d3 ho3 hg3)
      have HL6 := Lib.hid ((HL5.out.up (wr' := X3.alloc (.cells #[.int .i64 c.id, .string c.name, .int .i64 c.low, .int .i64 c.high, .bool c.women, .bool c.men, .int .i64 c.course, .int .i64 c.most] 25)) (by repeat (first | with_reducible (first | exact World.gained_refl _ | exact ⟨_, rfl⟩ | apply gain_ext | apply gain_alloc | apply gain_drewN | apply gain_drew) | (refine gain_setCell ?_ (by first | exact Nat.le_refl _ | exact World.size_ext _ _ | (simp; done) | (simp; omega)) _)))).keep hg3 HAP.out (fun q e => Nat.le_trans hXw (own_lt HV.out q e).1) ⟨_, rfl⟩)
      have HSM : Hid (∀ x ∈ l ++ [c], CSm x) := Lib.hid (fun x hx => by
        rcases List.mem_append.1 hx with hx | hx
        · exact HL6.out.sm x hx
        · simp only [List.mem_singleton] at hx
          subst hx
          exact hz)
      have HN := Lib.hid (own_base ho3 hXw)
      clear ho3 hg3 HL5 HV HAP
      have hll : (l ++ [c]).length ≤ 8 := by simp; omega
      have HG := Lib.hid (l7Good_any v3 (l ++ [c]) (W.ext d3) (sl_of_own Cls.cells_length HN.out) (by omega) HSM.out)
      cases hB : clssB (l ++ [c]) with
      | true =>
        rw [hB] at HG
        go_wp2_with fail
        refine HG.out.mono ?_
        rintro e w4 ⟨rfl, d4, rfl⟩
        have HL7 := Lib.hid ((HL6.out.up (wr' := (W.ext d3).ext d4) (by repeat (first | with_reducible (first | exact World.gained_refl _ | exact ⟨_, rfl⟩ | apply gain_ext | apply gain_alloc | apply gain_drewN | apply gain_drew) | (refine gain_setCell ?_ (by first | exact Nat.le_refl _ | exact World.size_ext _ _ | (simp; done) | (simp; omega)) _)))).turn (own_up HN.out (by repeat (first | with_reducible (first | exact World.gained_refl _ | exact ⟨_, rfl⟩ | apply gain_ext | apply gain_alloc | apply gain_drewN | apply gain_drew) | (refine gain_setCell ?_ (by first | exact Nat.le_refl _ | exact World.size_ext _ _ | (simp; done) | (simp; omega)) _)))) HSM.out)
        clear HL6 HN
        go_wp2_with fail
        go_roundw
        case rel => exact ⟨l ++ [c], k - 1, _, by go_num, by omega, rfl, by simp; omega, HL7.out.le (by omega)⟩
        case measure => simp [intOf]; omega
      | false =>
        rw [hB] at HG
        go_wp2_with fail
        refine HG.out.mono ?_
        rintro e w4 ⟨rfl, d4, rfl⟩
        have HL7 := Lib.hid (HL6.out.up (wr' := (W.ext d3).ext d4) (by repeat (first | with_reducible (first | exact World.gained_refl _ | exact ⟨_, rfl⟩ | apply gain_ext | apply gain_alloc | apply gain_drewN | apply gain_drew) | (refine gain_setCell ?_ (by first | exact Nat.le_refl _ | exact World.size_ext _ _ | (simp; done) | (simp; omega)) _))))
        have HN7 := Lib.hid (own_up (w' := (W.ext d3).ext d4) HN.out (by repeat (first | with_reducible (first | exact World.gained_refl _ | exact ⟨_, rfl⟩ | apply gain_ext | apply gain_alloc | apply gain_drewN | apply gain_drew) | (refine gain_setCell ?_ (by first | exact Nat.le_refl _ | exact World.size_ext _ _ | (simp; done) | (simp; omega)) _))))
        clear HL6 HN
        go_wp2_with fail
        refine (one_any W _ g _ _ HL7.out.cur (by omega)).mono ?_
        rintro e X5 ⟨b, rfl, hc1, hg1⟩
        have HL8 := Lib.hid (HL7.out.on hc1 hg1)
        have HN8 := Lib.hid (own_cur HN7.out HL7.out.g2 hg1)
        clear hc1 hg1 HL7 HN7
        cases b with
        | true =>
          have HL9 := Lib.hid (HL8.out.turn HN8.out HSM.out)
          go_wp2_with fail
          go_roundw
          case rel => exact ⟨l ++ [c], k - 1, _, by go_num, by omega, rfl, by simp; omega, HL9.out.le (by omega)⟩
          case measure => simp [intOf]; omega
        | false =>
          go_wp2_with fail
          go_roundw
          case rel => exact ⟨l, k - 1, _, by go_num, by omega, rfl, by omega, HL8.out.le (by omega)⟩
          case measure => simp [intOf]; omega
    · have hkd : decide (0 < (k : Int)) = false := decide_eq_false (by omega)
      obtain rfl : k = 0 := by omega
      clear hkd
      go_wp2_with fail
      refine (one_any W _ g _ _ HL2.out.cur (by omega)).mono ?_
      rintro e X ⟨b, rfl, hc1, hg1⟩
      have HL3 := Lib.hid (HL2.out.on hc1 hg1)
      clear hc1 hg1 HL2
      cases b with
      | false =>
        go_wp2
        go_ret
        exact ⟨_, l, rfl, HL3.out.le (by omega), by omega⟩
      | true =>
        have HE := Lib.hid (HL3.out.up (wr' := X.alloc (.cells #[] 25)) (by repeat (first | with_reducible (first | exact World.gained_refl _ | exact ⟨_, rfl⟩ | apply gain_ext | apply gain_alloc | apply gain_drewN | apply gain_drew) | (refine gain_setCell ?_ (by first | exact Nat.le_refl _ | exact World.size_ext _ _ | (simp; done) | (simp; omega)) _))))
        have HL4 := Lib.hid (HE.out.turn (v' := .slice (some ⟨X.heap.size, 0, none⟩) 0 0) (l' := []) (own_base (own_lit' (w := X) (base := X.heap.size) (l := ([] : List Cls)) (C := #[]) Cls.cells_length rfl rfl (Nat.le_refl _)) HL3.out.size) (by simp))
        clear HE
        go_wp2_with fail
        go_loopw [3, 7] (fun o_ i_ wr => ∃ (l : List Cls) (k : Nat), i_ = .int .i64 k ∧ k ≤ 9 ∧ l.length = k ∧ LSt 62 25 Cls.cells 8 CSm W w wr g (n + 800 + 2 * k) o_ l) (fun _ i_ _ => 10 - (intOf i_).toNat)
        case atStart => exact ⟨[], 0, rfl, by omega, rfl, HL4.out.le (by omega)⟩
        case round =>
          clear HL3 HL4
          obtain ⟨l, k, rfl, hk, hlk, hls⟩ := hrel
          rename_i X6
          have HL4 := Lib.hid hls
          obtain ⟨po, ko, rfl, _⟩ := sl_of_own Cls.cells_length hls.own
          have HLK := Lib.hid hlk
          have hll : l.length ≤ 9 := by omega
          clear hls hlk
          go_wp2_with fail
          refine (pick_any W _ g _ _ HL4.out.cur (by omega)).mono ?_
          rintro e X7 ⟨r, rfl, q1, q2, hc1, hg1⟩
          have HL5 := Lib.hid ((HL4.out.on hc1 hg1).le (show _ ≤ n + 800 + 2 * (k + 1) by omega))
          have hr : 0 ≤ r ∧ r ≤ 1 := by omega
          obtain ⟨hr0, hr1⟩ := hr
          clear hc1 hg1 HL4 q1 q2
          by_cases hlt : (k : Int) < 8 + r
          · have hd : decide ((k : Int) < 8 + r) = true := decide_eq_true hlt
            have hk8 : k ≤ 8 := by omega
            obtain ⟨s, hss, hcv⟩ : ∃ s : ByteArray, s.size ≤ 1048576 ∧ (convert 22 9 (.slice (some ⟨X7.heap.size, 0, none⟩) 1 1)).run Tryz.prog (X7.alloc (.cells #[.int .u8 (97 + (k : Int))] 5)) = .ok (.string s) (X7.alloc (.cells #[.int .u8 (97 + (k : Int))] 5)) := by
              have h := byteStr (97 + k) (by omega) X7
              rw [Int.natCast_add] at h
              exact ⟨_, by simp [ByteArray.size], h⟩
            have hX7 := HL5.out.size
            have hu7 := HL5.out.cur.up
            go_wp2_with (at_builtin; go_must (refine wpList_append_gain (W := W) (base := w.heap.size) (m := [(⟨(k : Int) + 1, s, 0, 100, false, true, 1, 5⟩ : Cls)]) rfl (.tmp 45) (.tmp 54) rfl Tryz.underlying33 info_Cls (by rfl) (by omega) Cls.cells_length Cls.cells_one (by omega) (gain_alloc (gain_alloc hu7 _) _) HL5.out.wle (Nat.le_trans hX7 (gain_size (by repeat (first | with_reducible (first | exact World.gained_refl _ | exact ⟨_, rfl⟩ | apply gain_ext | apply gain_alloc | apply gain_drewN | apply gain_drew) | (refine gain_setCell ?_ (by first | exact Nat.le_refl _ | exact World.size_ext _ _ | (simp; done) | (simp; omega)) _))))) rfl rfl (own_up (HL5.out.own) (by repeat (first | with_reducible (first | exact World.gained_refl _ | exact ⟨_, rfl⟩ | apply gain_ext | apply gain_alloc | apply gain_drewN | apply gain_drew) | (refine gain_setCell ?_ (by first | exact Nat.le_refl _ | exact World.size_ext _ _ | (simp; done) | (simp; omega)) _)))) (sl_lit (l := [(⟨(k : Int) + 1, s, 0, 100, false, true, 1, 5⟩ : Cls)]) Cls.cells_length rfl (by simp [World.size_alloc])) (by simp; omega) ?_); intro v3 d3 ho3 hg3)
            have HL6 := Lib.hid ((HL5.out.up (wr' := (X7.alloc (.cells #[.int .u8 (97 + (k : Int))] 5)).alloc (.cells #[.int .i64 ((k : Int) + 1), .string s, .int .i64 0, .int .i64 100, .bool false, .bool true, .int .i64 1, .int .i64 5] 25)) (by repeat (first | with_reducible (first | exact World.gained_refl _ | exact ⟨_, rfl⟩ | apply gain_ext | apply gain_alloc | apply gain_drewN | apply gain_drew) | (refine gain_setCell ?_ (by first | exact Nat.le_refl _ | exact World.size_ext _ _ | (simp; done) | (simp; omega)) _)))).app hg3 ho3 (fun x hx => by
              rcases List.mem_append.1 hx with hx | hx
              · exact HL5.out.sm x hx
              · simp only [List.mem_singleton] at hx
                subst hx
                exact hss) ⟨_, rfl⟩)
            go_roundw
            case rel => exact ⟨_, k + 1, by go_num, by omega, by rw [List.length_append, HLK.out]; rfl, HL6.out⟩
            case measure => simp [intOf]; omega
          · have hd : decide ((k : Int) < 8 + r) = false := decide_eq_false hlt
            go_wp2
            go_ret
            exact ⟨_, l, rfl, HL5.out.le (by omega), by omega⟩
end Go.Proofs.YtffkkchflohhaaaGreatDoor
