/- Texts laid together: spec.l1Cur's runners. Condition: the reader has been asked less than ten thousand times.; A new reader of choices; four results that lie in temps. Condition: at most 1048576 bytes. -/
import Derived.Test.YtfenempljjenpaaG10
import Derived.Test.YtfenempljjenpaaG7
import Derived.Test.YtfenempljjenpaaG14
import Derived.Test.YtfenempljjenpaaG4
/- spec.l1Cur's runners. Condition: the reader has been asked less than ten thousand times. -/
namespace Go.Proofs.Ytfenempljjenpaa
open Go.RowKit Go.Ori
abbrev RSm (r : Runner) : Prop := Runner.small r
set_option maxHeartbeats 8000000 in
set_option maxRecDepth 100000 in
theorem runners_any (W w : World) (g n : Nat) (h : Cur 54 W w g n) (hn : n ≤ 10000) :
    Calls Try.prog 22 #[.pointer (some ⟨g, 0, none⟩)] w fun x w' => ∃ (v : Value) (l : List Runner), x = .returned v ∧ LSt 54 37 Runner.cells 6 RSm W w w' g (n + 1000) v l ∧ l.length ≤ 20 := by
  have HL0 : Hid (LSt 54 37 Runner.cells 6 RSm W w (w.alloc (.cells #[] 37)) g n (.slice (some ⟨w.heap.size, 0, none⟩) 0 0) []) := Lib.hid
    ⟨h.gain (by repeat (first | with_reducible (first | exact World.gained_refl _ | exact ⟨_, rfl⟩ | apply gain_ext | apply gain_alloc | apply gain_drewN | apply gain_drew) | (refine gain_setCell ?_ (by first | exact Nat.le_refl _ | exact World.size_ext _ _ | (simp; done) | (simp; omega)) _))), own_lit' (w := w) (base := w.heap.size) (l := ([] : List Runner)) (C := #[]) Runner.cells_length rfl rfl (Nat.le_refl _), only_gain (only_refl _ _) (by repeat (first | with_reducible (first | exact World.gained_refl _ | exact ⟨_, rfl⟩ | apply gain_ext | apply gain_alloc | apply gain_drewN | apply gain_drew) | (refine gain_setCell ?_ (by first | exact Nat.le_refl _ | exact World.size_ext _ _ | (simp; done) | (simp; omega)) _))), h.lt, h.ge, by simp⟩
  clear h
  go_enter Try.func22, Try.ntmps22
  go_wp2_with fail
  refine (pick_any W _ g n _ HL0.out.cur (by omega)).mono ?_
  rintro e w1 ⟨r, rfl, q1, q2, hc1, hg1⟩
  obtain ⟨k0, rfl⟩ : ∃ k : Nat, r = k := ⟨r.toNat, by omega⟩
  have hk0 : k0 ≤ 8 := by omega
  have HL1 := Lib.hid ((HL0.out.on hc1 hg1).le (show n + 2 ≤ n + 2 + 90 * (8 - k0) by omega))
  clear hc1 hg1 q1 q2 HL0
  go_wp2_with fail
  go_loopw [3, 4, 5] (fun o_ id_ n_ wr => ∃ (l : List Runner) (k : Nat) (id : Int), n_ = .int .i64 k ∧ k ≤ 8 ∧ id_ = .int .i64 id ∧ l.length + k ≤ 8 ∧ LSt 54 37 Runner.cells 6 RSm W w wr g (n + 2 + 90 * (8 - k)) o_ l) (fun _ _ n_ _ => (intOf n_).toNat)
  case atStart => exact ⟨[], k0, 0, rfl, hk0, rfl, by simp; omega, HL1.out⟩
  case round =>
    clear HL1
    obtain ⟨l, k, id, rfl, hk, rfl, hlk, hls⟩ := hrel
    rename_i X0
    have HL2 := Lib.hid hls
    obtain ⟨po, ko, rfl, _⟩ := sl_of_own Runner.cells_length hls.own
    clear hls
    by_cases hlt : 0 < k
    · have hkd : decide (0 < (k : Int)) = true := decide_eq_true (by omega)
      go_wp2_with fail
      refine (pick_any W _ g _ _ HL2.out.cur (by omega)).mono ?_
      rintro e X ⟨r, rfl, -, -, hc1, hg1⟩
      have HL3 := Lib.hid (HL2.out.on hc1 hg1)
      clear hc1 hg1 HL2
      go_wp2_with fail
      refine (runner_any W _ g _ _ HL3.out.cur (by omega)).mono ?_
      rintro e X3 ⟨c, rfl, hz1, hz2, hc1, hg1⟩
      have HL4 := Lib.hid (HL3.out.on hc1 hg1)
      clear hc1 hg1 HL3
      go_wp2_with fail
      refine (addRunner_any _ l c _ (by with_reducible (repeat (first | exact sl_of_own Runner.cells_length HL4.out.own | refine World.sl_ext Runner.cells_length ?_ _ | refine sl_alloc Runner.cells_length ?_ _ | refine sl_drew ?_))) (by omega) HL4.out.sm ⟨hz1, hz2⟩).mono ?_
      rintro e w4 ⟨R, M, b, rfl, ⟨d4, rfl⟩, hoR, hlM, hsM⟩
      have HL5 := Lib.hid (HL4.out.up (wr' := X3.ext d4) ⟨_, rfl⟩)
      have HO := Lib.hid (own_base hoR HL4.out.size)
      have HSM := Lib.hid hsM
      clear hoR hsM HL4
      cases b with
      | true =>
        have HL6 := Lib.hid (HL5.out.turn HO.out HSM.out)
        go_wp2_with fail
        go_roundw
        case rel => exact ⟨M, k - 1, _, by go_num, by omega, rfl, by omega, HL6.out.le (by omega)⟩
        case measure => simp [intOf]; omega
      | false =>
        go_wp2_with fail
        go_roundw
        case rel => exact ⟨l, k - 1, _, by go_num, by omega, rfl, by omega, HL5.out.le (by omega)⟩
        case measure => simp [intOf]; omega
    · have hkd : decide (0 < (k : Int)) = false := decide_eq_false (by omega)
      obtain rfl : k = 0 := by omega
      clear hkd
      go_wp2_with fail
      refine (pick_any W _ g _ _ HL2.out.cur (by omega)).mono ?_
      rintro e X ⟨r, rfl, -, -, hc1, hg1⟩
      have HL3 := Lib.hid (HL2.out.on hc1 hg1)
      clear hc1 hg1 HL2
      by_cases h0 : r = 0
      · subst h0
        go_wp2_with fail
        refine (pick_any W _ g _ _ HL3.out.cur (by omega)).mono ?_
        rintro e X1 ⟨r, rfl, -, -, hc1, hg1⟩
        have HL4 := Lib.hid (HL3.out.on hc1 hg1)
        clear hc1 hg1 HL3
        go_wp2_with fail
        refine (runner_any W _ g _ _ HL4.out.cur (by omega)).mono ?_
        rintro e X3 ⟨c, rfl, hz1, hz2, hc1, hg1⟩
        have HL5 := Lib.hid (HL4.out.on hc1 hg1)
        clear hc1 hg1 HL4
        have hX3 := HL5.out.size
        go_wp2_with (at_builtin; go_must (refine wpList_append_gain (W := W) (base := w.heap.size) (m := [c]) rfl (.tmp 35) (.tmp 40) rfl Try.underlying25 info_Runner (by rfl) (by omega) Runner.cells_length Runner.cells_one (by omega) (gain_alloc HL5.out.cur.up _) HL5.out.wle (Nat.le_trans hX3 (gain_size (by repeat (first | with_reducible (first | exact World.gained_refl _ | exact ⟨_, rfl⟩ | apply gain_ext | apply gain_alloc | apply gain_drewN | apply gain_drew) | (refine gain_setCell ?_ (by first | exact Nat.le_refl _ | exact World.size_ext _ _ | (simp; done) | (simp; omega)) _))))) rfl rfl (own_up (HL5.out.own) (by repeat (first | with_reducible (first | exact World.gained_refl _ | exact ⟨_, rfl⟩ | apply gain_ext | apply gain_alloc | apply gain_drewN | apply gain_drew) | (refine gain_setCell ?_ (by first | exact Nat.le_refl _ | exact World.size_ext _ _ | (simp; done) | (simp; omega)) _)))) (sl_lit (l := [c]) Runner.cells_length rfl (by rfl)) (by simp; omega) ?_); intro v3 d3 ho3 hg3)
        have HL6 := Lib.hid ((HL5.out.up (wr' := X3.alloc (.cells #[.int .i64 c.id, .string c.name, .string c.club, .int .i64 c.born, .bool c.woman, .int .i64 c.card] 37)) (by repeat (first | with_reducible (first | exact World.gained_refl _ | exact ⟨_, rfl⟩ | apply gain_ext | apply gain_alloc | apply gain_drewN | apply gain_drew) | (refine gain_setCell ?_ (by first | exact Nat.le_refl _ | exact World.size_ext _ _ | (simp; done) | (simp; omega)) _)))).app hg3 ho3 (fun x hx => by
          rcases List.mem_append.1 hx with hx | hx
          · exact HL5.out.sm x hx
          · simp only [List.mem_singleton] at hx
            subst hx
            exact ⟨hz1, hz2⟩) ⟨_, rfl⟩)
        go_ret
        exact ⟨_, l ++ [c], rfl, HL6.out.le (by omega), by simp; omega⟩
      by_cases h1 : r = 1
      · subst h1
        have HE := Lib.hid (HL3.out.up (wr' := X.alloc (.cells #[] 37)) (by repeat (first | with_reducible (first | exact World.gained_refl _ | exact ⟨_, rfl⟩ | apply gain_ext | apply gain_alloc | apply gain_drewN | apply gain_drew) | (refine gain_setCell ?_ (by first | exact Nat.le_refl _ | exact World.size_ext _ _ | (simp; done) | (simp; omega)) _))))
        have HL4 := Lib.hid (HE.out.turn (v' := .slice (some ⟨X.heap.size, 0, none⟩) 0 0) (l' := []) (own_base (own_lit' (w := X) (base := X.heap.size) (l := ([] : List Runner)) (C := #[]) Runner.cells_length rfl rfl (Nat.le_refl _)) HL3.out.size) (by simp))
        clear HE h0
        go_wp2_with fail
        go_loopw [3, 8] (fun o_ i_ wr => ∃ (l : List Runner) (k : Nat), i_ = .int .i64 k ∧ k ≤ 12 ∧ l.length = k ∧ LSt 54 37 Runner.cells 6 RSm W w wr g (n + 800 + 2 * k) o_ l) (fun _ i_ _ => 13 - (intOf i_).toNat)
        case atStart => exact ⟨[], 0, rfl, by omega, rfl, HL4.out.le (by omega)⟩
        case round =>
          clear HL3 HL4
          obtain ⟨l, k, rfl, hk, hlk, hls⟩ := hrel
          rename_i X6
          have HL4 := Lib.hid hls
          obtain ⟨po, ko, rfl, _⟩ := sl_of_own Runner.cells_length hls.own
          have HLK := Lib.hid hlk
          have hll : l.length ≤ 12 := by omega
          clear hls hlk
          go_wp2_with fail
          refine (pick_any W _ g _ _ HL4.out.cur (by omega)).mono ?_
          rintro e X7 ⟨r, rfl, q1, q2, hc1, hg1⟩
          have HL5 := Lib.hid ((HL4.out.on hc1 hg1).le (show _ ≤ n + 800 + 2 * (k + 1) by omega))
          have hr : 0 ≤ r ∧ r ≤ 1 := by omega
          obtain ⟨hr0, hr1⟩ := hr
          clear hc1 hg1 HL4 q1 q2
          by_cases hlt : (k : Int) < 10 + r
          · have hd : decide ((k : Int) < 10 + r) = true := decide_eq_true hlt
            have hX7 := HL5.out.size
            have hu7 := HL5.out.cur.up
            have hk8 : k ≤ 11 := by omega
            go_wp2_with (at_builtin; go_must (refine wpList_append_gain (W := W) (base := w.heap.size) (m := [(⟨(k : Int) + 1, ⟨#[120]⟩, ⟨#[121]⟩, 1950 + (k : Int), false, 0⟩ : Runner)]) rfl (.tmp 52) (.tmp 58) rfl Try.underlying25 info_Runner (by rfl) (by omega) Runner.cells_length Runner.cells_one (by omega) (gain_alloc hu7 _) HL5.out.wle (Nat.le_trans hX7 (gain_size (by repeat (first | with_reducible (first | exact World.gained_refl _ | exact ⟨_, rfl⟩ | apply gain_ext | apply gain_alloc | apply gain_drewN | apply gain_drew) | (refine gain_setCell ?_ (by first | exact Nat.le_refl _ | exact World.size_ext _ _ | (simp; done) | (simp; omega)) _))))) rfl rfl (own_up (HL5.out.own) (by repeat (first | with_reducible (first | exact World.gained_refl _ | exact ⟨_, rfl⟩ | apply gain_ext | apply gain_alloc | apply gain_drewN | apply gain_drew) | (refine gain_setCell ?_ (by first | exact Nat.le_refl _ | exact World.size_ext _ _ | (simp; done) | (simp; omega)) _)))) (sl_lit (l := [(⟨(k : Int) + 1, ⟨#[120]⟩, ⟨#[121]⟩, 1950 + (k : Int), false, 0⟩ : Runner)]) Runner.cells_length rfl (by rfl)) (by simp; omega) ?_); intro v3 d3 ho3 hg3)
            have HL6 := Lib.hid ((HL5.out.up (wr' := X7.alloc (.cells #[.int .i64 ((k : Int) + 1), .string ⟨#[120]⟩, .string ⟨#[121]⟩, .int .i64 (1950 + (k : Int)), .bool false, .int .i64 0] 37)) (by repeat (first | with_reducible (first | exact World.gained_refl _ | exact ⟨_, rfl⟩ | apply gain_ext | apply gain_alloc | apply gain_drewN | apply gain_drew) | (refine gain_setCell ?_ (by first | exact Nat.le_refl _ | exact World.size_ext _ _ | (simp; done) | (simp; omega)) _)))).app hg3 ho3 (fun x hx => by
              rcases List.mem_append.1 hx with hx | hx
              · exact HL5.out.sm x hx
              · simp only [List.mem_singleton] at hx
                subst hx
                exact ⟨by show (⟨#[120]⟩ : ByteArray).size ≤ 1048576; decide, by show (⟨#[121]⟩ : ByteArray).size ≤ 1048576; decide⟩) ⟨_, rfl⟩)
            go_roundw
            case rel => exact ⟨_, k + 1, by go_num, by omega, by rw [List.length_append, HLK.out]; rfl, HL6.out⟩
            case measure => simp [intOf]; omega
          · have hd : decide ((k : Int) < 10 + r) = false := decide_eq_false hlt
            go_wp2
            go_ret
            exact ⟨_, l, rfl, HL5.out.le (by omega), by omega⟩
      · have hb0 : (r == 0) = false := by simpa using h0
        have hb1 : (r == 1) = false := by simpa using h1
        clear h0 h1
        go_wp2
        go_ret
        exact ⟨_, l, rfl, HL3.out.le (by omega), by omega⟩
end Go.Proofs.Ytfenempljjenpaa
/- A new reader of choices; four results that lie in temps. Condition: at most 1048576 bytes. -/
namespace Go
open RowKit Go.Ori
theorem results_tmp4 {fn : Func} {t u v x : Tmp} (h : fn.results = #[.tmp t, .tmp u, .tmp v, .tmp x]) (tmps : Array Value) (P : Program) (w : World) :
    (results fn tmps).run P w = .ok (.tuple #[tmps.getD t undef, tmps.getD u undef, tmps.getD v undef, tmps.getD x undef]) w := by
  simp [results, h]
theorem cur_new {w : World} {e : TypeId} {p : Option Addr} {c : Nat} {L : List Int} (h : w.sl byteC 1 (.slice p L.length c) L) (hq : ∀ x ∈ L, 0 ≤ x ∧ x ≤ 255) (hl : L.length ≤ 1048576) :
    Cur e w (w.alloc (.cells #[.slice p L.length c, .int .i64 0, .int .u64 0] e)) w.heap.size 0 :=
  ⟨gain_alloc (World.gained_refl _) _, Nat.le_refl _, p, c, L, 0, 0, heap_alloc_new w _, h, hq, hl, Nat.le_refl _⟩
end Go
