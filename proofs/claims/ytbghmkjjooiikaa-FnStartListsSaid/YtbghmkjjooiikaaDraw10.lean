/- The drawn arguments of the laws on start lists: lists of at most 11 numbers, numbers. Condition: at most 1048576 bytes. -/
import Derived.Test.YtbghmkjjooiikaaDrawClubs
namespace Go
open RowKit Go.Ori
theorem results_tmp4 {fn : Func} {t u v x : Tmp} (h : fn.results = #[.tmp t, .tmp u, .tmp v, .tmp x]) (tmps : Array Value) (P : Program) (w : World) :
    (results fn tmps).run P w = .ok (.tuple #[tmps.getD t undef, tmps.getD u undef, tmps.getD v undef, tmps.getD x undef]) w := by
  simp [results, h]
theorem cur_new {w : World} {e : TypeId} {p : Option Addr} {c : Nat} {L : List Int} (h : w.sl byteC 1 (.slice p L.length c) L) (hq : ∀ x ∈ L, 0 ≤ x ∧ x ≤ 255) (hl : L.length ≤ 1048576) :
    Cur e w (w.alloc (.cells #[.slice p L.length c, .int .i64 0, .int .u64 0] e)) w.heap.size 0 :=
  ⟨gain_alloc (World.gained_refl _) _, Nat.le_refl _, p, c, L, 0, 0, heap_alloc_new w _, h, hq, hl, Nat.le_refl _⟩
end Go
namespace Go.Proofs.Ytbghmkjjooiikaa
open Go.RowKit Go.Ori
theorem drawClean_any (v : Value) (L : List Int) (w : World) (h : w.sl byteC 1 v L) (hq : ∀ x ∈ L, 0 ≤ x ∧ x ≤ 255) (hl : L.length ≤ 1048576) :
    Calls Try.prog 56 #[v] w fun x w' => ∃ v1 l1, x = .returned v1 ∧ (∃ d, w' = w.ext d) ∧ w'.sl intC 1 v1 l1 ∧ l1.length ≤ 10 := by
  have hs := Lib.hid h
  have HQ := Lib.hid hq
  obtain ⟨p, c, rfl, _⟩ := h
  go_enter Try.func56, Try.ntmps56
  go_wp2_with fail
  refine (clubs_any w _ w.heap.size 0 (cur_new hs.out HQ.out hl) (by omega)).mono ?_
  rintro e w1 ⟨v1, l1, rfl, ho1, hl1, hc1, hg1⟩
  have HO1 := Lib.hid ho1
  have HC1 := Lib.hid hc1
  have hgl : w.heap.size < (w.alloc (.cells #[.slice p L.length c, .int .i64 0, .int .u64 0] 101)).heap.size := by rw [World.size_alloc]; omega
  generalize (w.alloc (.cells #[.slice p L.length c, .int .i64 0, .int .u64 0] 101)).heap.size = B at hgl HO1
  clear ho1 hc1 hg1 hq
  go_wp2
  go_ret
  exact ⟨_, _, rfl, HC1.out.up, sl_of_own intC_length HO1.out, hl1⟩
theorem drawFullest_any (v : Value) (L : List Int) (w : World) (h : w.sl byteC 1 v L) (hq : ∀ x ∈ L, 0 ≤ x ∧ x ≤ 255) (hl : L.length ≤ 1048576) :
    Calls Try.prog 66 #[v] w fun x w' => ∃ v1 l1, x = .returned v1 ∧ (∃ d, w' = w.ext d) ∧ w'.sl intC 1 v1 l1 ∧ l1.length ≤ 10 := by
  obtain ⟨p, c, rfl, _⟩ := id h
  go_enter Try.func66, Try.ntmps66
  go_wp2_with fail
  refine (drawClean_any _ L _ h hq hl).mono ?_
  rintro e w1 ⟨v1, l1, rfl, ⟨d, rfl⟩, h1, h2⟩
  go_wp2
  go_ret
  exact ⟨_, _, rfl, ⟨_, rfl⟩, h1, h2⟩
theorem drawIsList_any (v : Value) (L : List Int) (w : World) (h : w.sl byteC 1 v L) (hq : ∀ x ∈ L, 0 ≤ x ∧ x ≤ 255) (hl : L.length ≤ 1048576) :
    Calls Try.prog 64 #[v] w fun x w' => ∃ v1 l1 v2 l2, x = .returned (.tuple #[v1, v2]) ∧ (∃ d, w' = w.ext d) ∧ w'.sl intC 1 v1 l1 ∧ l1.length ≤ 10 ∧ w'.sl intC 1 v2 l2 ∧ l2.length ≤ 11 := by
  have hs := Lib.hid h
  have HQ := Lib.hid hq
  obtain ⟨p, c, rfl, _⟩ := h
  go_enter Try.func64, Try.ntmps64
  go_wp2_with fail
  refine (clubs_any w _ w.heap.size 0 (cur_new hs.out HQ.out hl) (by omega)).mono ?_
  rintro e w1 ⟨v1, l1, rfl, ho1, hl1, hc1, hg1⟩
  have HO1 := Lib.hid ho1
  have HC1 := Lib.hid hc1
  have hgl : w.heap.size < (w.alloc (.cells #[.slice p L.length c, .int .i64 0, .int .u64 0] 101)).heap.size := by rw [World.size_alloc]; omega
  generalize (w.alloc (.cells #[.slice p L.length c, .int .i64 0, .int .u64 0] 101)).heap.size = B at hgl HO1
  clear ho1 hc1 hg1 hq
  go_wp2_with fail
  refine (startList_any w _ w.heap.size _ v1 l1 B HC1.out (by omega) HO1.out hgl hl1).mono ?_
  rintro e w2 ⟨v2, l2, rfl, ho2, hl2, hc2, hg2⟩
  have HO2 := Lib.hid ho2
  have HC2 := Lib.hid hc2
  have hb2 := HC1.out.lt
  generalize w1.heap.size = B2 at hb2 HO2
  replace HO1 := Lib.hid (own_cur HO1.out hgl hg2)
  clear ho2 hc2 hg2
  go_wp2
  go_ret2
  exact ⟨_, _, _, _, rfl, HC2.out.up, sl_of_own intC_length HO1.out, hl1, sl_of_own intC_length HO2.out, hl2⟩
theorem drawGaps_any (v : Value) (L : List Int) (w : World) (h : w.sl byteC 1 v L) (hq : ∀ x ∈ L, 0 ≤ x ∧ x ≤ 255) (hl : L.length ≤ 1048576) :
    Calls Try.prog 53 #[v] w fun x w' => ∃ v1 l1 v2 l2, x = .returned (.tuple #[v1, v2]) ∧ (∃ d, w' = w.ext d) ∧ w'.sl intC 1 v1 l1 ∧ l1.length ≤ 10 ∧ w'.sl intC 1 v2 l2 ∧ l2.length ≤ 11 := by
  obtain ⟨p, c, rfl, _⟩ := id h
  go_enter Try.func53, Try.ntmps53
  go_wp2_with fail
  refine (drawIsList_any _ L _ h hq hl).mono ?_
  rintro e w1 ⟨v1, l1, v2, l2, rfl, ⟨d, rfl⟩, h1, h2, h3, h4⟩
  go_wp2
  go_ret2
  exact ⟨_, _, _, _, rfl, ⟨_, rfl⟩, h1, h2, h3, h4⟩
theorem drawClashes_any (v : Value) (L : List Int) (w : World) (h : w.sl byteC 1 v L) (hq : ∀ x ∈ L, 0 ≤ x ∧ x ≤ 255) (hl : L.length ≤ 1048576) :
    Calls Try.prog 62 #[v] w fun x w' => ∃ v1 l1 v2 l2, x = .returned (.tuple #[v1, v2]) ∧ (∃ d, w' = w.ext d) ∧ w'.sl intC 1 v1 l1 ∧ l1.length ≤ 10 ∧ w'.sl intC 1 v2 l2 ∧ l2.length ≤ 11 := by
  obtain ⟨p, c, rfl, _⟩ := id h
  go_enter Try.func62, Try.ntmps62
  go_wp2_with fail
  refine (drawIsList_any _ L _ h hq hl).mono ?_
  rintro e w1 ⟨v1, l1, v2, l2, rfl, ⟨d, rfl⟩, h1, h2, h3, h4⟩
  go_wp2
  go_ret2
  exact ⟨_, _, _, _, rfl, ⟨_, rfl⟩, h1, h2, h3, h4⟩
set_option maxHeartbeats 2000000 in
theorem drawTimes_any (v : Value) (L : List Int) (w : World) (h : w.sl byteC 1 v L) (hq : ∀ x ∈ L, 0 ≤ x ∧ x ≤ 255) (hl : L.length ≤ 1048576) :
    Calls Try.prog 42 #[v] w fun x w' => ∃ v1 l1 v2 l2 a b, x = .returned (.tuple #[v1, v2, .int .i64 a, .int .i64 b]) ∧ (∃ d, w' = w.ext d) ∧ w'.sl intC 1 v1 l1 ∧ l1.length ≤ 10 ∧ w'.sl intC 1 v2 l2 ∧ l2.length ≤ 11 := by
  have hs := Lib.hid h
  have HQ := Lib.hid hq
  obtain ⟨p, c, rfl, _⟩ := h
  go_enter Try.func42, Try.ntmps42
  go_wp2_with fail
  refine (clubs_any w _ w.heap.size 0 (cur_new hs.out HQ.out hl) (by omega)).mono ?_
  rintro e w1 ⟨v1, l1, rfl, ho1, hl1, hc1, hg1⟩
  have HO1 := Lib.hid ho1
  have HC1 := Lib.hid hc1
  have hgl : w.heap.size < (w.alloc (.cells #[.slice p L.length c, .int .i64 0, .int .u64 0] 101)).heap.size := by rw [World.size_alloc]; omega
  generalize (w.alloc (.cells #[.slice p L.length c, .int .i64 0, .int .u64 0] 101)).heap.size = B at hgl HO1
  clear ho1 hc1 hg1 hq
  go_wp2_with fail
  refine (startList_any w _ w.heap.size _ v1 l1 B HC1.out (by omega) HO1.out hgl hl1).mono ?_
  rintro e w2 ⟨v2, l2, rfl, ho2, hl2, hc2, hg2⟩
  have HO2 := Lib.hid ho2
  have HC2 := Lib.hid hc2
  have hb2 := HC1.out.lt
  generalize w1.heap.size = B2 at hb2 HO2
  replace HO1 := Lib.hid (own_cur HO1.out hgl hg2)
  clear ho2 hc2 hg2
  go_wp2_with fail
  refine (among_any w _ w.heap.size _ _ [0, 10, 600, -1, 601, 60] w2.heap.size (HC2.out.gain (by repeat (first | with_reducible (first | exact World.gained_refl _ | exact ⟨_, rfl⟩ | apply gain_ext | apply gain_alloc | apply gain_drewN | apply gain_drew) | (refine gain_setCell ?_ (by first | exact Nat.le_refl _ | exact World.size_ext _ _ | (simp; done) | (simp; omega)) _)))) (by omega) (own_lit' (l := [0, 10, 600, -1, 601, 60]) intC_length rfl rfl (Nat.le_refl _)) HC2.out.lt (by simp) (by simp)).mono ?_
  rintro e w3 ⟨a, rfl, _, hc3, hg3⟩
  have HC3 := Lib.hid hc3
  replace HO1 := Lib.hid (own_cur (own_up HO1.out (by repeat (first | with_reducible (first | exact World.gained_refl _ | exact ⟨_, rfl⟩ | apply gain_ext | apply gain_alloc | apply gain_drewN | apply gain_drew) | (refine gain_setCell ?_ (by first | exact Nat.le_refl _ | exact World.size_ext _ _ | (simp; done) | (simp; omega)) _)))) hgl hg3)
  replace HO2 := Lib.hid (own_cur (own_up HO2.out (by repeat (first | with_reducible (first | exact World.gained_refl _ | exact ⟨_, rfl⟩ | apply gain_ext | apply gain_alloc | apply gain_drewN | apply gain_drew) | (refine gain_setCell ?_ (by first | exact Nat.le_refl _ | exact World.size_ext _ _ | (simp; done) | (simp; omega)) _)))) hb2 hg3)
  clear hc3 hg3
  go_wp2_with fail
  refine (among_any w _ w.heap.size _ _ [1, 2, 3, 10, 0, 11, 5] w3.heap.size (HC3.out.gain (by repeat (first | with_reducible (first | exact World.gained_refl _ | exact ⟨_, rfl⟩ | apply gain_ext | apply gain_alloc | apply gain_drewN | apply gain_drew) | (refine gain_setCell ?_ (by first | exact Nat.le_refl _ | exact World.size_ext _ _ | (simp; done) | (simp; omega)) _)))) (by omega) (own_lit' (l := [1, 2, 3, 10, 0, 11, 5]) intC_length rfl rfl (Nat.le_refl _)) HC3.out.lt (by simp) (by simp)).mono ?_
  rintro e w4 ⟨b, rfl, _, hc4, hg4⟩
  have HC4 := Lib.hid hc4
  replace HO1 := Lib.hid (own_cur (own_up HO1.out (by repeat (first | with_reducible (first | exact World.gained_refl _ | exact ⟨_, rfl⟩ | apply gain_ext | apply gain_alloc | apply gain_drewN | apply gain_drew) | (refine gain_setCell ?_ (by first | exact Nat.le_refl _ | exact World.size_ext _ _ | (simp; done) | (simp; omega)) _)))) hgl hg4)
  replace HO2 := Lib.hid (own_cur (own_up HO2.out (by repeat (first | with_reducible (first | exact World.gained_refl _ | exact ⟨_, rfl⟩ | apply gain_ext | apply gain_alloc | apply gain_drewN | apply gain_drew) | (refine gain_setCell ?_ (by first | exact Nat.le_refl _ | exact World.size_ext _ _ | (simp; done) | (simp; omega)) _)))) hb2 hg4)
  clear hc4 hg4
  go_wp2
  (try simp only [Exit.inBlock, Exit.then])
  refine bodyPost_ret (results_tmp4 rfl _ _ _) rfl ?_
  exact ⟨_, _, _, _, _, _, rfl, HC4.out.up, sl_of_own intC_length HO1.out, hl1, sl_of_own intC_length HO2.out, hl2⟩
set_option maxHeartbeats 2000000 in
theorem drawLast_any (v : Value) (L : List Int) (w : World) (h : w.sl byteC 1 v L) (hq : ∀ x ∈ L, 0 ≤ x ∧ x ≤ 255) (hl : L.length ≤ 1048576) :
    Calls Try.prog 51 #[v] w fun x w' => ∃ v1 l1 a b, x = .returned (.tuple #[v1, .int .i64 a, .int .i64 b]) ∧ (∃ d, w' = w.ext d) ∧ w'.sl intC 1 v1 l1 ∧ l1.length ≤ 10 := by
  have hs := Lib.hid h
  have HQ := Lib.hid hq
  obtain ⟨p, c, rfl, _⟩ := h
  go_enter Try.func51, Try.ntmps51
  go_wp2_with fail
  refine (clubs_any w _ w.heap.size 0 (cur_new hs.out HQ.out hl) (by omega)).mono ?_
  rintro e w1 ⟨v1, l1, rfl, ho1, hl1, hc1, hg1⟩
  have HO1 := Lib.hid ho1
  have HC1 := Lib.hid hc1
  have hgl : w.heap.size < (w.alloc (.cells #[.slice p L.length c, .int .i64 0, .int .u64 0] 101)).heap.size := by rw [World.size_alloc]; omega
  generalize (w.alloc (.cells #[.slice p L.length c, .int .i64 0, .int .u64 0] 101)).heap.size = B at hgl HO1
  clear ho1 hc1 hg1 hq
  go_wp2_with fail
  refine (among_any w _ w.heap.size _ _ [0, 10, 600, -1, 601, 60] w1.heap.size (HC1.out.gain (by repeat (first | with_reducible (first | exact World.gained_refl _ | exact ⟨_, rfl⟩ | apply gain_ext | apply gain_alloc | apply gain_drewN | apply gain_drew) | (refine gain_setCell ?_ (by first | exact Nat.le_refl _ | exact World.size_ext _ _ | (simp; done) | (simp; omega)) _)))) (by omega) (own_lit' (l := [0, 10, 600, -1, 601, 60]) intC_length rfl rfl (Nat.le_refl _)) HC1.out.lt (by simp) (by simp)).mono ?_
  rintro e w3 ⟨a, rfl, _, hc3, hg3⟩
  have HC3 := Lib.hid hc3
  replace HO1 := Lib.hid (own_cur (own_up HO1.out (by repeat (first | with_reducible (first | exact World.gained_refl _ | exact ⟨_, rfl⟩ | apply gain_ext | apply gain_alloc | apply gain_drewN | apply gain_drew) | (refine gain_setCell ?_ (by first | exact Nat.le_refl _ | exact World.size_ext _ _ | (simp; done) | (simp; omega)) _)))) hgl hg3)
  clear hc3 hg3
  go_wp2_with fail
  refine (among_any w _ w.heap.size _ _ [1, 2, 3, 10, 0, 11, 5] w3.heap.size (HC3.out.gain (by repeat (first | with_reducible (first | exact World.gained_refl _ | exact ⟨_, rfl⟩ | apply gain_ext | apply gain_alloc | apply gain_drewN | apply gain_drew) | (refine gain_setCell ?_ (by first | exact Nat.le_refl _ | exact World.size_ext _ _ | (simp; done) | (simp; omega)) _)))) (by omega) (own_lit' (l := [1, 2, 3, 10, 0, 11, 5]) intC_length rfl rfl (Nat.le_refl _)) HC3.out.lt (by simp) (by simp)).mono ?_
  rintro e w4 ⟨b, rfl, _, hc4, hg4⟩
  have HC4 := Lib.hid hc4
  replace HO1 := Lib.hid (own_cur (own_up HO1.out (by repeat (first | with_reducible (first | exact World.gained_refl _ | exact ⟨_, rfl⟩ | apply gain_ext | apply gain_alloc | apply gain_drewN | apply gain_drew) | (refine gain_setCell ?_ (by first | exact Nat.le_refl _ | exact World.size_ext _ _ | (simp; done) | (simp; omega)) _)))) hgl hg4)
  clear hc4 hg4
  go_wp2
  go_ret3
  exact ⟨_, _, _, _, rfl, HC4.out.up, sl_of_own intC_length HO1.out, hl1⟩
set_option maxHeartbeats 2000000 in
theorem drawMove_any (v : Value) (L : List Int) (w : World) (h : w.sl byteC 1 v L) (hq : ∀ x ∈ L, 0 ≤ x ∧ x ≤ 255) (hl : L.length ≤ 1048576) :
    Calls Try.prog 47 #[v] w fun x w' => ∃ v1 l1 v2 l2 a, x = .returned (.tuple #[v1, v2, .int .i64 a]) ∧ (∃ d, w' = w.ext d) ∧ w'.sl intC 1 v1 l1 ∧ l1.length ≤ 10 ∧ w'.sl intC 1 v2 l2 ∧ l2.length ≤ 11 := by
  have hs := Lib.hid h
  have HQ := Lib.hid hq
  obtain ⟨p, c, rfl, _⟩ := h
  go_enter Try.func47, Try.ntmps47
  go_wp2_with fail
  refine (clubs_any w _ w.heap.size 0 (cur_new hs.out HQ.out hl) (by omega)).mono ?_
  rintro e w1 ⟨v1, l1, rfl, ho1, hl1, hc1, hg1⟩
  have HO1 := Lib.hid ho1
  have HC1 := Lib.hid hc1
  have hgl : w.heap.size < (w.alloc (.cells #[.slice p L.length c, .int .i64 0, .int .u64 0] 101)).heap.size := by rw [World.size_alloc]; omega
  generalize (w.alloc (.cells #[.slice p L.length c, .int .i64 0, .int .u64 0] 101)).heap.size = B at hgl HO1
  clear ho1 hc1 hg1 hq
  obtain ⟨q1, k1, rfl, _⟩ := sl_of_own intC_length HO1.out
  go_wp2_with fail
  refine (startList_any w _ w.heap.size _ (.slice q1 l1.length k1) l1 B HC1.out (by omega) HO1.out hgl hl1).mono ?_
  rintro e w2 ⟨v2, l2, rfl, ho2, hl2, hc2, hg2⟩
  have HO2 := Lib.hid ho2
  have HC2 := Lib.hid hc2
  have hb2 := HC1.out.lt
  generalize w1.heap.size = B2 at hb2 HO2
  replace HO1 := Lib.hid (own_cur HO1.out hgl hg2)
  clear ho2 hc2 hg2
  go_wp2_with fail
  refine (pick_any w _ w.heap.size _ _ HC2.out (by omega)).mono ?_
  rintro e w3 ⟨a, rfl, q3, q4, hc3, hg3⟩
  have HC3 := Lib.hid hc3
  replace HO1 := Lib.hid (own_cur HO1.out hgl hg3)
  replace HO2 := Lib.hid (own_cur HO2.out hb2 hg3)
  clear hc3 hg3
  go_wp2_with fail
  refine (pick_any w _ w.heap.size _ _ HC3.out (by omega)).mono ?_
  rintro e w4 ⟨b, rfl, q5, q6, hc4, hg4⟩
  have HC4 := Lib.hid hc4
  replace HO1 := Lib.hid (own_cur HO1.out hgl hg4)
  replace HO2 := Lib.hid (own_cur HO2.out hb2 hg4)
  clear hc4 hg4
  go_wp2
  go_ret3
  exact ⟨_, _, _, _, _, rfl, HC4.out.up, sl_of_own intC_length HO1.out, hl1, sl_of_own intC_length HO2.out, hl2⟩
end Go.Proofs.Ytbghmkjjooiikaa
