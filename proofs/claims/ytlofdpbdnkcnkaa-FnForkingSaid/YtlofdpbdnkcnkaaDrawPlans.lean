/- The drawn arguments of the laws on plans. Condition: at most 1048576 bytes. -/
import Derived.Test.YtlofdpbdnkcnkaaCurN
import Derived.Test.YtlofdpbdnkcnkaaDrawFork2
namespace Go
open RowKit Go.Ori
theorem results_tmp5 {fn : Func} {t u v x y : Tmp} (h : fn.results = #[.tmp t, .tmp u, .tmp v, .tmp x, .tmp y]) (tmps : Array Value) (P : Program) (w : World) :
    (results fn tmps).run P w = .ok (.tuple #[tmps.getD t undef, tmps.getD u undef, tmps.getD v undef, tmps.getD x undef, tmps.getD y undef]) w := by
  simp [results, h]
theorem results_tmp6 {fn : Func} {t u v x y z : Tmp} (h : fn.results = #[.tmp t, .tmp u, .tmp v, .tmp x, .tmp y, .tmp z]) (tmps : Array Value) (P : Program) (w : World) :
    (results fn tmps).run P w = .ok (.tuple #[tmps.getD t undef, tmps.getD u undef, tmps.getD v undef, tmps.getD x undef, tmps.getD y undef, tmps.getD z undef]) w := by
  simp [results, h]
end Go
namespace Go.Proofs.Ytlofdpbdnkcnkaa
open Go.RowKit Go.Ori
set_option maxHeartbeats 2000000 in
theorem drawSwap_any (v : Value) (L : List Int) (w : World) (h : w.sl byteC 1 v L) (hq : ∀ x ∈ L, 0 ≤ x ∧ x ≤ 255) (hl : L.length ≤ 1048576) :
    Calls Try.prog 21 #[v] w fun x w' => ∃ v1 l1 legs forks a b d, x = .returned (.tuple #[v1, .int .i64 legs, .int .i64 forks, .int .i64 a, .int .i64 b, .int .i64 d]) ∧ (∃ d, w' = w.ext d) ∧ w'.sl3 v1 l1 ∧ tot3 l1 ≤ 1000 := by
  have hs := Lib.hid h
  have HQ := Lib.hid hq
  obtain ⟨p, c, rfl, _⟩ := h
  go_enter Try.func21, Try.ntmps21
  go_wp2_with fail
  refine (forked_any w _ w.heap.size 0 (cur_new hs.out HQ.out hl) (by omega)).mono ?_
  rintro e w1 ⟨v1, l1, legs, forks, rfl, h3, hT, hL, hF, hc1, hg1⟩
  have HC := Lib.hid hc1
  have hgl : w.heap.size < (w.alloc (.cells #[.slice p L.length c, .int .i64 0, .int .u64 0] 69)).heap.size := by rw [World.size_alloc]; omega
  generalize (w.alloc (.cells #[.slice p L.length c, .int .i64 0, .int .u64 0] 69)).heap.size = B at hgl h3
  have HP := Lib.hid h3
  obtain ⟨pp, cp, rfl⟩ := sl3_form (sl3_of_far h3)
  have hll : l1.length ≤ 1000 := Nat.le_trans (tot3_len l1) hT
  clear hc1 hg1 hq h3
  go_wp2_with fail
  refine (pick_any w _ w.heap.size _ _ (HC.out.gain (by repeat (first | with_reducible (first | exact World.gained_refl _ | exact ⟨_, rfl⟩ | apply gain_ext | apply gain_alloc | apply gain_drewN | apply gain_drew) | (refine gain_setCell ?_ (by first | exact Nat.le_refl _ | exact World.size_ext _ _ | (simp; done) | (simp; omega)) _)))) (by omega)).mono ?_
  rintro e w1 ⟨r1, rfl, -, -, hc1, hg1⟩
  replace HC := Lib.hid hc1
  replace HP := Lib.hid (sl3f_cur (sl3f_up HP.out (by repeat (first | with_reducible (first | exact World.gained_refl _ | exact ⟨_, rfl⟩ | apply gain_ext | apply gain_alloc | apply gain_drewN | apply gain_drew) | (refine gain_setCell ?_ (by first | exact Nat.le_refl _ | exact World.size_ext _ _ | (simp; done) | (simp; omega)) _)))) hgl hg1)
  clear hc1 hg1
  go_wp2_with fail
  refine (pick_any w _ w.heap.size _ _ (HC.out.gain (by repeat (first | with_reducible (first | exact World.gained_refl _ | exact ⟨_, rfl⟩ | apply gain_ext | apply gain_alloc | apply gain_drewN | apply gain_drew) | (refine gain_setCell ?_ (by first | exact Nat.le_refl _ | exact World.size_ext _ _ | (simp; done) | (simp; omega)) _)))) (by omega)).mono ?_
  rintro e w1 ⟨r2, rfl, -, -, hc1, hg1⟩
  replace HC := Lib.hid hc1
  replace HP := Lib.hid (sl3f_cur (sl3f_up HP.out (by repeat (first | with_reducible (first | exact World.gained_refl _ | exact ⟨_, rfl⟩ | apply gain_ext | apply gain_alloc | apply gain_drewN | apply gain_drew) | (refine gain_setCell ?_ (by first | exact Nat.le_refl _ | exact World.size_ext _ _ | (simp; done) | (simp; omega)) _)))) hgl hg1)
  clear hc1 hg1
  go_wp2_with fail
  refine (pick_any w _ w.heap.size _ _ (HC.out.gain (by repeat (first | with_reducible (first | exact World.gained_refl _ | exact ⟨_, rfl⟩ | apply gain_ext | apply gain_alloc | apply gain_drewN | apply gain_drew) | (refine gain_setCell ?_ (by first | exact Nat.le_refl _ | exact World.size_ext _ _ | (simp; done) | (simp; omega)) _)))) (by omega)).mono ?_
  rintro e w1 ⟨r3, rfl, -, -, hc1, hg1⟩
  replace HC := Lib.hid hc1
  replace HP := Lib.hid (sl3f_cur (sl3f_up HP.out (by repeat (first | with_reducible (first | exact World.gained_refl _ | exact ⟨_, rfl⟩ | apply gain_ext | apply gain_alloc | apply gain_drewN | apply gain_drew) | (refine gain_setCell ?_ (by first | exact Nat.le_refl _ | exact World.size_ext _ _ | (simp; done) | (simp; omega)) _)))) hgl hg1)
  clear hc1 hg1
  go_wp2_with fail
  refine (pick_any w _ w.heap.size _ _ (HC.out.gain (by repeat (first | with_reducible (first | exact World.gained_refl _ | exact ⟨_, rfl⟩ | apply gain_ext | apply gain_alloc | apply gain_drewN | apply gain_drew) | (refine gain_setCell ?_ (by first | exact Nat.le_refl _ | exact World.size_ext _ _ | (simp; done) | (simp; omega)) _)))) (by omega)).mono ?_
  rintro e w1 ⟨r4, rfl, -, -, hc1, hg1⟩
  replace HC := Lib.hid hc1
  replace HP := Lib.hid (sl3f_cur (sl3f_up HP.out (by repeat (first | with_reducible (first | exact World.gained_refl _ | exact ⟨_, rfl⟩ | apply gain_ext | apply gain_alloc | apply gain_drewN | apply gain_drew) | (refine gain_setCell ?_ (by first | exact Nat.le_refl _ | exact World.size_ext _ _ | (simp; done) | (simp; omega)) _)))) hgl hg1)
  clear hc1 hg1
  go_wp2_with fail
  refine (pick_any w _ w.heap.size _ _ (HC.out.gain (by repeat (first | with_reducible (first | exact World.gained_refl _ | exact ⟨_, rfl⟩ | apply gain_ext | apply gain_alloc | apply gain_drewN | apply gain_drew) | (refine gain_setCell ?_ (by first | exact Nat.le_refl _ | exact World.size_ext _ _ | (simp; done) | (simp; omega)) _)))) (by omega)).mono ?_
  rintro e w1 ⟨r5, rfl, -, -, hc1, hg1⟩
  replace HC := Lib.hid hc1
  replace HP := Lib.hid (sl3f_cur (sl3f_up HP.out (by repeat (first | with_reducible (first | exact World.gained_refl _ | exact ⟨_, rfl⟩ | apply gain_ext | apply gain_alloc | apply gain_drewN | apply gain_drew) | (refine gain_setCell ?_ (by first | exact Nat.le_refl _ | exact World.size_ext _ _ | (simp; done) | (simp; omega)) _)))) hgl hg1)
  clear hc1 hg1
  go_wp2_with fail
  refine (pick_any w _ w.heap.size _ _ (HC.out.gain (by repeat (first | with_reducible (first | exact World.gained_refl _ | exact ⟨_, rfl⟩ | apply gain_ext | apply gain_alloc | apply gain_drewN | apply gain_drew) | (refine gain_setCell ?_ (by first | exact Nat.le_refl _ | exact World.size_ext _ _ | (simp; done) | (simp; omega)) _)))) (by omega)).mono ?_
  rintro e w1 ⟨r6, rfl, -, -, hc1, hg1⟩
  replace HC := Lib.hid hc1
  replace HP := Lib.hid (sl3f_cur (sl3f_up HP.out (by repeat (first | with_reducible (first | exact World.gained_refl _ | exact ⟨_, rfl⟩ | apply gain_ext | apply gain_alloc | apply gain_drewN | apply gain_drew) | (refine gain_setCell ?_ (by first | exact Nat.le_refl _ | exact World.size_ext _ _ | (simp; done) | (simp; omega)) _)))) hgl hg1)
  clear hc1 hg1
  go_wp2
  (try simp only [Exit.inBlock, Exit.then])
  refine bodyPost_ret (results_tmp6 rfl _ _ _) rfl ?_
  exact ⟨_, l1, _, _, _, _, _, rfl, HC.out.up, sl3_of_far HP.out, hT⟩
set_option maxHeartbeats 2000000 in
theorem drawVariants_any (v : Value) (L : List Int) (w : World) (h : w.sl byteC 1 v L) (hq : ∀ x ∈ L, 0 ≤ x ∧ x ≤ 255) (hl : L.length ≤ 1048576) :
    Calls Try.prog 24 #[v] w fun x w' => ∃ v1 l1 legs forks a b, x = .returned (.tuple #[v1, .int .i64 legs, .int .i64 forks, .int .i64 a, .int .i64 b]) ∧ (∃ d, w' = w.ext d) ∧ w'.sl3 v1 l1 ∧ tot3 l1 ≤ 1000 := by
  have hs := Lib.hid h
  have HQ := Lib.hid hq
  obtain ⟨p, c, rfl, _⟩ := h
  go_enter Try.func24, Try.ntmps24
  go_wp2_with fail
  refine (forked_any w _ w.heap.size 0 (cur_new hs.out HQ.out hl) (by omega)).mono ?_
  rintro e w1 ⟨v1, l1, legs, forks, rfl, h3, hT, hL, hF, hc1, hg1⟩
  have HC := Lib.hid hc1
  have hgl : w.heap.size < (w.alloc (.cells #[.slice p L.length c, .int .i64 0, .int .u64 0] 69)).heap.size := by rw [World.size_alloc]; omega
  generalize (w.alloc (.cells #[.slice p L.length c, .int .i64 0, .int .u64 0] 69)).heap.size = B at hgl h3
  have HP := Lib.hid h3
  obtain ⟨pp, cp, rfl⟩ := sl3_form (sl3_of_far h3)
  have hll : l1.length ≤ 1000 := Nat.le_trans (tot3_len l1) hT
  clear hc1 hg1 hq h3
  go_wp2_with fail
  refine (pick_any w _ w.heap.size _ _ (HC.out.gain (by repeat (first | with_reducible (first | exact World.gained_refl _ | exact ⟨_, rfl⟩ | apply gain_ext | apply gain_alloc | apply gain_drewN | apply gain_drew) | (refine gain_setCell ?_ (by first | exact Nat.le_refl _ | exact World.size_ext _ _ | (simp; done) | (simp; omega)) _)))) (by omega)).mono ?_
  rintro e w1 ⟨r1, rfl, -, -, hc1, hg1⟩
  replace HC := Lib.hid hc1
  replace HP := Lib.hid (sl3f_cur (sl3f_up HP.out (by repeat (first | with_reducible (first | exact World.gained_refl _ | exact ⟨_, rfl⟩ | apply gain_ext | apply gain_alloc | apply gain_drewN | apply gain_drew) | (refine gain_setCell ?_ (by first | exact Nat.le_refl _ | exact World.size_ext _ _ | (simp; done) | (simp; omega)) _)))) hgl hg1)
  clear hc1 hg1
  go_wp2_with fail
  refine (pick_any w _ w.heap.size _ _ (HC.out.gain (by repeat (first | with_reducible (first | exact World.gained_refl _ | exact ⟨_, rfl⟩ | apply gain_ext | apply gain_alloc | apply gain_drewN | apply gain_drew) | (refine gain_setCell ?_ (by first | exact Nat.le_refl _ | exact World.size_ext _ _ | (simp; done) | (simp; omega)) _)))) (by omega)).mono ?_
  rintro e w1 ⟨r2, rfl, -, -, hc1, hg1⟩
  replace HC := Lib.hid hc1
  replace HP := Lib.hid (sl3f_cur (sl3f_up HP.out (by repeat (first | with_reducible (first | exact World.gained_refl _ | exact ⟨_, rfl⟩ | apply gain_ext | apply gain_alloc | apply gain_drewN | apply gain_drew) | (refine gain_setCell ?_ (by first | exact Nat.le_refl _ | exact World.size_ext _ _ | (simp; done) | (simp; omega)) _)))) hgl hg1)
  clear hc1 hg1
  go_wp2_with fail
  refine (pick_any w _ w.heap.size _ _ (HC.out.gain (by repeat (first | with_reducible (first | exact World.gained_refl _ | exact ⟨_, rfl⟩ | apply gain_ext | apply gain_alloc | apply gain_drewN | apply gain_drew) | (refine gain_setCell ?_ (by first | exact Nat.le_refl _ | exact World.size_ext _ _ | (simp; done) | (simp; omega)) _)))) (by omega)).mono ?_
  rintro e w1 ⟨r3, rfl, -, -, hc1, hg1⟩
  replace HC := Lib.hid hc1
  replace HP := Lib.hid (sl3f_cur (sl3f_up HP.out (by repeat (first | with_reducible (first | exact World.gained_refl _ | exact ⟨_, rfl⟩ | apply gain_ext | apply gain_alloc | apply gain_drewN | apply gain_drew) | (refine gain_setCell ?_ (by first | exact Nat.le_refl _ | exact World.size_ext _ _ | (simp; done) | (simp; omega)) _)))) hgl hg1)
  clear hc1 hg1
  go_wp2_with fail
  refine (pick_any w _ w.heap.size _ _ (HC.out.gain (by repeat (first | with_reducible (first | exact World.gained_refl _ | exact ⟨_, rfl⟩ | apply gain_ext | apply gain_alloc | apply gain_drewN | apply gain_drew) | (refine gain_setCell ?_ (by first | exact Nat.le_refl _ | exact World.size_ext _ _ | (simp; done) | (simp; omega)) _)))) (by omega)).mono ?_
  rintro e w1 ⟨r4, rfl, -, -, hc1, hg1⟩
  replace HC := Lib.hid hc1
  replace HP := Lib.hid (sl3f_cur (sl3f_up HP.out (by repeat (first | with_reducible (first | exact World.gained_refl _ | exact ⟨_, rfl⟩ | apply gain_ext | apply gain_alloc | apply gain_drewN | apply gain_drew) | (refine gain_setCell ?_ (by first | exact Nat.le_refl _ | exact World.size_ext _ _ | (simp; done) | (simp; omega)) _)))) hgl hg1)
  clear hc1 hg1
  go_wp2
  (try simp only [Exit.inBlock, Exit.then])
  refine bodyPost_ret (results_tmp5 rfl _ _ _) rfl ?_
  exact ⟨_, l1, _, _, _, _, rfl, HC.out.up, sl3_of_far HP.out, hT⟩
set_option maxHeartbeats 2000000 in
theorem drawSame_any (v : Value) (L : List Int) (w : World) (h : w.sl byteC 1 v L) (hq : ∀ x ∈ L, 0 ≤ x ∧ x ≤ 255) (hl : L.length ≤ 1048576) :
    Calls Try.prog 28 #[v] w fun x w' => ∃ v1 l1 legs forks a b d, x = .returned (.tuple #[v1, .int .i64 legs, .int .i64 forks, .int .i64 a, .int .i64 b, .int .i64 d]) ∧ (∃ d, w' = w.ext d) ∧ w'.sl3 v1 l1 ∧ tot3 l1 ≤ 1000 := by
  have hs := Lib.hid h
  have HQ := Lib.hid hq
  obtain ⟨p, c, rfl, _⟩ := h
  go_enter Try.func28, Try.ntmps28
  go_wp2_with fail
  refine (forked_any w _ w.heap.size 0 (cur_new hs.out HQ.out hl) (by omega)).mono ?_
  rintro e w1 ⟨v1, l1, legs, forks, rfl, h3, hT, hL, hF, hc1, hg1⟩
  have HC := Lib.hid hc1
  have hgl : w.heap.size < (w.alloc (.cells #[.slice p L.length c, .int .i64 0, .int .u64 0] 69)).heap.size := by rw [World.size_alloc]; omega
  generalize (w.alloc (.cells #[.slice p L.length c, .int .i64 0, .int .u64 0] 69)).heap.size = B at hgl h3
  have HP := Lib.hid h3
  obtain ⟨pp, cp, rfl⟩ := sl3_form (sl3_of_far h3)
  have hll : l1.length ≤ 1000 := Nat.le_trans (tot3_len l1) hT
  clear hc1 hg1 hq h3
  go_wp2_with fail
  refine (pick_any w _ w.heap.size _ _ (HC.out.gain (by repeat (first | with_reducible (first | exact World.gained_refl _ | exact ⟨_, rfl⟩ | apply gain_ext | apply gain_alloc | apply gain_drewN | apply gain_drew) | (refine gain_setCell ?_ (by first | exact Nat.le_refl _ | exact World.size_ext _ _ | (simp; done) | (simp; omega)) _)))) (by omega)).mono ?_
  rintro e w1 ⟨r1, rfl, -, -, hc1, hg1⟩
  replace HC := Lib.hid hc1
  replace HP := Lib.hid (sl3f_cur (sl3f_up HP.out (by repeat (first | with_reducible (first | exact World.gained_refl _ | exact ⟨_, rfl⟩ | apply gain_ext | apply gain_alloc | apply gain_drewN | apply gain_drew) | (refine gain_setCell ?_ (by first | exact Nat.le_refl _ | exact World.size_ext _ _ | (simp; done) | (simp; omega)) _)))) hgl hg1)
  clear hc1 hg1
  go_wp2_with fail
  refine (pick_any w _ w.heap.size _ _ (HC.out.gain (by repeat (first | with_reducible (first | exact World.gained_refl _ | exact ⟨_, rfl⟩ | apply gain_ext | apply gain_alloc | apply gain_drewN | apply gain_drew) | (refine gain_setCell ?_ (by first | exact Nat.le_refl _ | exact World.size_ext _ _ | (simp; done) | (simp; omega)) _)))) (by omega)).mono ?_
  rintro e w1 ⟨r2, rfl, -, -, hc1, hg1⟩
  replace HC := Lib.hid hc1
  replace HP := Lib.hid (sl3f_cur (sl3f_up HP.out (by repeat (first | with_reducible (first | exact World.gained_refl _ | exact ⟨_, rfl⟩ | apply gain_ext | apply gain_alloc | apply gain_drewN | apply gain_drew) | (refine gain_setCell ?_ (by first | exact Nat.le_refl _ | exact World.size_ext _ _ | (simp; done) | (simp; omega)) _)))) hgl hg1)
  clear hc1 hg1
  go_wp2_with fail
  refine (pick_any w _ w.heap.size _ _ (HC.out.gain (by repeat (first | with_reducible (first | exact World.gained_refl _ | exact ⟨_, rfl⟩ | apply gain_ext | apply gain_alloc | apply gain_drewN | apply gain_drew) | (refine gain_setCell ?_ (by first | exact Nat.le_refl _ | exact World.size_ext _ _ | (simp; done) | (simp; omega)) _)))) (by omega)).mono ?_
  rintro e w1 ⟨r3, rfl, -, -, hc1, hg1⟩
  replace HC := Lib.hid hc1
  replace HP := Lib.hid (sl3f_cur (sl3f_up HP.out (by repeat (first | with_reducible (first | exact World.gained_refl _ | exact ⟨_, rfl⟩ | apply gain_ext | apply gain_alloc | apply gain_drewN | apply gain_drew) | (refine gain_setCell ?_ (by first | exact Nat.le_refl _ | exact World.size_ext _ _ | (simp; done) | (simp; omega)) _)))) hgl hg1)
  clear hc1 hg1
  go_wp2_with fail
  refine (pick_any w _ w.heap.size _ _ (HC.out.gain (by repeat (first | with_reducible (first | exact World.gained_refl _ | exact ⟨_, rfl⟩ | apply gain_ext | apply gain_alloc | apply gain_drewN | apply gain_drew) | (refine gain_setCell ?_ (by first | exact Nat.le_refl _ | exact World.size_ext _ _ | (simp; done) | (simp; omega)) _)))) (by omega)).mono ?_
  rintro e w1 ⟨r4, rfl, -, -, hc1, hg1⟩
  replace HC := Lib.hid hc1
  replace HP := Lib.hid (sl3f_cur (sl3f_up HP.out (by repeat (first | with_reducible (first | exact World.gained_refl _ | exact ⟨_, rfl⟩ | apply gain_ext | apply gain_alloc | apply gain_drewN | apply gain_drew) | (refine gain_setCell ?_ (by first | exact Nat.le_refl _ | exact World.size_ext _ _ | (simp; done) | (simp; omega)) _)))) hgl hg1)
  clear hc1 hg1
  go_wp2_with fail
  refine (pick_any w _ w.heap.size _ _ (HC.out.gain (by repeat (first | with_reducible (first | exact World.gained_refl _ | exact ⟨_, rfl⟩ | apply gain_ext | apply gain_alloc | apply gain_drewN | apply gain_drew) | (refine gain_setCell ?_ (by first | exact Nat.le_refl _ | exact World.size_ext _ _ | (simp; done) | (simp; omega)) _)))) (by omega)).mono ?_
  rintro e w1 ⟨r5, rfl, -, -, hc1, hg1⟩
  replace HC := Lib.hid hc1
  replace HP := Lib.hid (sl3f_cur (sl3f_up HP.out (by repeat (first | with_reducible (first | exact World.gained_refl _ | exact ⟨_, rfl⟩ | apply gain_ext | apply gain_alloc | apply gain_drewN | apply gain_drew) | (refine gain_setCell ?_ (by first | exact Nat.le_refl _ | exact World.size_ext _ _ | (simp; done) | (simp; omega)) _)))) hgl hg1)
  clear hc1 hg1
  go_wp2_with fail
  refine (pick_any w _ w.heap.size _ _ (HC.out.gain (by repeat (first | with_reducible (first | exact World.gained_refl _ | exact ⟨_, rfl⟩ | apply gain_ext | apply gain_alloc | apply gain_drewN | apply gain_drew) | (refine gain_setCell ?_ (by first | exact Nat.le_refl _ | exact World.size_ext _ _ | (simp; done) | (simp; omega)) _)))) (by omega)).mono ?_
  rintro e w1 ⟨r6, rfl, -, -, hc1, hg1⟩
  replace HC := Lib.hid hc1
  replace HP := Lib.hid (sl3f_cur (sl3f_up HP.out (by repeat (first | with_reducible (first | exact World.gained_refl _ | exact ⟨_, rfl⟩ | apply gain_ext | apply gain_alloc | apply gain_drewN | apply gain_drew) | (refine gain_setCell ?_ (by first | exact Nat.le_refl _ | exact World.size_ext _ _ | (simp; done) | (simp; omega)) _)))) hgl hg1)
  clear hc1 hg1
  go_wp2
  (try simp only [Exit.inBlock, Exit.then])
  refine bodyPost_ret (results_tmp6 rfl _ _ _) rfl ?_
  exact ⟨_, l1, _, _, _, _, _, rfl, HC.out.up, sl3_of_far HP.out, hT⟩
set_option maxHeartbeats 2000000 in
theorem drawLegTimesOf_any (v : Value) (L : List Int) (w : World) (h : w.sl byteC 1 v L) (hq : ∀ x ∈ L, 0 ≤ x ∧ x ≤ 255) (hl : L.length ≤ 1048576) :
    Calls Try.prog 31 #[v] w fun x w' => ∃ v1 l1 legs forks v2 ts a, x = .returned (.tuple #[v1, .int .i64 legs, .int .i64 forks, v2, .int .i64 a]) ∧ (∃ d, w' = w.ext d) ∧ w'.sl3 v1 l1 ∧ tot3 l1 ≤ 1000 ∧ w'.sl2 v2 ts ∧ tot2 ts ≤ 1000 := by
  have hs := Lib.hid h
  have HQ := Lib.hid hq
  obtain ⟨p, c, rfl, _⟩ := h
  go_enter Try.func31, Try.ntmps31
  go_wp2_with fail
  refine (forked_any w _ w.heap.size 0 (cur_new hs.out HQ.out hl) (by omega)).mono ?_
  rintro e w1 ⟨v1, l1, legs, forks, rfl, h3, hT, hL, hF, hc1, hg1⟩
  have HC := Lib.hid hc1
  have hgl : w.heap.size < (w.alloc (.cells #[.slice p L.length c, .int .i64 0, .int .u64 0] 69)).heap.size := by rw [World.size_alloc]; omega
  generalize (w.alloc (.cells #[.slice p L.length c, .int .i64 0, .int .u64 0] 69)).heap.size = B at hgl h3
  have HP := Lib.hid h3
  obtain ⟨pp, cp, rfl⟩ := sl3_form (sl3_of_far h3)
  have hll : l1.length ≤ 1000 := Nat.le_trans (tot3_len l1) hT
  clear hc1 hg1 hq h3
  go_wp2_with fail
  refine (variantTimes_any w _ w.heap.size _ legs forks HC.out (by omega) hL hF).mono ?_
  rintro e w2 ⟨v2, ts, rfl, h2, hT2, hc1, hg1⟩
  have hgl2 := HC.out.lt
  generalize w1.heap.size = B2 at hgl2 h2
  replace HC := Lib.hid hc1
  replace HP := Lib.hid (sl3f_cur HP.out hgl hg1)
  have HT := Lib.hid h2
  clear hc1 hg1 h2
  go_wp2_with fail
  refine (pick_any w _ w.heap.size _ _ HC.out (by omega)).mono ?_
  rintro e w3 ⟨r1, rfl, -, -, hc1, hg1⟩
  replace HC := Lib.hid hc1
  replace HP := Lib.hid (sl3f_cur HP.out hgl hg1)
  replace HT := Lib.hid (sl2f_cur HT.out hgl2 hg1)
  clear hc1 hg1
  go_wp2_with fail
  refine (pick_any w _ w.heap.size _ _ HC.out (by omega)).mono ?_
  rintro e w4 ⟨r2, rfl, -, -, hc1, hg1⟩
  replace HC := Lib.hid hc1
  replace HP := Lib.hid (sl3f_cur HP.out hgl hg1)
  replace HT := Lib.hid (sl2f_cur HT.out hgl2 hg1)
  clear hc1 hg1
  go_wp2
  (try simp only [Exit.inBlock, Exit.then])
  refine bodyPost_ret (results_tmp5 rfl _ _ _) rfl ?_
  exact ⟨_, l1, _, _, _, ts, _, rfl, HC.out.up, sl3_of_far HP.out, hT, sl2_of_far HT.out, hT2⟩
set_option maxHeartbeats 2000000 in
theorem drawTeam_any (v : Value) (L : List Int) (w : World) (h : w.sl byteC 1 v L) (hq : ∀ x ∈ L, 0 ≤ x ∧ x ≤ 255) (hl : L.length ≤ 1048576) :
    Calls Try.prog 7 #[v] w fun x w' => ∃ v1 l1 legs forks v2 ts, x = .returned (.tuple #[v1, .int .i64 legs, .int .i64 forks, v2]) ∧ (∃ d, w' = w.ext d) ∧ w'.sl3 v1 l1 ∧ tot3 l1 ≤ 1000 ∧ w'.sl2 v2 ts ∧ tot2 ts ≤ 1000 := by
  have hs := Lib.hid h
  have HQ := Lib.hid hq
  obtain ⟨p, c, rfl, _⟩ := h
  go_enter Try.func7, Try.ntmps7
  go_wp2_with fail
  refine (forked_any w _ w.heap.size 0 (cur_new hs.out HQ.out hl) (by omega)).mono ?_
  rintro e w1 ⟨v1, l1, legs, forks, rfl, h3, hT, hL, hF, hc1, hg1⟩
  have HC := Lib.hid hc1
  have hgl : w.heap.size < (w.alloc (.cells #[.slice p L.length c, .int .i64 0, .int .u64 0] 69)).heap.size := by rw [World.size_alloc]; omega
  generalize (w.alloc (.cells #[.slice p L.length c, .int .i64 0, .int .u64 0] 69)).heap.size = B at hgl h3
  have HP := Lib.hid h3
  obtain ⟨pp, cp, rfl⟩ := sl3_form (sl3_of_far h3)
  have hll : l1.length ≤ 1000 := Nat.le_trans (tot3_len l1) hT
  clear hc1 hg1 hq h3
  go_wp2_with fail
  refine (variantTimes_any w _ w.heap.size _ legs forks HC.out (by omega) hL hF).mono ?_
  rintro e w2 ⟨v2, ts, rfl, h2, hT2, hc1, hg1⟩
  replace HC := Lib.hid hc1
  replace HP := Lib.hid (sl3f_cur HP.out hgl hg1)
  clear hc1 hg1
  go_wp2
  (try simp only [Exit.inBlock, Exit.then])
  refine bodyPost_ret (results_tmp4 rfl _ _ _) rfl ?_
  exact ⟨_, l1, _, _, _, ts, rfl, HC.out.up, sl3_of_far HP.out, hT, sl2_of_far h2, hT2⟩
set_option maxHeartbeats 2000000 in
theorem drawRotated_any (v : Value) (L : List Int) (w : World) (h : w.sl byteC 1 v L) (hq : ∀ x ∈ L, 0 ≤ x ∧ x ≤ 255) (hl : L.length ≤ 1048576) :
    Calls Try.prog 17 #[v] w fun x w' => ∃ a b d, x = .returned (.tuple #[.int .i64 a, .int .i64 b, .int .i64 d]) ∧ (∃ d, w' = w.ext d) := by
  have hs := Lib.hid h
  have HQ := Lib.hid hq
  obtain ⟨p, c, rfl, _⟩ := h
  clear hq
  go_enter Try.func17, Try.ntmps17
  go_wp2_with fail
  have HC := Lib.hid (cur_new (e := 69) hs.out HQ.out hl)
  refine (among_any w _ w.heap.size _ _ [1, 2, 3, 4, 6, 0, 7] (w.heap.size + 1) (HC.out.gain (by repeat (first | with_reducible (first | exact World.gained_refl _ | exact ⟨_, rfl⟩ | apply gain_ext | apply gain_alloc | apply gain_drewN | apply gain_drew) | (refine gain_setCell ?_ (by first | exact Nat.le_refl _ | exact World.size_ext _ _ | (simp; done) | (simp; omega)) _)))) (by omega) (own_lit' (l := [1, 2, 3, 4, 6, 0, 7]) intC_length rfl (by simp [World.size_alloc]) (by simp [World.size_alloc])) (by omega) (by simp) (by simp)).mono ?_
  rintro e w3 ⟨a, rfl, _, hc3, hg3⟩
  replace HC := Lib.hid hc3
  clear hc3 hg3
  go_wp2_with fail
  refine (among_any w _ w.heap.size _ _ [1, 2, 3, 4, 3, 0, 5] w3.heap.size (HC.out.gain (by repeat (first | with_reducible (first | exact World.gained_refl _ | exact ⟨_, rfl⟩ | apply gain_ext | apply gain_alloc | apply gain_drewN | apply gain_drew) | (refine gain_setCell ?_ (by first | exact Nat.le_refl _ | exact World.size_ext _ _ | (simp; done) | (simp; omega)) _)))) (by omega) (own_lit' (l := [1, 2, 3, 4, 3, 0, 5]) intC_length rfl rfl (Nat.le_refl _)) HC.out.lt (by simp) (by simp)).mono ?_
  rintro e w4 ⟨b, rfl, _, hc3, hg3⟩
  replace HC := Lib.hid hc3
  clear hc3 hg3
  go_wp2_with fail
  refine (among_any w _ w.heap.size _ _ [0, 1, 2, 3, 4, 5, -1] w4.heap.size (HC.out.gain (by repeat (first | with_reducible (first | exact World.gained_refl _ | exact ⟨_, rfl⟩ | apply gain_ext | apply gain_alloc | apply gain_drewN | apply gain_drew) | (refine gain_setCell ?_ (by first | exact Nat.le_refl _ | exact World.size_ext _ _ | (simp; done) | (simp; omega)) _)))) (by omega) (own_lit' (l := [0, 1, 2, 3, 4, 5, -1]) intC_length rfl rfl (Nat.le_refl _)) HC.out.lt (by simp) (by simp)).mono ?_
  rintro e w5 ⟨d, rfl, _, hc3, hg3⟩
  replace HC := Lib.hid hc3
  clear hc3 hg3
  go_wp2
  go_ret3
  exact ⟨_, _, _, rfl, HC.out.up⟩
end Go.Proofs.Ytlofdpbdnkcnkaa
