/- spec.l7Text, spec.ClassText. Condition: a name of at most 1048576 bytes. -/
import Derived.Test.YtffkkchflohhaaaGreatDoorNumText
import Derived.Test.YtffkkchflohhaaaGreatDoorOneClass
namespace Go.Ori
/-- The text ahead of the sexes; the text behind them. -/
abbrev preT (i lo hi : Nat) (nm : ByteArray) : ByteArray := decB i ++ ⟨#[32]⟩ ++ nm ++ ⟨#[32]⟩ ++ decB lo ++ ⟨#[45]⟩ ++ decB hi
abbrev sufT (s : ByteArray) (co mo : Nat) : ByteArray := s ++ ⟨#[32, 99, 111, 117, 114, 115, 101, 32]⟩ ++ decB co ++ ⟨#[32, 109, 111, 115, 116, 32]⟩ ++ decB mo
def sexB (wo me : Bool) : ByteArray := if wo && me then ⟨#[32, 119, 109]⟩ else if wo then ⟨#[32, 119]⟩ else ⟨#[32, 109]⟩
def clsT (c : Cls) : ByteArray := sufT (preT c.id.toNat c.low.toNat c.high.toNat c.name ++ sexB c.women c.men) c.course.toNat c.most.toNat
theorem cls_nats {c : Cls} (h : classB c = true) : ∃ i lo hi co mo : Nat, c.id = i ∧ c.low = lo ∧ c.high = hi ∧ c.course = co ∧ c.most = mo ∧ i < 1000 ∧ lo < 1000 ∧ hi < 1000 ∧ co < 1000 ∧ mo < 1000 ∧ (c.women || c.men) = true := by
  simp only [classB, agesB, Bool.and_eq_true, insB_true] at h
  refine ⟨c.id.toNat, c.low.toNat, c.high.toNat, c.course.toNat, c.most.toNat, ?_⟩
  simp_all
  omega
end Go.Ori
namespace Go.Proofs.YtffkkchflohhaaaGreatDoor
open Go.RowKit Go.Ori
set_option maxHeartbeats 2000000 in
theorem l7Text_any (i lo hi co mo : Nat) (nm : ByteArray) (wo me : Bool) (w : World) (h1 : i < 1000) (h2 : lo < 1000) (h3 : hi < 1000) (h4 : co < 1000) (h5 : mo < 1000) (hn : nm.size ≤ 1048576) :
    Calls Tryz.prog 25 #[.agg #[.int .i64 i, .string nm, .int .i64 lo, .int .i64 hi, .bool wo, .bool me, .int .i64 co, .int .i64 mo]] w fun x w' => x = .returned (.string (sufT (preT i lo hi nm ++ sexB wo me) co mo)) ∧ ∃ d, w' = w.ext d := by
  have z1 := decB_size3 h1
  have z2 := decB_size3 h2
  have z3 := decB_size3 h3
  have z4 := decB_size3 h4
  have z5 := decB_size3 h5
  cases wo <;> cases me
  all_goals (
    go_enter Tryz.func25, Tryz.ntmps25
    go_wp2
    refine wp_region_gain (by kernel_rfl) (by kernel_rfl) ?_
    repeat (first | go_big_quiet_skip | (go_big_quiet_want; go_big_quiet_op; first | go_big_quiet_on | ((apply Exists.intro); (refine ⟨fun _ => ?_, ?_⟩); (· (go_at_call 58; exact Calls.gain (l1Num_any _ (by omega) _))); (go_big_quiet_on))))
    refine wpQuiet_nil ?_
    rintro _ ⟨d', rfl⟩
    go_wp2
    go_ret
    exact ⟨rfl, (by repeat (first | with_reducible (first | exact World.gained_refl _ | exact ⟨_, rfl⟩ | apply gain_ext | apply gain_alloc | apply gain_drewN | apply gain_drew) | (refine gain_setCell ?_ (by first | exact Nat.le_refl _ | exact World.size_ext _ _ | (simp; done) | (simp; omega)) _)))⟩)
set_option maxHeartbeats 2000000 in
theorem specClassText_any (c : Cls) (w : World) (hn : c.name.size ≤ 1048576) :
    Calls Tryz.prog 7 #[.agg #[.int .i64 c.id, .string c.name, .int .i64 c.low, .int .i64 c.high, .bool c.women, .bool c.men, .int .i64 c.course, .int .i64 c.most]] w fun x w' => x = .returned (.tuple #[.string (if classB c then clsT c else ⟨#[]⟩), .bool (classB c)]) ∧ ∃ d, w' = w.ext d := by
  have HO := Lib.hid (fun W => l7One_any c W hn)
  cases hB : classB c with
  | false =>
    rw [hB] at HO
    rw [if_neg (by simp)]
    clear hB
    go_enter Tryz.func7, Tryz.ntmps7
    go_wp2_with (go_at_call 24; refine (HO.out _).mono ?_; rintro e w1 ⟨rfl, d1, rfl⟩)
    go_ret2
    exact ⟨rfl, (by repeat (first | with_reducible (first | exact World.gained_refl _ | exact ⟨_, rfl⟩ | apply gain_ext | apply gain_alloc | apply gain_drewN | apply gain_drew) | (refine gain_setCell ?_ (by first | exact Nat.le_refl _ | exact World.size_ext _ _ | (simp; done) | (simp; omega)) _)))⟩
  | true =>
    rw [hB] at HO
    rw [if_pos rfl, clsT]
    obtain ⟨i, lo, hi, co, mo, e1, e2, e3, e4, e5, h1, h2, h3, h4, h5, h6⟩ := cls_nats hB
    rw [e1, e2, e3, e4, e5] at HO ⊢
    have HT := Lib.hid (fun W => l7Text_any i lo hi co mo c.name c.women c.men W h1 h2 h3 h4 h5 hn)
    simp only [Int.toNat_natCast]
    generalize sufT _ _ _ = T at HT ⊢
    clear hB e1 e2 e3 e4 e5 h1 h2 h3 h4 h5 h6
    go_enter Tryz.func7, Tryz.ntmps7
    go_wp2_with (first | (go_at_call 24; refine (HO.out _).mono ?_; rintro e w1 ⟨rfl, d1, rfl⟩) | (go_at_call 25; refine (HT.out _).mono ?_; rintro e w1 ⟨rfl, d1, rfl⟩))
    go_ret2
    exact ⟨rfl, (by repeat (first | with_reducible (first | exact World.gained_refl _ | exact ⟨_, rfl⟩ | apply gain_ext | apply gain_alloc | apply gain_drewN | apply gain_drew) | (refine gain_setCell ?_ (by first | exact Nat.le_refl _ | exact World.size_ext _ _ | (simp; done) | (simp; omega)) _)))⟩
end Go.Proofs.YtffkkchflohhaaaGreatDoor
