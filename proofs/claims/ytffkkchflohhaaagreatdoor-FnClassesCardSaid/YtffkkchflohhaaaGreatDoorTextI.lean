/- impl.classText, impl.ClassText. Condition: a name of at most 1048576 bytes; the table of powers of ten. -/
import Derived.Test.YtffkkchflohhaaaGreatDoorTextS
import Derived.Test.YtffkkchflohhaaaGreatDoorShelf
import Derived.Lib.LaidTab
import Derived.Lib.ItoaMem
namespace Go.Ori
def sexTx (wo me : Bool) : ByteArray := if wo && me then ⟨#[119, 109]⟩ else if wo then ⟨#[119]⟩ else ⟨#[109]⟩
theorem txt_same (a : ByteArray) (wo me : Bool) : a ++ ⟨#[32]⟩ ++ sexTx wo me = a ++ sexB wo me := by
  rw [ByteArray.append_assoc]
  cases wo <;> cases me <;> rfl
theorem gain_grow {w : World} {k : Nat} {os : Array Obj} : ∃ d, Sort.grow (w.drewN k) os = w.ext d := ⟨⟨os, (w.drewN k).drawn⟩, rfl⟩
end Go.Ori
namespace Go.Proofs.YtffkkchflohhaaaGreatDoor
open Go.RowKit Go.Ori
abbrev Tab (w : World) : Prop := Lib.TabIs Tryz.prog w "internal/strconv.uint64pow10" .u64 Lib.pow10Tab
theorem tab_ext {w : World} (h : Tab w) (d : Gain) : Tab (w.ext d) := by
  have hgn : Tryz.prog.globalNamed "internal/strconv.uint64pow10" = some 1 := by kernel_rfl
  unfold Tab Lib.TabIs World.var? at h ⊢
  rw [hgn] at h ⊢
  simp only [Option.bind_some] at h ⊢
  have hlt : 1 < w.heap.size := by
    rcases Nat.lt_or_ge 1 w.heap.size with h' | h'
    · exact h'
    · rw [Array.getElem?_eq_none h'] at h; cases h
  rw [World.heap_ext_lt w d hlt]
  exact h
theorem itoa_any (n : Nat) (hn : n < 1000) (w : World) (h : Tab w) : Calls Tryz.prog 55 #[.int .i64 n] w fun x w' => x = .returned (.string (decB n)) ∧ ∃ d, w' = w.ext d := by
  refine (Tryz.strconv_Itoa (n : Int) (by omega) (by omega) w h).mono ?_
  rintro e w1 ⟨rfl, k, os, rfl⟩
  exact ⟨by rw [Lib.itoa_nonneg]; rfl, gain_grow⟩
set_option maxHeartbeats 4000000 in
theorem classText_any (i lo hi co mo : Nat) (nm : ByteArray) (wo me : Bool) (w : World) (ht : Tab w) (h1 : i < 1000) (h2 : lo < 1000) (h3 : hi < 1000) (h4 : co < 1000) (h5 : mo < 1000) (hn : nm.size ≤ 1048576) (hs : (wo || me) = true) :
    Calls Tryz.prog 23 #[.agg #[.int .i64 i, .string nm, .int .i64 lo, .int .i64 hi, .bool wo, .bool me, .int .i64 co, .int .i64 mo]] w fun x w' => x = .returned (.string (sufT (preT i lo hi nm ++ sexB wo me) co mo)) ∧ ∃ d, w' = w.ext d := by
  have z1 := decB_size3 h1
  have z2 := decB_size3 h2
  have z3 := decB_size3 h3
  have z4 := decB_size3 h4
  have z5 := decB_size3 h5
  have HI := Lib.hid (fun (n : Nat) (hn : n < 1000) (W : World) (hW : ∃ d, W = w.ext d) => (show Calls Tryz.prog 55 #[.int .i64 n] W fun x w' => x = .returned (.string (decB n)) ∧ ∃ d, w' = W.ext d by obtain ⟨d, rfl⟩ := hW; exact itoa_any n hn _ (tab_ext ht d)))
  rw [← txt_same]
  clear ht
  cases wo <;> cases me
  case false.false => simp at hs
  all_goals (
    go_enter Tryz.func23, Tryz.ntmps23
    go_wp2
    refine wp_region_gain (by kernel_rfl) (by kernel_rfl) ?_
    repeat (first | go_big_quiet_skip | (go_big_quiet_want; go_big_quiet_op; first | go_big_quiet_on | ((apply Exists.intro); (refine ⟨fun _ => ?_, ?_⟩); (· (go_at_call 55; exact Calls.gain (HI.out _ (by omega) _ (by repeat (first | with_reducible (first | exact World.gained_refl _ | exact ⟨_, rfl⟩ | apply gain_ext | apply gain_alloc | apply gain_drewN | apply gain_drew) | (refine gain_setCell ?_ (by first | exact Nat.le_refl _ | exact World.size_ext _ _ | (simp; done) | (simp; omega)) _)))))); (go_big_quiet_on))))
    refine wpQuiet_nil ?_
    rintro _ ⟨d', rfl⟩
    go_wp2
    go_ret
    exact ⟨rfl, (by repeat (first | with_reducible (first | exact World.gained_refl _ | exact ⟨_, rfl⟩ | apply gain_ext | apply gain_alloc | apply gain_drewN | apply gain_drew) | (refine gain_setCell ?_ (by first | exact Nat.le_refl _ | exact World.size_ext _ _ | (simp; done) | (simp; omega)) _)))⟩)
set_option maxHeartbeats 2000000 in
theorem implClassText_any (c : Cls) (w : World) (ht : Tab w) (hn : c.name.size ≤ 1048576) :
    Calls Tryz.prog 6 #[.agg #[.int .i64 c.id, .string c.name, .int .i64 c.low, .int .i64 c.high, .bool c.women, .bool c.men, .int .i64 c.course, .int .i64 c.most]] w fun x w' => x = .returned (.tuple #[.string (if classB c then clsT c else ⟨#[]⟩), .bool (classB c)]) ∧ ∃ d, w' = w.ext d := by
  have HO := Lib.hid (fun W => isClass_any c W hn)
  cases hB : classB c with
  | false =>
    rw [hB] at HO
    rw [if_neg (by simp)]
    clear hB
    go_enter Tryz.func6, Tryz.ntmps6
    go_wp2_with (go_at_call 8; refine (HO.out _).mono ?_; rintro e w1 ⟨rfl, d1, rfl⟩)
    go_ret2
    exact ⟨rfl, (by repeat (first | with_reducible (first | exact World.gained_refl _ | exact ⟨_, rfl⟩ | apply gain_ext | apply gain_alloc | apply gain_drewN | apply gain_drew) | (refine gain_setCell ?_ (by first | exact Nat.le_refl _ | exact World.size_ext _ _ | (simp; done) | (simp; omega)) _)))⟩
  | true =>
    rw [hB] at HO
    rw [if_pos rfl, clsT]
    obtain ⟨i, lo, hi, co, mo, e1, e2, e3, e4, e5, h1, h2, h3, h4, h5, h6⟩ := cls_nats hB
    rw [e1, e2, e3, e4, e5] at HO ⊢
    have HT := Lib.hid (fun W (hW : ∃ d, W = w.ext d) => (show Calls Tryz.prog 23 #[.agg #[.int .i64 i, .string c.name, .int .i64 lo, .int .i64 hi, .bool c.women, .bool c.men, .int .i64 co, .int .i64 mo]] W _ from classText_any i lo hi co mo c.name c.women c.men W (by obtain ⟨d, rfl⟩ := hW; exact tab_ext ht d) h1 h2 h3 h4 h5 hn h6))
    simp only [Int.toNat_natCast]
    generalize sufT _ _ _ = T at HT ⊢
    clear hB e1 e2 e3 e4 e5 h1 h2 h3 h4 h5 h6 ht
    go_enter Tryz.func6, Tryz.ntmps6
    go_wp2_with (first | (go_at_call 8; refine (HO.out _).mono ?_; rintro e w1 ⟨rfl, d1, rfl⟩) | (go_at_call 23; refine (HT.out _ (by repeat (first | with_reducible (first | exact World.gained_refl _ | exact ⟨_, rfl⟩ | apply gain_ext | apply gain_alloc | apply gain_drewN | apply gain_drew) | (refine gain_setCell ?_ (by first | exact Nat.le_refl _ | exact World.size_ext _ _ | (simp; done) | (simp; omega)) _)))).mono ?_; rintro e w1 ⟨rfl, d1, rfl⟩))
    go_ret2
    exact ⟨rfl, (by repeat (first | with_reducible (first | exact World.gained_refl _ | exact ⟨_, rfl⟩ | apply gain_ext | apply gain_alloc | apply gain_drewN | apply gain_drew) | (refine gain_setCell ?_ (by first | exact Nat.le_refl _ | exact World.size_ext _ _ | (simp; done) | (simp; omega)) _)))⟩
end Go.Proofs.YtffkkchflohhaaaGreatDoor
