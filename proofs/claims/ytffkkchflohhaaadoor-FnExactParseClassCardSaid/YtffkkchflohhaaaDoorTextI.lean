/- impl.classText, impl.ClassText. Condition: a name of at most 1048576 bytes; the table of powers of ten. -/
import Derived.Test.YtffkkchflohhaaaDoorTextS
import Derived.Test.YtffkkchflohhaaaDoorShelf
import Derived.Lib.LaidTab
import Derived.Lib.ItoaMem
namespace Go.Ori
def sexI (wo me : Bool) : ByteArray := if wo && me then ⟨#[119, 109]⟩ else if wo then ⟨#[119]⟩ else ⟨#[109]⟩
theorem txt_same (a : ByteArray) (wo me : Bool) : a ++ ⟨#[32]⟩ ++ sexI wo me = a ++ sexB wo me := by
  rw [ByteArray.append_assoc]
  cases wo <;> cases me <;> rfl
theorem gain_grow {w : World} {k : Nat} {os : Array Obj} : ∃ d, Sort.grow (w.drewN k) os = w.ext d := ⟨⟨os, (w.drewN k).drawn⟩, rfl⟩
end Go.Ori
namespace Go.Proofs.YtffkkchflohhaaaDoor
open Go.RowKit Go.Ori
abbrev Tab (w : World) : Prop := Lib.TabIs Tryd.prog w "internal/strconv.uint64pow10" .u64 Lib.pow10Tab
theorem tab_ext {w : World} (h : Tab w) (d : Gain) : Tab (w.ext d) := by
  have hgn : Tryd.prog.globalNamed "internal/strconv.uint64pow10" = some 5 := by kernel_rfl
  unfold Tab Lib.TabIs World.var? at h ⊢
  rw [hgn] at h ⊢
  simp only [Option.bind_some] at h ⊢
  have hlt : 5 < w.heap.size := by
    rcases Nat.lt_or_ge 5 w.heap.size with h' | h'
    · exact h'
    · rw [Array.getElem?_eq_none h'] at h; cases h
  rw [World.heap_ext_lt w d hlt]
  exact h
theorem itoa_any (n : Nat) (hn : n < 1000) (w : World) (h : Tab w) : Calls Tryd.prog 27 #[.int .i64 n] w fun x w' => x = .returned (.string (decB n)) ∧ ∃ d, w' = w.ext d := by
  refine (Tryd.strconv_Itoa (n : Int) (by omega) (by omega) w h).mono ?_
  rintro e w1 ⟨rfl, k, os, rfl⟩
  exact ⟨by rw [Lib.itoa_nonneg]; rfl, gain_grow⟩
set_option maxHeartbeats 4000000 in
theorem classText_any (i lo hi co mo : Nat) (nm : ByteArray) (wo me : Bool) (w : World) (ht : Tab w) (h1 : i < 1000) (h2 : lo < 1000) (h3 : hi < 1000) (h4 : co < 1000) (h5 : mo < 1000) (hn : nm.size ≤ 1048576) (hs : (wo || me) = true) :
    Calls Tryd.prog 16 #[.agg #[.int .i64 i, .string nm, .int .i64 lo, .int .i64 hi, .bool wo, .bool me, .int .i64 co, .int .i64 mo]] w fun x w' => x = .returned (.string (sufT (preT i lo hi nm ++ sexB wo me) co mo)) ∧ ∃ d, w' = w.ext d := by
  have z1 := decB_size3 h1
  have z2 := decB_size3 h2
  have z3 := decB_size3 h3
  have z4 := decB_size3 h4
  have z5 := decB_size3 h5
  have HI := Lib.hid (fun (n : Nat) (hn : n < 1000) (W : World) (hW : ∃ d, W = w.ext d) => (show Calls Tryd.prog 27 #[.int .i64 n] W fun x w' => x = .returned (.string (decB n)) ∧ ∃ d, w' = W.ext d by obtain ⟨d, rfl⟩ := hW; exact itoa_any n hn _ (tab_ext ht d)))
  rw [← txt_same]
  clear ht
  cases wo <;> cases me
  case false.false => simp at hs
  all_goals (
    go_enter Tryd.func16, Tryd.ntmps16
    go_wp2
    refine wp_region_gain (by kernel_rfl) (by kernel_rfl) ?_
    repeat (first | go_big_quiet_skip | (go_big_quiet_want; go_big_quiet_op; first | go_big_quiet_on | ((apply Exists.intro); (refine ⟨fun _ => ?_, ?_⟩); (· (go_at_call 27; exact Calls.gain (HI.out _ (by omega) _ (by repeat (first | with_reducible (first | exact World.gained_refl _ | exact ⟨_, rfl⟩ | apply gain_ext | apply gain_alloc | apply gain_drewN | apply gain_drew) | (refine gain_setCell ?_ (by first | exact Nat.le_refl _ | exact World.size_ext _ _ | (simp; done) | (simp; omega)) _)))))); (go_big_quiet_on))))
    refine wpQuiet_nil ?_
    rintro _ ⟨d', rfl⟩
    go_wp2
    go_ret
    exact ⟨rfl, (by repeat (first | with_reducible (first | exact World.gained_refl _ | exact ⟨_, rfl⟩ | apply gain_ext | apply gain_alloc | apply gain_drewN | apply gain_drew) | (refine gain_setCell ?_ (by first | exact Nat.le_refl _ | exact World.size_ext _ _ | (simp; done) | (simp; omega)) _)))⟩)
end Go.Proofs.YtffkkchflohhaaaDoor
