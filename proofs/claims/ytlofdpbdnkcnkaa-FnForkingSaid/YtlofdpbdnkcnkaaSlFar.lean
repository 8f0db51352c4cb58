/- Nested slices that read as lists and lie at or above a block: a write below leaves them. No condition. -/
import Derived.Test.YtlofdpbdnkcnkaaSetAny
import Derived.Test.YtlofdpbdnkcnkaaNestLaw
import Derived.Test.YtlofdpbdnkcnkaaCur
namespace Go
open RowKit Go.Ori
def FarV (lo : Nat) (v : Value) : Prop := ∀ b, v.ownBlock = some b → lo ≤ b
def World.sl1f (lo : Nat) (w : World) (v : Value) (l : List Int) : Prop := w.sl1 v l ∧ FarV lo v
def World.sl2f (lo : Nat) (w : World) (v : Value) (l : List (List Int)) : Prop := w.slOf (World.sl1f lo) v l ∧ FarV lo v
def World.sl3f (lo : Nat) (w : World) (v : Value) (l : List (List (List Int))) : Prop := w.slOf (World.sl2f lo) v l ∧ FarV lo v
theorem slOf_mono {α : Type} {P Q : World → Value → α → Prop} {w : World} {v : Value} {l : List α} (hq : ∀ {v : Value} {x : α}, P w v x → Q w v x) (h : w.slOf P v l) : w.slOf Q v l := by
  obtain ⟨vs, h1, h2, h3⟩ := h
  exact ⟨vs, h1, h2, fun i hi hi' => hq (h3 i hi hi')⟩
theorem sl2_of_far {lo : Nat} {w : World} {v : Value} {l : List (List Int)} (h : w.sl2f lo v l) : w.sl2 v l := slOf_mono (fun h => h.1) h.1
theorem sl3_of_far {lo : Nat} {w : World} {v : Value} {l : List (List (List Int))} (h : w.sl3f lo v l) : w.sl3 v l := slOf_mono (fun h => sl2_of_far h) h.1
theorem sl_far {α : Type} {enc : α → List Value} {sz lo g : Nat} {w w' : World} {v : Value} {l : List α} (hz : ∀ x, (enc x).length = sz) (h : w.sl enc sz v l) (hf : FarV lo v) (hl : g < lo) (hg : w.grownBy w' (some g)) : w'.sl enc sz v l := by
  obtain ⟨p, c, rfl, hp, hc⟩ := h
  refine ⟨p, c, rfl, fun h0 => ?_, hc⟩
  obtain ⟨b, o, rfl, hcell⟩ := hp h0
  refine ⟨b, o, rfl, fun k hk j hj => ?_⟩
  have h1 := hcell k hk j hj
  have hb : lo ≤ b := hf b rfl
  rw [← h1]
  refine World.cell?_of_block (a := ⟨b, o + k * sz + j, none⟩) (hg.block b (World.lt_of_cell (a := ⟨b, o + k * sz + j, none⟩) (by rw [h1]; simp [hz, hj])) (fun e => ?_))
  have : b = g := Option.some.inj e
  omega
theorem slOf_far {α : Type} {P : World → Value → α → Prop} {lo g : Nat} {w w' : World} {v : Value} {l : List α} (hP : ∀ {v : Value} {x : α}, P w v x → P w' v x) (h : w.slOf P v l) (hf : FarV lo v) (hl : g < lo) (hg : w.grownBy w' (some g)) : w'.slOf P v l := by
  obtain ⟨vs, h1, h2, h3⟩ := h
  exact ⟨vs, sl_far valC_length h1 hf hl hg, h2, fun i hi hi' => hP (h3 i hi hi')⟩
theorem sl1f_cur {lo g : Nat} {w w' : World} {v : Value} {l : List Int} (h : w.sl1f lo v l) (hl : g < lo) (hg : w.grownBy w' (some g)) : w'.sl1f lo v l := ⟨sl_far intC_length h.1 h.2 hl hg, h.2⟩
theorem sl2f_cur {lo g : Nat} {w w' : World} {v : Value} {l : List (List Int)} (h : w.sl2f lo v l) (hl : g < lo) (hg : w.grownBy w' (some g)) : w'.sl2f lo v l := ⟨slOf_far (fun h => sl1f_cur h hl hg) h.1 h.2 hl hg, h.2⟩
theorem sl3f_cur {lo g : Nat} {w w' : World} {v : Value} {l : List (List (List Int))} (h : w.sl3f lo v l) (hl : g < lo) (hg : w.grownBy w' (some g)) : w'.sl3f lo v l := ⟨slOf_far (fun h => sl2f_cur h hl hg) h.1 h.2 hl hg, h.2⟩
theorem sl1f_up {lo : Nat} {w w' : World} {v : Value} {l : List Int} (h : w.sl1f lo v l) (hg : ∃ d, w' = w.ext d) : w'.sl1f lo v l := ⟨sl1_up h.1 hg, h.2⟩
theorem sl2f_up {lo : Nat} {w w' : World} {v : Value} {l : List (List Int)} (h : w.sl2f lo v l) (hg : ∃ d, w' = w.ext d) : w'.sl2f lo v l := ⟨slOf_up (fun h hg => sl1f_up h hg) h.1 hg, h.2⟩
theorem sl3f_up {lo : Nat} {w w' : World} {v : Value} {l : List (List (List Int))} (h : w.sl3f lo v l) (hg : ∃ d, w' = w.ext d) : w'.sl3f lo v l := ⟨slOf_up (fun h hg => sl2f_up h hg) h.1 hg, h.2⟩
theorem far_own {α : Type} {enc : α → List Value} {sz lo : Nat} {e : TypeId} {w : World} {v : Value} {l : List α} (h : w.own lo e enc sz v l) : FarV lo v := fun b hb => (own_lt h b hb).1
theorem sl2f_of_own {e1 e : TypeId} {lo : Nat} {w : World} {v : Value} {l : List (List Int)} (h : World.own2 e1 e w lo v l) : w.sl2f lo v l := by
  obtain ⟨vs, h1, h2, h3⟩ := h
  exact ⟨⟨vs, sl_of_own valC_length h1, h2, fun i hi hi' => ⟨sl1_of_own (h3 i hi hi'), far_own (h3 i hi hi')⟩⟩, far_own h1⟩
theorem sl3f_of_rows {e2 e1 e : TypeId} {lo : Nat} {w : World} {v : Value} {l : List (List (List Int))} (h : World.rows3p e2 e1 e w lo v l) : w.sl3f lo v l := by
  obtain ⟨us, vss, h⟩ := h
  obtain ⟨vs, h1, h2, h3⟩ := rows3_own h
  exact ⟨⟨vs, sl_of_own valC_length h1, h2, fun i hi hi' => sl2f_of_own (h3 i hi hi')⟩, far_own h1⟩
theorem sl2f_set {lo : Nat} {w : World} {v : Value} {l : List (List Int)} {b : Addr} {x y : Int} (h : w.sl2f lo v l) (hb : w.cell? b = some (.int .i64 y)) : ∃ l' : List (List Int), l'.length = l.length ∧ tot2 l' = tot2 l ∧ (w.setCell b (.int .i64 x)).sl2f lo v l' := by
  obtain ⟨l', h1, h2, h3⟩ := slOf_set (P := World.sl1f lo) (tot := fun z => z.length) (b := b) (x := x) (fun h => by obtain ⟨z', e1, e2⟩ := sl1_set h.1 b x; exact ⟨z', e1, e1, e2, h.2⟩) (fun h => sl1_form h.1) h.1 hb
  refine ⟨l', h1, ?_, h3, h.2⟩
  unfold tot2
  rw [h1, ← psum_same tot1 l l' h1 (fun i q1 q2 => (h2 i q1 q2).1), h1]
theorem sl3f_set {lo : Nat} {w : World} {v : Value} {l : List (List (List Int))} {b : Addr} {x y : Int} (h : w.sl3f lo v l) (hb : w.cell? b = some (.int .i64 y)) : ∃ l' : List (List (List Int)), l'.length = l.length ∧ tot3 l' = tot3 l ∧ (w.setCell b (.int .i64 x)).sl3f lo v l' := by
  obtain ⟨l', h1, h2, h3⟩ := slOf_set (P := World.sl2f lo) (tot := tot2) (b := b) (x := x) (fun h => sl2f_set h hb) (fun h => slOf_form h.1) h.1 hb
  refine ⟨l', h1, ?_, h3, h.2⟩
  unfold tot3
  rw [h1, ← psum_same tot2 l l' h1 (fun i q1 q2 => (h2 i q1 q2).2), h1]
end Go
