/- Texts laid together: laws.markIntS, laws.markIntSS, laws.markIntSSS: what they write into, and what they leave alone. Conditions: slices of the caller's own, a size of at most 1048576, small numbers.; Slices of slices of the call's own whose rows lie apart: what they are, what is said of them grown. No condition.; laws.markIntSSS on slices whose rows lie apart: what it leaves in the rows; laws.heldIntSS, laws.heldIntSSS find it there. Conditions: a size of at most 1048576, small numbers.; Appends of one slice to a slice of slices of the call's own; rows that grow. No condition. -/
import Derived.Test.YtfenempljjenpaaRows
import Derived.Test.YtfenempljjenpaaG6
/- laws.markIntS, laws.markIntSS, laws.markIntSSS: what they write into, and what they leave alone. Conditions: slices of the caller's own, a size of at most 1048576, small numbers. -/
namespace Go
open RowKit Go.Ori
/-- From w to w' cells of rows of the type e have been written, in blocks from lo on and below hi; nothing else has turned. -/
structure World.rowsKept (e : TypeId) (lo hi : Nat) (w w' : World) : Prop where
  os : w'.os = w.os
  tape : w'.tape = w.tape
  output : w'.output = w.output
  size : w.heap.size ≤ w'.heap.size
  out : ∀ k, k < w.heap.size → k < lo ∨ hi ≤ k → w'.heap[k]? = w.heap[k]?
  mid : ∀ k, k < w.heap.size → w'.heap[k]? = w.heap[k]? ∨ ∃ C C', w.heap[k]? = some (.cells C e (0, 0)) ∧ w'.heap[k]? = some (.cells C' e (0, 0)) ∧ C'.size = C.size
theorem rk_refl (e : TypeId) (lo hi : Nat) (w : World) : World.rowsKept e lo hi w w := ⟨rfl, rfl, rfl, Nat.le_refl _, fun _ _ _ => rfl, fun _ _ => .inl rfl⟩
theorem rk_trans {e : TypeId} {lo hi : Nat} {w1 w2 w3 : World} (h : World.rowsKept e lo hi w1 w2) (h' : World.rowsKept e lo hi w2 w3) : World.rowsKept e lo hi w1 w3 where
  os := h'.os.trans h.os
  tape := h'.tape.trans h.tape
  output := h'.output.trans h.output
  size := Nat.le_trans h.size h'.size
  out k hk ho := (h'.out k (Nat.lt_of_lt_of_le hk h.size) ho).trans (h.out k hk ho)
  mid k hk := by
    rcases h.mid k hk with a | ⟨C, C', a1, a2, a3⟩
    · rcases h'.mid k (Nat.lt_of_lt_of_le hk h.size) with b | ⟨C, C', b1, b2, b3⟩
      · exact .inl (b.trans a)
      · exact .inr ⟨C, C', a ▸ b1, b2, b3⟩
    · rcases h'.mid k (Nat.lt_of_lt_of_le hk h.size) with b | ⟨D, D', b1, b2, b3⟩
      · exact .inr ⟨C, C', a1, b.trans a2, a3⟩
      · rw [a2] at b1
        simp only [Option.some.injEq, Obj.cells.injEq, and_true] at b1
        subst b1
        exact .inr ⟨C, D', a1, b2, b3.trans a3⟩
theorem rk_set {e : TypeId} {lo hi : Nat} {w wr : World} (h : World.rowsKept e lo hi w wr) {g : Nat} {C0 C : Array Value} (h0 : w.heap[g]? = some (.cells C0 e (0, 0))) (hc : wr.heap[g]? = some (.cells C e (0, 0))) (hs : C.size = C0.size) (hl : lo ≤ g) (hh : g < hi) (i : Nat) (v : Value) : World.rowsKept e lo hi w (wr.setCell ⟨g, i, none⟩ v) where
  os := h.os
  tape := h.tape
  output := h.output
  size := by rw [World.size_setCell]; exact h.size
  out k hk ho := (World.heap_setCell_far v (by show k ≠ g; omega)).trans (h.out k hk ho)
  mid k hk := by
    by_cases e : k = g
    · subst e
      exact .inr ⟨C0, _, h0, World.heap_setCell_row hc i v, by simp [hs]⟩
    · rw [World.heap_setCell_far v (show k ≠ (⟨g, i, none⟩ : Addr).block from e)]
      exact h.mid k hk
theorem rk_gain {e : TypeId} {lo hi : Nat} {A w w' : World} (hg : ∃ d, w = A.ext d) (hA : A.heap.size ≤ lo) (h : World.rowsKept e lo hi w w') : ∃ d, w' = A.ext d := by
  obtain ⟨d, rfl⟩ := hg
  refine World.gained_of_below ⟨h.os, h.tape, h.output, Nat.le_trans (World.size_ext A d) h.size, fun k hk => ?_⟩
  exact (h.out k (Nat.lt_of_lt_of_le hk (World.size_ext A d)) (.inl (by omega))).trans (World.heap_ext_lt A d hk)
theorem own_hi {α : Type} {e e' : TypeId} {lo hi base : Nat} {w w' : World} {enc : α → List Value} {sz : Nat} {v : Value} {l : List α} (h : w.own base e' enc sz v l) (hb : hi ≤ base) (hk : World.rowsKept e lo hi w w') : w'.own base e' enc sz v l := by
  obtain ⟨h1, h2 | ⟨g, cap, cur, hv, hg, hh, h3⟩⟩ := h
  · exact ⟨h1, .inl h2⟩
  · exact ⟨h1, .inr ⟨g, cap, cur, hv, hg, (hk.out g (Array.getElem?_eq_some_iff.1 hh).1 (.inr (by omega))).trans hh, h3⟩⟩
theorem own_rk {α : Type} {e e' : TypeId} {lo hi base : Nat} {w w' : World} {enc : α → List Value} {sz : Nat} {v : Value} {l : List α} (h : w.own base e' enc sz v l) (he : e' ≠ e) (hk : World.rowsKept e lo hi w w') : w'.own base e' enc sz v l := by
  obtain ⟨h1, h2 | ⟨g, cap, cur, hv, hg, hh, h3⟩⟩ := h
  · exact ⟨h1, .inl h2⟩
  · refine ⟨h1, .inr ⟨g, cap, cur, hv, hg, ?_, h3⟩⟩
    rcases hk.mid g (Array.getElem?_eq_some_iff.1 hh).1 with a | ⟨C, C', a1, _⟩
    · exact a.trans hh
    · rw [hh] at a1
      simp only [Option.some.injEq, Obj.cells.injEq] at a1
      exact absurd a1.2.1 he
/-- n cells of a row of the call's own, in blocks from lo on and below hi. -/
def World.live1 (e : TypeId) (w : World) (lo hi : Nat) (v : Value) (n : Nat) : Prop :=
  (v = .slice none 0 0 ∧ n = 0) ∨ ∃ g cap C, v = .slice (some ⟨g, 0, none⟩) n cap ∧ lo ≤ g ∧ g < hi ∧ w.heap[g]? = some (.cells C e (0, 0)) ∧ n ≤ cap ∧ C.size = cap
theorem live1_rk {e : TypeId} {lo hi lo' hi' n : Nat} {w w' : World} {v : Value} (h : World.live1 e w lo' hi' v n) (hk : World.rowsKept e lo hi w w') : World.live1 e w' lo' hi' v n := by
  rcases h with h | ⟨g, cap, C, h1, h2, h3, h4, h5, h6⟩
  · exact .inl h
  · rcases hk.mid g (Array.getElem?_eq_some_iff.1 h4).1 with a | ⟨D, D', a1, a2, a3⟩
    · exact .inr ⟨g, cap, C, h1, h2, h3, a.trans h4, h5, h6⟩
    · rw [h4] at a1
      simp only [Option.some.injEq, Obj.cells.injEq, and_true] at a1
      subst a1
      exact .inr ⟨g, cap, D', h1, h2, h3, a2, h5, a3.trans h6⟩
theorem live1_up {e : TypeId} {lo hi n : Nat} {w w' : World} {v : Value} (h : World.live1 e w lo hi v n) (hg : ∃ d, w' = w.ext d) : World.live1 e w' lo hi v n := by
  obtain ⟨d, rfl⟩ := hg
  rcases h with h | ⟨g, cap, C, h1, h2, h3, h4, h5⟩
  · exact .inl h
  · exact .inr ⟨g, cap, C, h1, h2, h3, World.heap_ext_old d h4, h5⟩
theorem live1_of_own {e : TypeId} {w : World} {lo hi : Nat} {v : Value} {l : List Int} (h : w.own1 e lo v l) (hh : w.heap.size ≤ hi) : World.live1 e w lo hi v l.length := by
  obtain ⟨h1, h2 | ⟨g, cap, cur, hv, hg, hc, h3, h4, h5, _⟩⟩ := h
  · exact .inl h2
  · exact .inr ⟨g, cap, cur, hv, hg, Nat.lt_of_lt_of_le (Array.getElem?_eq_some_iff.1 hc).1 hh, hc, h3, by rw [h5, Nat.mul_one]⟩
def World.liveOf {α : Type} (P : World → Nat → Nat → Value → α → Prop) (e : TypeId) (w : World) (lo hi : Nat) (v : Value) (l : List α) : Prop :=
  ∃ vs : List Value, w.own lo e valC 1 v vs ∧ vs.length = l.length ∧ ∀ (i : Nat) (h : i < l.length) (h' : i < vs.length), P w lo hi vs[i] l[i]
def World.live2 (e1 e : TypeId) (w : World) (lo hi : Nat) (v : Value) (l : List (List Int)) : Prop := World.liveOf (fun w lo hi v (x : List Int) => World.live1 e w lo hi v x.length) e1 w lo hi v l
def World.live3 (e2 e1 e : TypeId) (w : World) (lo hi : Nat) (v : Value) (l : List (List (List Int))) : Prop := World.liveOf (World.live2 e1 e) e2 w lo hi v l
theorem live2_rk {e1 e : TypeId} (he : e1 ≠ e) {lo hi lo' hi' : Nat} {w w' : World} {v : Value} {l : List (List Int)} (h : World.live2 e1 e w lo' hi' v l) (hk : World.rowsKept e lo hi w w') : World.live2 e1 e w' lo' hi' v l := by
  obtain ⟨vs, h1, h2, h3⟩ := h
  exact ⟨vs, own_rk h1 he hk, h2, fun i hi hi' => live1_rk (h3 i hi hi') hk⟩
theorem live3_rk {e2 e1 e : TypeId} (he2 : e2 ≠ e) (he : e1 ≠ e) {lo hi lo' hi' : Nat} {w w' : World} {v : Value} {l : List (List (List Int))} (h : World.live3 e2 e1 e w lo' hi' v l) (hk : World.rowsKept e lo hi w w') : World.live3 e2 e1 e w' lo' hi' v l := by
  obtain ⟨vs, h1, h2, h3⟩ := h
  exact ⟨vs, own_rk h1 he2 hk, h2, fun i hi hi' => live2_rk he (h3 i hi hi') hk⟩
theorem live2_up {e1 e : TypeId} {lo hi : Nat} {w w' : World} {v : Value} {l : List (List Int)} (h : World.live2 e1 e w lo hi v l) (hg : ∃ d, w' = w.ext d) : World.live2 e1 e w' lo hi v l := by
  obtain ⟨vs, h1, h2, h3⟩ := h
  exact ⟨vs, own_up h1 hg, h2, fun i hi hi' => live1_up (h3 i hi hi') hg⟩
theorem live3_up {e2 e1 e : TypeId} {lo hi : Nat} {w w' : World} {v : Value} {l : List (List (List Int))} (h : World.live3 e2 e1 e w lo hi v l) (hg : ∃ d, w' = w.ext d) : World.live3 e2 e1 e w' lo hi v l := by
  obtain ⟨vs, h1, h2, h3⟩ := h
  exact ⟨vs, own_up h1 hg, h2, fun i hi hi' => live2_up (h3 i hi hi') hg⟩
theorem live2_of_own {e1 e : TypeId} {w : World} {lo hi : Nat} {v : Value} {l : List (List Int)} (h : World.own2 e1 e w lo v l) (hh : w.heap.size ≤ hi) : World.live2 e1 e w lo hi v l := by
  obtain ⟨vs, h1, h2, h3⟩ := h
  exact ⟨vs, h1, h2, fun i hi hi' => live1_of_own (h3 i hi hi') hh⟩
theorem live3_of_own {e2 e1 e : TypeId} {w : World} {lo hi : Nat} {v : Value} {l : List (List (List Int))} (h : World.own3 e2 e1 e w lo v l) (hh : w.heap.size ≤ hi) : World.live3 e2 e1 e w lo hi v l := by
  obtain ⟨vs, h1, h2, h3⟩ := h
  exact ⟨vs, h1, h2, fun i hi hi' => live2_of_own (h3 i hi hi') hh⟩
def cnt1 (l : List Int) : Nat := l.length
def cnt2 (l : List (List Int)) : Nat := psum cnt1 l l.length
def cnt3 (l : List (List (List Int))) : Nat := psum cnt2 l l.length
theorem cnt2_le (l : List (List Int)) : cnt2 l ≤ tot2 l := Nat.le_add_left _ _
theorem psum_mono {α : Type} {f g : α → Nat} (h : ∀ x, f x ≤ g x) (l : List α) (k : Nat) : psum f l k ≤ psum g l k := by
  unfold psum
  induction l.take k with
  | nil => exact Nat.le_refl _
  | cons a l ih => simp only [List.map_cons, List.sum_cons]; have := h a; omega
theorem cnt3_le (l : List (List (List Int))) : cnt3 l ≤ tot3 l := Nat.le_trans (psum_mono cnt2_le l _) (Nat.le_add_left _ _)
theorem cnt2_at {l : List (List Int)} {k : Nat} (h : k < l.length) : cnt1 l[k] ≤ cnt2 l := psum_at cnt1 l h
theorem cnt3_at {l : List (List (List Int))} {k : Nat} (h : k < l.length) : cnt2 l[k] ≤ cnt3 l := psum_at cnt2 l h
theorem liveOf_form {α : Type} {P : World → Nat → Nat → Value → α → Prop} {e : TypeId} {w : World} {lo hi : Nat} {v : Value} {l : List α} (h : World.liveOf P e w lo hi v l) : ∃ p c, v = .slice p l.length c := by
  obtain ⟨vs, h1, h2, _⟩ := h
  obtain ⟨p, c, hv, _⟩ := sl_of_own valC_length h1
  exact ⟨p, c, by rw [hv, h2]⟩
theorem liveOf_some {α : Type} {P : World → Nat → Nat → Value → α → Prop} {e : TypeId} {w : World} {lo hi n c : Nat} {p : Option Addr} {l : List α} (h : World.liveOf P e w lo hi (.slice p n c) l) (h0 : 0 < l.length) : ∃ b o, p = some ⟨b, o, none⟩ := by
  obtain ⟨vs, h1, h2, _⟩ := h
  exact sl_some (sl_of_own valC_length h1) (by omega)
theorem liveOf_at {α : Type} {P : World → Nat → Nat → Value → α → Prop} {e : TypeId} {w : World} {lo hi b o n c : Nat} {l : List α} (h : World.liveOf P e w lo hi (.slice (some ⟨b, o, none⟩) n c) l) {k : Nat} (hk : k < l.length) : ∃ u, w.cell? ⟨b, o + k, none⟩ = some u ∧ P w lo hi u l[k] := by
  obtain ⟨vs, h1, h2, h3⟩ := h
  have := sl_cells (sl_of_own valC_length h1) (k := k) (by omega) (j := 0) (by omega)
  refine ⟨vs[k]'(by omega), ?_, h3 k hk _⟩
  simpa [valC] using this
/-- The world that a fact speaks of, and what has grown out of it: the fact is named to say which world that is. -/
theorem gain_of_own {α : Type} {w w' : World} {base : Nat} {e : TypeId} {enc : α → List Value} {sz : Nat} {v : Value} {l : List α} (_ : w.own base e enc sz v l) (hg : ∃ d, w' = w.ext d) : ∃ d, w' = w.ext d := hg
theorem gain_of_sl {α : Type} {w w' : World} {enc : α → List Value} {sz : Nat} {v : Value} {l : List α} (_ : w.sl enc sz v l) (hg : ∃ d, w' = w.ext d) : ∃ d, w' = w.ext d := hg
theorem gain_of_own2 {w w' : World} {lo : Nat} {e1 e : TypeId} {v : Value} {l : List (List Int)} (_ : World.own2 e1 e w lo v l) (hg : ∃ d, w' = w.ext d) : ∃ d, w' = w.ext d := hg
theorem gain_of_own3 {w w' : World} {lo : Nat} {e2 e1 e : TypeId} {v : Value} {l : List (List (List Int))} (_ : World.own3 e2 e1 e w lo v l) (hg : ∃ d, w' = w.ext d) : ∃ d, w' = w.ext d := hg
end Go
namespace Go.Proofs.Ytfenempljjenpaa
open Go.RowKit Go.Ori
end Go.Proofs.Ytfenempljjenpaa
/- Slices of slices of the call's own whose rows lie apart: what they are, what is said of them grown. No condition. -/
namespace Go
open RowKit Go.Ori
end Go
namespace Go.Proofs.Ytfenempljjenpaa
open Go.RowKit Go.Ori
end Go.Proofs.Ytfenempljjenpaa
/- laws.markIntSSS on slices whose rows lie apart: what it leaves in the rows; laws.heldIntSS, laws.heldIntSSS find it there. Conditions: a size of at most 1048576, small numbers. -/
namespace Go
open RowKit Go.Ori
theorem rows2_keep {e1 e : TypeId} {w w' : World} {lo : Nat} {u : Value} {vs ws : List Value} {l : List (List Int)} (h : World.rows2 e1 e w lo u vs l) (hk : World.apartKept ws w w') (h1 : ∀ x ∈ ws, Apart2 u x) (h2 : ∀ y ∈ vs, ∀ x ∈ ws, Apart2 y x) : World.rows2 e1 e w' lo u vs l :=
  ⟨hk.keep h.out h1, h.len, fun i hi hi' => hk.keep (h.row i hi hi') (h2 _ (List.getElem_mem hi'))⟩
/-- A slice of slices of rows of ints of the call's own; us: the slices of rows; vss: the rows; all rows lie apart. -/
structure World.rows3 (e2 e1 e : TypeId) (w : World) (lo : Nat) (v : Value) (us : List Value) (vss : List (List Value)) (l : List (List (List Int))) : Prop where
  out : w.own lo e2 valC 1 v us
  len : us.length = l.length
  len2 : vss.length = l.length
  row : ∀ (i : Nat) (h : i < l.length) (h1 : i < us.length) (h2 : i < vss.length), World.rows2 e1 e w lo us[i] vss[i] l[i]
  ap1 : ∀ x ∈ vss, x.Pairwise Apart2
  ap2 : vss.Pairwise fun a b => ∀ x ∈ a, ∀ y ∈ b, Apart2 x y
theorem rows3_own {e2 e1 e : TypeId} {w : World} {lo : Nat} {v : Value} {us : List Value} {vss : List (List Value)} {l : List (List (List Int))} (h : World.rows3 e2 e1 e w lo v us vss l) : World.own3 e2 e1 e w lo v l :=
  ⟨us, h.out, h.len, fun i hi hi' => rows2_own (h.row i hi hi' (by rw [h.len2]; exact hi))⟩
theorem rows3_up {e2 e1 e : TypeId} {w w' : World} {lo : Nat} {v : Value} {us : List Value} {vss : List (List Value)} {l : List (List (List Int))} (h : World.rows3 e2 e1 e w lo v us vss l) (hg : ∃ d, w' = w.ext d) : World.rows3 e2 e1 e w' lo v us vss l :=
  ⟨own_up h.out hg, h.len, h.len2, fun i hi h1 h2 => rows2_up (h.row i hi h1 h2) hg, h.ap1, h.ap2⟩
end Go
namespace Go.Proofs.Ytfenempljjenpaa
open Go.RowKit Go.Ori
end Go.Proofs.Ytfenempljjenpaa
/- Appends of one slice to a slice of slices of the call's own; rows that grow. No condition. -/
namespace Go
open RowKit Go.Ori
section
variable {e2 e1 e : TypeId} {w w' Y : World} {lo : Nat} {v v' u x : Value} {vs us xs : List Value} {vss : List (List Value)}
theorem rows3_nil (h : w.own lo e2 valC 1 v []) : World.rows3 e2 e1 e w lo v [] [] [] := ⟨h, rfl, rfl, fun i hi _ _ => absurd hi (by simp), by simp, by simp⟩
theorem rows3_snoc {l : List (List (List Int))} {m : List (List Int)} (h : World.rows3 e2 e1 e w lo v us vss l) (hr : World.rows2 e1 e w lo x xs m) (n1 : e2 ≠ e1) (n2 : e2 ≠ e) (ho : w'.own lo e2 valC 1 v' (us ++ [x]))
    (hg : w.grownBy w' v.ownBlock) (hp : xs.Pairwise Apart2) (hap : ∀ ys ∈ vss, ∀ y ∈ ys, ∀ z ∈ xs, Apart2 y z) : World.rows3 e2 e1 e w' lo v' (us ++ [x]) (vss ++ [xs]) (l ++ [m]) where
  out := ho
  len := by simp [h.len]
  len2 := by simp [h.len2]
  row i hi h1 h2 := by
    by_cases hlt : i < l.length
    · rw [List.getElem_append_left hlt, List.getElem_append_left (by rw [h.len]; exact hlt), List.getElem_append_left (by rw [h.len2]; exact hlt)]
      exact rows2_mark (h.row i hlt (by rw [h.len]; exact hlt) (by rw [h.len2]; exact hlt)) h.out n1 n2 hg
    · have hi0 := hi
      simp only [List.length_append, List.length_singleton] at hi0
      obtain rfl : i = l.length := by omega
      have hvl := h.len
      have hvl2 := h.len2
      rw [List.getElem_append_right (Nat.le_refl _), List.getElem_append_right (by omega), List.getElem_append_right (by omega)]
      simp only [hvl, hvl2, Nat.sub_self, List.getElem_cons_zero]
      exact rows2_mark hr h.out n1 n2 hg
  ap1 := by
    intro y hy
    rcases List.mem_append.1 hy with hy | hy
    · exact h.ap1 y hy
    · simp only [List.mem_singleton] at hy; subst hy; exact hp
  ap2 := by
    rw [List.pairwise_append]
    refine ⟨h.ap2, by simp, fun a ha b hb => ?_⟩
    simp only [List.mem_singleton] at hb
    subst hb
    exact hap a ha
theorem rows3_apart {l : List (List (List Int))} {m : List (List Int)} (h : World.rows3 e2 e1 e Y lo v us vss l) (hx : World.rows2 e1 e w Y.heap.size x xs m) : ∀ ys ∈ vss, ∀ y ∈ ys, ∀ z ∈ xs, Apart2 y z := by
  intro ys hys y hy z hz
  obtain ⟨i, hi, rfl⟩ := List.getElem_of_mem hys
  obtain ⟨k, hk, rfl⟩ := List.getElem_of_mem hz
  have hr := h.row i (by rw [← h.len2]; exact hi) (by rw [h.len, ← h.len2]; exact hi) hi
  obtain ⟨j, hj, rfl⟩ := List.getElem_of_mem hy
  exact apart2_new (hr.row j (by rw [← hr.len]; exact hj) hj) (hx.row k (by rw [← hx.len]; exact hk) hk)
end
end Go
namespace Go.Proofs.Ytfenempljjenpaa
open Go.RowKit Go.Ori
end Go.Proofs.Ytfenempljjenpaa
