/- Texts laid together: impl.BestOrder's closure: what it holds, what it leaves alone. No condition.; spec.l1Own: a copy in new memory. Condition: at most 1048576 elements. -/
import Derived.Test.YtmcimgnobimicaaGreatG21
import Derived.Test.YtmcimgnobimicaaGreatG31
import Derived.Test.YtmcimgnobimicaaGreatG32
import Derived.Test.YtmcimgnobimicaaGreatG2
import Derived.Test.YtmcimgnobimicaaGreatG3
import Derived.Test.YtmcimgnobimicaaGreatG1
/- impl.BestOrder's closure: what it holds, what it leaves alone. No condition. -/
namespace Go
open RowKit Go.Ori
/-- Nothing that was there has turned but two blocks. -/
structure World.kept2 (w w' : World) (a b : Nat) : Prop where
  os : w'.os = w.os
  tape : w'.tape = w.tape
  output : w'.output = w.output
  size : w.heap.size ≤ w'.heap.size
  block : ∀ k, k < w.heap.size → k ≠ a → k ≠ b → w'.heap[k]? = w.heap[k]?
section
variable {w w' w'' : World} {a b : Nat}
theorem kept2_refl (w : World) (a b : Nat) : w.kept2 w a b := ⟨rfl, rfl, rfl, Nat.le_refl _, fun _ _ _ _ => rfl⟩
theorem kept2_trans (h : w.kept2 w' a b) (h' : w'.kept2 w'' a b) : w.kept2 w'' a b :=
  ⟨h'.os.trans h.os, h'.tape.trans h.tape, h'.output.trans h.output, Nat.le_trans h.size h'.size, fun k hk ha hb => (h'.block k (Nat.lt_of_lt_of_le hk h.size) ha hb).trans (h.block k hk ha hb)⟩
theorem kept2_ext (hg : ∃ d, w' = w.ext d) : w.kept2 w' a b := by
  obtain ⟨d, rfl⟩ := hg
  exact ⟨rfl, rfl, rfl, World.size_ext w d, fun k hk _ _ => World.heap_ext_lt w d hk⟩
theorem kept2_set (h : w.kept2 w' a b) {g i : Nat} (hg : g = a ∨ g = b) (v : Value) : w.kept2 (w'.setCell ⟨g, i, none⟩ v) a b :=
  ⟨h.os, h.tape, h.output, by rw [World.size_setCell]; exact h.size, fun k hk ha hb => by
    rw [World.heap_setCell_far v (show k ≠ (⟨g, i, none⟩ : Addr).block from fun e => by
      rcases hg with rfl | rfl
      · exact ha e
      · exact hb e)]
    exact h.block k hk ha hb⟩
theorem row_kept2 {q : Nat} {C : Array Value} {e : TypeId} {f : Nat × Nat} (h : w.heap[q]? = some (.cells C e f)) (hk : w.kept2 w' a b) (ha : q ≠ a) (hb : q ≠ b) : w'.heap[q]? = some (.cells C e f) :=
  (hk.block q (Array.getElem?_eq_some_iff.1 h).1 ha hb).trans h
theorem own_kept2 {α : Type} {base : Nat} {e : TypeId} {enc : α → List Value} {sz : Nat} {v : Value} {l : List α} (h : w.own base e enc sz v l) (hk : w.kept2 w' a b) (ha : ∀ q, v.ownBlock = some q → q ≠ a ∧ q ≠ b) : w'.own base e enc sz v l := by
  obtain ⟨h1, h2 | ⟨g, cap, cur, hv, hgb, hh, h3⟩⟩ := h
  · exact ⟨h1, .inl h2⟩
  · have := ha g (by rw [hv]; rfl)
    exact ⟨h1, .inr ⟨g, cap, cur, hv, hgb, (hk.block g (Array.getElem?_eq_some_iff.1 hh).1 this.1 this.2).trans hh, h3⟩⟩
theorem map_kept2 {H : Type} {P : Program} {k : TypeId} {R : Value → Option (DataW H × List MemPlace)} {q n : Nat} {D : DataW H} (h : w.ownsMap P k R q n D) (hk : w.kept2 w' a b) (ha : q ≠ a) (hb : q ≠ b) : w'.ownsMap P k R q n D := by
  obtain ⟨es, clock, h1, h2⟩ := h
  exact ⟨es, clock, (hk.block q (Array.getElem?_eq_some_iff.1 h1).1 ha hb).trans h1, h2⟩
theorem cell_kept2 {p : Addr} {v : Value} (h : w.cell? p = some v) (hk : w.kept2 w' a b) (ha : p.block ≠ a) (hb : p.block ≠ b) : w'.cell? p = some v := by
  rw [World.cell?_of_block (hk.block p.block (World.lt_of_cell (by rw [h]; rfl)) ha hb)]
  exact h
/-- What lies below two blocks, none of them there before, is as it was. -/
theorem gain_kept2 (hk : w'.kept2 w'' a b) (hg : ∃ d, w' = w.ext d) (ha : w.heap.size ≤ a) (hb : w.heap.size ≤ b) : ∃ d, w'' = w.ext d := by
  obtain ⟨d, rfl⟩ := hg
  exact World.gained_of_below ((World.below_ext w d).trans ⟨hk.os, hk.tape, hk.output, hk.size, fun k h => hk.block k (Nat.lt_of_lt_of_le h (World.size_ext w d)) (by omega) (by omega)⟩)
end
end Go
namespace Go.Proofs.YtmcimgnobimicaaGreat
open Go.RowKit Go.Ori Go.Maps
/-- Where the closure's variables lie. -/
structure VAt where
  lo : Nat
  l2 : Nat
  gm : Nat
  gv : Nat
  gt : Nat
  gc : Nat
  gl : Nat
  gs : Nat
  gb : Nat
  bM : Nat
  nM : Nat
  mv : Value
  cv : Value
  fv : Value
structure VSt (A : VAt) (middle : List Int) (fin : Int) (D : DataW Unit) (wr : World) (best : Value) (st : List Int × Int) : Prop where
  mid : wr.heap[A.gm]? = some (.cells #[A.mv] 24 (0, 0))
  vis : wr.heap[A.gv]? = some (.cells #[A.fv] 51 (0, 0))
  tim : wr.heap[A.gt]? = some (.cells #[.map (some A.bM)] 48 (0, 0))
  crs : wr.heap[A.gc]? = some (.cells #[A.cv] 24 (0, 0))
  las : wr.heap[A.gl]? = some (.cells #[.int .i64 fin] 3 (0, 0))
  lea : wr.heap[A.gs]? = some (.cells #[.int .i64 st.2] 3 (0, 0))
  bes : wr.heap[A.gb]? = some (.cells #[best] 24 (0, 0))
  mids : wr.own 0 3 intC 1 A.mv middle
  map : wr.ownsMap Tryz.prog 43 (plainElem (H := Unit) Tryz.prog 3) A.bM A.nM D
  bst : wr.own A.l2 3 intC 1 best st.1
  n1 : A.gm ≠ A.gs ∧ A.gm ≠ A.gb ∧ A.gv ≠ A.gs ∧ A.gv ≠ A.gb ∧ A.gt ≠ A.gs ∧ A.gt ≠ A.gb ∧ A.gc ≠ A.gs ∧ A.gc ≠ A.gb ∧ A.gl ≠ A.gs ∧ A.gl ≠ A.gb ∧ A.bM ≠ A.gs ∧ A.bM ≠ A.gb ∧ A.gs ≠ A.gb
  n2 : ∀ q, A.mv.ownBlock = some q → q ≠ A.gs ∧ q ≠ A.gb
  n3 : A.gs < A.lo ∧ A.gb < A.lo
  n4 : A.lo ≤ wr.heap.size
  n6 : A.l2 ≤ A.lo
theorem VSt.keep {A : VAt} {middle : List Int} {fin : Int} {D : DataW Unit} {wr wr' : World} {best best' : Value} {st st' : List Int × Int} (h : VSt A middle fin D wr best st) (hk : wr.kept2 wr' A.gs A.gb)
    (h1 : wr'.heap[A.gs]? = some (.cells #[.int .i64 st'.2] 3 (0, 0))) (h2 : wr'.heap[A.gb]? = some (.cells #[best'] 24 (0, 0))) (h3 : wr'.own A.l2 3 intC 1 best' st'.1) : VSt A middle fin D wr' best' st' := by
  obtain ⟨a1, a2, a3, a4, a5, a6, a7, a8, a9, a10, a11, a12, a13⟩ := h.n1
  exact ⟨row_kept2 h.mid hk a1 a2, row_kept2 h.vis hk a3 a4, row_kept2 h.tim hk a5 a6, row_kept2 h.crs hk a7 a8, row_kept2 h.las hk a9 a10, h1, h2, own_kept2 h.mids hk h.n2, map_kept2 h.map hk a11 a12, h3, h.n1, h.n2, h.n3, Nat.le_trans h.n4 hk.size, h.n6⟩
theorem row_upV {w w' : World} {b : Nat} {C : Array Value} {e : TypeId} {f : Nat × Nat} (h : w.heap[b]? = some (.cells C e f)) (hg : ∃ d, w' = w.ext d) : w'.heap[b]? = some (.cells C e f) := by
  obtain ⟨d, rfl⟩ := hg
  exact World.heap_ext_old d h
theorem VSt.up {A : VAt} {middle : List Int} {fin : Int} {D : DataW Unit} {wr wr' : World} {best : Value} {st : List Int × Int} (h : VSt A middle fin D wr best st) (hg : ∃ d, wr' = wr.ext d) : VSt A middle fin D wr' best st :=
  h.keep (kept2_ext hg) (row_upV h.lea hg) (row_upV h.bes hg) (own_up h.bst hg)
end Go.Proofs.YtmcimgnobimicaaGreat
/- spec.l1Own: a copy in new memory. Condition: at most 1048576 elements. -/
namespace Go.Proofs.YtmcimgnobimicaaGreat
open Go.RowKit Go.Ori
theorem l1Own_any (v : Value) (l : List Int) (w : World) (h : w.sl intC 1 v l) (hl : l.length ≤ 1048576) :
    Calls Tryz.prog 54 #[v] w fun x w' => ∃ v', x = .returned v' ∧ (∃ d, w' = w.ext d) ∧ w'.own w.heap.size 3 intC 1 v' l := by
  go_enter Tryz.func54, Tryz.ntmps54
  go_wp2_with (at_builtin; refine wpList_append_gain rfl (.tmp 3) (.tmp 4) rfl Tryz.underlying24 info_int (by rfl) (by omega) intC_length intC_one (by omega) (gain_alloc w.gained_refl _) (Nat.le_refl _) (by simp) rfl rfl (own_lit (l := ([] : List Int)) intC_length rfl (by simp)) (sl_alloc intC_length h _) (by simpa using (by omega : l.length ≤ 2097152)) ?_; intro v' d ho hg)
  go_ret
  exact ⟨_, rfl, ⟨_, rfl⟩, ho⟩
end Go.Proofs.YtmcimgnobimicaaGreat
