/- Texts laid together: Slices of slices that read as lists of lists, and such of the call's own. No condition.; Slices of rows of the call's own whose rows lie apart; appends of a row. No condition. -/
import Derived.Test.YtmcimgnobimicaaGreatG2
import Derived.Test.YtmcimgnobimicaaGreatG3
/- Slices of slices that read as lists of lists, and such of the call's own. No condition. -/
namespace Go
open RowKit Go.Ori
def valC (v : Value) : List Value := [v]
theorem valC_length (v : Value) : (valC v).length = 1 := rfl
/-- A slice whose elements are values of which P says what they read as. -/
def World.slOf {α : Type} (P : World → Value → α → Prop) (w : World) (v : Value) (l : List α) : Prop :=
  ∃ vs : List Value, w.sl valC 1 v vs ∧ vs.length = l.length ∧ ∀ (i : Nat) (h : i < l.length) (h' : i < vs.length), P w vs[i] l[i]
def World.sl1 (w : World) (v : Value) (l : List Int) : Prop := w.sl intC 1 v l
def World.sl2 (w : World) (v : Value) (l : List (List Int)) : Prop := w.slOf World.sl1 v l
def World.sl3 (w : World) (v : Value) (l : List (List (List Int))) : Prop := w.slOf World.sl2 v l
section
variable {α : Type} {P : World → Value → α → Prop} {w w' : World} {v : Value} {l : List α}
theorem slOf_up (hP : ∀ {w w' : World} {v : Value} {x : α}, P w v x → (∃ d, w' = w.ext d) → P w' v x) (h : w.slOf P v l) (hg : ∃ d, w' = w.ext d) : w'.slOf P v l := by
  obtain ⟨vs, h1, h2, h3⟩ := h
  exact ⟨vs, sl_up valC_length h1 hg, h2, fun i hi hi' => hP (h3 i hi hi') hg⟩
theorem slOf_form (h : w.slOf P v l) : ∃ p c, v = .slice p l.length c := by
  obtain ⟨vs, ⟨p, c, hv, _⟩, h2, _⟩ := h
  exact ⟨p, c, by rw [hv, h2]⟩
theorem slOf_some {p : Option Addr} {n c : Nat} (h : w.slOf P (.slice p n c) l) (h0 : 0 < l.length) : ∃ b o, p = some ⟨b, o, none⟩ := by
  obtain ⟨vs, h1, h2, _⟩ := h
  exact sl_some h1 (by omega)
theorem slOf_at {b o n c : Nat} (h : w.slOf P (.slice (some ⟨b, o, none⟩) n c) l) {k : Nat} (hk : k < l.length) : ∃ u, w.cell? ⟨b, o + k, none⟩ = some u ∧ P w u l[k] := by
  obtain ⟨vs, h1, h2, h3⟩ := h
  have := sl_cells h1 (k := k) (by omega) (j := 0) (by omega)
  refine ⟨vs[k]'(by omega), ?_, h3 k hk _⟩
  simpa [valC] using this
end
theorem sl1_up {w w' : World} {v : Value} {l : List Int} (h : w.sl1 v l) (hg : ∃ d, w' = w.ext d) : w'.sl1 v l := sl_up intC_length h hg
theorem sl2_up {w w' : World} {v : Value} {l : List (List Int)} (h : w.sl2 v l) (hg : ∃ d, w' = w.ext d) : w'.sl2 v l := slOf_up sl1_up h hg
theorem sl3_up {w w' : World} {v : Value} {l : List (List (List Int))} (h : w.sl3 v l) (hg : ∃ d, w' = w.ext d) : w'.sl3 v l := slOf_up sl2_up h hg
theorem sl1_form {w : World} {v : Value} {l : List Int} (h : w.sl1 v l) : ∃ p c, v = .slice p l.length c := by
  obtain ⟨p, c, hv, _⟩ := h
  exact ⟨p, c, hv⟩
theorem sl2_form {w : World} {v : Value} {l : List (List Int)} (h : w.sl2 v l) : ∃ p c, v = .slice p l.length c := slOf_form h
theorem sl3_form {w : World} {v : Value} {l : List (List (List Int))} (h : w.sl3 v l) : ∃ p c, v = .slice p l.length c := slOf_form h
/-- A slice of the call's own, of values of which P says what they own (from a block on). -/
def World.ownOf {α : Type} (P : World → Nat → Value → α → Prop) (w : World) (lo : Nat) (e : TypeId) (v : Value) (l : List α) : Prop :=
  ∃ vs : List Value, w.own lo e valC 1 v vs ∧ vs.length = l.length ∧ ∀ (i : Nat) (h : i < l.length) (h' : i < vs.length), P w lo vs[i] l[i]
def World.own1 (e : TypeId) (w : World) (lo : Nat) (v : Value) (l : List Int) : Prop := w.own lo e intC 1 v l
def World.own2 (e1 e : TypeId) (w : World) (lo : Nat) (v : Value) (l : List (List Int)) : Prop := w.ownOf (World.own1 e) lo e1 v l
def World.own3 (e2 e1 e : TypeId) (w : World) (lo : Nat) (v : Value) (l : List (List (List Int))) : Prop := w.ownOf (World.own2 e1 e) lo e2 v l
/-- What 'owns' must keep to. -/
structure OwnP {α : Type} (P : World → Nat → Value → α → Prop) : Prop where
  up : ∀ {w w' : World} {lo : Nat} {v : Value} {x : α}, P w lo v x → (∃ d, w' = w.ext d) → P w' lo v x
  low : ∀ {w : World} {lo lo' : Nat} {v : Value} {x : α}, P w lo v x → lo' ≤ lo → P w lo' v x
  far : ∀ {w : World} {lo : Nat} {v : Value} {x : α} {p : Addr} {u : Value}, P w lo v x → p.block < lo → P (w.setCell p u) lo v x
theorem own_far {α : Type} {w : World} {enc : α → List Value} {sz base : Nat} {e : TypeId} {v : Value} {l : List α} (h : w.own base e enc sz v l) {p : Addr} (hp : p.block < base) (u : Value) : (w.setCell p u).own base e enc sz v l := by
  obtain ⟨h1, h2 | ⟨g, cap, cur, hv, hb, hg, h3⟩⟩ := h
  · exact ⟨h1, .inl h2⟩
  · exact ⟨h1, .inr ⟨g, cap, cur, hv, hb, (World.heap_setCell_far u (by omega)).trans hg, h3⟩⟩
theorem ownP1 (e : TypeId) : OwnP (World.own1 e) := ⟨fun h hg => own_up h hg, fun h hl => own_base h hl, fun h hp => own_far h hp _⟩
theorem ownPOf {α : Type} {P : World → Nat → Value → α → Prop} (hP : OwnP P) (e : TypeId) : OwnP (fun w lo v l => w.ownOf P lo e v l) where
  up h hg := by
    obtain ⟨vs, h1, h2, h3⟩ := h
    exact ⟨vs, own_up h1 hg, h2, fun i hi hi' => hP.up (h3 i hi hi') hg⟩
  low h hl := by
    obtain ⟨vs, h1, h2, h3⟩ := h
    exact ⟨vs, own_base h1 hl, h2, fun i hi hi' => hP.low (h3 i hi hi') hl⟩
  far h hp := by
    obtain ⟨vs, h1, h2, h3⟩ := h
    exact ⟨vs, own_far h1 hp _, h2, fun i hi hi' => hP.far (h3 i hi hi') hp⟩
theorem ownP2 (e1 e : TypeId) : OwnP (World.own2 e1 e) := ownPOf (ownP1 e) e1
theorem ownP3 (e2 e1 e : TypeId) : OwnP (World.own3 e2 e1 e) := ownPOf (ownP2 e1 e) e2
theorem sl_of_ownOf {α : Type} {P : World → Nat → Value → α → Prop} {Q : World → Value → α → Prop} (hq : ∀ {w : World} {lo : Nat} {v : Value} {x : α}, P w lo v x → Q w v x) {w : World} {lo : Nat} {e : TypeId} {v : Value} {l : List α} (h : w.ownOf P lo e v l) : w.slOf Q v l := by
  obtain ⟨vs, h1, h2, h3⟩ := h
  exact ⟨vs, sl_of_own valC_length h1, h2, fun i hi hi' => hq (h3 i hi hi')⟩
theorem sl1_of_own {e : TypeId} {w : World} {lo : Nat} {v : Value} {l : List Int} (h : w.own1 e lo v l) : w.sl1 v l := sl_of_own intC_length h
theorem sl2_of_own {e1 e : TypeId} {w : World} {lo : Nat} {v : Value} {l : List (List Int)} (h : w.own2 e1 e lo v l) : w.sl2 v l := sl_of_ownOf (P := World.own1 e) (Q := World.sl1) (fun h => sl1_of_own h) h
theorem sl3_of_own {e2 e1 e : TypeId} {w : World} {lo : Nat} {v : Value} {l : List (List (List Int))} (h : w.own3 e2 e1 e lo v l) : w.sl3 v l := sl_of_ownOf (P := World.own2 e1 e) (Q := World.sl2) (fun h => sl2_of_own h) h
/-- The sum of f over the first k. -/
def psum {α : Type} (f : α → Nat) (l : List α) (k : Nat) : Nat := ((l.take k).map f).sum
theorem psum_zero {α : Type} (f : α → Nat) (l : List α) : psum f l 0 = 0 := by simp [psum]
theorem psum_succ {α : Type} (f : α → Nat) (l : List α) {k : Nat} (h : k < l.length) : psum f l (k + 1) = psum f l k + f l[k] := by
  unfold psum
  rw [List.take_succ_eq_append_getElem h, List.map_append, List.sum_append]
  simp
theorem psum_le {α : Type} (f : α → Nat) (l : List α) {k : Nat} : k ≤ l.length → psum f l k ≤ psum f l l.length := by
  intro h
  induction hn : l.length - k generalizing k with
  | zero => have : k = l.length := by omega
            rw [this]; exact Nat.le_refl _
  | succ n ih =>
    have := ih (k := k + 1) (by omega) (by omega)
    rw [psum_succ f l (by omega)] at this
    omega
theorem psum_at {α : Type} (f : α → Nat) (l : List α) {k : Nat} (h : k < l.length) : f l[k] ≤ psum f l l.length := by
  have := psum_le f l (k := k + 1) (by omega)
  rw [psum_succ f l h] at this
  omega
def tot1 (l : List Int) : Nat := l.length
def tot2 (l : List (List Int)) : Nat := l.length + psum tot1 l l.length
def tot3 (l : List (List (List Int))) : Nat := l.length + psum tot2 l l.length
theorem tot2_len (l : List (List Int)) : l.length ≤ tot2 l := Nat.le_add_right _ _
theorem tot3_len (l : List (List (List Int))) : l.length ≤ tot3 l := Nat.le_add_right _ _
theorem tot2_at {l : List (List Int)} {k : Nat} (h : k < l.length) : tot1 l[k] ≤ tot2 l := Nat.le_trans (psum_at tot1 l h) (Nat.le_add_left _ _)
theorem tot3_at {l : List (List (List Int))} {k : Nat} (h : k < l.length) : tot2 l[k] ≤ tot3 l := Nat.le_trans (psum_at tot2 l h) (Nat.le_add_left _ _)
end Go
/- Slices of rows of the call's own whose rows lie apart; appends of a row. No condition. -/
namespace Go
open RowKit Go.Ori
/-- A slice of rows of ints of the call's own; vs: the rows. -/
structure World.rows2 (e1 e : TypeId) (w : World) (lo : Nat) (v : Value) (vs : List Value) (l : List (List Int)) : Prop where
  out : w.own lo e1 valC 1 v vs
  len : vs.length = l.length
  row : ∀ (i : Nat) (h : i < l.length) (h' : i < vs.length), w.own lo e intC 1 vs[i] l[i]
theorem rows2_own {e1 e : TypeId} {w : World} {lo : Nat} {v : Value} {vs : List Value} {l : List (List Int)} (h : World.rows2 e1 e w lo v vs l) : World.own2 e1 e w lo v l := ⟨vs, h.out, h.len, h.row⟩
theorem rows2_up {e1 e : TypeId} {w w' : World} {lo : Nat} {v : Value} {vs : List Value} {l : List (List Int)} (h : World.rows2 e1 e w lo v vs l) (hg : ∃ d, w' = w.ext d) : World.rows2 e1 e w' lo v vs l :=
  ⟨own_up h.out hg, h.len, fun i hi hi' => own_up (h.row i hi hi') hg⟩
/-- What is kept: all that is owned and lies apart from the rows vs. -/
structure World.apartKept (vs : List Value) (w w' : World) : Prop where
  keep : ∀ {α : Type} {base : Nat} {e : TypeId} {enc : α → List Value} {sz : Nat} {u : Value} {m : List α}, w.own base e enc sz u m → (∀ x ∈ vs, Apart2 u x) → w'.own base e enc sz u m
theorem apartKept_refl (vs : List Value) (w : World) : World.apartKept vs w w := ⟨fun h _ => h⟩
theorem apartKept_step {vs : List Value} {w w1 w2 : World} {x : Value} (h : World.apartKept vs w w1) (hx : x ∈ vs) (hg : w1.grownBy w2 x.ownBlock) : World.apartKept vs w w2 :=
  ⟨fun ho ha => own_mark (h.keep ho ha) hg (ha x hx)⟩
/-- Rows of another type lie in another block. -/
theorem apart_type {α β : Type} {w : World} {b1 b2 : Nat} {e1 e2 : TypeId} {enc : α → List Value} {enc' : β → List Value} {s1 s2 : Nat} {u v : Value} {l : List α} {m : List β} (h1 : w.own b1 e1 enc s1 u l) (h2 : w.own b2 e2 enc' s2 v m) (hne : e1 ≠ e2) : Apart2 u v := by
  intro b hb hb2
  obtain ⟨_, ⟨rfl, _⟩ | ⟨g, cap, cur, rfl, _, hg, _⟩⟩ := h1
  · cases hb
  · obtain ⟨_, ⟨rfl, _⟩ | ⟨g', cap', cur', rfl, _, hg', _⟩⟩ := h2
    · cases hb2
    · simp only [Value.ownBlock, Option.some.injEq] at hb hb2
      subst hb
      subst hb2
      rw [hg] at hg'
      simp only [Option.some.injEq, Obj.cells.injEq] at hg'
      exact hne hg'.2.1
/-- append(s, x) where s is the call's own and x is one value of one cell: the operation's run. -/
theorem run_append_val {P : Program} {by_ : Nat} {t e : TypeId} {z : Value} (ty : TypeId) (ht : P.underlying t = some (.slice e)) (hi : (P.info? e).map (fun i => (i.zero, i.size, i.bytes)) = some (some z, 1, by_))
    (hz : z.cells.size = 1) (hby : by_ ≤ 4096) {W w : World} (hW : ∃ d, w = W.ext d) {base : Nat} (hB : W.heap.size ≤ base) (hbase : base ≤ w.heap.size) {v x : Value} {vs : List Value} {a : Addr} {c : Nat}
    (hone : x.oneCell' = true) (hown : w.own base e valC 1 v vs) (hx : w.cell? a = some x) (hn : vs.length + 1 ≤ 2097152) :
    ∃ v' d, (Builtin.append_ #[t, t] ty #[v, .slice (some a) 1 c]).run P w = .ok v' (W.ext d) ∧ (W.ext d).own base e valC 1 v' (vs ++ [x]) ∧ w.grownBy (W.ext d) v.ownBlock := by
  obtain ⟨i, h1, h2, h3, h4⟩ := info_parts hi
  have h5 : (vs.length + 1) * by_ ≤ 2097152 * 4096 := Nat.mul_le_mul hn hby
  obtain ⟨v', w', hr, ho, hg, _⟩ := run_append_own (P := P) w base t ty e i z 1 by_ ht h1 h2 h3 h4 hz (by omega) v _ _ hown a 1 c [x] rfl (fun j u hj => by
      match j, hj with
      | 0, hj =>
        simp only [List.getElem?_cons_zero, Option.some.injEq] at hj
        subst hj
        rw [show a.add 0 = a from rfl]
        exact hx
      | j + 1, hj => simp at hj)
    (fun u hu => by simp only [List.mem_singleton] at hu; subst hu; exact hone) (by unfold maxLen; omega) (by omega) hbase
  obtain ⟨d, rfl⟩ := gain_grown hW hg (fun b hb => Nat.le_trans hB (own_lt hown b hb).1)
  refine ⟨v', d, hr, ?_, hg⟩
  unfold World.own
  rw [List.length_append, List.flatMap_append]
  exact ho
theorem wpList_append_val {P : Program} {ops : Array Oper} {rest : List Oper} {o : Oper} {act : Act} {Q : Exit → Act → World → Prop} {by_ : Nat} {t e : TypeId} {z : Value}
    (hgd : o.guard = none) (s y : Operand) (ho : o.op = .call { callee := .builtin .append, args := #[s, y], argTypes := #[t, t] })
    (ht : P.underlying t = some (.slice e)) (hi : (P.info? e).map (fun i => (i.zero, i.size, i.bytes)) = some (some z, 1, by_)) (hz : z.cells.size = 1) (hby : by_ ≤ 4096)
    {W w : World} (hW : ∃ d, w = W.ext d) {base : Nat} (hB : W.heap.size ≤ base) (hbase : base ≤ w.heap.size) {v x : Value} {vs : List Value} {a : Addr} {c : Nat}
    (hs : act.eval s = v) (hy : act.eval y = .slice (some a) 1 c) (hone : x.oneCell' = true) (hown : w.own base e valC 1 v vs) (hx : w.cell? a = some x) (hn : vs.length + 1 ≤ 2097152)
    (h : ∀ v' d, (W.ext d).own base e valC 1 v' (vs ++ [x]) → w.grownBy (W.ext d) v.ownBlock → wpList P ops Q rest (act.put o.dst v') (W.ext d)) : wpList P ops Q (o :: rest) act w := by
  obtain ⟨v', d, hr, h2, h3⟩ := run_append_val (P := P) o.type ht hi hz hby hW hB hbase hone hown hx hn
  generalize Value.slice (some a) 1 c = u at hy hr
  refine wpList_plain hgd fun K hK => ?_
  unfold Oper.wp execOp
  simp only [ho, resolve, invoke, builtin, Sem.run_bind, Sem.run_pure, Result.andThen_ok, List.map_toArray, List.map_cons, List.map_nil, hs, hy, hr]
  exact hK _ _ (h v' d h2 h3)
/-- The same in a region that draws its order. -/
theorem step_append_val {P : Program} {ops : Array Oper} {o : Oper} {act : Act} {K : Act → World → Prop} {Q : Exit → Act → World → Prop} {E : Prop} {by_ : Nat} {t e : TypeId} {z : Value}
    (hgd : o.guard = none) (s y : Operand) (ho : o.op = .call { callee := .builtin .append, args := #[s, y], argTypes := #[t, t] })
    (ht : P.underlying t = some (.slice e)) (hi : (P.info? e).map (fun i => (i.zero, i.size, i.bytes)) = some (some z, 1, by_)) (hz : z.cells.size = 1) (hby : by_ ≤ 4096)
    {W w : World} (hW : ∃ d, w = W.ext d) {base : Nat} (hB : W.heap.size ≤ base) (hbase : base ≤ w.heap.size) {v x : Value} {vs : List Value} {a : Addr} {c : Nat}
    (hs : act.eval s = v) (hy : act.eval y = .slice (some a) 1 c) (hone : x.oneCell' = true) (hown : w.own base e valC 1 v vs) (hx : w.cell? a = some x) (hn : vs.length + 1 ≤ 2097152)
    (h : ∀ v' d, (W.ext d).own base e valC 1 v' (vs ++ [x]) → w.grownBy (W.ext d) v.ownBlock → K (act.put o.dst v') (W.ext d)) :
    if Region.wanted o (yielded ops act.tmps) = true then Oper.wp P o act w K Q else E := by
  have hw : Region.wanted o (yielded ops act.tmps) = true := by simp [Region.wanted, hgd]
  rw [if_pos hw]
  obtain ⟨v', d, hr, h2, h3⟩ := run_append_val (P := P) o.type ht hi hz hby hW hB hbase hone hown hx hn
  generalize Value.slice (some a) 1 c = u at hy hr
  unfold Oper.wp execOp
  simp only [ho, resolve, invoke, builtin, Sem.run_bind, Sem.run_pure, Result.andThen_ok, List.map_toArray, List.map_cons, List.map_nil, hs, hy, hr]
  exact h v' d h2 h3
theorem cell_lit {w : World} {x : Value} {e : TypeId} {g : Nat} (hg : g = w.heap.size) : (w.alloc (.cells #[x] e)).cell? ⟨g, 0, none⟩ = some x := by
  subst hg
  rw [World.cell?_alloc_new]
  rfl
section
variable {e2 e1 e : TypeId} {w w' Y : World} {lo : Nat} {v v' u x : Value} {vs us xs : List Value} {vss : List (List Value)}
theorem rows2_nil (h : w.own lo e1 valC 1 v []) : World.rows2 e1 e w lo v [] [] := ⟨h, rfl, fun i hi _ => absurd hi (by simp)⟩
theorem rows2_base {l : List (List Int)} {b : Nat} (h : World.rows2 e1 e w b v vs l) (hb : lo ≤ b) : World.rows2 e1 e w lo v vs l := ⟨own_base h.out hb, h.len, fun i hi hi' => own_base (h.row i hi hi') hb⟩
theorem rows2_snoc {l : List (List Int)} {m : List Int} (h : World.rows2 e1 e w lo v vs l) (hx : w.own lo e intC 1 x m) (hne : e1 ≠ e) (ho : w'.own lo e1 valC 1 v' (vs ++ [x])) (hg : w.grownBy w' v.ownBlock) :
    World.rows2 e1 e w' lo v' (vs ++ [x]) (l ++ [m]) where
  out := ho
  len := by simp [h.len]
  row i hi hi' := by
    by_cases hlt : i < l.length
    · rw [List.getElem_append_left hlt, List.getElem_append_left (by rw [h.len]; exact hlt)]
      exact own_mark (h.row i hlt (by rw [h.len]; exact hlt)) hg (apart_type (h.row i hlt (by rw [h.len]; exact hlt)) h.out hne.symm)
    · have hi0 := hi
      simp only [List.length_append, List.length_singleton] at hi0
      obtain rfl : i = l.length := by omega
      have hvl := h.len
      rw [List.getElem_append_right (Nat.le_refl _), List.getElem_append_right (by omega)]
      simp only [hvl, Nat.sub_self, List.getElem_cons_zero]
      exact own_mark hx hg (apart_type hx h.out hne.symm)
theorem rows2_mark {α : Type} {b : Nat} {e3 : TypeId} {enc : α → List Value} {sz : Nat} {m : List α} {l : List (List Int)} (h : World.rows2 e1 e w lo u vs l) (hv : w.own b e3 enc sz v m) (n1 : e3 ≠ e1) (n2 : e3 ≠ e) (hg : w.grownBy w' v.ownBlock) : World.rows2 e1 e w' lo u vs l :=
  ⟨own_mark h.out hg (apart_type h.out hv n1.symm), h.len, fun i hi hi' => own_mark (h.row i hi hi') hg (apart_type (h.row i hi hi') hv n2.symm)⟩
/-- Rows of a slice that was there, and a row made since: apart. -/
theorem rows2_apart {l : List (List Int)} {m : List Int} (h : World.rows2 e1 e Y lo v vs l) (hx : w.own Y.heap.size e intC 1 x m) : ∀ y ∈ vs, Apart2 y x := by
  intro y hy
  obtain ⟨i, hi, rfl⟩ := List.getElem_of_mem hy
  exact apart2_new (h.row i (by rw [← h.len]; exact hi) hi) hx
theorem pairwise_snoc {α : Type} {R : α → α → Prop} {l : List α} {x : α} (h : l.Pairwise R) (hx : ∀ y ∈ l, R y x) : (l ++ [x]).Pairwise R := by
  rw [List.pairwise_append]
  exact ⟨h, by simp, fun a ha b hb => by simp only [List.mem_singleton] at hb; subst hb; exact hx a ha⟩
end
theorem psum_bd {α : Type} (f : α → Nat) (l : List α) (b : Nat) (h : ∀ x ∈ l, f x ≤ b) : psum f l l.length ≤ l.length * b := by
  have : ∀ k, k ≤ l.length → psum f l k ≤ k * b := by
    intro k
    induction k with
    | zero => simp [psum_zero]
    | succ k ih =>
      intro hk
      rw [psum_succ f l (by omega), Nat.add_mul, Nat.one_mul]
      have := ih (by omega)
      have := h _ (List.getElem_mem (by omega : k < l.length))
      omega
  exact this _ (Nat.le_refl _)
end Go
namespace Go.Proofs.YtmcimgnobimicaaGreat
open Go.RowKit Go.Ori
theorem info_slc : (Tryz.prog.info? 24).map (fun i => (i.zero, i.size, i.bytes)) = some (some (.slice none 0 0), 1, 24) := by kernel_rfl
end Go.Proofs.YtmcimgnobimicaaGreat
