/- Slices of the call's own; what a write to one of them leaves alone. No condition. -/
import Derived.Test.YtffkkchflohhaaaGreatDoorExt
namespace Go
open RowKit
/-- A slice of the call's own that reads as a list: its block is from 'base' on. -/
def World.own {α : Type} (w : World) (base : Nat) (e : TypeId) (enc : α → List Value) (sz : Nat) (v : Value) (l : List α) : Prop :=
  w.ownsRow base e sz v l.length (l.flatMap enc)
/-- The first, if it holds anything, lies in another block than the second. -/
def Apart {α : Type} (l : List α) (u v : Value) : Prop := 0 < l.length → ∀ b, u.ownBlock = some b → v.ownBlock ≠ some b
section
variable {α β : Type} {w w' : World} {enc : α → List Value} {enc' : β → List Value} {sz sz' base : Nat} {e : TypeId} {u v : Value} {l : List α} {l' : List β}
theorem sl_of_own (hz : ∀ x, (enc x).length = sz) (h : w.own base e enc sz v l) : w.sl enc sz v l := World.sl_of_owns hz h
theorem own_ext (h : w.own base e enc sz v l) (d : Gain) : (w.ext d).own base e enc sz v l := by
  obtain ⟨h1, h2 | ⟨g, cap, cur, hv, hb, hg, h3⟩⟩ := h
  · exact ⟨h1, .inl h2⟩
  · exact ⟨h1, .inr ⟨g, cap, cur, hv, hb, World.heap_ext_old d hg, h3⟩⟩
theorem own_alloc (h : w.own base e enc sz v l) (o : Obj) : (w.alloc o).own base e enc sz v l := by
  obtain ⟨d, hd⟩ := gain_alloc w.gained_refl o
  rw [hd]
  exact own_ext h d
theorem own_nil (w : World) (base : Nat) (e : TypeId) (enc : α → List Value) (sz : Nat) : w.own base e enc sz (.slice none 0 0) [] := World.ownsRow_nil w base e sz
theorem sl_nil (w : World) (enc : α → List Value) (sz : Nat) : w.sl enc sz (.slice none 0 0) [] := ⟨none, 0, rfl, fun h => absurd h (by simp), by simp⟩
theorem own_base (h : w.own base e enc sz v l) {b : Nat} (hb : b ≤ base) : w.own b e enc sz v l := by
  obtain ⟨h1, h2 | ⟨g, cap, cur, hv, hg, h3⟩⟩ := h
  · exact ⟨h1, .inl h2⟩
  · exact ⟨h1, .inr ⟨g, cap, cur, hv, Nat.le_trans hb hg, h3⟩⟩
theorem sl_lt (hz : ∀ x, (enc x).length = sz) (h0 : 0 < sz) (h : w.sl enc sz u l) (hl : 0 < l.length) : ∀ b, u.ownBlock = some b → b < w.heap.size := by
  obtain ⟨p, c, rfl, hp, hcap⟩ := h
  obtain ⟨b, o, rfl, hc⟩ := hp hl
  intro b' hb'
  simp only [Value.ownBlock, Option.some.injEq] at hb'
  subst hb'
  have := hc 0 hl 0 h0
  exact World.lt_of_cell (a := ⟨b, _, none⟩) (by rw [this]; simp [hz, h0])
theorem apart_new (hz : ∀ x, (enc x).length = sz) (h0 : 0 < sz) (h : w.sl enc sz u l) (ho : w'.own w.heap.size e enc' sz' v l') : Apart l u v := by
  intro hl b hb hv
  have h1 := sl_lt hz h0 h hl b hb
  have h2 := (World.ownsRow.lt ho b hv).1
  omega
/-- What was made later lies apart from what was there. -/
theorem apart_old (hz : ∀ x, (enc' x).length = sz') (h0 : 0 < sz') (h : w.sl enc' sz' u l') (ho : w'.own w.heap.size e enc sz v l) (hu : 0 < l'.length ∨ u.ownBlock = none) : Apart l v u := by
  intro _ b hb hv
  have h2 := (World.ownsRow.lt ho b hb).1
  rcases hu with hu | hu
  · have h1 := sl_lt hz h0 h hu b hv
    omega
  · rw [hu] at hv; cases hv
theorem sl_mark (hz : ∀ x, (enc x).length = sz) (h : w.sl enc sz u l) (hg : w.grownBy w' v.ownBlock) (ha : Apart l u v) : w'.sl enc sz u l := by
  obtain ⟨p, c, rfl, hp, hcap⟩ := h
  refine ⟨p, c, rfl, fun hl => ?_, hcap⟩
  obtain ⟨b, o, rfl, hc⟩ := hp hl
  refine ⟨b, o, rfl, fun k hk j hj => ?_⟩
  have h1 := hc k hk j hj
  rw [← h1]
  refine World.cell?_of_block (hg.block b ?_ ?_)
  · exact World.lt_of_cell (a := ⟨b, _, none⟩) (by rw [h1]; simp [hz, hj])
  · exact fun hb => ha hl b rfl hb.symm
theorem own_mark (h : w.own base e enc sz u l) (hg : w.grownBy w' v.ownBlock) (ha : ∀ b, u.ownBlock = some b → v.ownBlock ≠ some b) : w'.own base e enc sz u l := by
  obtain ⟨h1, h2 | ⟨g, cap, cur, rfl, hb, hh, h3⟩⟩ := h
  · exact ⟨h1, .inl h2⟩
  · exact ⟨h1, .inr ⟨g, cap, cur, rfl, hb, (hg.block g (Array.getElem?_eq_some_iff.1 hh).1 (fun e => ha g rfl e.symm)).trans hh, h3⟩⟩
theorem gain_size (h : ∃ d, w' = w.ext d) : w.heap.size ≤ w'.heap.size := by
  obtain ⟨d, rfl⟩ := h
  exact World.size_ext w d
end
/-- Two slices of the call's own, in two blocks. -/
def Apart2 (u v : Value) : Prop := ∀ b, u.ownBlock = some b → v.ownBlock ≠ some b
theorem apart2_new {α β : Type} {w w' : World} {enc : α → List Value} {enc' : β → List Value} {sz sz' base : Nat} {e e' : TypeId} {u v : Value} {l : List α} {l' : List β}
    (h : w.own base e enc sz u l) (ho : w'.own w.heap.size e' enc' sz' v l') : Apart2 u v := by
  intro b hb hv
  have h1 := (World.ownsRow.lt h b hb).2
  have h2 := (World.ownsRow.lt ho b hv).1
  omega
theorem Apart2.symm {u v : Value} (h : Apart2 u v) : Apart2 v u := fun b hb hv => h b hv hb
theorem Apart2.apart {α : Type} {u v : Value} (h : Apart2 u v) (l : List α) : Apart l u v := fun _ => h
section
variable {a w : World}
theorem only_setCell {g : Nat} (h : a.grownBy w (some g)) {p : Addr} (hp : p.block = g) (u : Value) : a.grownBy (w.setCell p u) (some g) :=
  ⟨h.os, h.tape, h.output, by simpa [World.setCell] using h.size, fun i hi hne => (Below.heap_setCell w p u i (by rintro rfl; exact hne (by rw [hp]))).trans (h.block i hi hne)⟩
theorem only_refl (w : World) (row : Option Nat) : w.grownBy w row := ⟨rfl, rfl, rfl, Nat.le_refl _, fun _ _ _ => rfl⟩
end
/-- What grew by an append has only gained, where the row that was written is new. -/
theorem gain_grown {W w w' : World} {row : Option Nat} (hW : ∃ d, w = W.ext d) (hg : w.grownBy w' row) (hr : ∀ b, row = some b → W.heap.size ≤ b) : ∃ d, w' = W.ext d := by
  obtain ⟨d, rfl⟩ := hW
  exact World.gained_of_below (((World.below_ext W d)).grown hg (World.size_ext W d) hr)
theorem own_lt {α : Type} {w : World} {enc : α → List Value} {sz base : Nat} {e : TypeId} {v : Value} {l : List α} (h : w.own base e enc sz v l) : ∀ b, v.ownBlock = some b → base ≤ b ∧ b < w.heap.size := World.ownsRow.lt h
theorem run_append_none {P : Program} {w : World} {base : Nat} (t ty e : TypeId) (i : TypeInfo) (size : Nat) (ht : P.underlying t = some (.slice e)) (hi : P.info? e = some i)
    (v : Value) (n : Nat) (xs : List Value) (hown : w.ownsRow base e size v n xs) (c : Nat) : (Builtin.append_ #[t, t] ty #[v, .slice none 0 c]).run P w = .ok v w := by
  rcases hown.2 with ⟨rfl, rfl⟩ | ⟨g, cap, cur, rfl, _, _, hnc, _⟩
  · simp [Builtin.append_, run_underlying ht, sizeOf, typeInfo, hi, Builtin.lenOf, Builtin.firstCells]
  · simp [Builtin.append_, run_underlying ht, sizeOf, typeInfo, hi, Builtin.lenOf, Builtin.firstCells, hnc, storeCells]
/-- append(s, xs...) where s is the call's own: the operation's run. -/
theorem run_append_gain {P : Program} {α : Type} {enc : α → List Value} {sz by_ : Nat} {t e : TypeId} {z : Value} (ty : TypeId) (ht : P.underlying t = some (.slice e)) (hi : (P.info? e).map (fun i => (i.zero, i.size, i.bytes)) = some (some z, sz, by_))
    (hz : z.cells.size = sz) (h0 : 0 < sz) (hlen : ∀ x, (enc x).length = sz) (hone : ∀ x, ∀ c ∈ enc x, c.oneCell' = true) (hby : by_ ≤ 4096)
    {W w : World} (hW : ∃ d, w = W.ext d) {base : Nat} (hB : W.heap.size ≤ base) (hbase : base ≤ w.heap.size) {v u : Value} {l m : List α} (hown : w.own base e enc sz v l) (hu : w.sl enc sz u m) (hn : l.length + m.length ≤ 2097152) :
    ∃ v' d, (Builtin.append_ #[t, t] ty #[v, u]).run P w = .ok v' (W.ext d) ∧ (W.ext d).own base e enc sz v' (l ++ m) ∧ w.grownBy (W.ext d) v.ownBlock := by
  obtain ⟨i, h1, h2, h3, h4⟩ := info_parts hi
  obtain ⟨p, c, rfl, hp, hcap⟩ := hu
  have fin : ∀ v' w', (Builtin.append_ #[t, t] ty #[v, .slice p m.length c]).run P w = .ok v' w' → w'.own base e enc sz v' (l ++ m) → w.grownBy w' v.ownBlock →
      ∃ v' d, (Builtin.append_ #[t, t] ty #[v, .slice p m.length c]).run P w = .ok v' (W.ext d) ∧ (W.ext d).own base e enc sz v' (l ++ m) ∧ w.grownBy (W.ext d) v.ownBlock := fun v' w' hr ho hg => by
    obtain ⟨d, rfl⟩ := gain_grown hW hg (fun b hb => Nat.le_trans hB (own_lt hown b hb).1)
    exact ⟨v', d, hr, ho, hg⟩
  cases p with
  | none =>
    have hm : m = [] := by
      cases m with
      | nil => rfl
      | cons x y =>
        obtain ⟨b, o, hb, _⟩ := hp (by simp)
        cases hb
    subst hm
    refine fin v w (run_append_none t ty e i sz ht h1 v _ _ hown c) (by rw [List.append_nil]; exact hown) (only_refl _ _)
  | some a =>
    have hnews : ∀ j x, (m.flatMap enc)[j]? = some x → w.cell? (a.add j) = some x := fun j x hj => by
      have hlt := (List.getElem?_eq_some_iff.1 hj).1
      rw [flat_length hlen] at hlt
      have hm0 : 0 < m.length := by
        rcases Nat.eq_zero_or_pos m.length with h | h
        · rw [h] at hlt; omega
        · exact h
      obtain ⟨b, o, hb, hc⟩ := hp hm0
      injection hb with hb
      subst hb
      have hk : j / sz < m.length := Nat.div_lt_of_lt_mul (by rw [Nat.mul_comm]; exact hlt)
      have h5 := hc (j / sz) hk (j % sz) (Nat.mod_lt _ h0)
      rw [← flat_get hlen m (j / sz) hk (j % sz) (Nat.mod_lt _ h0)] at h5
      have e1 : j / sz * sz + j % sz = j := by rw [Nat.mul_comm]; exact Nat.div_add_mod j sz
      rw [Nat.add_assoc, e1, hj] at h5
      rw [Addr.add_lit]
      exact h5
    have h5 : (l.length + m.length) * by_ ≤ 2097152 * 4096 := Nat.mul_le_mul hn hby
    obtain ⟨v', w', hr, ho, hg, _⟩ := run_append_own (P := P) w base t ty e i z sz by_ ht h1 h2 h3 h4 hz h0 v _ _ hown a m.length c (m.flatMap enc) (flat_length hlen m) hnews
      (fun x hx => by
        obtain ⟨y, _, hy⟩ := List.mem_flatMap.1 hx
        exact hone y x hy) (by unfold maxLen; omega) (by omega) hbase
    refine fin v' w' hr ?_ hg
    unfold World.own
    rw [List.length_append, List.flatMap_append]
    exact ho
/-- The same as a law of the walk. -/
theorem wpList_append_gain {P : Program} {ops : Array Oper} {rest : List Oper} {o : Oper} {a : Act} {Q : Exit → Act → World → Prop} {α : Type} {enc : α → List Value} {sz by_ : Nat} {t e : TypeId} {z : Value}
    (hgd : o.guard = none) (s x : Operand) (ho : o.op = .call { callee := .builtin .append, args := #[s, x], argTypes := #[t, t] })
    (ht : P.underlying t = some (.slice e)) (hi : (P.info? e).map (fun i => (i.zero, i.size, i.bytes)) = some (some z, sz, by_))
    (hz : z.cells.size = sz) (h0 : 0 < sz) (hlen : ∀ x, (enc x).length = sz) (hone : ∀ x, ∀ c ∈ enc x, c.oneCell' = true) (hby : by_ ≤ 4096)
    {W w : World} (hW : ∃ d, w = W.ext d) {base : Nat} (hB : W.heap.size ≤ base) (hbase : base ≤ w.heap.size) {v u : Value} {l m : List α} (hs : a.eval s = v) (hx : a.eval x = u)
    (hown : w.own base e enc sz v l) (hu : w.sl enc sz u m) (hn : l.length + m.length ≤ 2097152)
    (h : ∀ v' d, (W.ext d).own base e enc sz v' (l ++ m) → w.grownBy (W.ext d) v.ownBlock → wpList P ops Q rest (a.put o.dst v') (W.ext d)) : wpList P ops Q (o :: rest) a w := by
  obtain ⟨v', d, hr, h2, h3⟩ := run_append_gain (P := P) o.type ht hi hz h0 hlen hone hby hW hB hbase hown hu hn
  refine wpList_plain hgd fun K hK => ?_
  unfold Oper.wp execOp
  simp only [ho, resolve, invoke, builtin, Sem.run_bind, Sem.run_pure, Result.andThen_ok, List.map_toArray, List.map_cons, List.map_nil, hs, hx, hr]
  exact hK _ _ (h v' d h2 h3)
/-- A literal slice: a new block that holds its elements. -/
theorem own_lit {α : Type} {w : World} {enc : α → List Value} {sz : Nat} {e : TypeId} {l : List α} {C : Array Value} (hlen : ∀ x, (enc x).length = sz) (hC : C.toList = l.flatMap enc) (hn : l.length ≤ 1048576) :
    (w.alloc (.cells C e)).own w.heap.size e enc sz (.slice (some ⟨w.heap.size, 0, none⟩) l.length l.length) l := by
  refine ⟨flat_length hlen l, .inr ⟨w.heap.size, l.length, C, rfl, Nat.le_refl _, heap_alloc_new w _, Nat.le_refl _, le_maxLen hn, ?_, ?_⟩⟩
  · rw [← Array.length_toList, hC, flat_length hlen]
  · rw [hC, List.take_of_length_le (by rw [flat_length hlen]; exact Nat.le_refl _)]
theorem sl_lit {α : Type} {w : World} {enc : α → List Value} {sz : Nat} {e : TypeId} {l : List α} {C : Array Value} {g : Nat} (hlen : ∀ x, (enc x).length = sz) (hC : C.toList = l.flatMap enc) (hg : g = w.heap.size) :
    (w.alloc (.cells C e)).sl enc sz (.slice (some ⟨g, 0, none⟩) l.length l.length) l := by
  subst hg
  refine ⟨_, _, rfl, fun _ => ⟨_, 0, rfl, fun k hk j hj => ?_⟩, Nat.le_refl _⟩
  rw [World.cell?_alloc_new, Nat.zero_add, ← flat_get hlen l k hk j hj, ← hC]
  simp
theorem setCells_row {g : Nat} {e : TypeId} {f : Nat × Nat} : ∀ (vs : List Value) (o : Nat) {w : World} {C : Array Value}, w.heap[g]? = some (.cells C e f) → o + vs.length ≤ C.size →
    ∃ C', (w.setCells g o vs).heap[g]? = some (.cells C' e f) ∧ C'.size = C.size ∧ ∀ j, C'[j]? = if o ≤ j ∧ j < o + vs.length then vs[j - o]? else C[j]?
  | [], o, w, C, h, _ => ⟨C, h, rfl, fun j => by rw [if_neg (fun q => by have := q.2; rw [List.length_nil] at this; omega)]⟩
  | v :: vs, o, w, C, h, hb => by
    simp only [List.length_cons] at hb
    obtain ⟨C', h1, h2, h3⟩ := setCells_row vs (o + 1) (World.heap_setCell_row h o v) (by simp; omega)
    refine ⟨C', h1, by rw [h2]; simp, fun j => ?_⟩
    rw [h3 j]
    simp only [List.length_cons]
    by_cases e1 : j = o
    · subst e1
      rw [if_neg (by omega), if_pos (by omega), Array.getElem?_setIfInBounds, if_pos rfl, if_pos (by omega)]
      simp
    · by_cases e2 : o + 1 ≤ j ∧ j < o + 1 + vs.length
      · rw [if_pos e2, if_pos (by omega)]
        have : j - o = (j - (o + 1)) + 1 := by omega
        rw [this, List.getElem?_cons_succ]
      · rw [if_neg e2, if_neg (by omega), Array.getElem?_setIfInBounds, if_neg (fun x => e1 x.symm)]
theorem gain_setCells {W : World} {g : Nat} : ∀ (vs : List Value) (o : Nat) {w : World}, (∃ d, w = W.ext d) → W.heap.size ≤ g → ∃ d, w.setCells g o vs = W.ext d
  | [], _, _, h, _ => h
  | v :: vs, o, _, h, hg => gain_setCells vs (o + 1) (gain_setCell h hg v) hg
theorem only_setCells {a : World} {g : Nat} : ∀ (vs : List Value) (o : Nat) {w : World}, a.grownBy w (some g) → a.grownBy (w.setCells g o vs) (some g)
  | [], _, _, h => h
  | v :: vs, o, _, h => only_setCells vs (o + 1) (only_setCell h rfl v)
/-- s[i] = x, into a slice of the call's own. -/
theorem own_put {α : Type} {w : World} {enc : α → List Value} {sz base : Nat} {e : TypeId} {g n cap : Nat} {l : List α} (hlen : ∀ x, (enc x).length = sz)
    (h : w.own base e enc sz (.slice (some ⟨g, 0, none⟩) n cap) l) {i : Nat} (hi : i < l.length) (x : α) : (w.setCells g (i * sz) (enc x)).own base e enc sz (.slice (some ⟨g, 0, none⟩) n cap) (l.set i x) := by
  obtain ⟨h1, ⟨hv, _⟩ | ⟨g', cap', cur, hv, hg, hh, hle, hcap, hs, ht⟩⟩ := h
  · cases hv
  · simp only [Value.slice.injEq, Option.some.injEq, Addr.mk.injEq, and_true] at hv
    obtain ⟨rfl, rfl, rfl⟩ := hv
    have hb : i * sz + (enc x).length ≤ cur.size := by
      rw [hlen, hs]
      have : (i + 1) * sz ≤ cap * sz := Nat.mul_le_mul_right _ (by omega)
      rw [Nat.add_mul] at this
      omega
    obtain ⟨C', c1, c2, c3⟩ := setCells_row (enc x) (i * sz) hh hb
    have hlen' : (l.set i x).length = l.length := List.length_set
    unfold World.own
    rw [hlen']
    refine ⟨by rw [flat_length hlen, hlen'], .inr ⟨g, cap, C', rfl, hg, c1, hle, hcap, c2.trans hs, ?_⟩⟩
    apply List.ext_getElem?
    intro j
    rw [List.getElem?_take]
    split
    · rename_i hj
      have hsz : 0 < sz := by
        rcases Nat.eq_zero_or_pos sz with h0 | h0
        · rw [h0] at hj; omega
        · exact h0
      have hk : j / sz < l.length := Nat.div_lt_of_lt_mul (by rw [Nat.mul_comm]; exact hj)
      have hm := Nat.mod_lt j hsz
      have ej : j = j / sz * sz + j % sz := by rw [Nat.mul_comm]; exact (Nat.div_add_mod j sz).symm
      have r1 := flat_get hlen (l.set i x) (j / sz) (by rw [hlen']; exact hk) (j % sz) hm
      rw [← ej] at r1
      rw [r1, Array.getElem?_toList, c3 j, hlen]
      by_cases e1 : j / sz = i
      · rw [if_pos (by rw [← e1]; omega)]
        rw [List.getElem_set]
        rw [if_pos e1.symm]
        congr 1
        rw [← e1]
        omega
      · rw [if_neg, List.getElem_set, if_neg (fun q => e1 q.symm)]
        · have r2 := flat_get hlen l (j / sz) hk (j % sz) hm
          rw [← ej, ← ht, List.getElem?_take, if_pos hj, Array.getElem?_toList] at r2
          exact r2
        · rintro ⟨q1, q2⟩
          apply e1
          apply Nat.div_eq_of_lt_le
          · exact q1
          · rw [Nat.add_mul]; omega
    · rw [List.getElem?_eq_none (by rw [flat_length hlen, hlen']; omega)]
/-- What a slice of the call's own is: its address, its cells. -/
theorem own_open {α : Type} {w : World} {enc : α → List Value} {sz base : Nat} {e : TypeId} {v : Value} {l : List α} (h : w.own base e enc sz v l) (h0 : 0 < l.length) :
    ∃ g cap, v = .slice (some ⟨g, 0, none⟩) l.length cap ∧ base ≤ g ∧ l.length ≤ cap ∧ ∀ j, j < l.length * sz → ∃ x, w.cell? ⟨g, j, none⟩ = some x ∧ w.frozen? ⟨g, j, none⟩ = false := by
  obtain ⟨h1, ⟨rfl, hn⟩ | ⟨g, cap, cur, rfl, hg, hh, hle, hcap, hs, ht⟩⟩ := h
  · omega
  · refine ⟨g, cap, rfl, hg, hle, fun j hj => ?_⟩
    have hjc : j < cur.size := by
      rw [hs]
      have : l.length * sz ≤ cap * sz := Nat.mul_le_mul_right _ hle
      omega
    exact ⟨cur[j], by rw [World.cell_of_heap hh, Array.getElem?_eq_getElem hjc], World.free_of_heap hh j⟩
/-- A literal slice: its block's number as the walk writes it. -/
theorem own_lit' {α : Type} {w : World} {base : Nat} {enc : α → List Value} {sz : Nat} {e : TypeId} {l : List α} {C : Array Value} {g : Nat} (hlen : ∀ x, (enc x).length = sz) (hC : C.toList = l.flatMap enc) (hg : g = w.heap.size) (hb : base ≤ w.heap.size) (hn : l.length ≤ 1048576 := by simp) :
    (w.alloc (.cells C e)).own base e enc sz (.slice (some ⟨g, 0, none⟩) l.length l.length) l := by
  subst hg
  exact own_base (own_lit hlen hC hn) hb
end Go
