/- Slices of rows of the call's own whose rows lie apart; appends of a row. No condition. -/
import Derived.Test.YtffkkchflohhaaaGreatDoorNest
import Derived.Test.YtffkkchflohhaaaGreatDoorInfoInt
namespace Go
open RowKit Go.Ori
/-- A slice of rows of ints of the call's own; vs: the rows. -/
structure World.rows2 (e1 e : TypeId) (w : World) (lo : Nat) (v : Value) (vs : List Value) (l : List (List Int)) : Prop where
  out : w.own lo e1 valC 1 v vs
  len : vs.length = l.length
  row : ∀ (i : Nat) (h : i < l.length) (h' : i < vs.length), w.own lo e intC 1 vs[i] l[i]
theorem rows2_own {e1 e : TypeId} {w : World} {lo : Nat} {v : Value} {vs : List Value} {l : List (List Int)} (h : World.rows2 e1 e w lo v vs l) : World.own2 e1 e w lo v l := ⟨vs, h.out, h.len, h.row⟩
theorem rows2_up {e1 e : TypeId} {w w' : World} {lo : Nat} {v : Value} {vs : List Value} {l : List (List Int)} (h : World.rows2 e1 e w lo v vs l) (hg : ∃ d, w' = w.ext d) : World.rows2 e1 e w' lo v vs l :=
  ⟨own_up h.out hg, h.len, fun i hi hi' => own_up (h.row i hi hi') hg⟩
/-- What is kept: all that is owned and lies apart from the rows vs. -/
structure World.apartKept (vs : List Value) (w w' : World) : Prop where
  keep : ∀ {α : Type} {base : Nat} {e : TypeId} {enc : α → List Value} {sz : Nat} {u : Value} {m : List α}, w.own base e enc sz u m → (∀ x ∈ vs, Apart2 u x) → w'.own base e enc sz u m
theorem apartKept_refl (vs : List Value) (w : World) : World.apartKept vs w w := ⟨fun h _ => h⟩
theorem apartKept_step {vs : List Value} {w w1 w2 : World} {x : Value} (h : World.apartKept vs w w1) (hx : x ∈ vs) (hg : w1.grownBy w2 x.ownBlock) : World.apartKept vs w w2 :=
  ⟨fun ho ha => own_mark (h.keep ho ha) hg (ha x hx)⟩
/-- Rows of another type lie in another block. -/
theorem apart_type {α β : Type} {w : World} {b1 b2 : Nat} {e1 e2 : TypeId} {enc : α → List Value} {enc' : β → List Value} {s1 s2 : Nat} {u v : Value} {l : List α} {m : List β} (h1 : w.own b1 e1 enc s1 u l) (h2 : w.own b2 e2 enc' s2 v m) (hne : e1 ≠ e2) : Apart2 u v := by
  intro b hb hb2
  obtain ⟨_, ⟨rfl, _⟩ | ⟨g, cap, cur, rfl, _, hg, _⟩⟩ := h1
  · cases hb
  · obtain ⟨_, ⟨rfl, _⟩ | ⟨g', cap', cur', rfl, _, hg', _⟩⟩ := h2
    · cases hb2
    · simp only [Value.ownBlock, Option.some.injEq] at hb hb2
      subst hb
      subst hb2
      rw [hg] at hg'
      simp only [Option.some.injEq, Obj.cells.injEq] at hg'
      exact hne hg'.2.1
/-- append(s, x) where s is the call's own and x is one value of one cell: the operation's run. -/
theorem run_append_val {P : Program} {by_ : Nat} {t e : TypeId} {z : Value} (ty : TypeId) (ht : P.underlying t = some (.slice e)) (hi : (P.info? e).map (fun i => (i.zero, i.size, i.bytes)) = some (some z, 1, by_))
    (hz : z.cells.size = 1) (hby : by_ ≤ 4096) {W w : World} (hW : ∃ d, w = W.ext d) {base : Nat} (hB : W.heap.size ≤ base) (hbase : base ≤ w.heap.size) {v x : Value} {vs : List Value} {a : Addr} {c : Nat}
    (hone : x.oneCell' = true) (hown : w.own base e valC 1 v vs) (hx : w.cell? a = some x) (hn : vs.length + 1 ≤ 2097152) :
    ∃ v' d, (Builtin.append_ #[t, t] ty #[v, .slice (some a) 1 c]).run P w = .ok v' (W.ext d) ∧ (W.ext d).own base e valC 1 v' (vs ++ [x]) ∧ w.grownBy (W.ext d) v.ownBlock := by
  obtain ⟨i, h1, h2, h3, h4⟩ := info_parts hi
  have h5 : (vs.length + 1) * by_ ≤ 2097152 * 4096 := Nat.mul_le_mul hn hby
  obtain ⟨v', w', hr, ho, hg, _⟩ := run_append_own (P := P) w base t ty e i z 1 by_ ht h1 h2 h3 h4 hz (by omega) v _ _ hown a 1 c [x] rfl (fun j u hj => by
      match j, hj with
      | 0, hj =>
        simp only [List.getElem?_cons_zero, Option.some.injEq] at hj
        subst hj
        rw [show a.add 0 = a from rfl]
        exact hx
      | j + 1, hj => simp at hj)
    (fun u hu => by simp only [List.mem_singleton] at hu; subst hu; exact hone) (by unfold maxLen; omega) (by omega) hbase
  obtain ⟨d, rfl⟩ := gain_grown hW hg (fun b hb => Nat.le_trans hB (own_lt hown b hb).1)
  refine ⟨v', d, hr, ?_, hg⟩
  unfold World.own
  rw [List.length_append, List.flatMap_append]
  exact ho
theorem wpList_append_val {P : Program} {ops : Array Oper} {rest : List Oper} {o : Oper} {act : Act} {Q : Exit → Act → World → Prop} {by_ : Nat} {t e : TypeId} {z : Value}
    (hgd : o.guard = none) (s y : Operand) (ho : o.op = .call { callee := .builtin .append, args := #[s, y], argTypes := #[t, t] })
    (ht : P.underlying t = some (.slice e)) (hi : (P.info? e).map (fun i => (i.zero, i.size, i.bytes)) = some (some z, 1, by_)) (hz : z.cells.size = 1) (hby : by_ ≤ 4096)
    {W w : World} (hW : ∃ d, w = W.ext d) {base : Nat} (hB : W.heap.size ≤ base) (hbase : base ≤ w.heap.size) {v x : Value} {vs : List Value} {a : Addr} {c : Nat}
    (hs : act.eval s = v) (hy : act.eval y = .slice (some a) 1 c) (hone : x.oneCell' = true) (hown : w.own base e valC 1 v vs) (hx : w.cell? a = some x) (hn : vs.length + 1 ≤ 2097152)
    (h : ∀ v' d, (W.ext d).own base e valC 1 v' (vs ++ [x]) → w.grownBy (W.ext d) v.ownBlock → wpList P ops Q rest (act.put o.dst v') (W.ext d)) : wpList P ops Q (o :: rest) act w := by
  obtain ⟨v', d, hr, h2, h3⟩ := run_append_val (P := P) o.type ht hi hz hby hW hB hbase hone hown hx hn
  generalize Value.slice (some a) 1 c = u at hy hr
  refine wpList_plain hgd fun K hK => ?_
  unfold Oper.wp execOp
  simp only [ho, resolve, invoke, builtin, Sem.run_bind, Sem.run_pure, Result.andThen_ok, List.map_toArray, List.map_cons, List.map_nil, hs, hy, hr]
  exact hK _ _ (h v' d h2 h3)
/-- The same in a region that draws its order. -/
theorem step_append_val {P : Program} {ops : Array Oper} {o : Oper} {act : Act} {K : Act → World → Prop} {Q : Exit → Act → World → Prop} {E : Prop} {by_ : Nat} {t e : TypeId} {z : Value}
    (hgd : o.guard = none) (s y : Operand) (ho : o.op = .call { callee := .builtin .append, args := #[s, y], argTypes := #[t, t] })
    (ht : P.underlying t = some (.slice e)) (hi : (P.info? e).map (fun i => (i.zero, i.size, i.bytes)) = some (some z, 1, by_)) (hz : z.cells.size = 1) (hby : by_ ≤ 4096)
    {W w : World} (hW : ∃ d, w = W.ext d) {base : Nat} (hB : W.heap.size ≤ base) (hbase : base ≤ w.heap.size) {v x : Value} {vs : List Value} {a : Addr} {c : Nat}
    (hs : act.eval s = v) (hy : act.eval y = .slice (some a) 1 c) (hone : x.oneCell' = true) (hown : w.own base e valC 1 v vs) (hx : w.cell? a = some x) (hn : vs.length + 1 ≤ 2097152)
    (h : ∀ v' d, (W.ext d).own base e valC 1 v' (vs ++ [x]) → w.grownBy (W.ext d) v.ownBlock → K (act.put o.dst v') (W.ext d)) :
    if Region.wanted o (yielded ops act.tmps) = true then Oper.wp P o act w K Q else E := by
  have hw : Region.wanted o (yielded ops act.tmps) = true := by simp [Region.wanted, hgd]
  rw [if_pos hw]
  obtain ⟨v', d, hr, h2, h3⟩ := run_append_val (P := P) o.type ht hi hz hby hW hB hbase hone hown hx hn
  generalize Value.slice (some a) 1 c = u at hy hr
  unfold Oper.wp execOp
  simp only [ho, resolve, invoke, builtin, Sem.run_bind, Sem.run_pure, Result.andThen_ok, List.map_toArray, List.map_cons, List.map_nil, hs, hy, hr]
  exact h v' d h2 h3
theorem cell_lit {w : World} {x : Value} {e : TypeId} {g : Nat} (hg : g = w.heap.size) : (w.alloc (.cells #[x] e)).cell? ⟨g, 0, none⟩ = some x := by
  subst hg
  rw [World.cell?_alloc_new]
  rfl
section
variable {e2 e1 e : TypeId} {w w' Y : World} {lo : Nat} {v v' u x : Value} {vs us xs : List Value} {vss : List (List Value)}
theorem rows2_nil (h : w.own lo e1 valC 1 v []) : World.rows2 e1 e w lo v [] [] := ⟨h, rfl, fun i hi _ => absurd hi (by simp)⟩
theorem rows2_base {l : List (List Int)} {b : Nat} (h : World.rows2 e1 e w b v vs l) (hb : lo ≤ b) : World.rows2 e1 e w lo v vs l := ⟨own_base h.out hb, h.len, fun i hi hi' => own_base (h.row i hi hi') hb⟩
theorem rows2_snoc {l : List (List Int)} {m : List Int} (h : World.rows2 e1 e w lo v vs l) (hx : w.own lo e intC 1 x m) (hne : e1 ≠ e) (ho : w'.own lo e1 valC 1 v' (vs ++ [x])) (hg : w.grownBy w' v.ownBlock) :
    World.rows2 e1 e w' lo v' (vs ++ [x]) (l ++ [m]) where
  out := ho
  len := by simp [h.len]
  row i hi hi' := by
    by_cases hlt : i < l.length
    · rw [List.getElem_append_left hlt, List.getElem_append_left (by rw [h.len]; exact hlt)]
      exact own_mark (h.row i hlt (by rw [h.len]; exact hlt)) hg (apart_type (h.row i hlt (by rw [h.len]; exact hlt)) h.out hne.symm)
    · have hi0 := hi
      simp only [List.length_append, List.length_singleton] at hi0
      obtain rfl : i = l.length := by omega
      have hvl := h.len
      rw [List.getElem_append_right (Nat.le_refl _), List.getElem_append_right (by omega)]
      simp only [hvl, Nat.sub_self, List.getElem_cons_zero]
      exact own_mark hx hg (apart_type hx h.out hne.symm)
theorem rows2_mark {α : Type} {b : Nat} {e3 : TypeId} {enc : α → List Value} {sz : Nat} {m : List α} {l : List (List Int)} (h : World.rows2 e1 e w lo u vs l) (hv : w.own b e3 enc sz v m) (n1 : e3 ≠ e1) (n2 : e3 ≠ e) (hg : w.grownBy w' v.ownBlock) : World.rows2 e1 e w' lo u vs l :=
  ⟨own_mark h.out hg (apart_type h.out hv n1.symm), h.len, fun i hi hi' => own_mark (h.row i hi hi') hg (apart_type (h.row i hi hi') hv n2.symm)⟩
/-- Rows of a slice that was there, and a row made since: apart. -/
theorem rows2_apart {l : List (List Int)} {m : List Int} (h : World.rows2 e1 e Y lo v vs l) (hx : w.own Y.heap.size e intC 1 x m) : ∀ y ∈ vs, Apart2 y x := by
  intro y hy
  obtain ⟨i, hi, rfl⟩ := List.getElem_of_mem hy
  exact apart2_new (h.row i (by rw [← h.len]; exact hi) hi) hx
theorem pairwise_snoc {α : Type} {R : α → α → Prop} {l : List α} {x : α} (h : l.Pairwise R) (hx : ∀ y ∈ l, R y x) : (l ++ [x]).Pairwise R := by
  rw [List.pairwise_append]
  exact ⟨h, by simp, fun a ha b hb => by simp only [List.mem_singleton] at hb; subst hb; exact hx a ha⟩
end
theorem psum_bd {α : Type} (f : α → Nat) (l : List α) (b : Nat) (h : ∀ x ∈ l, f x ≤ b) : psum f l l.length ≤ l.length * b := by
  have : ∀ k, k ≤ l.length → psum f l k ≤ k * b := by
    intro k
    induction k with
    | zero => simp [psum_zero]
    | succ k ih =>
      intro hk
      rw [psum_succ f l (by omega), Nat.add_mul, Nat.one_mul]
      have := ih (by omega)
      have := h _ (List.getElem_mem (by omega : k < l.length))
      omega
  exact this _ (Nat.le_refl _)
end Go
namespace Go.Proofs.YtffkkchflohhaaaGreatDoor
open Go.RowKit Go.Ori
theorem info_slc : (Tryz.prog.info? 40).map (fun i => (i.zero, i.size, i.bytes)) = some (some (.slice none 0 0), 1, 24) := by kernel_rfl
end Go.Proofs.YtffkkchflohhaaaGreatDoor
