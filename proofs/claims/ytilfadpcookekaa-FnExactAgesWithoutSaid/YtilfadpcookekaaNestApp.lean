/- Appends of one slice to a slice of slices of the call's own; rows that grow. No condition. -/
import Derived.Test.YtilfadpcookekaaNestD3
namespace Go
open RowKit Go.Ori
/-- append(s, x) where s is the call's own and x is one value of one cell: the operation's run. -/
theorem run_append_val {P : Program} {by_ : Nat} {t e : TypeId} {z : Value} (ty : TypeId) (ht : P.underlying t = some (.slice e)) (hi : (P.info? e).map (fun i => (i.zero, i.size, i.bytes)) = some (some z, 1, by_))
    (hz : z.cells.size = 1) (hby : by_ ≤ 4096) {W w : World} (hW : ∃ d, w = W.ext d) {base : Nat} (hB : W.heap.size ≤ base) (hbase : base ≤ w.heap.size) {v x : Value} {vs : List Value} {a : Addr} {c : Nat}
    (hone : x.oneCell' = true) (hown : w.own base e valC 1 v vs) (hx : w.cell? a = some x) (hn : vs.length + 1 ≤ 2097152) :
    ∃ v' d, (Builtin.append_ #[t, t] ty #[v, .slice (some a) 1 c]).run P w = .ok v' (W.ext d) ∧ (W.ext d).own base e valC 1 v' (vs ++ [x]) ∧ w.grownBy (W.ext d) v.ownBlock := by
  obtain ⟨i, h1, h2, h3, h4⟩ := info_parts hi
  have h5 : (vs.length + 1) * by_ ≤ 2097152 * 4096 := Nat.mul_le_mul hn hby
  obtain ⟨v', w', hr, ho, hg, _⟩ := run_append_own (P := P) w base t ty e i z 1 by_ ht h1 h2 h3 h4 hz (by omega) v _ _ hown a 1 c [x] rfl (fun j u hj => by
      match j, hj with
      | 0, hj =>
        simp only [List.getElem?_cons_zero, Option.some.injEq] at hj
        subst hj
        rw [show a.add 0 = a from rfl]
        exact hx
      | j + 1, hj => simp at hj)
    (fun u hu => by simp only [List.mem_singleton] at hu; subst hu; exact hone) (by unfold maxLen; omega) (by omega) hbase
  obtain ⟨d, rfl⟩ := gain_grown hW hg (fun b hb => Nat.le_trans hB (own_lt hown b hb).1)
  refine ⟨v', d, hr, ?_, hg⟩
  unfold World.own
  rw [List.length_append, List.flatMap_append]
  exact ho
theorem wpList_append_val {P : Program} {ops : Array Oper} {rest : List Oper} {o : Oper} {act : Act} {Q : Exit → Act → World → Prop} {by_ : Nat} {t e : TypeId} {z : Value}
    (hgd : o.guard = none) (s y : Operand) (ho : o.op = .call { callee := .builtin .append, args := #[s, y], argTypes := #[t, t] })
    (ht : P.underlying t = some (.slice e)) (hi : (P.info? e).map (fun i => (i.zero, i.size, i.bytes)) = some (some z, 1, by_)) (hz : z.cells.size = 1) (hby : by_ ≤ 4096)
    {W w : World} (hW : ∃ d, w = W.ext d) {base : Nat} (hB : W.heap.size ≤ base) (hbase : base ≤ w.heap.size) {v x : Value} {vs : List Value} {a : Addr} {c : Nat}
    (hs : act.eval s = v) (hy : act.eval y = .slice (some a) 1 c) (hone : x.oneCell' = true) (hown : w.own base e valC 1 v vs) (hx : w.cell? a = some x) (hn : vs.length + 1 ≤ 2097152)
    (h : ∀ v' d, (W.ext d).own base e valC 1 v' (vs ++ [x]) → w.grownBy (W.ext d) v.ownBlock → wpList P ops Q rest (act.put o.dst v') (W.ext d)) : wpList P ops Q (o :: rest) act w := by
  obtain ⟨v', d, hr, h2, h3⟩ := run_append_val (P := P) o.type ht hi hz hby hW hB hbase hone hown hx hn
  generalize Value.slice (some a) 1 c = u at hy hr
  refine wpList_plain hgd fun K hK => ?_
  unfold Oper.wp execOp
  simp only [ho, resolve, invoke, builtin, Sem.run_bind, Sem.run_pure, Result.andThen_ok, List.map_toArray, List.map_cons, List.map_nil, hs, hy, hr]
  exact hK _ _ (h v' d h2 h3)
theorem cell_lit {w : World} {x : Value} {e : TypeId} {g : Nat} (hg : g = w.heap.size) : (w.alloc (.cells #[x] e)).cell? ⟨g, 0, none⟩ = some x := by
  subst hg
  rw [World.cell?_alloc_new]
  rfl
section
variable {e2 e1 e : TypeId} {w w' Y : World} {lo : Nat} {v v' u x : Value} {vs us xs : List Value} {vss : List (List Value)}
theorem rows2_nil (h : w.own lo e1 valC 1 v []) : World.rows2 e1 e w lo v [] [] := ⟨h, rfl, fun i hi _ => absurd hi (by simp)⟩
theorem rows3_nil (h : w.own lo e2 valC 1 v []) : World.rows3 e2 e1 e w lo v [] [] [] := ⟨h, rfl, rfl, fun i hi _ _ => absurd hi (by simp), by simp, by simp⟩
theorem rows2_base {l : List (List Int)} {b : Nat} (h : World.rows2 e1 e w b v vs l) (hb : lo ≤ b) : World.rows2 e1 e w lo v vs l := ⟨own_base h.out hb, h.len, fun i hi hi' => own_base (h.row i hi hi') hb⟩
theorem rows2_snoc {l : List (List Int)} {m : List Int} (h : World.rows2 e1 e w lo v vs l) (hx : w.own lo e intC 1 x m) (hne : e1 ≠ e) (ho : w'.own lo e1 valC 1 v' (vs ++ [x])) (hg : w.grownBy w' v.ownBlock) :
    World.rows2 e1 e w' lo v' (vs ++ [x]) (l ++ [m]) where
  out := ho
  len := by simp [h.len]
  row i hi hi' := by
    by_cases hlt : i < l.length
    · rw [List.getElem_append_left hlt, List.getElem_append_left (by rw [h.len]; exact hlt)]
      exact own_mark (h.row i hlt (by rw [h.len]; exact hlt)) hg (apart_type (h.row i hlt (by rw [h.len]; exact hlt)) h.out hne.symm)
    · have hi0 := hi
      simp only [List.length_append, List.length_singleton] at hi0
      obtain rfl : i = l.length := by omega
      have hvl := h.len
      rw [List.getElem_append_right (Nat.le_refl _), List.getElem_append_right (by omega)]
      simp only [hvl, Nat.sub_self, List.getElem_cons_zero]
      exact own_mark hx hg (apart_type hx h.out hne.symm)
theorem rows2_mark {α : Type} {b : Nat} {e3 : TypeId} {enc : α → List Value} {sz : Nat} {m : List α} {l : List (List Int)} (h : World.rows2 e1 e w lo u vs l) (hv : w.own b e3 enc sz v m) (n1 : e3 ≠ e1) (n2 : e3 ≠ e) (hg : w.grownBy w' v.ownBlock) : World.rows2 e1 e w' lo u vs l :=
  ⟨own_mark h.out hg (apart_type h.out hv n1.symm), h.len, fun i hi hi' => own_mark (h.row i hi hi') hg (apart_type (h.row i hi hi') hv n2.symm)⟩
theorem rows3_snoc {l : List (List (List Int))} {m : List (List Int)} (h : World.rows3 e2 e1 e w lo v us vss l) (hr : World.rows2 e1 e w lo x xs m) (n1 : e2 ≠ e1) (n2 : e2 ≠ e) (ho : w'.own lo e2 valC 1 v' (us ++ [x]))
    (hg : w.grownBy w' v.ownBlock) (hp : xs.Pairwise Apart2) (hap : ∀ ys ∈ vss, ∀ y ∈ ys, ∀ z ∈ xs, Apart2 y z) : World.rows3 e2 e1 e w' lo v' (us ++ [x]) (vss ++ [xs]) (l ++ [m]) where
  out := ho
  len := by simp [h.len]
  len2 := by simp [h.len2]
  row i hi h1 h2 := by
    by_cases hlt : i < l.length
    · rw [List.getElem_append_left hlt, List.getElem_append_left (by rw [h.len]; exact hlt), List.getElem_append_left (by rw [h.len2]; exact hlt)]
      exact rows2_mark (h.row i hlt (by rw [h.len]; exact hlt) (by rw [h.len2]; exact hlt)) h.out n1 n2 hg
    · have hi0 := hi
      simp only [List.length_append, List.length_singleton] at hi0
      obtain rfl : i = l.length := by omega
      have hvl := h.len
      have hvl2 := h.len2
      rw [List.getElem_append_right (Nat.le_refl _), List.getElem_append_right (by omega), List.getElem_append_right (by omega)]
      simp only [hvl, hvl2, Nat.sub_self, List.getElem_cons_zero]
      exact rows2_mark hr h.out n1 n2 hg
  ap1 := by
    intro y hy
    rcases List.mem_append.1 hy with hy | hy
    · exact h.ap1 y hy
    · simp only [List.mem_singleton] at hy; subst hy; exact hp
  ap2 := by
    rw [List.pairwise_append]
    refine ⟨h.ap2, by simp, fun a ha b hb => ?_⟩
    simp only [List.mem_singleton] at hb
    subst hb
    exact hap a ha
/-- Rows of a slice that was there, and a row made since: apart. -/
theorem rows2_apart {l : List (List Int)} {m : List Int} (h : World.rows2 e1 e Y lo v vs l) (hx : w.own Y.heap.size e intC 1 x m) : ∀ y ∈ vs, Apart2 y x := by
  intro y hy
  obtain ⟨i, hi, rfl⟩ := List.getElem_of_mem hy
  exact apart2_new (h.row i (by rw [← h.len]; exact hi) hi) hx
theorem rows3_apart {l : List (List (List Int))} {m : List (List Int)} (h : World.rows3 e2 e1 e Y lo v us vss l) (hx : World.rows2 e1 e w Y.heap.size x xs m) : ∀ ys ∈ vss, ∀ y ∈ ys, ∀ z ∈ xs, Apart2 y z := by
  intro ys hys y hy z hz
  obtain ⟨i, hi, rfl⟩ := List.getElem_of_mem hys
  obtain ⟨k, hk, rfl⟩ := List.getElem_of_mem hz
  have hr := h.row i (by rw [← h.len2]; exact hi) (by rw [h.len, ← h.len2]; exact hi) hi
  obtain ⟨j, hj, rfl⟩ := List.getElem_of_mem hy
  exact apart2_new (hr.row j (by rw [← hr.len]; exact hj) hj) (hx.row k (by rw [← hx.len]; exact hk) hk)
theorem pairwise_snoc {α : Type} {R : α → α → Prop} {l : List α} {x : α} (h : l.Pairwise R) (hx : ∀ y ∈ l, R y x) : (l ++ [x]).Pairwise R := by
  rw [List.pairwise_append]
  exact ⟨h, by simp, fun a ha b hb => by simp only [List.mem_singleton] at hb; subst hb; exact hx a ha⟩
end
theorem psum_bd {α : Type} (f : α → Nat) (l : List α) (b : Nat) (h : ∀ x ∈ l, f x ≤ b) : psum f l l.length ≤ l.length * b := by
  have : ∀ k, k ≤ l.length → psum f l k ≤ k * b := by
    intro k
    induction k with
    | zero => simp [psum_zero]
    | succ k ih =>
      intro hk
      rw [psum_succ f l (by omega), Nat.add_mul, Nat.one_mul]
      have := ih (by omega)
      have := h _ (List.getElem_mem (by omega : k < l.length))
      omega
  exact this _ (Nat.le_refl _)
end Go
namespace Go.Proofs.Ytilfadpcookekaa
open Go.RowKit Go.Ori
theorem info_slc : (Try.prog.info? 34).map (fun i => (i.zero, i.size, i.bytes)) = some (some (.slice none 0 0), 1, 24) := by kernel_rfl
end Go.Proofs.Ytilfadpcookekaa
