/- append in a region that draws: where the result lies. No condition. -/
import Derived.Test.YtnpfghpjlbjpnaaAppWhere
import Derived.Test.YtnpfghpjlbjpnaaCut
namespace Go
open RowKit
theorem run_append_where0 {P : Program} {w : World} (base : Nat) (t ty e : TypeId) (i : TypeInfo) (size : Nat) (ht : P.underlying t = some (.slice e)) (hi : P.info? e = some i)
    (hsize : i.size = size) (v : Value) (n : Nat) (xs : List Value) (hown : w.ownsRow base e size v n xs) (p : Option Addr) (c : Nat) {v' : Value} {w' : World} (hr : (Builtin.append_ #[t, t] ty #[v, .slice p 0 c]).run P w = .ok v' w') :
    v'.ownBlock = v.ownBlock := by
  subst hsize
  cases p with
  | none =>
    rw [run_append_none t ty e i i.size ht hi v n xs hown c] at hr
    injection hr with hv
    rw [hv]
  | some a =>
    rcases hown.2 with ⟨rfl, rfl⟩ | ⟨g, cap, cur, rfl, hbg, hg, hnc, hcm, hcs, htake⟩
    · have h0 : (loadCells a 0).run P w = .ok #[] w := run_loadCells_list (P := P) w a [] (by simp)
      simp [Builtin.append_, run_underlying ht, sizeOf, typeInfo, hi, Builtin.lenOf, Builtin.firstCells, h0] at hr
      rw [← hr.1]
    · have hfit : n * i.size + ([] : List Value).length ≤ cur.size := by rw [hcs]; simpa using Nat.mul_le_mul_right _ hnc
      have h := run_append_room (P := P) w t ty e i ht hi g n cap cur hg a 0 c [] (by simp) (by simp) (by simp) (by omega) hfit
      rw [h] at hr
      injection hr with hv hw
      subst hv
      rfl
theorem step_append_where {P : Program} {ops : Array Oper} {o : Oper} {a : Act} {K : Act → World → Prop} {Q : Exit → Act → World → Prop} {E : Prop} {α : Type} {enc : α → List Value} {sz by_ : Nat} {t e : TypeId} {z : Value}
    (hgd : o.guard = none) (s x : Operand) (ho : o.op = .call { callee := .builtin .append, args := #[s, x], argTypes := #[t, t] })
    (ht : P.underlying t = some (.slice e)) (hi : (P.info? e).map (fun i => (i.zero, i.size, i.bytes)) = some (some z, sz, by_))
    (hz : z.cells.size = sz) (h0 : 0 < sz) (hlen : ∀ x, (enc x).length = sz) (hone : ∀ x, ∀ c ∈ enc x, c.oneCell' = true) (hby : by_ ≤ 4096)
    {W w : World} (hW : ∃ d, w = W.ext d) {base : Nat} (hB : W.heap.size ≤ base) (hbase : base ≤ w.heap.size) {v u : Value} {l m : List α} (hs : a.eval s = v) (hx : a.eval x = u)
    (hown : w.own base e enc sz v l) (hu : w.sl enc sz u m) (hn : l.length + m.length ≤ 2097152)
    (h : ∀ v' d, (W.ext d).own base e enc sz v' (l ++ m) → w.grownBy (W.ext d) v.ownBlock → (v'.ownBlock = v.ownBlock ∨ v'.ownBlock = some w.heap.size) → K (a.put o.dst v') (W.ext d)) :
    if Region.wanted o (yielded ops a.tmps) = true then Oper.wp P o a w K Q else E := by
  have hw : Region.wanted o (yielded ops a.tmps) = true := by simp [Region.wanted, hgd]
  rw [if_pos hw]
  obtain ⟨v', d, hr, h2, h3⟩ := run_append_gain (P := P) o.type ht hi hz h0 hlen hone hby hW hB hbase hown hu hn
  have hwh : v'.ownBlock = v.ownBlock ∨ v'.ownBlock = some w.heap.size := by
    obtain ⟨i, i1, i2, i3, i4⟩ := info_parts hi
    obtain ⟨p, c, rfl, hp, hcap⟩ := hu
    by_cases hm : 0 < m.length
    · obtain ⟨b, o', rfl, hc⟩ := hp hm
      have h5 : (l.length + m.length) * by_ ≤ 2097152 * 4096 := Nat.mul_le_mul hn hby
      refine run_append_where base t o.type e i z sz by_ ht i1 i2 i3 i4 v _ _ hown ⟨b, o', none⟩ m.length c (m.flatMap enc) (flat_length hlen m) (fun j x hj => ?_) (fun x hx => by
          obtain ⟨y, _, hy⟩ := List.mem_flatMap.1 hx
          exact hone y x hy) (by unfold maxLen; omega) (by omega) hm hr
      have hlt := (List.getElem?_eq_some_iff.1 hj).1
      rw [flat_length hlen] at hlt
      have hk : j / sz < m.length := Nat.div_lt_of_lt_mul (by rw [Nat.mul_comm]; exact hlt)
      have h6 := hc (j / sz) hk (j % sz) (Nat.mod_lt _ h0)
      rw [← flat_get hlen m (j / sz) hk (j % sz) (Nat.mod_lt _ h0)] at h6
      have e1 : j / sz * sz + j % sz = j := by rw [Nat.mul_comm]; exact Nat.div_add_mod j sz
      rw [Nat.add_assoc, e1, hj] at h6
      rw [Addr.add_lit]
      exact h6
    · have hm0 : m.length = 0 := by omega
      rw [hm0] at hr
      exact .inl (run_append_where0 base t o.type e i sz ht i1 i3 v _ _ hown p c hr)
  unfold Oper.wp execOp
  simp only [ho, resolve, invoke, builtin, Sem.run_bind, Sem.run_pure, Result.andThen_ok, List.map_toArray, List.map_cons, List.map_nil, hs, hx, hr]
  exact h v' d h2 h3 hwh
end Go
