/- Texts laid together: A new reader of choices; four results that lie in temps. Condition: at most 1048576 bytes.; append to a slice of the call's own: the result lies where the slice lay, or in a new block. No condition.; Slices of ints of the call's own: an element, its address, a store. No condition. -/
import Derived.Test.YtmcimgnobimicaaGreatG3
import Derived.Test.YtmcimgnobimicaaGreatG2
/- A new reader of choices; four results that lie in temps. Condition: at most 1048576 bytes. -/
namespace Go
open RowKit Go.Ori
theorem results_tmp4 {fn : Func} {t u v x : Tmp} (h : fn.results = #[.tmp t, .tmp u, .tmp v, .tmp x]) (tmps : Array Value) (P : Program) (w : World) :
    (results fn tmps).run P w = .ok (.tuple #[tmps.getD t undef, tmps.getD u undef, tmps.getD v undef, tmps.getD x undef]) w := by
  simp [results, h]
theorem cur_new {w : World} {e : TypeId} {p : Option Addr} {c : Nat} {L : List Int} (h : w.sl byteC 1 (.slice p L.length c) L) (hq : ∀ x ∈ L, 0 ≤ x ∧ x ≤ 255) (hl : L.length ≤ 1048576) :
    Cur e w (w.alloc (.cells #[.slice p L.length c, .int .i64 0, .int .u64 0] e)) w.heap.size 0 :=
  ⟨gain_alloc (World.gained_refl _) _, Nat.le_refl _, p, c, L, 0, 0, heap_alloc_new w _, h, hq, hl, Nat.le_refl _⟩
end Go
/- append to a slice of the call's own: the result lies where the slice lay, or in a new block. No condition. -/
namespace Go
open RowKit
theorem run_append_where {P : Program} {w : World} (base : Nat) (t ty e : TypeId) (i : TypeInfo) (z : Value) (size bytes : Nat) (ht : P.underlying t = some (.slice e)) (hi : P.info? e = some i) (hz : i.zero = some z)
    (hsize : i.size = size) (hby : i.bytes = bytes)
    (v : Value) (n : Nat) (xs : List Value) (hown : w.ownsRow base e size v n xs)
    (a : Addr) (m c : Nat) (news : List Value) (hl : news.length = m * size) (hnews : ∀ j u, news[j]? = some u → w.cell? (a.add j) = some u) (h1 : ∀ u ∈ news, u.oneCell' = true)
    (h63 : n + m ≤ maxLen) (hbytes : (n + m) * bytes ≤ 140737488355328) (hm : 0 < m) {v' : Value} {w' : World} (hr : (Builtin.append_ #[t, t] ty #[v, .slice (some a) m c]).run P w = .ok v' w') :
    v'.ownBlock = v.ownBlock ∨ v'.ownBlock = some w.heap.size := by
  subst hsize
  subst hby
  have hsmall : n + m ≤ 9223372036854775807 := by simp only [maxLen] at h63; omega
  rcases hown.2 with ⟨rfl, rfl⟩ | ⟨g, cap, cur, rfl, hbg, hg, hnc, hcm, hcs, htake⟩
  · have h := run_append_nil (P := P) w t ty e i z ht hi hz a m c news hl hnews hm (by omega) (by have hb := hbytes; simp only [Nat.zero_add] at hb; omega)
    rw [h] at hr
    injection hr with hv hw
    subst hv
    exact .inr rfl
  · by_cases hroom : n + m ≤ cap
    · have hfit : n * i.size + news.length ≤ cur.size := by rw [hl, hcs, ← Nat.add_mul]; exact Nat.mul_le_mul_right _ hroom
      have h := run_append_room (P := P) w t ty e i ht hi g n cap cur hg a m c news hl hnews h1 hroom hfit
      rw [h] at hr
      injection hr with hv hw
      subst hv
      exact .inl rfl
    · have holds : ∀ j u, xs[j]? = some u → w.cell? ((⟨g, 0, none⟩ : Addr).add j) = some u := hown.cells (g := g) rfl
      have h := run_append_grow (P := P) w t ty e i z ht hi hz ⟨g, 0, none⟩ n cap xs hown.1 holds a m c news hl hnews (by omega) (by omega) (growslice_fits (by omega) hbytes)
      rw [h] at hr
      injection hr with hv hw
      subst hv
      exact .inr rfl
/-- append(s, xs...), s the call's own, xs not empty: as a law of the walk; where the result lies. -/
theorem wpList_append_where {P : Program} {ops : Array Oper} {rest : List Oper} {o : Oper} {a : Act} {Q : Exit → Act → World → Prop} {α : Type} {enc : α → List Value} {sz by_ : Nat} {t e : TypeId} {z : Value}
    (hgd : o.guard = none) (s x : Operand) (ho : o.op = .call { callee := .builtin .append, args := #[s, x], argTypes := #[t, t] })
    (ht : P.underlying t = some (.slice e)) (hi : (P.info? e).map (fun i => (i.zero, i.size, i.bytes)) = some (some z, sz, by_))
    (hz : z.cells.size = sz) (h0 : 0 < sz) (hlen : ∀ x, (enc x).length = sz) (hone : ∀ x, ∀ c ∈ enc x, c.oneCell' = true) (hby : by_ ≤ 4096)
    {W w : World} (hW : ∃ d, w = W.ext d) {base : Nat} (hB : W.heap.size ≤ base) (hbase : base ≤ w.heap.size) {v u : Value} {l m : List α} (hs : a.eval s = v) (hx : a.eval x = u)
    (hown : w.own base e enc sz v l) (hu : w.sl enc sz u m) (hm : 0 < m.length) (hn : l.length + m.length ≤ 2097152)
    (h : ∀ v' d, (W.ext d).own base e enc sz v' (l ++ m) → w.grownBy (W.ext d) v.ownBlock → (v'.ownBlock = v.ownBlock ∨ v'.ownBlock = some w.heap.size) → wpList P ops Q rest (a.put o.dst v') (W.ext d)) : wpList P ops Q (o :: rest) a w := by
  obtain ⟨v', d, hr, h2, h3⟩ := run_append_gain (P := P) o.type ht hi hz h0 hlen hone hby hW hB hbase hown hu hn
  have hwh : v'.ownBlock = v.ownBlock ∨ v'.ownBlock = some w.heap.size := by
    obtain ⟨i, i1, i2, i3, i4⟩ := info_parts hi
    obtain ⟨p, c, rfl, hp, hcap⟩ := hu
    obtain ⟨b, o', rfl, hc⟩ := hp hm
    have h5 : (l.length + m.length) * by_ ≤ 2097152 * 4096 := Nat.mul_le_mul hn hby
    refine run_append_where base t o.type e i z sz by_ ht i1 i2 i3 i4 v _ _ hown ⟨b, o', none⟩ m.length c (m.flatMap enc) (flat_length hlen m) (fun j x hj => ?_) (fun x hx => by
        obtain ⟨y, _, hy⟩ := List.mem_flatMap.1 hx
        exact hone y x hy) (by unfold maxLen; omega) (by omega) hm hr
    have hlt := (List.getElem?_eq_some_iff.1 hj).1
    rw [flat_length hlen] at hlt
    have hk : j / sz < m.length := Nat.div_lt_of_lt_mul (by rw [Nat.mul_comm]; exact hlt)
    have h6 := hc (j / sz) hk (j % sz) (Nat.mod_lt _ h0)
    rw [← flat_get hlen m (j / sz) hk (j % sz) (Nat.mod_lt _ h0)] at h6
    have e1 : j / sz * sz + j % sz = j := by rw [Nat.mul_comm]; exact Nat.div_add_mod j sz
    rw [Nat.add_assoc, e1, hj] at h6
    rw [Addr.add_lit]
    exact h6
  refine wpList_plain hgd fun K hK => ?_
  unfold Oper.wp execOp
  simp only [ho, resolve, invoke, builtin, Sem.run_bind, Sem.run_pure, Result.andThen_ok, List.map_toArray, List.map_cons, List.map_nil, hs, hx, hr]
  exact hK _ _ (h v' d h2 h3 hwh)
end Go
/- Slices of ints of the call's own: an element, its address, a store. No condition. -/
namespace Go
open RowKit Go.Ori
theorem own_at {w : World} {base g n cap : Nat} {e : TypeId} {l : List Int} (h : w.own base e intC 1 (.slice (some ⟨g, 0, none⟩) n cap) l) {k : Nat} (hk : k < l.length) :
    w.cell? ⟨g, k, none⟩ = some (.int .i64 (l.getD k 0)) ∧ w.frozen? ⟨g, k, none⟩ = false := by
  have hc := sl_int (sl_of_own intC_length h) hk
  rw [Nat.zero_add] at hc
  refine ⟨by rw [hc]; simp [List.getD_eq_getElem?_getD, List.getElem?_eq_getElem hk], ?_⟩
  obtain ⟨_, ⟨hv, _⟩ | ⟨g', cap', cur, hv, hb, hh, hle, hcap, hs, ht⟩⟩ := h
  · cases hv
  · simp only [Value.slice.injEq, Option.some.injEq, Addr.mk.injEq, and_true] at hv
    obtain ⟨rfl, rfl, rfl⟩ := hv
    exact World.free_of_heap hh k
theorem own_set {w : World} {base g n cap : Nat} {e : TypeId} {l : List Int} (h : w.own base e intC 1 (.slice (some ⟨g, 0, none⟩) n cap) l) {k : Nat} (hk : k < l.length) (x : Int) : (w.setCell ⟨g, k, none⟩ (.int .i64 x)).own base e intC 1 (.slice (some ⟨g, 0, none⟩) n cap) (l.set k x) := by
  have := own_put intC_length h hk x
  rw [Nat.mul_one] at this
  exact this
theorem own_addr {α : Type} {w : World} {base : Nat} {e : TypeId} {enc : α → List Value} {sz : Nat} {v : Value} {l : List α} (h : w.own base e enc sz v l) (h0 : 0 < l.length) : ∃ g cap, v = .slice (some ⟨g, 0, none⟩) l.length cap ∧ base ≤ g ∧ g < w.heap.size := by
  obtain ⟨_, ⟨_, hn⟩ | ⟨g, cap, cur, hv, hg, hh, hle, _⟩⟩ := h
  · omega
  · exact ⟨g, cap, hv, hg, World.oldB_of_heap hh⟩
theorem own_off {α : Type} {w : World} {enc : α → List Value} {sz base : Nat} {e : TypeId} {v : Value} {l : List α} (h : w.own base e enc sz v l) {p : Addr} (hp : p.block < base) (u : Value) : (w.setCell p u).own base e enc sz v l := by
  obtain ⟨h1, h2 | ⟨g, cap, cur, hv, hb, hg, h3⟩⟩ := h
  · exact ⟨h1, .inl h2⟩
  · exact ⟨h1, .inr ⟨g, cap, cur, hv, hb, (World.heap_setCell_far u (by omega)).trans hg, h3⟩⟩
end Go
