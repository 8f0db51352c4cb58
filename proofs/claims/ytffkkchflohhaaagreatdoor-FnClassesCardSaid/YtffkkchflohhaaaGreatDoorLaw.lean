/- From a row's reading of the arguments to lists, and from 'it returned true and the world only grew' to the row's post. No condition. -/
import Derived.Test.YtffkkchflohhaaaGreatDoorExt
import Derived.ProofKit
import Derived.OpenShut
import Derived.Deep.Slices
import Derived.Deep.Fields
import Derived.Carry
namespace Go.Ori
open Go.ChangeShapes Go.WideShapes Go.ChangeAt Go.RowKit Go.Deep
open Go.ChangeMaps (open_string)
section
variable {H : Type} {enc : TypeId × Value → H} {P : Program}
theorem trodAll_stays (hl : laidOutB P = true) {W W' : World} {sp : Nat → Bool} : ∀ {ts : List TypeId} {vs : List Value} {ds : List (DataW H)} {ps : List MemPlace},
    ts.all (fun t => P.readableRec t && decide (t < P.types.size)) = true → DataW.TrodAll enc P W 0 (fun _ => true) true ts vs ds ps → (∀ p ∈ ps, W.sameAt W' p) → (∀ p ∈ ps, sp p.block = true) →
    DataW.TrodAll enc P W' 0 sp true ts vs ds ps
  | [], [], [], _, _, h, _, _ => h
  | t :: ts, v :: vs, d :: ds, ps, hr, h, hs, hp => by
    obtain ⟨p, q, h1, h2, rfl⟩ := h
    simp only [List.all_cons, Bool.and_eq_true, decide_eq_true_eq] at hr
    exact ⟨p, q, WideElems.Trod_stays hl hr.1.1 hr.1.2 h1 (fun x hx => hs x (List.mem_append_left _ hx)) (fun x hx => hp x (List.mem_append_left _ hx)),
      trodAll_stays hl hr.2 h2 (fun x hx => hs x (List.mem_append_right _ hx)) (fun x hx => hp x (List.mem_append_right _ hx)), rfl⟩
  | [], [], _ :: _, _, _, h, _, _ => h.elim
  | [], _ :: _, _, _, _, h, _, _ => by cases h
  | _ :: _, [], _, _, _, h, _, _ => by cases h
  | _ :: _, _ :: _, [], _, _, h, _, _ => by cases h
/-- A law's last step: it returned true, and nothing that was there has turned. -/
theorem law_post {f : Func} {s : ChangeSpec} {W W' : World} {args : Array Value} {ds gs : List (DataW H)} {before : List MemPlace} {tb : TypeId}
    (hl : laidOutB P = true) (hr : f.params.toList.all (fun t => P.readableRec t && decide (t < P.types.size)) = true)
    (hW : DataW.Whole enc P f.params.toList s.vars false W args.toList ds gs before) (hg : s.vars = [])
    (hfn : s.fn H (ds ++ gs) = { results := [.lit (.bool true)], args := ds })
    (hres : f.resultTypes = #[tb]) (htb : P.underlying tb = some .bool) (hb : ∃ d, W' = W.ext d) :
    s.post enc P f false true false false W args (.bool true) W' := by
  have hlt : ∀ p ∈ before, p.block < W.heap.size := fun p hp => hW.lt p hp
  obtain ⟨d, rfl⟩ := hb
  have hB := World.below_ext W d
  have hW' := hW
  obtain ⟨p, q, hA, hV, rfl, _, _⟩ := hW
  have hgs : gs = [] ∧ q = [] := by
    rw [hg] at hV
    cases gs with
    | nil => exact ⟨rfl, hV⟩
    | cons x y => exact hV.elim
  obtain ⟨rfl, rfl⟩ := hgs
  simp only [List.append_nil] at hfn hlt hW'
  refine ⟨ds, [], p, [], p, [], hW', ?_, ?_, ?_, ?_, fun h => by cases h⟩
  · rw [List.append_nil, hfn, hres]
    exact trodAll_mk1 (shut_bool htb true)
  · rw [List.append_nil, hfn]
    exact trodAll_stays hl hr hA (fun x hx => hB.same (hlt x hx)) (fun x hx => by simpa using hlt x hx)
  · rw [List.append_nil, hfn, hg]
    exact rfl
  · exact hB.frame _
end
theorem list_of_index {α : Type} {p : Nat → α → Prop} : ∀ {n : Nat}, (∀ i, i < n → ∃ x, p i x) → ∃ l : List α, l.length = n ∧ ∀ k (hk : k < l.length), p k l[k]
  | 0, _ => ⟨[], rfl, fun _ hk => absurd hk (Nat.not_lt_zero _)⟩
  | n + 1, h => by
    obtain ⟨l, hl, hc⟩ := list_of_index (n := n) (fun i hi => h i (by omega))
    obtain ⟨x, hx⟩ := h n (by omega)
    refine ⟨l ++ [x], by simp [hl], fun k hk => ?_⟩
    by_cases hkl : k < l.length
    · rw [List.getElem_append_left hkl]; exact hc k hkl
    · have hkn : k = l.length := by simp at hk; omega
      subst hkn
      simpa [hl] using hx
section
variable {H : Type} {encH : TypeId × Value → H} {P : Program} {w : World}
/-- A slice whose elements are of 'sz' cells each, read. -/
theorem read_slice {α : Type} {enc : α → List Value} {sz : Nat} {Q : α → Prop} {r : Reach} {b0 : Nat} {t e : TypeId} {v : Value} {d : DataW H} {ps : List MemPlace}
    (ht : P.underlying t = some (.slice e)) (hC : P.cellsOf e = sz)
    (hdec : ∀ n cs x, DataW.trod encH P w 0 (fun _ => true) true n e cs = some x → cs.length = sz → ∃ a : α, enc a = cs ∧ Q a)
    (hsz : 0 < sz) (hv : Value.okWide P w r b0 t v) (h : DataW.Trod encH P w 0 (fun _ => true) true t v d ps) :
    ∃ l : List α, w.sl enc sz v l ∧ (∀ x ∈ l, Q x) ∧ l.length ≤ 9223372036854775807 := by
  obtain ⟨a0, len0, cap0, rfl⟩ := okWide_slice ht hv
  obtain ⟨fuel, hf⟩ := h
  rcases open_slice ht hf with ⟨hcs, _⟩ | ⟨a, len, cap, m, n, D, Pl, hcs, _, hle, hmax, hm, _, hi⟩
  · simp only [Value.cells, List.cons.injEq, Value.slice.injEq, and_true] at hcs
    obtain ⟨rfl, rfl, rfl⟩ := hcs
    exact ⟨[], ⟨none, 0, rfl, fun h => absurd h (by simp), by simp⟩, by simp, by simp⟩
  · simp only [Value.cells, List.cons.injEq, Value.slice.injEq, and_true] at hcs
    obtain ⟨rfl, rfl, rfl⟩ := hcs
    simp only [if_true] at hm
    subst hm
    rw [hC] at hi
    have key : ∀ i, i < len0 → ∃ x : α, Q x ∧ ∀ j, j < sz → w.cell? (a.add (i * sz + j)) = (enc x)[j]? := fun i hlt => by
      obtain ⟨cs, h1, h2⟩ := hi i (by omega)
      obtain ⟨_, hlen, hat⟩ := World.cells?_some h1
      obtain ⟨x, hx, hq⟩ := hdec n cs _ h2 hlen
      refine ⟨x, hq, fun j hj => ?_⟩
      rw [← add_add, hat j hj, hx]
    obtain ⟨l, hl, hlc⟩ := list_of_index key
    have hq : ∀ x ∈ l, Q x := fun x hx => by
      obtain ⟨k, hk, rfl⟩ := List.getElem_of_mem hx
      exact (hlc k hk).1
    have hc := fun k hk => (hlc k hk).2
    refine ⟨l, ⟨some a, _, by rw [hl], fun h0 => ?_, by rw [hl]; exact hle⟩, hq, by rw [hl]; unfold maxLen at hmax; omega⟩
    have h00 := hc 0 h0 0 hsz
    by_cases hspot : a.spot = none
    · refine ⟨a.block, a.off, by cases a; simp_all, fun k hk j hj => ?_⟩
      have := hc k hk j hj
      rw [← this]
      congr 1
      cases a
      simp only at hspot
      subst hspot
      rw [Addr.add_lit, Nat.add_assoc]
    · exfalso
      obtain ⟨cs, h1, h2⟩ := hi 0 (by omega)
      obtain ⟨_, hlen, hat⟩ := World.cells?_some h1
      have h3 := hat 0 hsz
      simp only [Nat.zero_mul, Addr.add, if_true] at h3
      have h4 : w.cell? a = none := by
        cases hs : a.spot with
        | none => exact absurd hs hspot
        | some _ =>
          simp only [World.cell?, hs]
          split <;> simp
      rw [h4] at h3
      have := List.getElem?_eq_none_iff.1 h3.symm
      omega
theorem dec_int {e : TypeId} (he : P.underlying e = some (.int .i64)) : ∀ n cs x, DataW.trod encH P w 0 (fun _ => true) true n e cs = some x → cs.length = 1 → ∃ a : Int, [Value.int .i64 a] = cs ∧ (Lit.int .i64 a).wf = true := by
  intro n cs x h _
  obtain ⟨a, hcs, _, hw⟩ := DataW.trod_int he h
  exact ⟨a, hcs.symm, hw⟩
/-- A struct's fields, by cells: what each reads as. -/
theorem dec_struct {e : TypeId} {fs : Array Field} (he : P.underlying e = some (.struct fs)) (hone : oneCellFields P fs = true) {n : Nat} {cs : List Value} {x : DataW H × List MemPlace}
    (h : DataW.trod encH P w 0 (fun _ => true) true n e cs = some x) : ∀ (j : Nat) (f : Field) (c : Value), fs[j]? = some f → cs[j]? = some c → ∃ m y, DataW.trod encH P w 0 (fun _ => true) true m f.type [c] = some y := by
  obtain ⟨ys, m, _, _, hlen, hyl, hf⟩ := DataW.trod_struct he h
  intro j f c hj hc
  obtain ⟨ho, hk⟩ := hone_of hone j f hj
  have h1 := hf j f hj
  rw [ho, hk] at h1
  obtain ⟨hjl, rfl⟩ := List.getElem?_eq_some_iff.1 hc
  rw [List.drop_eq_getElem_cons hjl] at h1
  have hjy : j < ys.length := by rw [hyl]; exact (Array.getElem?_eq_some_iff.1 hj).1
  rw [List.getElem?_eq_getElem hjy] at h1
  exact ⟨m, _, h1⟩
/-- A struct by value: its cells. -/
theorem open_struct {r : Reach} {b0 : Nat} {t : TypeId} {fs : Array Field} {v : Value} {d : DataW H} {ps : List MemPlace} (ht : P.underlying t = some (.struct fs)) (hv : Value.okWide P w r b0 t v)
    (h : DataW.Trod encH P w 0 (fun _ => true) true t v d ps) : ∃ cs : List Value, v = .agg cs.toArray ∧ cs.length = P.cellsOf t ∧ ∃ n x, DataW.trod encH P w 0 (fun _ => true) true n t cs = some x := by
  obtain ⟨cs, rfl, hsz⟩ := okWide_struct ht hv
  obtain ⟨n, hn⟩ := h
  exact ⟨cs.toList, by simp, by simpa using hsz, n, _, by simpa [Value.cells] using hn⟩
end
end Go.Ori
