/- Two rows of a slice of slices of slices change places; a copy of such a slice. No condition. -/
import Derived.Test.YtlofdpbdnkcnkaaNestApp
import Derived.Test.YtlofdpbdnkcnkaaPlanB
namespace Go.Ori
def swapB (l : List (List (List Int))) (legs forks team a b : Int) : Bool := planB l legs forks && insB team 0 ((l.length : Int) - 1) && insB a 0 (legs - 1) && insB b 0 (legs - 1)
def swap2 (r : List (List Int)) (a b : Nat) : List (List Int) := (r.set a (r.getD b [])).set b (r.getD a [])
def swapL (l : List (List (List Int))) (legs forks team a b : Int) : List (List (List Int)) := if swapB l legs forks team a b then l.set team.toNat (swap2 (l.getD team.toNat []) a.toNat b.toNat) else []
theorem swap_no {l : List (List (List Int))} {legs forks team a b : Int} (h : swapB l legs forks team a b = false) : swapL l legs forks team a b = [] ∧ swapB l legs forks team a b = false := by simp [swapL, h]
theorem swap2_length (r : List (List Int)) (a b : Nat) : (swap2 r a b).length = r.length := by simp [swap2]
structure Swap (l : List (List (List Int))) (L F T A B : Nat) : Prop where
  l1 : 1 ≤ L
  l4 : L ≤ 4
  f4 : F ≤ 4
  n1 : 1 ≤ l.length
  n6 : l.length ≤ 6
  t : T < l.length
  a : A < L
  b : B < L
  rows : ∀ (t : Nat) (ht : t < l.length), l[t].length = L ∧ ∀ (q : Nat) (hq : q < l[t].length), l[t][q].length = F
theorem swapB_true {l : List (List (List Int))} {legs forks team a b : Int} (h : swapB l legs forks team a b = true) : ∃ L F T A B : Nat, legs = L ∧ forks = F ∧ team = T ∧ a = A ∧ b = B ∧ Swap l L F T A B := by
  simp only [swapB, Bool.and_eq_true, insB_true] at h
  obtain ⟨⟨⟨h1, h2⟩, h3⟩, h4⟩ := h
  obtain ⟨L, F, rfl, rfl, a1, a2, a3, a4, a5, hall⟩ := planB_true h1
  exact ⟨L, F, team.toNat, a.toNat, b.toNat, rfl, rfl, by omega, by omega, by omega, a1, a2, a3, a4, a5, by omega, by omega, by omega, fun t ht => ⟨(hall t ht).1, fun q hq => ((hall t ht).2 q hq).1⟩⟩
theorem swapL_yes {l : List (List (List Int))} {L F T A B : Nat} (h : swapB l L F T A B = true) : swapL l L F T A B = l.set T (swap2 (l.getD T []) A B) ∧ swapB l L F T A B = true := by
  refine ⟨?_, h⟩
  rw [swapL, if_pos h]
  simp only [Int.toNat_natCast]
end Go.Ori
namespace Go
open RowKit Go.Ori
/-- .. and the slices of rows lie apart as well. -/
def World.rows3u (e2 e1 e : TypeId) (w : World) (lo : Nat) (v : Value) (us : List Value) (vss : List (List Value)) (l : List (List (List Int))) : Prop :=
  World.rows3 e2 e1 e w lo v us vss l ∧ us.Pairwise Apart2
section
variable {e2 e1 e : TypeId} {w w' : World} {lo : Nat} {v u x : Value} {vs us xs : List Value} {vss : List (List Value)}
/-- The block of a slice of rows is written: what another value owns stays. -/
theorem own_far1 {α : Type} {enc : α → List Value} {sz : Nat} {l : List α} {g : Nat} (h : w.own lo e enc sz x l) (hx : x.ownBlock ≠ some g) (hg : w.grownBy w' (some g)) : w'.own lo e enc sz x l := by
  refine own_mark (v := .slice (some ⟨g, 0, none⟩) 0 0) h hg ?_
  intro b hb hb2
  apply hx
  rw [hb]
  exact hb2.symm
theorem own_set1 {α : Type} {enc : α → List Value} {sz : Nat} {l : List α} {p : Addr} {y : Value} (h : w.own lo e enc sz x l) (hx : x.ownBlock ≠ some p.block) : (w.setCell p y).own lo e enc sz x l :=
  own_far1 h hx (only_setCell (only_refl w _) rfl y)
theorem apart2_at {α β : Type} {e' : TypeId} {enc : α → List Value} {enc' : β → List Value} {sz sz' lo' : Nat} {l : List α} {m : List β} {g n c : Nat} (h : w.own lo e enc sz x l) (ho : w.own lo' e' enc' sz' (.slice (some ⟨g, 0, none⟩) n c) m) (hne : e ≠ e') : x.ownBlock ≠ some g := fun hb => apart_type h ho hne g hb rfl
theorem own_val_set {g n cap : Nat} {l : List Value} (h : w.own lo e valC 1 (.slice (some ⟨g, 0, none⟩) n cap) l) {i : Nat} (hi : i < l.length) (y : Value) : (w.setCell ⟨g, i, none⟩ y).own lo e valC 1 (.slice (some ⟨g, 0, none⟩) n cap) (l.set i y) := by
  have := own_put valC_length h hi y
  rw [Nat.mul_one] at this
  exact this
/-- A slice of rows of which one is another one. -/
theorem rows2_set {l : List (List Int)} {m : List Int} {g n cap : Nat} (h : World.rows2 e1 e w lo (.slice (some ⟨g, 0, none⟩) n cap) vs l) (hne : e1 ≠ e) {i : Nat} (hi : i < l.length) (hx : w.own lo e intC 1 x m) :
    World.rows2 e1 e (w.setCell ⟨g, i, none⟩ x) lo (.slice (some ⟨g, 0, none⟩) n cap) (vs.set i x) (l.set i m) where
  out := own_val_set h.out (by rw [h.len]; exact hi) x
  len := by simp [h.len]
  row j hj hj' := by
    have hj0 : j < l.length := by simpa using hj
    rw [List.getElem_set, List.getElem_set]
    by_cases e0 : i = j
    · rw [if_pos e0, if_pos e0]
      exact own_set1 hx (apart2_at hx h.out hne.symm)
    · rw [if_neg e0, if_neg e0]
      have := h.row j hj0 (by rw [h.len]; exact hj0)
      exact own_set1 this (apart2_at this h.out hne.symm)
theorem rows2_far1 {l : List (List Int)} {g : Nat} (h : World.rows2 e1 e w lo u vs l) (hu : u.ownBlock ≠ some g) (hv : ∀ z ∈ vs, z.ownBlock ≠ some g) (hg : w.grownBy w' (some g)) : World.rows2 e1 e w' lo u vs l :=
  ⟨own_far1 h.out hu hg, h.len, fun i hi hi' => own_far1 (h.row i hi hi') (hv _ (List.getElem_mem hi')) hg⟩
/-- One slice of rows is another one: what was written lies in its block alone. -/
theorem rows3_put {l : List (List (List Int))} {m : List (List Int)} {T g n cap : Nat} (h : World.rows3u e2 e1 e w lo v us vss l) (n1 : e2 ≠ e1) (n2 : e1 ≠ e) (hT : T < l.length) (hTu : T < us.length) (hT2 : T < vss.length)
    (hu : us[T] = .slice (some ⟨g, 0, none⟩) n cap) (hg : w.grownBy w' (some g))
    (hr : World.rows2 e1 e w' lo (.slice (some ⟨g, 0, none⟩) n cap) xs m) (hxp : xs.Pairwise Apart2) (hxa : ∀ (j : Nat) (hj : j < vss.length), j ≠ T → ∀ a ∈ vss[j], ∀ b ∈ xs, Apart2 a b) :
    World.rows3u e2 e1 e w' lo v us (vss.set T xs) (l.set T m) := by
  have hgo := (h.1.row T hT hTu hT2).out
  rw [hu] at hgo
  refine ⟨⟨own_far1 h.1.out (apart2_at h.1.out hgo n1) hg, by simp [h.1.len], by simp [h.1.len2], fun i hi h1 h2 => ?_, ?_, ?_⟩, h.2⟩
  · have hi0 : i < l.length := by simpa using hi
    have h20 : i < vss.length := by simpa using h2
    by_cases q0 : T = i
    · subst q0
      simp only [List.getElem_set_self]
      rw [hu]
      exact hr
    · rw [List.getElem_set_ne q0, List.getElem_set_ne q0]
      have hri := h.1.row i hi0 h1 h20
      refine rows2_far1 hri ?_ ?_ hg
      · intro hb
        rcases Nat.lt_or_ge i T with hlt | hge
        · exact (List.pairwise_iff_getElem.1 h.2 i T h1 hTu hlt) _ hb (by rw [hu]; rfl)
        · exact (List.pairwise_iff_getElem.1 h.2 T i hTu h1 (by omega)) _ (by rw [hu]; rfl) hb
      · intro z hz
        obtain ⟨j, hj, rfl⟩ := List.getElem_of_mem hz
        exact apart2_at (hri.row j (by rw [← hri.len]; exact hj) hj) hgo n2.symm
  · intro z hz
    obtain ⟨j, hj, rfl⟩ := List.getElem_of_mem hz
    rw [List.getElem_set]
    split
    · exact hxp
    · exact h.1.ap1 _ (List.getElem_mem _)
  · rw [List.pairwise_iff_getElem]
    intro i j hi hj hij a ha b hb
    have hi0 : i < vss.length := by simpa using hi
    have hj0 : j < vss.length := by simpa using hj
    rw [List.getElem_set] at ha hb
    by_cases q1 : T = i
    · rw [if_pos q1] at ha
      rw [if_neg (by omega)] at hb
      exact (hxa j hj0 (by omega) b hb a ha).symm
    · rw [if_neg q1] at ha
      by_cases q2 : T = j
      · rw [if_pos q2] at hb
        exact hxa i hi0 (fun q => q1 q.symm) a ha b hb
      · rw [if_neg q2] at hb
        exact List.pairwise_iff_getElem.1 h.1.ap2 i j hi0 hj0 hij a ha b hb
/-- Two of the rows change places. -/
theorem swap_pairwise {a b : Nat} (ha : a < vs.length) (hb : b < vs.length) (h : vs.Pairwise Apart2) : ((vs.set a vs[b]).set b vs[a]).Pairwise Apart2 :=
  ((List.set_set_perm ha hb).pairwise_iff (fun h => Apart2.symm h)).2 h
theorem swap_mem {a b : Nat} (ha : a < vs.length) (hb : b < vs.length) {z : Value} (h : z ∈ (vs.set a vs[b]).set b vs[a]) : z ∈ vs := (List.set_set_perm ha hb).mem_iff.1 h
theorem rows3u_apart {l : List (List (List Int))} (h : World.rows3 e2 e1 e w lo v us vss l) {T : Nat} (hT : T < vss.length) : ∀ (j : Nat) (hj : j < vss.length), j ≠ T → ∀ a ∈ vss[j], ∀ b ∈ vss[T], Apart2 a b := by
  intro j hj hne a ha b hb
  rcases Nat.lt_or_ge j T with hlt | hge
  · exact List.pairwise_iff_getElem.1 h.ap2 j T hj hT hlt a ha b hb
  · exact (List.pairwise_iff_getElem.1 h.ap2 T j hT hj (by omega) b hb a ha).symm
theorem pairwise_set {α : Type} {R : α → α → Prop} {l : List α} (h : l.Pairwise R) {i : Nat} {x : α} (hx : ∀ y ∈ l, R y x ∧ R x y) : (l.set i x).Pairwise R := by
  rw [List.pairwise_iff_getElem] at h ⊢
  intro j k hj hk hjk
  have hj0 : j < l.length := by simpa using hj
  have hk0 : k < l.length := by simpa using hk
  rw [List.getElem_set, List.getElem_set]
  split
  · rw [if_neg (by omega)]; exact (hx _ (List.getElem_mem hk0)).2
  · split
    · exact (hx _ (List.getElem_mem hj0)).1
    · exact h j k hj0 hk0 hjk
theorem rows3_swap {l : List (List (List Int))} {T A B g n cap : Nat} (h : World.rows3u e2 e1 e w lo v us vss l) (n1 : e2 ≠ e1) (n2 : e1 ≠ e) (hT : T < l.length) (hTu : T < us.length) (hT2 : T < vss.length)
    (hu : us[T] = .slice (some ⟨g, 0, none⟩) n cap) (hA : A < vss[T].length) (hB : B < vss[T].length) :
    ∃ vss', World.rows3u e2 e1 e ((w.setCell ⟨g, A, none⟩ ((vss[T]'hT2)[B]'hB)).setCell ⟨g, B, none⟩ ((vss[T]'hT2)[A]'hA)) lo v us vss' (l.set T (swap2 l[T] A B)) := by
  have r0 := h.1.row T hT hTu hT2
  have hl := r0.len
  rw [hu] at r0
  have hAl : A < l[T].length := by omega
  have hBl : B < l[T].length := by omega
  have s1 := rows2_set r0 n2 hAl (r0.row B hBl hB)
  have s2 := rows2_set s1 n2 (i := B) (by simpa using hBl) (own_set1 (r0.row A hAl hA) (apart2_at (r0.row A hAl hA) r0.out n2.symm))
  have := rows3_put h n1 n2 hT hTu hT2 hu (only_setCell (p := ⟨g, B, none⟩) (only_setCell (p := ⟨g, A, none⟩) (only_refl w _) rfl _) rfl _) s2 (swap_pairwise hA hB (h.1.ap1 _ (List.getElem_mem hT2)))
    (fun j hj hne a ha b hb => rows3u_apart h.1 hT2 j hj hne a ha b (swap_mem hA hB hb))
  rw [swap2, List.getD_eq_getElem?_getD, List.getD_eq_getElem?_getD, List.getElem?_eq_getElem hAl, List.getElem?_eq_getElem hBl, Option.getD_some, Option.getD_some]
  exact ⟨_, this⟩
/-- A row of a slice of rows is a new one. -/
theorem rows3_fresh {Y : World} {l : List (List (List Int))} {m : List Int} {T A g n cap : Nat} (h : World.rows3u e2 e1 e Y lo v us vss l) (hW : ∃ d, w = Y.ext d) (hlo : lo ≤ Y.heap.size) (hx : w.own Y.heap.size e intC 1 x m) (n1 : e2 ≠ e1) (n2 : e1 ≠ e) (hT : T < l.length) (hTu : T < us.length)
    (hu : us[T] = .slice (some ⟨g, 0, none⟩) n cap) (hA : A < l[T].length) :
    ∃ vss', World.rows3u e2 e1 e (w.setCell ⟨g, A, none⟩ x) lo v us vss' (l.set T (l[T].set A m)) := by
  have hT2 : T < vss.length := by rw [h.1.len2]; exact hT
  have hap : ∀ ys ∈ vss, ∀ y ∈ ys, Apart2 y x := by
    intro ys hys y hy
    obtain ⟨i, hi, rfl⟩ := List.getElem_of_mem hys
    have hr := h.1.row i (by rw [← h.1.len2]; exact hi) (by rw [h.1.len, ← h.1.len2]; exact hi) hi
    obtain ⟨j, hj, rfl⟩ := List.getElem_of_mem hy
    exact apart2_new (hr.row j (by rw [← hr.len]; exact hj) hj) hx
  have hW3 : World.rows3u e2 e1 e w lo v us vss l := ⟨rows3_up h.1 hW, h.2⟩
  have r0 := hW3.1.row T hT hTu hT2
  rw [hu] at r0
  have s1 := rows2_set r0 n2 hA (own_base hx hlo)
  have := rows3_put hW3 n1 n2 hT hTu hT2 hu (only_setCell (p := ⟨g, A, none⟩) (only_refl w _) rfl _) s1 (pairwise_set (h.1.ap1 _ (List.getElem_mem hT2)) (fun y hy => ⟨hap _ (List.getElem_mem hT2) y hy, (hap _ (List.getElem_mem hT2) y hy).symm⟩))
    (fun j hj hne a ha b hb => by
      rcases List.mem_or_eq_of_mem_set hb with hb | rfl
      · exact rows3u_apart h.1 hT2 j hj hne a ha b hb
      · exact hap _ (List.getElem_mem hj) a ha)
  exact ⟨_, this⟩
theorem rows3_base {l : List (List (List Int))} {b : Nat} (h : World.rows3 e2 e1 e w b v us vss l) (hb : lo ≤ b) : World.rows3 e2 e1 e w lo v us vss l :=
  ⟨own_base h.out hb, h.len, h.len2, fun i hi h1 h2 => rows2_base (h.row i hi h1 h2) hb, h.ap1, h.ap2⟩
end
end Go
