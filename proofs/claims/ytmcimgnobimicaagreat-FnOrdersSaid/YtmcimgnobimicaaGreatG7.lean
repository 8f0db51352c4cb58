/- Texts laid together: A map that is being drawn: its box, its two slices, the reader. No condition.; slices.IndexFunc and slices.ContainsFunc over ints, at a function of which a contract is known. Condition: at most 1048576 elements.; impl.inside: whether a number lies between two. No condition.; spec.l1In: whether a number lies between two. No condition. -/
import Derived.Test.YtmcimgnobimicaaGreatG4
import Derived.Test.YtmcimgnobimicaaGreatG2
import Derived.Test.YtmcimgnobimicaaGreatG3
import Derived.Test.YtmcimgnobimicaaGreatG6
import Derived.Test.YtmcimgnobimicaaGreatRows
import Derived.Test.YtmcimgnobimicaaGreatG1
/- A map that is being drawn: its box, its two slices, the reader. No condition. -/
namespace Go
open RowKit Go.Ori
theorem row_keep {w w' : World} {r : Option Nat} {b : Nat} {C : Array Value} {e : TypeId} {f : Nat × Nat} (h : w.heap[b]? = some (.cells C e f)) (hg : w.grownBy w' r) (hr : ∀ q, r = some q → q ≠ b) : w'.heap[b]? = some (.cells C e f) :=
  (hg.block b (Array.getElem?_eq_some_iff.1 h).1 (fun q => hr b q.symm rfl)).trans h
theorem own_ne {α : Type} {w : World} {enc : α → List Value} {sz base : Nat} {e e' : TypeId} {v : Value} {l : List α} {b : Nat} {C : Array Value} {f : Nat × Nat} (ho : w.own base e enc sz v l) (h : w.heap[b]? = some (.cells C e' f)) (he : e ≠ e') : ∀ q, v.ownBlock = some q → q ≠ b := by
  intro q hq
  obtain ⟨_, ⟨rfl, _⟩ | ⟨g, cap, cur, rfl, _, hh, _⟩⟩ := ho
  · simp [Value.ownBlock] at hq
  · simp only [Value.ownBlock, Option.some.injEq] at hq
    subst hq
    rintro rfl
    rw [hh] at h
    injection h with h
    injection h with _ h _
    exact he h
theorem own_not {α : Type} {w w' : World} {enc : α → List Value} {sz base : Nat} {e : TypeId} {v : Value} {l : List α} {b : Nat} (ho : w.own base e enc sz v l) (hb : ∀ q, v.ownBlock = some q → q ≠ b) (hg : w.grownBy w' (some b)) : w'.own base e enc sz v l := by
  refine own_mark (v := .slice (some ⟨b, 0, none⟩) 0 0) ho hg fun q hq hv => ?_
  simp only [Value.ownBlock, Option.some.injEq] at hv
  exact hb q hq hv.symm
theorem row_up {w w' : World} {b : Nat} {C : Array Value} {e : TypeId} {f : Nat × Nat} (h : w.heap[b]? = some (.cells C e f)) (hg : ∃ d, w' = w.ext d) : w'.heap[b]? = some (.cells C e f) := by
  obtain ⟨d, rfl⟩ := hg
  exact World.heap_ext_old d h
theorem own_form {w : World} {e : TypeId} {base : Nat} {v : Value} {l : List Int} (h : w.own base e intC 1 v l) : ∃ p n c, v = .slice p n c := by
  obtain ⟨p, c, h, _⟩ := sl_of_own intC_length h
  exact ⟨p, _, c, h⟩
/-- A map is being drawn. -/
structure MSt (T tM tI : TypeId) (W w wr : World) (g gR gM n : Nat) (wd ht : Int) (rv cv : Value) (rl cl : List Int) : Prop where
  cur : Cur T W wr g n
  res : wr.heap[gR]? = some (.cells #[.int .i64 0, .int .i64 0, .slice none 0 0, .slice none 0 0] tM (0, 0))
  box : wr.heap[gM]? = some (.cells #[.int .i64 wd, .int .i64 ht, rv, cv] tM (0, 0))
  r : wr.own w.heap.size tI intC 1 rv rl
  c : wr.own w.heap.size tI intC 1 cv cl
  ap : ∀ q, rv.ownBlock = some q → cv.ownBlock ≠ some q
  gr : w.grownBy wr (some g)
  g1 : g < w.heap.size
  r1 : w.heap.size ≤ gR
  m1 : w.heap.size ≤ gM
  rm : gR ≠ gM
  ne : tI ≠ tM
  wW : W.heap.size ≤ w.heap.size
section
variable {T tM tI : TypeId} {W w wr wr' : World} {g gR gM n n' : Nat} {wd ht : Int} {rv cv : Value} {rl cl : List Int}
theorem MSt.up (h : MSt T tM tI W w wr g gR gM n wd ht rv cv rl cl) (hg : ∃ d, wr' = wr.ext d) : MSt T tM tI W w wr' g gR gM n wd ht rv cv rl cl := by
  refine ⟨h.cur.gain hg, ?_, ?_, own_up h.r hg, own_up h.c hg, h.ap, only_gain h.gr hg, h.g1, h.r1, h.m1, h.rm, h.ne, h.wW⟩
  · obtain ⟨d, rfl⟩ := hg; exact World.heap_ext_old d h.res
  · obtain ⟨d, rfl⟩ := hg; exact World.heap_ext_old d h.box
theorem MSt.le (h : MSt T tM tI W w wr g gR gM n wd ht rv cv rl cl) (hn : n ≤ n') : MSt T tM tI W w wr g gR gM n' wd ht rv cv rl cl :=
  ⟨h.cur.le hn, h.res, h.box, h.r, h.c, h.ap, h.gr, h.g1, h.r1, h.m1, h.rm, h.ne, h.wW⟩
theorem MSt.on (h : MSt T tM tI W w wr g gR gM n wd ht rv cv rl cl) (hc : Cur T W wr' g n') (hg : wr.grownBy wr' (some g)) : MSt T tM tI W w wr' g gR gM n' wd ht rv cv rl cl :=
  ⟨hc, row_keep h.res hg (fun q e => by cases e; have := h.g1; have := h.r1; omega), row_keep h.box hg (fun q e => by cases e; have := h.g1; have := h.m1; omega), own_cur h.r h.g1 hg, own_cur h.c h.g1 hg, h.ap, only_trans h.gr hg, h.g1, h.r1, h.m1, h.rm, h.ne, h.wW⟩
theorem MSt.size (h : MSt T tM tI W w wr g gR gM n wd ht rv cv rl cl) : w.heap.size ≤ wr.heap.size := only_size h.gr
/-- A field of the box is set. -/
theorem MSt.put (h : MSt T tM tI W w wr g gR gM n wd ht rv cv rl cl) (i : Nat) (v : Value) : Cur T W (wr.setCell ⟨gM, i, none⟩ v) g n ∧ (wr.setCell ⟨gM, i, none⟩ v).heap[gR]? = some (.cells #[.int .i64 0, .int .i64 0, .slice none 0 0, .slice none 0 0] tM (0, 0)) ∧
    (wr.setCell ⟨gM, i, none⟩ v).own w.heap.size tI intC 1 rv rl ∧ (wr.setCell ⟨gM, i, none⟩ v).own w.heap.size tI intC 1 cv cl ∧ w.grownBy (wr.setCell ⟨gM, i, none⟩ v) (some g) := by
  have hs : wr.grownBy (wr.setCell ⟨gM, i, none⟩ v) (some gM) := only_setCell (p := ⟨gM, i, none⟩) (only_refl _ _) rfl _
  have h1 := h.g1; have h2 := h.m1; have h3 := h.rm; have h4 := h.wW
  exact ⟨h.cur.grow hs (fun q e => by cases e; omega) (gain_setCell h.cur.up (show W.heap.size ≤ gM by omega) _), row_keep h.res hs (fun q e => by cases e; exact fun e => h3 e.symm), own_not h.r (own_ne h.r h.box h.ne) hs, own_not h.c (own_ne h.c h.box h.ne) hs, only_new h.gr hs (fun q e => by cases e; omega)⟩
theorem MSt.putW (h : MSt T tM tI W w wr g gR gM n wd ht rv cv rl cl) (x : Int) : MSt T tM tI W w (wr.setCell ⟨gM, 0, none⟩ (.int .i64 x)) g gR gM n x ht rv cv rl cl := by
  obtain ⟨p1, p2, p3, p4, p5⟩ := h.put 0 (.int .i64 x)
  exact ⟨p1, p2, by simpa using World.heap_setCell_row h.box 0 (.int .i64 x), p3, p4, h.ap, p5, h.g1, h.r1, h.m1, h.rm, h.ne, h.wW⟩
/-- One of the two slices has grown by an append. -/
theorem MSt.grown {v : Value} {l : List Int} (h : MSt T tM tI W w wr g gR gM n wd ht rv cv rl cl) (hv : wr.own w.heap.size tI intC 1 v l) (hg : wr.grownBy wr' v.ownBlock) (hu : ∃ d, wr' = W.ext d) :
    Cur T W wr' g n ∧ wr'.heap[gR]? = some (.cells #[.int .i64 0, .int .i64 0, .slice none 0 0, .slice none 0 0] tM (0, 0)) ∧ wr'.heap[gM]? = some (.cells #[.int .i64 wd, .int .i64 ht, rv, cv] tM (0, 0)) ∧ w.grownBy wr' (some g) :=
  ⟨h.cur.grow hg (own_newer hv h.g1) hu, row_keep h.res hg (own_ne hv h.res h.ne), row_keep h.box hg (own_ne hv h.box h.ne), only_new h.gr hg (fun q e => (own_lt hv q e).1)⟩
theorem MSt.appC {v' : Value} {m : List Int} (h : MSt T tM tI W w wr g gR gM n wd ht rv cv rl cl) (ho : wr'.own w.heap.size tI intC 1 v' (cl ++ m)) (hg : wr.grownBy wr' cv.ownBlock) (hw : v'.ownBlock = cv.ownBlock ∨ v'.ownBlock = some wr.heap.size) (hu : ∃ d, wr' = W.ext d) :
    MSt T tM tI W w (wr'.setCell ⟨gM, 3, none⟩ v') g gR gM n wd ht rv v' rl (cl ++ m) := by
  obtain ⟨p1, p2, p3, p4⟩ := h.grown h.c hg hu
  have hr : wr'.own w.heap.size tI intC 1 rv rl := own_mark h.r hg h.ap
  have hs : wr'.grownBy (wr'.setCell ⟨gM, 3, none⟩ v') (some gM) := only_setCell (p := ⟨gM, 3, none⟩) (only_refl _ _) rfl _
  have h1 := h.g1; have h2 := h.m1; have h3 := h.rm; have h4 := h.wW
  refine ⟨p1.grow hs (fun q e => by cases e; omega) (gain_setCell p1.up (show W.heap.size ≤ gM by omega) _), row_keep p2 hs (fun q e => by cases e; exact fun e => h3 e.symm), by simpa using World.heap_setCell_row p3 3 v', own_not hr (own_ne hr p3 h.ne) hs, own_not ho (own_ne ho p3 h.ne) hs, fun b hb hv => ?_, only_new p4 hs (fun q e => by cases e; omega), h.g1, h.r1, h.m1, h.rm, h.ne, h.wW⟩
  rcases hw with e | e
  · exact h.ap b hb (e ▸ hv)
  · rw [e] at hv
    have := (own_lt h.r b hb).2
    cases hv
    omega
theorem MSt.appR {v' : Value} {m : List Int} (h : MSt T tM tI W w wr g gR gM n wd ht rv cv rl cl) (ho : wr'.own w.heap.size tI intC 1 v' (rl ++ m)) (hg : wr.grownBy wr' rv.ownBlock) (hw : v'.ownBlock = rv.ownBlock ∨ v'.ownBlock = some wr.heap.size) (hu : ∃ d, wr' = W.ext d) :
    MSt T tM tI W w (wr'.setCell ⟨gM, 2, none⟩ v') g gR gM n wd ht v' cv (rl ++ m) cl := by
  obtain ⟨p1, p2, p3, p4⟩ := h.grown h.r hg hu
  have hc : wr'.own w.heap.size tI intC 1 cv cl := own_mark h.c hg fun b hb hr => h.ap b hr hb
  have hs : wr'.grownBy (wr'.setCell ⟨gM, 2, none⟩ v') (some gM) := only_setCell (p := ⟨gM, 2, none⟩) (only_refl _ _) rfl _
  have h1 := h.g1; have h2 := h.m1; have h3 := h.rm; have h4 := h.wW
  refine ⟨p1.grow hs (fun q e => by cases e; omega) (gain_setCell p1.up (show W.heap.size ≤ gM by omega) _), row_keep p2 hs (fun q e => by cases e; exact fun e => h3 e.symm), by simpa using World.heap_setCell_row p3 2 v', own_not ho (own_ne ho p3 h.ne) hs, own_not hc (own_ne hc p3 h.ne) hs, fun b hb hv => ?_, only_new p4 hs (fun q e => by cases e; omega), h.g1, h.r1, h.m1, h.rm, h.ne, h.wW⟩
  rcases hw with e | e
  · exact h.ap b (e ▸ hb) hv
  · rw [e] at hb
    have := (own_lt h.c b hv).2
    cases hb
    omega
theorem MSt.rowC (h : MSt T tM tI W w wr g gR gM n wd ht rv cv rl cl) (hg : wr.grownBy wr' cv.ownBlock) (hu : ∃ d, wr' = W.ext d) : wr'.heap[gM]? = some (.cells #[.int .i64 wd, .int .i64 ht, rv, cv] tM (0, 0)) := (h.grown h.c hg hu).2.2.1
theorem MSt.rowR (h : MSt T tM tI W w wr g gR gM n wd ht rv cv rl cl) (hg : wr.grownBy wr' rv.ownBlock) (hu : ∃ d, wr' = W.ext d) : wr'.heap[gM]? = some (.cells #[.int .i64 wd, .int .i64 ht, rv, cv] tM (0, 0)) := (h.grown h.r hg hu).2.2.1
/-- The result's own box is written. -/
theorem MSt.fin (h : MSt T tM tI W w wr g gR gM n wd ht rv cv rl cl) (hg : wr.grownBy wr' (some gR)) (hn : n ≤ n') (hr : rl.length ≤ 21) (hc : cl.length ≤ 21) :
    wr'.own w.heap.size tI intC 1 rv rl ∧ wr'.own w.heap.size tI intC 1 cv cl ∧ (∀ q, rv.ownBlock = some q → cv.ownBlock ≠ some q) ∧ rl.length ≤ 21 ∧ cl.length ≤ 21 ∧ Cur T W wr' g n' ∧ w.grownBy wr' (some g) := by
  have h1 := h.g1; have h2 := h.r1; have h4 := h.wW
  exact ⟨own_not h.r (own_ne h.r h.res h.ne) hg, own_not h.c (own_ne h.c h.res h.ne) hg, h.ap, hr, hc, (h.cur.grow hg (fun q e => by cases e; omega) (gain_grown h.cur.up hg (fun q e => by cases e; omega))).le hn, only_new h.gr hg (fun q e => by cases e; omega)⟩
/-- A cell of one of the two slices is set. -/
theorem MSt.setC {b cap k : Nat} (h : MSt T tM tI W w wr g gR gM n wd ht rv (.slice (some ⟨b, 0, none⟩) cl.length cap) rl cl) (hk : k < cl.length) (x : Int) :
    MSt T tM tI W w (wr.setCell ⟨b, k, none⟩ (.int .i64 x)) g gR gM n wd ht rv (.slice (some ⟨b, 0, none⟩) cl.length cap) rl (cl.set k x) := by
  have hs : wr.grownBy (wr.setCell ⟨b, k, none⟩ (.int .i64 x)) (some b) := only_setCell (p := ⟨b, k, none⟩) (only_refl _ _) rfl _
  have hb := (own_lt h.c b rfl).1
  have h1 := h.g1; have h4 := h.wW
  have e1 := own_ne h.c h.box h.ne b rfl
  have e2 := own_ne h.c h.res h.ne b rfl
  refine ⟨h.cur.grow hs (fun q e => by cases e; omega) (gain_setCell h.cur.up (show W.heap.size ≤ b by omega) _), row_keep h.res hs (fun q e => by cases e; exact e2), row_keep h.box hs (fun q e => by cases e; exact e1), own_not h.r (fun q hq e => by subst e; exact h.ap q hq rfl) hs, own_set h.c hk x, h.ap, only_new h.gr hs (fun q e => by cases e; omega), h.g1, h.r1, h.m1, h.rm, h.ne, h.wW⟩
theorem MSt.setR {b cap k : Nat} (h : MSt T tM tI W w wr g gR gM n wd ht (.slice (some ⟨b, 0, none⟩) rl.length cap) cv rl cl) (hk : k < rl.length) (x : Int) :
    MSt T tM tI W w (wr.setCell ⟨b, k, none⟩ (.int .i64 x)) g gR gM n wd ht (.slice (some ⟨b, 0, none⟩) rl.length cap) cv (rl.set k x) cl := by
  have hs : wr.grownBy (wr.setCell ⟨b, k, none⟩ (.int .i64 x)) (some b) := only_setCell (p := ⟨b, k, none⟩) (only_refl _ _) rfl _
  have hb := (own_lt h.r b rfl).1
  have h1 := h.g1; have h4 := h.wW
  have e1 := own_ne h.r h.box h.ne b rfl
  have e2 := own_ne h.r h.res h.ne b rfl
  refine ⟨h.cur.grow hs (fun q e => by cases e; omega) (gain_setCell h.cur.up (show W.heap.size ≤ b by omega) _), row_keep h.res hs (fun q e => by cases e; exact e2), row_keep h.box hs (fun q e => by cases e; exact e1), own_set h.r hk x, own_not h.c (fun q hq e => by subst e; exact h.ap q rfl hq) hs, h.ap, only_new h.gr hs (fun q e => by cases e; omega), h.g1, h.r1, h.m1, h.rm, h.ne, h.wW⟩
end
end Go
/- slices.IndexFunc and slices.ContainsFunc over ints, at a function of which a contract is known. Condition: at most 1048576 elements. -/
namespace Go.Proofs.YtmcimgnobimicaaGreat
open Go.RowKit Go.Ori
set_option maxHeartbeats 400000 in
theorem indexFunc_ints (K : FuncId) (caps : Array Value) (f : Int → Bool) (v : Value) (l : List Int) (w : World) (h : w.sl intC 1 v l) (hl : l.length ≤ 1048576)
    (hcf : ∀ args W, (callFunc K args).run Tryz.prog W = .ok (.enter K args) W)
    (hcl : ∀ n d, Calls Tryz.prog K (#[.int .i64 n] ++ caps) (w.ext d) fun x w' => x = .returned (.bool (f n)) ∧ ∃ d', w' = (w.ext d).ext d') :
    Calls Tryz.prog 107 #[v, .func (.func K) #[] caps] w fun x w' => x = .returned (.int .i64 (idxB l f)) ∧ ∃ d, w' = w.ext d := by
  obtain ⟨p, c, rfl, hp, hcap⟩ := h
  have HCL := Lib.hid hcl
  clear hcl
  go_enter Tryz.func107, Tryz.ntmps107
  go_wp2
  go_loopw [8] (fun i wr => ∃ k : Nat, k ≤ l.length ∧ i = .int .i64 k ∧ (∀ (j : Nat) (hj : j < l.length), j < k → f l[j] = false) ∧ ∃ d, wr = w.ext d) (fun i _ => l.length - (intOf i).toNat)
  case atStart => exact ⟨0, by omega, rfl, by simp, w.gained_refl⟩
  case round =>
    obtain ⟨k, hk, rfl, hno, d, rfl⟩ := hrel
    have HN := Lib.hid hno
    clear hno
    by_cases hlt : k < l.length
    · obtain ⟨b, o, rfl, hc⟩ := hp (by omega)
      have c0 := hc k hlt 0 (by omega)
      have he : l[k]? = some l[k] := by simp
      have hnk : ∀ x, l[k] = x → f x = true → idxB l f = k := fun x hx hf => idxB_some hlt (HN.out) (by rw [hx]; exact hf)
      have hnk2 : ∀ x, l[k] = x → f x = false → ∀ (j : Nat) (hj : j < l.length), j < k + 1 → f l[j] = false := fun x hx hf j hj hjk => by
        by_cases e : j = k
        · subst e; rw [hx]; exact hf
        · exact HN.out j hj (by omega)
      generalize l[k] = y at c0 hnk hnk2
      have H1 := Lib.hid (hnk y rfl)
      have H2 := Lib.hid (hnk2 y rfl)
      clear hc hp hnk hnk2 he
      simp only [intC, List.getElem?_cons_zero, Nat.add_zero, Nat.mul_one] at c0
      have ob := World.oldB_of_cell c0
      go_wp2_with fail
      refine (HCL.out y d).mono ?_
      rintro e w1 ⟨rfl, d1, rfl⟩
      cases hf : f y
      · have H2' := Lib.hid (H2.out hf)
        clear hf
        go_wp2
        go_roundw
        case rel => exact ⟨k + 1, by omega, by go_num, H2'.out, gain_ext ⟨_, rfl⟩ _⟩
        case measure => simp [intOf]; omega
      · have H1' := Lib.hid (H1.out hf)
        clear hf
        go_wp2
        go_ret
        exact ⟨ret_int H1'.out.symm, gain_ext ⟨_, rfl⟩ _⟩
    · go_wp2
      go_ret
      exact ⟨ret_int (by rw [idxB_none (fun j hj => HN.out j hj (by omega))]), _, rfl⟩
theorem containsFunc_ints (K : FuncId) (caps : Array Value) (f : Int → Bool) (v : Value) (l : List Int) (w : World) (h : w.sl intC 1 v l) (hl : l.length ≤ 1048576)
    (hcf : ∀ args W, (callFunc K args).run Tryz.prog W = .ok (.enter K args) W)
    (hcl : ∀ n d, Calls Tryz.prog K (#[.int .i64 n] ++ caps) (w.ext d) fun x w' => x = .returned (.bool (f n)) ∧ ∃ d', w' = (w.ext d).ext d') :
    Calls Tryz.prog 93 #[v, .func (.func K) #[] caps] w fun x w' => x = .returned (.bool (l.any f)) ∧ ∃ d, w' = w.ext d := by
  have HI := Lib.hid (indexFunc_ints K caps f v l w h hl hcf hcl)
  clear hcl hcf
  go_enter Tryz.func93, Tryz.ntmps93
  go_wp2_with fail
  refine HI.out.mono ?_
  rintro e w1 ⟨rfl, d1, rfl⟩
  have HA := Lib.hid (idxB_any l f)
  go_wp2
  go_ret
  exact ⟨ret_bool HA.out, _, rfl⟩
end Go.Proofs.YtmcimgnobimicaaGreat
/- impl.inside: whether a number lies between two. No condition. -/
namespace Go.Proofs.YtmcimgnobimicaaGreat
open Go.RowKit Go.Ori
theorem inside_any (n lo hi : Int) (w : World) :
    Calls Tryz.prog 42 #[.int .i64 n, .int .i64 lo, .int .i64 hi] w fun e w' => e = .returned (.bool (insB n lo hi)) ∧ w = w' := by
  by_cases h1 : lo ≤ n
  · rw [insB_lo h1]
    go_enter Tryz.func42, Tryz.ntmps42
    go_wp2
    go_ret
    exact ⟨rfl, rfl⟩
  · rw [insB_no h1]
    go_enter Tryz.func42, Tryz.ntmps42
    go_wp2
    go_ret
    exact ⟨rfl, rfl⟩
end Go.Proofs.YtmcimgnobimicaaGreat
/- spec.l1In: whether a number lies between two. No condition. -/
namespace Go.Proofs.YtmcimgnobimicaaGreat
open Go.RowKit Go.Ori
theorem l1In_any (n lo hi : Int) (w : World) :
    Calls Tryz.prog 49 #[.int .i64 n, .int .i64 lo, .int .i64 hi] w fun e w' => e = .returned (.bool (insB n lo hi)) ∧ w = w' := by
  by_cases h1 : lo ≤ n
  · rw [insB_lo h1]
    go_enter Tryz.func49, Tryz.ntmps49
    go_wp2
    go_ret
    exact ⟨rfl, rfl⟩
  · rw [insB_no h1]
    go_enter Tryz.func49, Tryz.ntmps49
    go_wp2
    go_ret
    exact ⟨rfl, rfl⟩
end Go.Proofs.YtmcimgnobimicaaGreat
