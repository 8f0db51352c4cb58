/- Texts laid together: A list while it is drawn: the reader, the slice. No condition.; impl.inside: whether a number lies between two. No condition.; spec.l1In: whether a number lies between two. No condition.; Words; runners and classes that are valid: plain functions. No condition.; impl.isWord, spec.l2Word. Condition: at most 1048576 bytes.; impl.IsClass, spec.l7One, spec.IsClass. Condition: a name of at most 1048576 bytes.; slices.IndexFunc, slices.ContainsFunc over classes; the closure of impl.AreClasses. Condition: at most 1048576 classes. -/
import Derived.Test.YtfenempljjenpaaG4
import Derived.Test.YtfenempljjenpaaG6
import Derived.Test.YtfenempljjenpaaRows
import Derived.Test.YtfenempljjenpaaG3
/- A list while it is drawn: the reader, the slice. No condition. -/
namespace Go
open RowKit Go.Ori
structure LSt {α : Type} (T tC : TypeId) (enc : α → List Value) (sz : Nat) (P : α → Prop) (W w wr : World) (g n : Nat) (v : Value) (l : List α) : Prop where
  cur : Cur T W wr g n
  own : wr.own w.heap.size tC enc sz v l
  gr : w.grownBy wr (some g)
  g2 : g < w.heap.size
  wW : W.heap.size ≤ g
  sm : ∀ x ∈ l, P x
section
variable {α : Type} {T tC : TypeId} {enc : α → List Value} {sz : Nat} {P : α → Prop} {W w wr wr' : World} {g n n' : Nat} {v v' u : Value} {l l' : List α}
theorem LSt.up (h : LSt T tC enc sz P W w wr g n v l) (hg : ∃ d, wr' = wr.ext d) : LSt T tC enc sz P W w wr' g n v l :=
  ⟨h.cur.gain hg, own_up h.own hg, only_gain h.gr hg, h.g2, h.wW, h.sm⟩
theorem LSt.le (h : LSt T tC enc sz P W w wr g n v l) (hn : n ≤ n') : LSt T tC enc sz P W w wr g n' v l := ⟨h.cur.le hn, h.own, h.gr, h.g2, h.wW, h.sm⟩
theorem LSt.on (h : LSt T tC enc sz P W w wr g n v l) (hc : Cur T W wr' g n') (hg : wr.grownBy wr' (some g)) : LSt T tC enc sz P W w wr' g n' v l :=
  ⟨hc, own_cur h.own h.g2 hg, only_trans h.gr hg, h.g2, h.wW, h.sm⟩
/-- Another slice has grown. -/
theorem LSt.keep (h : LSt T tC enc sz P W w wr g n v l) (hg : wr.grownBy wr' u.ownBlock) (ha : Apart2 v u) (hu : ∀ q, u.ownBlock = some q → w.heap.size ≤ q) (hW : ∃ d, wr' = W.ext d) : LSt T tC enc sz P W w wr' g n v l :=
  ⟨h.cur.grow hg (fun q e => Nat.lt_of_lt_of_le h.g2 (hu q e)) hW, own_mark h.own hg ha, only_new h.gr hg hu, h.g2, h.wW, h.sm⟩
/-- The slice itself has grown. -/
theorem LSt.app (h : LSt T tC enc sz P W w wr g n v l) (hg : wr.grownBy wr' v.ownBlock) (ho : wr'.own w.heap.size tC enc sz v' l') (hs : ∀ x ∈ l', P x) (hW : ∃ d, wr' = W.ext d) : LSt T tC enc sz P W w wr' g n v' l' :=
  ⟨h.cur.grow hg (fun q e => Nat.lt_of_lt_of_le h.g2 (own_lt h.own q e).1) hW, ho, only_new h.gr hg (fun q e => (own_lt h.own q e).1), h.g2, h.wW, hs⟩
/-- Another slice is taken. -/
theorem LSt.turn (h : LSt T tC enc sz P W w wr g n v l) (ho : wr.own w.heap.size tC enc sz v' l') (hs : ∀ x ∈ l', P x) : LSt T tC enc sz P W w wr g n v' l' := ⟨h.cur, ho, h.gr, h.g2, h.wW, hs⟩
theorem LSt.size (h : LSt T tC enc sz P W w wr g n v l) : w.heap.size ≤ wr.heap.size := only_size h.gr
theorem LSt.wle (h : LSt T tC enc sz P W w wr g n v l) : W.heap.size ≤ w.heap.size := by have := h.g2; have := h.wW; omega
end
end Go
/- impl.inside: whether a number lies between two. No condition. -/
namespace Go.Proofs.Ytfenempljjenpaa
open Go.RowKit Go.Ori
theorem inside_any (n lo hi : Int) (w : World) :
    Calls Try.prog 51 #[.int .i64 n, .int .i64 lo, .int .i64 hi] w fun e w' => e = .returned (.bool (insB n lo hi)) ∧ w = w' := by
  by_cases h1 : lo ≤ n
  · rw [insB_lo h1]
    go_enter Try.func51, Try.ntmps51
    go_wp2
    go_ret
    exact ⟨rfl, rfl⟩
  · rw [insB_no h1]
    go_enter Try.func51, Try.ntmps51
    go_wp2
    go_ret
    exact ⟨rfl, rfl⟩
end Go.Proofs.Ytfenempljjenpaa
/- spec.l1In: whether a number lies between two. No condition. -/
namespace Go.Proofs.Ytfenempljjenpaa
open Go.RowKit Go.Ori
theorem l1In_any (n lo hi : Int) (w : World) :
    Calls Try.prog 50 #[.int .i64 n, .int .i64 lo, .int .i64 hi] w fun e w' => e = .returned (.bool (insB n lo hi)) ∧ w = w' := by
  by_cases h1 : lo ≤ n
  · rw [insB_lo h1]
    go_enter Try.func50, Try.ntmps50
    go_wp2
    go_ret
    exact ⟨rfl, rfl⟩
  · rw [insB_no h1]
    go_enter Try.func50, Try.ntmps50
    go_wp2
    go_ret
    exact ⟨rfl, rfl⟩
end Go.Proofs.Ytfenempljjenpaa
/- Words; runners and classes that are valid: plain functions. No condition. -/
namespace Go.Ori
abbrev Cls.ok (c : Cls) : Prop := c.name.size ≤ maxLen
abbrev Runner.ok (r : Runner) : Prop := r.name.size ≤ maxLen ∧ r.club.size ≤ maxLen
abbrev Cls.small (c : Cls) : Prop := c.name.size ≤ 1048576
abbrev Runner.small (r : Runner) : Prop := r.name.size ≤ 1048576 ∧ r.club.size ≤ 1048576
def lowAt (s : ByteArray) (i : Nat) : Bool := if h : i < s.size then decide (97 ≤ s[i].toNat) && decide (s[i].toNat ≤ 122) else true
theorem lowAt_eq {s : ByteArray} {i : Nat} (h : i < s.size) : lowAt s i = (decide (97 ≤ s[i].toNat) && decide (s[i].toNat ≤ 122)) := by
  unfold lowAt; rw [dif_pos h]
def wordB (s : ByteArray) : Bool := allB s.size (lowAt s) && insB s.size 1 10
def runnerB (r : Runner) : Bool := insB r.id 1 999 && wordB r.name && wordB r.club && insB r.born 1920 2020 && insB r.card 0 9999
def agesB (lo hi : Int) : Bool := insB hi 0 120 && insB lo 0 hi
def classB (c : Cls) : Bool := insB c.id 1 99 && wordB c.name && agesB c.low c.high && (c.women || c.men) && insB c.course 1 20 && insB c.most 1 500
def forB (c : Cls) (age : Int) (woman : Bool) : Bool := insB age c.low c.high && (woman && c.women || !woman && c.men)
def admitB (c : Cls) (r : Runner) : Bool := forB c (2026 - r.born) r.woman
/-- What a class of a list must be, at its place. -/
def clsAt (l : List Cls) (k : Nat) : Bool := match l[k]?, l[k - 1]? with
  | some e, some e' => classB e && (decide (k = 0) || decide (e'.id < e.id)) && !(l.take k).any (fun x => x.name.toList == e.name.toList)
  | _, _ => true
theorem clsAt_eq {l : List Cls} {k : Nat} {e e' : Cls} (h : l[k]? = some e) (h' : l[k - 1]? = some e') : clsAt l k = (classB e && (decide (k = 0) || decide (e'.id < e.id)) && !(l.take k).any (fun x => x.name.toList == e.name.toList)) := by
  simp [clsAt, h, h']
def clssB (l : List Cls) : Bool := allB l.length (clsAt l) && decide (l.length ≤ 8)
theorem clssB_len {l : List Cls} (h : clssB l = true) : l.length ≤ 8 := by
  simp only [clssB, Bool.and_eq_true, decide_eq_true_eq] at h
  exact h.2
theorem clssB_at {l : List Cls} (h : clssB l = true) {k : Nat} (hk : k < l.length) : classB l[k] = true := by
  simp only [clssB, Bool.and_eq_true, allB_iff] at h
  have := h.1 k hk
  rw [clsAt_eq (List.getElem?_eq_getElem hk) (List.getElem?_eq_getElem (by omega))] at this
  simp only [Bool.and_eq_true] at this
  exact this.1.1
/-- What a runner of a list must be, at its place. -/
def runAt (l : List Runner) (k : Nat) : Bool := match l[k]?, l[k - 1]? with
  | some e, some e' => runnerB e && (decide (k = 0) || decide (e'.id < e.id)) && !(decide (0 < e.card) && (l.take k).any (fun x => x.card == e.card))
  | _, _ => true
theorem runAt_eq {l : List Runner} {k : Nat} {e e' : Runner} (h : l[k]? = some e) (h' : l[k - 1]? = some e') : runAt l k = (runnerB e && (decide (k = 0) || decide (e'.id < e.id)) && !(decide (0 < e.card) && (l.take k).any (fun x => x.card == e.card))) := by
  simp [runAt, h, h']
def runsB (l : List Runner) : Bool := allB l.length (runAt l) && decide (l.length ≤ 10)
theorem runsB_len {l : List Runner} (h : runsB l = true) : l.length ≤ 10 := by
  simp only [runsB, Bool.and_eq_true, decide_eq_true_eq] at h
  exact h.2
theorem runsB_at {l : List Runner} (h : runsB l = true) {k : Nat} (hk : k < l.length) : runnerB l[k] = true := by
  simp only [runsB, Bool.and_eq_true, allB_iff] at h
  have := h.1 k hk
  rw [runAt_eq (List.getElem?_eq_getElem hk) (List.getElem?_eq_getElem (by omega))] at this
  simp only [Bool.and_eq_true] at this
  exact this.1.1
end Go.Ori
/- impl.isWord, spec.l2Word. Condition: at most 1048576 bytes. -/
namespace Go.Proofs.Ytfenempljjenpaa
open Go.RowKit Go.Ori
set_option maxHeartbeats 1000000 in
theorem isWord_any (s : ByteArray) (w : World) (hs : s.size ≤ 1048576) :
    Calls Try.prog 52 #[.string s] w fun x w' => x = .returned (.bool (wordB s)) ∧ w = w' := by
  go_enter Try.func52, Try.ntmps52
  go_wp2
  go_loop [3] (fun i => ∃ k : Nat, k ≤ s.size ∧ i = .int .i64 k ∧ (∀ j, j < k → lowAt s j = true)) (fun i => s.size - (intOf i).toNat)
  case atStart => exact ⟨0, by omega, rfl, by simp⟩
  case round =>
    obtain ⟨k, hk, rfl, hok⟩ := hrel
    have HO := Lib.hid hok
    clear hok
    by_cases hlt : k < s.size
    · have HL := Lib.hid (lowAt_eq hlt)
      by_cases h1 : s[k].toNat < 97
      · have HE := Lib.hid (show wordB s = false by rw [wordB, allB_no hlt (by rw [HL.out]; simp; omega)]; rfl)
        go_wp2
        go_ret
        rw [HE.out]
        exact ⟨rfl, rfl⟩
      by_cases h2 : 122 < s[k].toNat
      · have HE := Lib.hid (show wordB s = false by rw [wordB, allB_no hlt (by rw [HL.out]; simp; omega)]; rfl)
        go_wp2
        go_ret
        rw [HE.out]
        exact ⟨rfl, rfl⟩
      · have HS := Lib.hid (step_all HO.out (by rw [HL.out]; simp; omega))
        go_wp2
        go_round
        case rel => exact ⟨k + 1, by omega, by go_num, HS.out⟩
        case measure => simp [intOf]; omega
    · have HE := Lib.hid (show wordB s = insB s.size 1 10 by rw [wordB, allB_yes (fun j hj => HO.out j (by omega))]; rfl)
      go_wp2_with (go_at_call 51; refine (inside_any _ _ _ _).mono ?_; rintro e w1 ⟨rfl, rfl⟩)
      go_ret
      rw [HE.out]
      exact ⟨rfl, rfl⟩
set_option maxHeartbeats 1000000 in
theorem l2Word_any (s : ByteArray) (w : World) (hs : s.size ≤ 1048576) :
    Calls Try.prog 61 #[.string s] w fun x w' => x = .returned (.bool (wordB s)) ∧ w = w' := by
  go_enter Try.func61, Try.ntmps61
  go_wp2
  go_loop [3] (fun i => ∃ k : Nat, k ≤ s.size ∧ i = .int .i64 k ∧ (∀ j, j < k → lowAt s j = true)) (fun i => s.size - (intOf i).toNat)
  case atStart => exact ⟨0, by omega, rfl, by simp⟩
  case round =>
    obtain ⟨k, hk, rfl, hok⟩ := hrel
    have HO := Lib.hid hok
    clear hok
    by_cases hlt : k < s.size
    · have HL := Lib.hid (lowAt_eq hlt)
      by_cases h1 : s[k].toNat < 97
      · have HE := Lib.hid (show wordB s = false by rw [wordB, allB_no hlt (by rw [HL.out]; simp; omega)]; rfl)
        go_wp2
        go_ret
        rw [HE.out]
        exact ⟨rfl, rfl⟩
      by_cases h2 : 122 < s[k].toNat
      · have HE := Lib.hid (show wordB s = false by rw [wordB, allB_no hlt (by rw [HL.out]; simp; omega)]; rfl)
        go_wp2
        go_ret
        rw [HE.out]
        exact ⟨rfl, rfl⟩
      · have HS := Lib.hid (step_all HO.out (by rw [HL.out]; simp; omega))
        go_wp2
        go_round
        case rel => exact ⟨k + 1, by omega, by go_num, HS.out⟩
        case measure => simp [intOf]; omega
    · have HE := Lib.hid (show wordB s = insB s.size 1 10 by rw [wordB, allB_yes (fun j hj => HO.out j (by omega))]; rfl)
      go_wp2_with (go_at_call 50; refine (l1In_any _ _ _ _).mono ?_; rintro e w1 ⟨rfl, rfl⟩)
      go_ret
      rw [HE.out]
      exact ⟨rfl, rfl⟩
end Go.Proofs.Ytfenempljjenpaa
/- impl.IsClass, spec.l7One, spec.IsClass. Condition: a name of at most 1048576 bytes. -/
namespace Go.Proofs.Ytfenempljjenpaa
open Go.RowKit Go.Ori
theorem areAges_any (lo hi : Int) (w : World) :
    Calls Try.prog 53 #[.int .i64 lo, .int .i64 hi] w fun x w' => x = .returned (.bool (agesB lo hi)) ∧ w = w' := by
  go_enter Try.func53, Try.ntmps53
  go_wp2
  all_goals go_ret
  all_goals refine ⟨ret_bool ?_, rfl⟩
  all_goals (rw [Bool.eq_iff_iff]; simp [agesB, insB]; omega)
set_option maxHeartbeats 1000000 in
theorem isClass_any (c : Cls) (w : World) (hn : c.name.size ≤ 1048576) :
    Calls Try.prog 28 #[.agg #[.int .i64 c.id, .string c.name, .int .i64 c.low, .int .i64 c.high, .bool c.women, .bool c.men, .int .i64 c.course, .int .i64 c.most]] w fun x w' => x = .returned (.bool (classB c)) ∧ ∃ d, w' = w.ext d := by
  go_enter Try.func28, Try.ntmps28
  go_wp2_with (first | (go_at_call 51; refine (inside_any _ _ _ _).mono ?_; rintro e w1 ⟨rfl, rfl⟩) | (go_at_call 52; refine (isWord_any _ _ hn).mono ?_; rintro e w1 ⟨rfl, rfl⟩) | (go_at_call 53; refine (areAges_any _ _ _).mono ?_; rintro e w1 ⟨rfl, rfl⟩))
  all_goals go_ret
  all_goals refine ⟨?_, gain_alloc w.gained_refl _⟩
  all_goals simp [classB, *]
set_option maxHeartbeats 1000000 in
theorem l7One_any (c : Cls) (w : World) (hn : c.name.size ≤ 1048576) :
    Calls Try.prog 48 #[.agg #[.int .i64 c.id, .string c.name, .int .i64 c.low, .int .i64 c.high, .bool c.women, .bool c.men, .int .i64 c.course, .int .i64 c.most]] w fun x w' => x = .returned (.bool (classB c)) ∧ ∃ d, w' = w.ext d := by
  go_enter Try.func48, Try.ntmps48
  go_wp2_with (first | (go_at_call 50; refine (l1In_any _ _ _ _).mono ?_; rintro e w1 ⟨rfl, rfl⟩) | (go_at_call 61; refine (l2Word_any _ _ hn).mono ?_; rintro e w1 ⟨rfl, rfl⟩))
  all_goals go_ret
  all_goals refine ⟨?_, gain_alloc w.gained_refl _⟩
  all_goals simp [classB, agesB, *]
end Go.Proofs.Ytfenempljjenpaa
/- slices.IndexFunc, slices.ContainsFunc over classes; the closure of impl.AreClasses. Condition: at most 1048576 classes. -/
namespace Go.Proofs.Ytfenempljjenpaa
open Go.RowKit Go.Ori
set_option maxHeartbeats 1000000 in
theorem indexFunc_clss (K : FuncId) (caps : Array Value) (f : Cls → Bool) (v : Value) (l : List Cls) (w : World) (h : w.sl Cls.cells 8 v l) (hl : l.length ≤ 1048576)
    (hcf : ∀ args W, (callFunc K args).run Try.prog W = .ok (.enter K args) W)
    (hcl : ∀ (n : Cls) d, Calls Try.prog K (#[.agg #[.int .i64 n.id, .string n.name, .int .i64 n.low, .int .i64 n.high, .bool n.women, .bool n.men, .int .i64 n.course, .int .i64 n.most]] ++ caps) (w.ext d) fun x w1 => x = .returned (.bool (f n)) ∧ ∃ d1, w1 = (w.ext d).ext d1) :
    Calls Try.prog 42 #[v, .func (.func K) #[] caps] w fun x w' => x = .returned (.int .i64 (idxB l f)) ∧ ∃ d, w' = w.ext d := by
  have hs := Lib.hid h
  obtain ⟨p, c, rfl, _⟩ := h
  have HCL := Lib.hid hcl
  clear hcl
  go_enter Try.func42, Try.ntmps42
  go_wp2
  go_loopw [8] (fun i wr => ∃ k : Nat, k ≤ l.length ∧ i = .int .i64 k ∧ (∀ (j : Nat) (hj : j < l.length), j < k → f l[j] = false) ∧ ∃ d, wr = w.ext d) (fun i _ => l.length - (intOf i).toNat)
  case atStart => exact ⟨0, by omega, rfl, by simp, w.gained_refl⟩
  case round =>
    obtain ⟨k, hk, rfl, hno, d, rfl⟩ := hrel
    have HN := Lib.hid hno
    clear hno
    by_cases hlt : k < l.length
    · obtain ⟨b, o, rfl⟩ := sl_some hs.out (by omega)
      have hck := fun j (hj : j < 8) => sl_cells hs.out hlt hj
      have c0 := hck 0 (by omega)
      have c1 := hck 1 (by omega)
      have c2 := hck 2 (by omega)
      have c3 := hck 3 (by omega)
      have c4 := hck 4 (by omega)
      have c5 := hck 5 (by omega)
      have c6 := hck 6 (by omega)
      have c7 := hck 7 (by omega)
      have H1 := Lib.hid (fun (hf : f l[k] = true) => idxB_some hlt (HN.out) hf)
      have H2 := Lib.hid (fun (hf : f l[k] = false) => (show ∀ (j : Nat) (hj : j < l.length), j < k + 1 → f l[j] = false from fun j hj hjk => by
        by_cases e : j = k
        · subst e; exact hf
        · exact HN.out j hj (by omega)))
      have HMY := Lib.hid (List.getElem_mem hlt)
      generalize l[k] = y at c0 c1 c2 c3 c4 c5 c6 c7 hck H1 H2 HMY
      clear hck
      simp only [Cls.cells, List.getElem?_cons_zero, List.getElem?_cons_succ, Nat.add_zero] at c0 c1 c2 c3 c4 c5 c6 c7
      have ob := World.oldB_of_cell c0
      go_wp2_with fail
      refine (HCL.out y d).mono ?_
      rintro e w1 ⟨rfl, d1, rfl⟩
      cases hf : f y
      · have H2' := Lib.hid (H2.out hf)
        clear hf
        go_wp2
        go_roundw
        case rel => exact ⟨k + 1, by omega, by go_num, H2'.out, gain_ext ⟨_, rfl⟩ _⟩
        case measure => simp [intOf]; omega
      · have H1' := Lib.hid (H1.out hf)
        clear hf
        go_wp2
        go_ret
        exact ⟨ret_int H1'.out.symm, gain_ext ⟨_, rfl⟩ _⟩
    · go_wp2
      go_ret
      exact ⟨ret_int (by rw [idxB_none (fun j hj => HN.out j hj (by omega))]), _, rfl⟩
theorem containsFunc_clss (K : FuncId) (caps : Array Value) (f : Cls → Bool) (v : Value) (l : List Cls) (w : World) (h : w.sl Cls.cells 8 v l) (hl : l.length ≤ 1048576)
    (hcf : ∀ args W, (callFunc K args).run Try.prog W = .ok (.enter K args) W)
    (hcl : ∀ (n : Cls) d, Calls Try.prog K (#[.agg #[.int .i64 n.id, .string n.name, .int .i64 n.low, .int .i64 n.high, .bool n.women, .bool n.men, .int .i64 n.course, .int .i64 n.most]] ++ caps) (w.ext d) fun x w1 => x = .returned (.bool (f n)) ∧ ∃ d1, w1 = (w.ext d).ext d1) :
    Calls Try.prog 32 #[v, .func (.func K) #[] caps] w fun x w' => x = .returned (.bool (l.any f)) ∧ ∃ d, w' = w.ext d := by
  have HI := Lib.hid (indexFunc_clss K caps f v l w h hl hcf hcl)
  clear hcl hcf
  go_enter Try.func32, Try.ntmps32
  go_wp2_with fail
  refine HI.out.mono ?_
  rintro e w1 ⟨rfl, d1, rfl⟩
  have HA := Lib.hid (idxB_any l f)
  go_wp2
  go_ret
  exact ⟨ret_bool HA.out, _, rfl⟩
theorem areClasses1_any (n : Cls) (s : ByteArray) (g : Nat) (w : World) (ob : w.oldB g) (hc : w.cell? ⟨g, 1, none⟩ = some (.string s)) :
    Calls Try.prog 39 #[.agg #[.int .i64 n.id, .string n.name, .int .i64 n.low, .int .i64 n.high, .bool n.women, .bool n.men, .int .i64 n.course, .int .i64 n.most], .pointer (some ⟨g, 0, none⟩)] w fun x w' => x = .returned (.bool (n.name.toList == s.toList)) ∧ ∃ d, w' = w.ext d := by
  go_enter Try.func39, Try.ntmps39
  go_wp2
  go_ret
  exact ⟨rfl, gain_alloc w.gained_refl _⟩
end Go.Proofs.Ytfenempljjenpaa
