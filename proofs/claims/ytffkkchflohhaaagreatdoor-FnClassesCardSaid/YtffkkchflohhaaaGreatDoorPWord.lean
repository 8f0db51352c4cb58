/- Words; runners and classes that are valid: plain functions. No condition. -/
import Derived.Test.YtffkkchflohhaaaGreatDoorPlain
namespace Go.Ori
abbrev Cls.ok (c : Cls) : Prop := c.name.size ≤ maxLen
abbrev Runner.ok (r : Runner) : Prop := r.name.size ≤ maxLen ∧ r.club.size ≤ maxLen
abbrev Cls.small (c : Cls) : Prop := c.name.size ≤ 1048576
abbrev Runner.small (r : Runner) : Prop := r.name.size ≤ 1048576 ∧ r.club.size ≤ 1048576
def lowAt (s : ByteArray) (i : Nat) : Bool := if h : i < s.size then decide (97 ≤ s[i].toNat) && decide (s[i].toNat ≤ 122) else true
theorem lowAt_eq {s : ByteArray} {i : Nat} (h : i < s.size) : lowAt s i = (decide (97 ≤ s[i].toNat) && decide (s[i].toNat ≤ 122)) := by
  unfold lowAt; rw [dif_pos h]
def wordB (s : ByteArray) : Bool := allB s.size (lowAt s) && insB s.size 1 10
def runnerB (r : Runner) : Bool := insB r.id 1 999 && wordB r.name && wordB r.club && insB r.born 1920 2020 && insB r.card 0 9999
def agesB (lo hi : Int) : Bool := insB hi 0 120 && insB lo 0 hi
def classB (c : Cls) : Bool := insB c.id 1 99 && wordB c.name && agesB c.low c.high && (c.women || c.men) && insB c.course 1 20 && insB c.most 1 500
def forB (c : Cls) (age : Int) (woman : Bool) : Bool := insB age c.low c.high && (woman && c.women || !woman && c.men)
def admitB (c : Cls) (r : Runner) : Bool := forB c (2026 - r.born) r.woman
/-- What a class of a list must be, at its place. -/
def clsAt (l : List Cls) (k : Nat) : Bool := match l[k]?, l[k - 1]? with
  | some e, some e' => classB e && (decide (k = 0) || decide (e'.id < e.id)) && !(l.take k).any (fun x => x.name.toList == e.name.toList)
  | _, _ => true
theorem clsAt_eq {l : List Cls} {k : Nat} {e e' : Cls} (h : l[k]? = some e) (h' : l[k - 1]? = some e') : clsAt l k = (classB e && (decide (k = 0) || decide (e'.id < e.id)) && !(l.take k).any (fun x => x.name.toList == e.name.toList)) := by
  simp [clsAt, h, h']
def clssB (l : List Cls) : Bool := allB l.length (clsAt l) && decide (l.length ≤ 8)
theorem clssB_len {l : List Cls} (h : clssB l = true) : l.length ≤ 8 := by
  simp only [clssB, Bool.and_eq_true, decide_eq_true_eq] at h
  exact h.2
theorem clssB_at {l : List Cls} (h : clssB l = true) {k : Nat} (hk : k < l.length) : classB l[k] = true := by
  simp only [clssB, Bool.and_eq_true, allB_iff] at h
  have := h.1 k hk
  rw [clsAt_eq (List.getElem?_eq_getElem hk) (List.getElem?_eq_getElem (by omega))] at this
  simp only [Bool.and_eq_true] at this
  exact this.1.1
/-- What a runner of a list must be, at its place. -/
def runAt (l : List Runner) (k : Nat) : Bool := match l[k]?, l[k - 1]? with
  | some e, some e' => runnerB e && (decide (k = 0) || decide (e'.id < e.id)) && !(decide (0 < e.card) && (l.take k).any (fun x => x.card == e.card))
  | _, _ => true
theorem runAt_eq {l : List Runner} {k : Nat} {e e' : Runner} (h : l[k]? = some e) (h' : l[k - 1]? = some e') : runAt l k = (runnerB e && (decide (k = 0) || decide (e'.id < e.id)) && !(decide (0 < e.card) && (l.take k).any (fun x => x.card == e.card))) := by
  simp [runAt, h, h']
def runsB (l : List Runner) : Bool := allB l.length (runAt l) && decide (l.length ≤ 10)
theorem runsB_len {l : List Runner} (h : runsB l = true) : l.length ≤ 10 := by
  simp only [runsB, Bool.and_eq_true, decide_eq_true_eq] at h
  exact h.2
theorem runsB_at {l : List Runner} (h : runsB l = true) {k : Nat} (hk : k < l.length) : runnerB l[k] = true := by
  simp only [runsB, Bool.and_eq_true, allB_iff] at h
  have := h.1 k hk
  rw [runAt_eq (List.getElem?_eq_getElem hk) (List.getElem?_eq_getElem (by omega))] at this
  simp only [Bool.and_eq_true] at this
  exact this.1.1
end Go.Ori
