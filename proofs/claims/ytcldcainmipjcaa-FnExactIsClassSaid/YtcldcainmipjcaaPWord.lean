/- Words; runners and classes that are valid: plain functions. No condition. -/
import Derived.Test.YtcldcainmipjcaaPlain
namespace Go.Ori
abbrev Cls.ok (c : Cls) : Prop := c.name.size ≤ maxLen
abbrev Runner.ok (r : Runner) : Prop := r.name.size ≤ maxLen ∧ r.club.size ≤ maxLen
def lowAt (s : ByteArray) (i : Nat) : Bool := if h : i < s.size then decide (97 ≤ s[i].toNat) && decide (s[i].toNat ≤ 122) else true
theorem lowAt_eq {s : ByteArray} {i : Nat} (h : i < s.size) : lowAt s i = (decide (97 ≤ s[i].toNat) && decide (s[i].toNat ≤ 122)) := by
  unfold lowAt; rw [dif_pos h]
def wordB (s : ByteArray) : Bool := allB s.size (lowAt s) && insB s.size 1 10
def runnerB (r : Runner) : Bool := insB r.id 1 999 && wordB r.name && wordB r.club && insB r.born 1920 2020 && insB r.card 0 9999
def agesB (lo hi : Int) : Bool := insB hi 0 120 && insB lo 0 hi
def classB (c : Cls) : Bool := insB c.id 1 99 && wordB c.name && agesB c.low c.high && (c.women || c.men) && insB c.course 1 20 && insB c.most 1 500
def forB (c : Cls) (age : Int) (woman : Bool) : Bool := insB age c.low c.high && (woman && c.women || !woman && c.men)
def admitB (c : Cls) (r : Runner) : Bool := forB c (2026 - r.born) r.woman
end Go.Ori
