/- Entries: when a list of them is valid. No condition. -/
import Derived.Test.YtlcajcodnmpckaaPlain
namespace Go.Ori
def entB (e : Ent) : Bool := insB e.runner 1 999 && insB e.cls 1 99 && insB e.day 0 365 && insB e.paid 0 100000
def entOk (l : List Ent) (k : Nat) : Bool := match l[k]?, l[k - 1]? with
  | some e, some e' => entB e && (decide (k = 0) || decide (e'.runner < e.runner))
  | _, _ => true
theorem entOk_eq {l : List Ent} {k : Nat} {e e' : Ent} (h : l[k]? = some e) (h' : l[k - 1]? = some e') : entOk l k = (entB e && (decide (k = 0) || decide (e'.runner < e.runner))) := by
  simp [entOk, h, h']
def entsB (l : List Ent) : Bool := allB l.length (entOk l) && decide (l.length ≤ 12)
end Go.Ori
