/- A new reader of choices; four results that lie in temps. Condition: at most 1048576 bytes. -/
import Derived.Test.YtffkkchflohhaaaGreatDoorCurP
namespace Go
open RowKit Go.Ori
theorem results_tmp4 {fn : Func} {t u v x : Tmp} (h : fn.results = #[.tmp t, .tmp u, .tmp v, .tmp x]) (tmps : Array Value) (P : Program) (w : World) :
    (results fn tmps).run P w = .ok (.tuple #[tmps.getD t undef, tmps.getD u undef, tmps.getD v undef, tmps.getD x undef]) w := by
  simp [results, h]
theorem cur_new {w : World} {e : TypeId} {p : Option Addr} {c : Nat} {L : List Int} (h : w.sl byteC 1 (.slice p L.length c) L) (hq : ∀ x ∈ L, 0 ≤ x ∧ x ≤ 255) (hl : L.length ≤ 1048576) :
    Cur e w (w.alloc (.cells #[.slice p L.length c, .int .i64 0, .int .u64 0] e)) w.heap.size 0 :=
  ⟨gain_alloc (World.gained_refl _) _, Nat.le_refl _, p, c, L, 0, 0, heap_alloc_new w _, h, hq, hl, Nat.le_refl _⟩
end Go
