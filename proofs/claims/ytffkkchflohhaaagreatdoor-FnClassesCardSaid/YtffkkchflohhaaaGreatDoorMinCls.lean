/- The closure of impl.BestClass; slices.MinFunc over classes. Condition: at most 1048576 classes, ages of classes. -/
import Derived.Test.YtffkkchflohhaaaGreatDoorCmp
namespace Go.Ori
def stepC (o : Option Cls) (c : Cls) : Option Cls := match o with | none => some c | some m => if keyI c < keyI m then some c else some m
/-- The first of those with the least key. -/
def bestO (l : List Cls) : Option Cls := l.foldl stepC none
theorem bestO_snoc (l : List Cls) (c : Cls) : bestO (l ++ [c]) = stepC (bestO l) c := by simp [bestO]
theorem foldC_mem {l : List Cls} {o : Option Cls} {c : Cls} : l.foldl stepC o = some c → o = some c ∨ c ∈ l := by
  induction l generalizing o with
  | nil => intro h; exact .inl h
  | cons a l ih =>
    intro h
    rw [List.foldl_cons] at h
    rcases ih h with h1 | h1
    · unfold stepC at h1
      split at h1
      · simp only [Option.some.injEq] at h1; exact .inr (by simp [h1])
      · split at h1
        · simp only [Option.some.injEq] at h1; exact .inr (by simp [h1])
        · exact .inl h1
    · exact .inr (List.mem_cons_of_mem _ h1)
theorem bestO_mem {l : List Cls} {c : Cls} (h : bestO l = some c) : c ∈ l := by
  rcases foldC_mem h with h | h
  · cases h
  · exact h
end Go.Ori
namespace Go.Proofs.YtffkkchflohhaaaGreatDoor
open Go.RowKit Go.Ori
def ageOk (c : Cls) : Prop := 0 ≤ c.low ∧ c.low ≤ 200 ∧ 0 ≤ c.high ∧ c.high ≤ 200
set_option maxHeartbeats 2000000 in
theorem best1_any (a b : Cls) (w : World) (ha : ageOk a) (hb : ageOk b) :
    Calls Tryz.prog 44 #[.agg #[.int .i64 a.id, .string a.name, .int .i64 a.low, .int .i64 a.high, .bool a.women, .bool a.men, .int .i64 a.course, .int .i64 a.most], .agg #[.int .i64 b.id, .string b.name, .int .i64 b.low, .int .i64 b.high, .bool b.women, .bool b.men, .int .i64 b.course, .int .i64 b.most]] w fun x w' => x = .returned (.int .i64 (cmpC a b)) ∧ ∃ d, w' = w.ext d := by
  obtain ⟨a1, a2, a3, a4⟩ := ha
  obtain ⟨b1, b2, b3, b4⟩ := hb
  have HE : Hid (cmpC a b = orI (cmpI (a.high - a.low) (b.high - b.low)) (cmpI (sexI a) (sexI b)) (cmpI a.id b.id)) := Lib.hid rfl
  have hw1 := Lib.hid (show IntKind.i64.wrap (a.high - a.low) = a.high - a.low by simp [IntKind.wrap, IntKind.bits, IntKind.signed]; omega)
  have hw2 := Lib.hid (show IntKind.i64.wrap (b.high - b.low) = b.high - b.low by simp [IntKind.wrap, IntKind.bits, IntKind.signed]; omega)
  go_enter Tryz.func44, Tryz.ntmps44
  go_upto_region 1 with fail
  generalize hW : (w.alloc (.cells #[.int .i64 a.id, .string a.name, .int .i64 a.low, .int .i64 a.high, .bool a.women, .bool a.men, .int .i64 a.course, .int .i64 a.most] 25)).alloc (.cells #[.int .i64 b.id, .string b.name, .int .i64 b.low, .int .i64 b.high, .bool b.women, .bool b.men, .int .i64 b.course, .int .i64 b.most] 25) = W
  have hgW : ∃ d, W = w.ext d := by rw [← hW]; exact gain_alloc (gain_alloc w.gained_refl _) _
  have x0 : W.cell? ⟨w.heap.size, 0, none⟩ = some (.int .i64 a.id) := by rw [← hW]; simp [go_sem]
  have x1 : W.cell? ⟨w.heap.size, 1, none⟩ = some (.string a.name) := by rw [← hW]; simp [go_sem]
  have x2 : W.cell? ⟨w.heap.size, 2, none⟩ = some (.int .i64 a.low) := by rw [← hW]; simp [go_sem]
  have x3 : W.cell? ⟨w.heap.size, 3, none⟩ = some (.int .i64 a.high) := by rw [← hW]; simp [go_sem]
  have x4 : W.cell? ⟨w.heap.size, 4, none⟩ = some (.bool a.women) := by rw [← hW]; simp [go_sem]
  have x5 : W.cell? ⟨w.heap.size, 5, none⟩ = some (.bool a.men) := by rw [← hW]; simp [go_sem]
  have x6 : W.cell? ⟨w.heap.size, 6, none⟩ = some (.int .i64 a.course) := by rw [← hW]; simp [go_sem]
  have x7 : W.cell? ⟨w.heap.size, 7, none⟩ = some (.int .i64 a.most) := by rw [← hW]; simp [go_sem]
  have y0 : W.cell? ⟨w.heap.size + 1, 0, none⟩ = some (.int .i64 b.id) := by rw [← hW]; simp [go_sem]
  have y1 : W.cell? ⟨w.heap.size + 1, 1, none⟩ = some (.string b.name) := by rw [← hW]; simp [go_sem]
  have y2 : W.cell? ⟨w.heap.size + 1, 2, none⟩ = some (.int .i64 b.low) := by rw [← hW]; simp [go_sem]
  have y3 : W.cell? ⟨w.heap.size + 1, 3, none⟩ = some (.int .i64 b.high) := by rw [← hW]; simp [go_sem]
  have y4 : W.cell? ⟨w.heap.size + 1, 4, none⟩ = some (.bool b.women) := by rw [← hW]; simp [go_sem]
  have y5 : W.cell? ⟨w.heap.size + 1, 5, none⟩ = some (.bool b.men) := by rw [← hW]; simp [go_sem]
  have y6 : W.cell? ⟨w.heap.size + 1, 6, none⟩ = some (.int .i64 b.course) := by rw [← hW]; simp [go_sem]
  have y7 : W.cell? ⟨w.heap.size + 1, 7, none⟩ = some (.int .i64 b.most) := by rw [← hW]; simp [go_sem]
  have HGW := Lib.hid hgW
  clear hW hgW
  go_region_held (fun w' => w'.cell? ⟨w.heap.size, 0, none⟩ = some (.int .i64 a.id) ∧ w'.cell? ⟨w.heap.size, 1, none⟩ = some (.string a.name) ∧ w'.cell? ⟨w.heap.size, 2, none⟩ = some (.int .i64 a.low) ∧ w'.cell? ⟨w.heap.size, 3, none⟩ = some (.int .i64 a.high) ∧ w'.cell? ⟨w.heap.size, 4, none⟩ = some (.bool a.women) ∧ w'.cell? ⟨w.heap.size, 5, none⟩ = some (.bool a.men) ∧ w'.cell? ⟨w.heap.size, 6, none⟩ = some (.int .i64 a.course) ∧ w'.cell? ⟨w.heap.size, 7, none⟩ = some (.int .i64 a.most) ∧ w'.cell? ⟨w.heap.size + 1, 0, none⟩ = some (.int .i64 b.id) ∧ w'.cell? ⟨w.heap.size + 1, 1, none⟩ = some (.string b.name) ∧ w'.cell? ⟨w.heap.size + 1, 2, none⟩ = some (.int .i64 b.low) ∧ w'.cell? ⟨w.heap.size + 1, 3, none⟩ = some (.int .i64 b.high) ∧ w'.cell? ⟨w.heap.size + 1, 4, none⟩ = some (.bool b.women) ∧ w'.cell? ⟨w.heap.size + 1, 5, none⟩ = some (.bool b.men) ∧ w'.cell? ⟨w.heap.size + 1, 6, none⟩ = some (.int .i64 b.course) ∧ w'.cell? ⟨w.heap.size + 1, 7, none⟩ = some (.int .i64 b.most)) (refine ⟨?_, ?_, ?_, ?_, ?_, ?_, ?_, ?_, ?_, ?_, ?_, ?_, ?_, ?_, ?_, ?_⟩ <;> (with_reducible (repeat (first | assumption | refine cell_ext ?_ _ | refine cell_drew ?_ | refine cell_alloc ?_ _)))) (first | (go_at_call 46; refine (compare_any _ _ _).mono ?_; rintro e w1 ⟨rfl, rfl⟩) | (go_at_call_of 47 a.name; refine (sexes_any a _).mono ?_; rintro e w1 ⟨rfl, d1, rfl⟩) | (go_at_call_of 47 b.name; refine (sexes_any b _).mono ?_; rintro e w1 ⟨rfl, d1, rfl⟩) | (go_at_call 45; refine (or_any _ (cmpI (IntKind.i64.wrap (a.high - a.low)) (IntKind.i64.wrap (b.high - b.low))) (cmpI (sexI a) (sexI b)) (cmpI a.id b.id) _ (sl_lit (l := [cmpI (IntKind.i64.wrap (a.high - a.low)) (IntKind.i64.wrap (b.high - b.low)), cmpI (sexI a) (sexI b), cmpI a.id b.id]) intC_length rfl (by simp))).mono ?_; rintro e w1 ⟨rfl, d1, rfl⟩))
  go_wp2
  go_ret
  rw [HE.out]
  rw [hw1.out, hw2.out]
  exact ⟨rfl, gain_trans HGW.out (by repeat (first | with_reducible (first | exact World.gained_refl _ | exact ⟨_, rfl⟩ | apply gain_ext | apply gain_alloc | apply gain_drewN | apply gain_drew) | (refine gain_setCell ?_ (by first | exact Nat.le_refl _ | exact World.size_ext _ _ | (simp; done) | (simp; omega)) _)))⟩
end Go.Proofs.YtffkkchflohhaaaGreatDoor
