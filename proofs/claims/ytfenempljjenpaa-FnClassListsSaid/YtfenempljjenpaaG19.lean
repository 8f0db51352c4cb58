/- impl.AgesWithout, spec.AgesWithout. Condition: at most 1048576 classes, their names too. -/
import Derived.Test.YtfenempljjenpaaG18
import Derived.Test.YtfenempljjenpaaG16
import Derived.Test.YtfenempljjenpaaG8
import Derived.Test.YtfenempljjenpaaG3
namespace Go
open RowKit Go.Ori
theorem cell_upg {w w' : World} {a : Addr} {v : Value} (h : w.cell? a = some v) (hg : ∃ d, w' = w.ext d) : w'.cell? a = some v := by
  obtain ⟨d, rfl⟩ := hg
  exact cell_ext h d
theorem own_form {α : Type} {w : World} {base : Nat} {e : TypeId} {enc : α → List Value} {sz : Nat} {v : Value} {l : List α} (h : w.own base e enc sz v l) (h0 : 0 < l.length) :
    ∃ g cap C, v = .slice (some ⟨g, 0, none⟩) l.length cap ∧ base ≤ g ∧ w.heap[g]? = some (.cells C e (0, 0)) ∧ l.length ≤ cap := by
  obtain ⟨_, ⟨_, hn⟩ | ⟨g, cap, cur, hv, hg, hh, hle, _⟩⟩ := h
  · omega
  · exact ⟨g, cap, cur, hv, hg, hh, hle⟩
section
variable {e1 e : TypeId} {w : World} {lo : Nat} {v x : Value} {vs : List Value} {l : List (List Int)}
/-- row[j] = x, in row i. -/
theorem rows2_put {i g n cap : Nat} (h : World.rows2 e1 e w lo v vs l) (hp : vs.Pairwise Apart2) (hne : e1 ≠ e) (hi : i < l.length) (hi' : i < vs.length) (hv : vs[i] = .slice (some ⟨g, 0, none⟩) n cap) {j : Nat} (hj : j < l[i].length) (y : Int) :
    World.rows2 e1 e (w.setCell ⟨g, j, none⟩ (.int .i64 y)) lo v vs (l.set i (l[i].set j y)) := by
  have hr := h.row i hi hi'
  have hg : w.grownBy (w.setCell ⟨g, j, none⟩ (.int .i64 y)) (vs[i]'hi').ownBlock := by
    rw [hv]
    exact only_setCell (only_refl w _) rfl _
  refine ⟨own_mark h.out hg (apart_type h.out hr hne), by rw [List.length_set]; exact h.len, fun k hk hk' => ?_⟩
  rw [List.length_set] at hk
  rw [List.getElem_set]
  by_cases e : i = k
  · subst e
    rw [if_pos rfl, hv]
    rw [hv] at hr
    have := own_put intC_length hr hj y
    rw [Nat.mul_one] at this
    exact this
  · rw [if_neg e]
    refine own_mark (h.row k hk hk') hg ?_
    rcases Nat.lt_or_gt_of_ne e with h1 | h1
    · exact (List.pairwise_iff_getElem.1 hp i k hi' hk' h1).symm
    · exact List.pairwise_iff_getElem.1 hp k i hk' hi' h1
/-- rows[i] = x, a row of the call's own. -/
theorem rows2_new {i g n cap : Nat} {m : List Int} (h : World.rows2 e1 e w lo (.slice (some ⟨g, 0, none⟩) n cap) vs l) (hne : e1 ≠ e) (hi : i < l.length) (hx : w.own lo e intC 1 x m) :
    World.rows2 e1 e (w.setCell ⟨g, i, none⟩ x) lo (.slice (some ⟨g, 0, none⟩) n cap) (vs.set i x) (l.set i m) := by
  have hg : w.grownBy (w.setCell ⟨g, i, none⟩ x) (Value.slice (some ⟨g, 0, none⟩) n cap).ownBlock := only_setCell (only_refl w _) rfl _
  have hvl := h.len
  refine ⟨?_, by rw [List.length_set, List.length_set]; exact h.len, fun k hk hk' => ?_⟩
  · have := own_put valC_length h.out (by omega : i < vs.length) x
    rw [Nat.mul_one] at this
    exact this
  · rw [List.length_set] at hk hk'
    rw [List.getElem_set, List.getElem_set]
    by_cases e : i = k
    · subst e
      rw [if_pos rfl, if_pos rfl]
      exact own_mark hx hg (apart_type hx h.out hne.symm)
    · rw [if_neg e, if_neg e]
      exact own_mark (h.row k hk hk') hg (apart_type (h.row k hk hk') h.out hne.symm)
theorem pairwise_set {i : Nat} (h : vs.Pairwise Apart2) (hx : ∀ y ∈ vs, Apart2 y x) : (vs.set i x).Pairwise Apart2 := by
  rw [List.pairwise_iff_getElem]
  intro a b ha hb hab
  rw [List.length_set] at ha hb
  rw [List.getElem_set, List.getElem_set]
  by_cases e1 : i = a
  · rw [if_pos e1, if_neg (by omega)]
    exact (hx _ (List.getElem_mem hb)).symm
  · rw [if_neg e1]
    by_cases e2 : i = b
    · rw [if_pos e2]
      exact hx _ (List.getElem_mem ha)
    · rw [if_neg e2]
      exact List.pairwise_iff_getElem.1 h a b ha hb hab
end
end Go
namespace Go.Ori
def ageP (l : List Cls) (woman : Bool) (k : Nat) : Bool := l.any fun c => forB c k woman
def lastA (L : List (Int × Int)) : Int × Int := L.getD (L.length - 1) (0, 0)
def goesA (k : Nat) (L : List (Int × Int)) : Bool := decide (0 < L.length) && decide ((lastA L).2 = (k : Int) - 1)
def stepA (b : Bool) (k : Nat) (L : List (Int × Int)) : List (Int × Int) :=
  if b then L else if goesA k L then L.set (L.length - 1) ((lastA L).1, (k : Int)) else L ++ [((k : Int), (k : Int))]
def agesN (l : List Cls) (woman : Bool) : Nat → List (Int × Int)
  | 0 => []
  | k + 1 => stepA (ageP l woman k) k (agesN l woman k)
def rowsOf (L : List (Int × Int)) : List (List Int) := L.map fun p => [p.1, p.2]
theorem rowsOf_length (L : List (Int × Int)) : (rowsOf L).length = L.length := by simp [rowsOf]
theorem rowsOf_snoc (L : List (Int × Int)) (a b : Int) : rowsOf (L ++ [(a, b)]) = rowsOf L ++ [[a, b]] := by simp [rowsOf]
theorem rowsOf_set (L : List (Int × Int)) (i : Nat) (a b : Int) : rowsOf (L.set i (a, b)) = (rowsOf L).set i [a, b] := by simp [rowsOf, List.map_set]
theorem rowsOf_last {L : List (Int × Int)} (h : 0 < L.length) (h' : L.length - 1 < (rowsOf L).length) : (rowsOf L)[L.length - 1] = [(lastA L).1, (lastA L).2] := by
  simp [rowsOf, lastA, List.getD_eq_getElem?_getD, List.getElem?_eq_getElem (by omega : L.length - 1 < L.length)]
theorem stepA_length (b : Bool) (k : Nat) (L : List (Int × Int)) : (stepA b k L).length ≤ L.length + 1 := by
  unfold stepA
  split
  · omega
  · split <;> simp
theorem agesN_length (l : List Cls) (woman : Bool) (k : Nat) : (agesN l woman k).length ≤ k := by
  induction k with
  | zero => simp [agesN]
  | succ k ih => have := stepA_length (ageP l woman k) k (agesN l woman k); rw [agesN]; omega
def agesL (l : List Cls) (woman : Bool) : List (List Int) := if clssB l then rowsOf (agesN l woman 121) else []
theorem ages_no {l : List Cls} (woman : Bool) (h : clssB l = false) : agesL l woman = [] := by simp [agesL, h]
theorem ages_yes {l : List Cls} (woman : Bool) (h : clssB l = true) : agesL l woman = rowsOf (agesN l woman 121) := by simp [agesL, h]
theorem agesL_tot (l : List Cls) (woman : Bool) : tot2 (agesL l woman) ≤ 1048576 := by
  unfold agesL
  split
  · unfold tot2
    have h1 := psum_bd tot1 (rowsOf (agesN l woman 121)) 2 (by
      intro x hx
      simp only [rowsOf, List.mem_map] at hx
      obtain ⟨p, _, rfl⟩ := hx
      simp [tot1])
    have h2 := agesN_length l woman 121
    rw [rowsOf_length] at h1 ⊢
    omega
  · simp [tot2, psum]
end Go.Ori
namespace Go.Proofs.Ytfenempljjenpaa
open Go.RowKit Go.Ori
theorem agesWithout1_any (n : Cls) (age : Int) (woman : Bool) (a b : Addr) (w : World) (oa : w.oldB a.block) (ha : w.cell? a = some (.int .i64 age)) (ob : w.oldB b.block) (hb : w.cell? b = some (.bool woman)) :
    Calls Try.prog 33 #[.agg #[.int .i64 n.id, .string n.name, .int .i64 n.low, .int .i64 n.high, .bool n.women, .bool n.men, .int .i64 n.course, .int .i64 n.most], .pointer (some a), .pointer (some b)] w fun x w' => x = .returned (.bool (forB n age woman)) ∧ ∃ d, w' = w.ext d := by
  go_enter Try.func33, Try.ntmps33
  go_wp2_with (go_at_call 34; refine (isFor_any _ _ _ _).mono ?_; rintro e w1 ⟨rfl, d1, rfl⟩)
  go_ret
  exact ⟨rfl, (by repeat (first | with_reducible (first | exact World.gained_refl _ | exact ⟨_, rfl⟩ | apply gain_ext | apply gain_alloc | apply gain_drewN | apply gain_drew) | (refine gain_setCell ?_ (by first | exact Nat.le_refl _ | exact World.size_ext _ _ | (simp; done) | (simp; omega)) _)))⟩
set_option maxHeartbeats 2000000 in
theorem agesWithout_any (v : Value) (l : List Cls) (woman : Bool) (w : World) (h : w.sl Cls.cells 8 v l) (hl : l.length ≤ 1048576) (hq : ∀ x ∈ l, Cls.small x) :
    Calls Try.prog 11 #[v, .bool woman] w fun x w' => ∃ r vs, x = .returned (.tuple #[r, .bool (clssB l)]) ∧ (∃ d, w' = w.ext d) ∧ World.rows2 28 3 w' w.heap.size r vs (agesL l woman) ∧ vs.Pairwise Apart2 := by
  have hs := Lib.hid h
  obtain ⟨p, c, rfl, _⟩ := h
  have HG := Lib.hid (fun W hW => areClasses_any (.slice p l.length c) l W hW hl hq)
  cases hC : clssB l with
  | false =>
    have HE := Lib.hid (ages_no woman hC)
    rw [hC] at HG
    clear hC
    go_enter Try.func11, Try.ntmps11
    go_wp2_with (go_at_call 17; refine (HG.out _ (by with_reducible (repeat (first | exact hs.out | refine World.sl_ext Cls.cells_length ?_ _ | refine sl_alloc Cls.cells_length ?_ _ | refine sl_drew ?_)))).mono ?_; rintro e w1 ⟨rfl, d1, rfl⟩)
    go_ret2
    rw [HE.out]
    exact ⟨_, [], rfl, (by repeat (first | with_reducible (first | exact World.gained_refl _ | exact ⟨_, rfl⟩ | apply gain_ext | apply gain_alloc | apply gain_drewN | apply gain_drew) | (refine gain_setCell ?_ (by first | exact Nat.le_refl _ | exact World.size_ext _ _ | (simp; done) | (simp; omega)) _))), rows2_nil (own_nil _ _ _ _ _), by simp⟩
  | true =>
    have HE := Lib.hid (ages_yes woman hC)
    rw [hC] at HG
    clear hC
    go_enter Try.func11, Try.ntmps11
    go_wp2_with (go_at_call 17; refine (HG.out _ (by with_reducible (repeat (first | exact hs.out | refine World.sl_ext Cls.cells_length ?_ _ | refine sl_alloc Cls.cells_length ?_ _ | refine sl_drew ?_)))).mono ?_; rintro e w1 ⟨rfl, d1, rfl⟩)
    generalize hW : (w.alloc (.cells #[.bool woman] 4)).ext d1 = W0
    have hgW : ∃ d, W0 = w.ext d := by rw [← hW]; exact (by repeat (first | with_reducible (first | exact World.gained_refl _ | exact ⟨_, rfl⟩ | apply gain_ext | apply gain_alloc | apply gain_drewN | apply gain_drew) | (refine gain_setCell ?_ (by first | exact Nat.le_refl _ | exact World.size_ext _ _ | (simp; done) | (simp; omega)) _)))
    have cb : W0.cell? ⟨w.heap.size, 0, none⟩ = some (.bool woman) := by rw [← hW]; simp [go_sem]
    have obb := World.oldB_of_cell cb
    have hsW := Lib.hid (sl_up Cls.cells_length hs.out hgW)
    have HGW := Lib.hid hgW
    have hsz : w.heap.size ≤ W0.heap.size := gain_size hgW
    clear hW hgW hs HG
    go_loopw [6, 7] (fun ov pv wr => ∃ (k g : Nat) (Y : World) (vs : List Value), k ≤ 121 ∧ pv = .pointer (some ⟨g, 0, none⟩) ∧ wr.heap[g]? = some (.cells #[.int .i64 k] 3 (0, 0)) ∧ (∃ d, Y = W0.ext d) ∧ (∃ d, wr = Y.ext d) ∧ Y.heap.size ≤ g ∧ World.rows2 28 3 Y W0.heap.size ov vs (rowsOf (agesN l woman k)) ∧ vs.Pairwise Apart2)
      (fun _ pv wr => match pv with | .pointer (some a) => (match wr.cell? a with | some x => 121 - (intOf x).toNat | none => 0) | _ => 0)
    case atStart => exact ⟨0, _, W0.alloc (.cells #[] 28), [], by omega, rfl, (show _ from World.size_alloc W0 _ ▸ heap_alloc_new (W0.alloc (.cells #[] 28)) _), (by repeat (first | with_reducible (first | exact World.gained_refl _ | exact ⟨_, rfl⟩ | apply gain_ext | apply gain_alloc | apply gain_drewN | apply gain_drew) | (refine gain_setCell ?_ (by first | exact Nat.le_refl _ | exact World.size_ext _ _ | (simp; done) | (simp; omega)) _))), (by repeat (first | with_reducible (first | exact World.gained_refl _ | exact ⟨_, rfl⟩ | apply gain_ext | apply gain_alloc | apply gain_drewN | apply gain_drew) | (refine gain_setCell ?_ (by first | exact Nat.le_refl _ | exact World.size_ext _ _ | (simp; done) | (simp; omega)) _))), by rw [World.size_alloc]; exact Nat.le_refl _, rows2_nil (own_lit' (l := ([] : List Value)) valC_length rfl rfl (gain_size (by repeat (first | with_reducible (first | exact World.gained_refl _ | exact ⟨_, rfl⟩ | apply gain_ext | apply gain_alloc | apply gain_drewN | apply gain_drew) | (refine gain_setCell ?_ (by first | exact Nat.le_refl _ | exact World.size_ext _ _ | (simp; done) | (simp; omega)) _))))), by simp⟩
    case round =>
      obtain ⟨k, g, Y, vs, hk, rfl, hC, ⟨dY, rfl⟩, ⟨d, rfl⟩, hYg, hr, hp⟩ := hrel
      have ck : ((W0.ext dY).ext d).cell? ⟨g, 0, none⟩ = some (.int .i64 k) := by rw [World.cell_of_heap hC]; rfl
      have obk := World.oldB_of_cell ck
      have hgl : g < ((W0.ext dY).ext d).heap.size := (Array.getElem?_eq_some_iff.1 hC).1
      have HR := Lib.hid (rows2_up hr (⟨d, rfl⟩ : ∃ d', (W0.ext dY).ext d = (W0.ext dY).ext d'))
      have HLT := Lib.hid (fun (i : Nat) (hi : i < vs.length) (hi' : i < (rowsOf (agesN l woman k)).length) => own_lt (hr.row i hi' hi))
      have HOV := Lib.hid (own_lt hr.out)
      have HP := Lib.hid hp
      have HS : Hid (agesN l woman (k + 1) = stepA (ageP l woman k) k (agesN l woman k)) := Lib.hid rfl
      clear hC hr hp
      by_cases hlt : k ≤ 120
      · cases hA : ageP l woman k with
        | true =>
          rw [hA] at HS
          have hA' : (l.any fun n => forB n (k : Int) woman) = true := hA
          go_wp2_with fail
          refine (containsFunc_clss 33 _ (fun n => forB n (k : Int) woman) _ l _ (by with_reducible (repeat (first | exact hsW.out | refine World.sl_ext Cls.cells_length ?_ _ | refine sl_alloc Cls.cells_length ?_ _ | refine sl_drew ?_))) hl (fun _ _ => by kernel_rfl) (fun n d => ?hcl)).mono ?_
          case hcl =>
            refine agesWithout1_any n k woman _ _ _ ?_ ?_ ?_ ?_ <;> simp [go_sem, *]
          rintro e w1 ⟨he, d1, rfl⟩
          rw [hA'] at he
          subst he
          clear hA hA'
          go_wp2
          go_roundw
          case rel => exact ⟨k + 1, _, _, vs, by omega, rfl, heap_alloc_new _ _, gain_trans ⟨dY, rfl⟩ (by repeat (first | with_reducible (first | exact World.gained_refl _ | exact ⟨_, rfl⟩ | apply gain_ext | apply gain_alloc | apply gain_drewN | apply gain_drew) | (refine gain_setCell ?_ (by first | exact Nat.le_refl _ | exact World.size_ext _ _ | (simp; done) | (simp; omega)) _))), (by repeat (first | with_reducible (first | exact World.gained_refl _ | exact ⟨_, rfl⟩ | apply gain_ext | apply gain_alloc | apply gain_drewN | apply gain_drew) | (refine gain_setCell ?_ (by first | exact Nat.le_refl _ | exact World.size_ext _ _ | (simp; done) | (simp; omega)) _))), Nat.le_refl _, by rw [HS.out]; exact rows2_up HR.out (by repeat (first | with_reducible (first | exact World.gained_refl _ | exact ⟨_, rfl⟩ | apply gain_ext | apply gain_alloc | apply gain_drewN | apply gain_drew) | (refine gain_setCell ?_ (by first | exact Nat.le_refl _ | exact World.size_ext _ _ | (simp; done) | (simp; omega)) _))), HP.out⟩
          case measure => simp [ck, intOf, World.cell?_alloc_new]; omega
        | false =>
          rw [hA] at HS
          have hA' : (l.any fun n => forB n (k : Int) woman) = false := hA
          go_wp2_with fail
          refine (containsFunc_clss 33 _ (fun n => forB n (k : Int) woman) _ l _ (by with_reducible (repeat (first | exact hsW.out | refine World.sl_ext Cls.cells_length ?_ _ | refine sl_alloc Cls.cells_length ?_ _ | refine sl_drew ?_))) hl (fun _ _ => by kernel_rfl) (fun n d => ?hcl)).mono ?_
          case hcl =>
            refine agesWithout1_any n k woman _ _ _ ?_ ?_ ?_ ?_ <;> simp [go_sem, *]
          rintro e w1 ⟨he, d1, rfl⟩
          rw [hA'] at he
          subst he
          clear hA hA'
          have hvl : vs.length = (agesN l woman k).length := by rw [HR.out.len, rowsOf_length]
          have hLn := agesN_length l woman k
          generalize agesN l woman k = L at HS HR HLT hvl hLn
          by_cases hn : L.length = 0
          · obtain rfl : L = [] := List.eq_nil_of_length_eq_zero hn
            obtain rfl : vs = [] := List.eq_nil_of_length_eq_zero hvl
            have HS' : Hid (agesN l woman (k + 1) = [] ++ [((k : Int), (k : Int))]) := Lib.hid HS.out
            obtain ⟨pr, cr, rfl, _⟩ := sl_of_own valC_length HR.out.out
            clear HS
            go_wp2
            refine wp_region_gain (by kernel_rfl) (by kernel_rfl) ?_
            repeat (first | go_big_quiet_skip | (go_big_quiet_want; go_big_quiet_op; first | go_big_quiet_on))
            refine wpQuiet_nil ?_
            rintro _ ⟨d', rfl⟩
            go_wp2_with (at_builtin; go_must (refine wpList_append_val (x := _) rfl (.tmp 42) (.tmp 46) rfl Try.underlying40 info_slc (by rfl) (by omega) (by repeat (first | with_reducible (first | exact World.gained_refl _ | exact ⟨_, rfl⟩ | apply gain_ext | apply gain_alloc | apply gain_drewN | apply gain_drew) | (refine gain_setCell ?_ (by first | exact Nat.le_refl _ | exact World.size_ext _ _ | (simp; done) | (simp; omega)) _))) (Nat.le_refl _) (gain_size (by repeat (first | with_reducible (first | exact World.gained_refl _ | exact ⟨_, rfl⟩ | apply gain_ext | apply gain_alloc | apply gain_drewN | apply gain_drew) | (refine gain_setCell ?_ (by first | exact Nat.le_refl _ | exact World.size_ext _ _ | (simp; done) | (simp; omega)) _)))) rfl rfl rfl (own_up (HR.out.out) (by repeat (first | with_reducible (first | exact World.gained_refl _ | exact ⟨_, rfl⟩ | apply gain_ext | apply gain_alloc | apply gain_drewN | apply gain_drew) | (refine gain_setCell ?_ (by first | exact Nat.le_refl _ | exact World.size_ext _ _ | (simp; done) | (simp; omega)) _)))) (cell_lit (by first | rfl | simp [World.size_alloc])) (by simp) ?_); intro v9 d9 ho hg; have cg := (World.cell?_of_block (a := ⟨g, 0, none⟩) (hg.block g (Nat.lt_of_lt_of_le hgl (gain_size (by repeat (first | with_reducible (first | exact World.gained_refl _ | exact ⟨_, rfl⟩ | apply gain_ext | apply gain_alloc | apply gain_drewN | apply gain_drew) | (refine gain_setCell ?_ (by first | exact Nat.le_refl _ | exact World.size_ext _ _ | (simp; done) | (simp; omega)) _))))) (fun e => by have := (HOV.out g e.symm).2; omega))).trans (cell_upg ck (by repeat (first | with_reducible (first | exact World.gained_refl _ | exact ⟨_, rfl⟩ | apply gain_ext | apply gain_alloc | apply gain_drewN | apply gain_drew) | (refine gain_setCell ?_ (by first | exact Nat.le_refl _ | exact World.size_ext _ _ | (simp; done) | (simp; omega)) _)))); have obg := World.oldB_of_cell cg)
            go_roundw
            case rel => exact ⟨k + 1, _, W0.ext d9, _, by omega, rfl, heap_alloc_new _ _, ⟨_, rfl⟩, (by repeat (first | with_reducible (first | exact World.gained_refl _ | exact ⟨_, rfl⟩ | apply gain_ext | apply gain_alloc | apply gain_drewN | apply gain_drew) | (refine gain_setCell ?_ (by first | exact Nat.le_refl _ | exact World.size_ext _ _ | (simp; done) | (simp; omega)) _))), Nat.le_refl _, by rw [HS'.out, rowsOf_snoc]; have hx := own_lit' (w := ((((W0.ext dY).ext d).ext d1).ext d')) (base := W0.heap.size) (e := 3) (C := #[.int .i64 (k : Int), .int .i64 (k : Int)]) (l := [(k : Int), (k : Int)]) intC_length rfl rfl (gain_size (by repeat (first | with_reducible (first | exact World.gained_refl _ | exact ⟨_, rfl⟩ | apply gain_ext | apply gain_alloc | apply gain_drewN | apply gain_drew) | (refine gain_setCell ?_ (by first | exact Nat.le_refl _ | exact World.size_ext _ _ | (simp; done) | (simp; omega)) _)))); exact rows2_snoc (w := (((((W0.ext dY).ext d).ext d1).ext d').alloc (.cells #[.int .i64 k, .int .i64 k] 3)).alloc (.cells #[.slice (some ⟨((((W0.ext dY).ext d).ext d1).ext d').heap.size, 0, none⟩) 2 2] 28)) (rows2_up HR.out (by repeat (first | with_reducible (first | exact World.gained_refl _ | exact ⟨_, rfl⟩ | apply gain_ext | apply gain_alloc | apply gain_drewN | apply gain_drew) | (refine gain_setCell ?_ (by first | exact Nat.le_refl _ | exact World.size_ext _ _ | (simp; done) | (simp; omega)) _)))) (own_up hx (by repeat (first | with_reducible (first | exact World.gained_refl _ | exact ⟨_, rfl⟩ | apply gain_ext | apply gain_alloc | apply gain_drewN | apply gain_drew) | (refine gain_setCell ?_ (by first | exact Nat.le_refl _ | exact World.size_ext _ _ | (simp; done) | (simp; omega)) _)))) (by decide) ho hg, pairwise_snoc HP.out (rows2_apart (Y := ((((W0.ext dY).ext d).ext d1).ext d')) (rows2_up HR.out (by repeat (first | with_reducible (first | exact World.gained_refl _ | exact ⟨_, rfl⟩ | apply gain_ext | apply gain_alloc | apply gain_drewN | apply gain_drew) | (refine gain_setCell ?_ (by first | exact Nat.le_refl _ | exact World.size_ext _ _ | (simp; done) | (simp; omega)) _)))) (own_lit (l := [(k : Int), (k : Int)]) intC_length rfl (by simp)))⟩
            case measure => simp [ck, intOf, World.cell?_alloc_new]; omega
          · obtain ⟨m, hm⟩ : ∃ m, L.length = m + 1 := ⟨L.length - 1, by omega⟩
            have hvm : vs.length = m + 1 := by omega
            have hrl : (rowsOf L).length = m + 1 := by rw [rowsOf_length]; exact hm
            obtain ⟨og, ocap, oC, rfl, hog, hoC, _⟩ := own_form HR.out.out (by omega)
            have hrow := HR.out.row m (by omega) (by omega)
            have hlast : (rowsOf L)[m]'(by omega) = [(lastA L).1, (lastA L).2] := by
              have := rowsOf_last (L := L) (by omega) (by omega)
              simp only [hm, Nat.add_sub_cancel] at this
              exact this
            rw [hlast] at hrow
            obtain ⟨rg, rcap, rC, hrv, hrg, hrC, _⟩ := own_form hrow (by simp)
            have HRVE := Lib.hid hrv
            have HRV := Lib.hid (show (vs[m]'(by omega)).ownBlock = some rg by rw [hrv]; rfl)
            have cO := sl_cells (sl_of_own valC_length HR.out.out) (k := m) (by omega) (j := 0) (by omega)
            have cR := sl_cells (hrv ▸ sl_of_own intC_length hrow) (k := 1) (by simp) (j := 0) (by omega)
            simp only [valC, intC, hrv, List.getElem?_cons_zero, List.getElem_cons_succ, List.getElem_cons_zero, List.length_cons, List.length_nil, Nat.zero_add, Nat.add_zero, Nat.mul_one, Nat.reduceAdd] at cO cR hrv
            have obo := World.oldB_of_cell cO
            have obr := World.oldB_of_cell cR
            have zR := World.free_of_heap hrC 1
            have hrl' := (HLT.out m (by omega) (by omega) rg HRV.out).2
            rw [hvm] at HR ⊢
            have hm1 : m ≤ 121 := by omega
            generalize hLA : lastA L = la at *
            by_cases hq : la.2 = (k : Int) - 1
            · have HS' : Hid (agesN l woman (k + 1) = L.set m (la.1, (k : Int))) := Lib.hid (by rw [HS.out, stepA, if_neg (by simp), if_pos (by simp [goesA, hLA, hq]; omega), hm, hLA]; rfl)
              clear HS
              have hgr1 : ¬ g = rg := by have := (HLT.out m (by omega) (by omega) rg HRV.out).2; omega
              have hgr2 : ¬ rg = g := fun e => hgr1 e.symm
              go_wp2
              refine wp_region_gain (by kernel_rfl) (by kernel_rfl) ?_
              repeat (first | go_big_quiet_skip | (go_big_quiet_want; go_big_quiet_op; first | go_big_quiet_on))
              refine wpQuiet_nil ?_
              rintro _ ⟨d', rfl⟩
              have hmm : (m : Int) < (m : Int) + 1 := by omega
              go_upto_region 10 with fail
              go_region_law fail
              all_goals
                go_wp2
                have hgl2 : W0.heap.size ≤ rg := hrg
                have HPUT := Lib.hid (rows2_put (w := ((((W0.ext dY).ext d).ext d1).ext d')) (rows2_up HR.out (by repeat (first | with_reducible (first | exact World.gained_refl _ | exact ⟨_, rfl⟩ | apply gain_ext | apply gain_alloc | apply gain_drewN | apply gain_drew) | (refine gain_setCell ?_ (by first | exact Nat.le_refl _ | exact World.size_ext _ _ | (simp; done) | (simp; omega)) _)))) HP.out (by decide) (i := m) (by omega) (by omega) HRVE.out (j := 1) (by rw [hlast]; simp) (k : Int))
                rw [hlast] at HPUT
                have HYG : Hid (∃ d9, ((((((W0.ext dY).ext d).ext d1).ext d').setCell ⟨rg, 1, none⟩ (.int .i64 k)) = W0.ext d9)) := Lib.hid (gain_setCell (by repeat (first | with_reducible (first | exact World.gained_refl _ | exact ⟨_, rfl⟩ | apply gain_ext | apply gain_alloc | apply gain_drewN | apply gain_drew) | (refine gain_setCell ?_ (by first | exact Nat.le_refl _ | exact World.size_ext _ _ | (simp; done) | (simp; omega)) _))) hgl2 _)
                go_roundw
                case rel => exact ⟨k + 1, _, ((((W0.ext dY).ext d).ext d1).ext d').setCell ⟨rg, 1, none⟩ (.int .i64 k), vs, by omega, rfl, by rw [← World.size_setCell ((((W0.ext dY).ext d).ext d1).ext d') ⟨rg, 1, none⟩ (.int .i64 k)]; exact heap_alloc_new _ _, HYG.out, (by repeat (first | with_reducible (first | exact World.gained_refl _ | exact ⟨_, rfl⟩ | apply gain_ext | apply gain_alloc | apply gain_drewN | apply gain_drew) | (refine gain_setCell ?_ (by first | exact Nat.le_refl _ | exact World.size_ext _ _ | (simp; done) | (simp; omega)) _))), Nat.le_of_eq (World.size_setCell _ _ _), by rw [HS'.out, rowsOf_set]; exact HPUT.out, HP.out⟩
                case measure =>
                  have hcn : (((((((W0.ext dY).ext d).ext d1).ext d').setCell ⟨rg, 1, none⟩ (.int .i64 k)).alloc (.cells #[.int .i64 ((k : Int) + 1)] 3)).drew).cell? ⟨((((W0.ext dY).ext d).ext d1).ext d').heap.size, 0, none⟩ = some (.int .i64 ((k : Int) + 1)) := by
                    show ((((((W0.ext dY).ext d).ext d1).ext d').setCell ⟨rg, 1, none⟩ (.int .i64 k)).alloc (.cells #[.int .i64 ((k : Int) + 1)] 3)).cell? ⟨((((W0.ext dY).ext d).ext d1).ext d').heap.size, 0, none⟩ = _
                    rw [← World.size_setCell ((((W0.ext dY).ext d).ext d1).ext d') ⟨rg, 1, none⟩ (.int .i64 k), World.cell?_alloc_new]
                    rfl
                  simp [ck, hcn, intOf]; omega
            · have HS' : Hid (agesN l woman (k + 1) = L ++ [((k : Int), (k : Int))]) := Lib.hid (by rw [HS.out, stepA, if_neg (by simp), if_neg (by simp [goesA, hLA, hq])])
              clear HS
              go_wp2
              refine wp_region_gain (by kernel_rfl) (by kernel_rfl) ?_
              repeat (first | go_big_quiet_skip | (go_big_quiet_want; go_big_quiet_op; first | go_big_quiet_on))
              refine wpQuiet_nil ?_
              rintro _ ⟨d', rfl⟩
              go_wp2_with (at_builtin; go_must (refine wpList_append_val (x := _) rfl (.tmp 42) (.tmp 46) rfl Try.underlying40 info_slc (by rfl) (by omega) (by repeat (first | with_reducible (first | exact World.gained_refl _ | exact ⟨_, rfl⟩ | apply gain_ext | apply gain_alloc | apply gain_drewN | apply gain_drew) | (refine gain_setCell ?_ (by first | exact Nat.le_refl _ | exact World.size_ext _ _ | (simp; done) | (simp; omega)) _))) (Nat.le_refl _) (gain_size (by repeat (first | with_reducible (first | exact World.gained_refl _ | exact ⟨_, rfl⟩ | apply gain_ext | apply gain_alloc | apply gain_drewN | apply gain_drew) | (refine gain_setCell ?_ (by first | exact Nat.le_refl _ | exact World.size_ext _ _ | (simp; done) | (simp; omega)) _)))) rfl rfl rfl (own_up (HR.out.out) (by repeat (first | with_reducible (first | exact World.gained_refl _ | exact ⟨_, rfl⟩ | apply gain_ext | apply gain_alloc | apply gain_drewN | apply gain_drew) | (refine gain_setCell ?_ (by first | exact Nat.le_refl _ | exact World.size_ext _ _ | (simp; done) | (simp; omega)) _)))) (cell_lit (by first | rfl | simp [World.size_alloc])) (by omega) ?_); intro v9 d9 ho hg; have cg := (World.cell?_of_block (a := ⟨g, 0, none⟩) (hg.block g (Nat.lt_of_lt_of_le hgl (gain_size (by repeat (first | with_reducible (first | exact World.gained_refl _ | exact ⟨_, rfl⟩ | apply gain_ext | apply gain_alloc | apply gain_drewN | apply gain_drew) | (refine gain_setCell ?_ (by first | exact Nat.le_refl _ | exact World.size_ext _ _ | (simp; done) | (simp; omega)) _))))) (fun e => by have := (HOV.out g e.symm).2; omega))).trans (cell_upg ck (by repeat (first | with_reducible (first | exact World.gained_refl _ | exact ⟨_, rfl⟩ | apply gain_ext | apply gain_alloc | apply gain_drewN | apply gain_drew) | (refine gain_setCell ?_ (by first | exact Nat.le_refl _ | exact World.size_ext _ _ | (simp; done) | (simp; omega)) _)))); have obg := World.oldB_of_cell cg)
              go_roundw
              case rel => exact ⟨k + 1, _, W0.ext d9, _, by omega, rfl, heap_alloc_new _ _, ⟨_, rfl⟩, (by repeat (first | with_reducible (first | exact World.gained_refl _ | exact ⟨_, rfl⟩ | apply gain_ext | apply gain_alloc | apply gain_drewN | apply gain_drew) | (refine gain_setCell ?_ (by first | exact Nat.le_refl _ | exact World.size_ext _ _ | (simp; done) | (simp; omega)) _))), Nat.le_refl _, by rw [HS'.out, rowsOf_snoc]; have hx := own_lit' (w := ((((W0.ext dY).ext d).ext d1).ext d')) (base := W0.heap.size) (e := 3) (C := #[.int .i64 (k : Int), .int .i64 (k : Int)]) (l := [(k : Int), (k : Int)]) intC_length rfl rfl (gain_size (by repeat (first | with_reducible (first | exact World.gained_refl _ | exact ⟨_, rfl⟩ | apply gain_ext | apply gain_alloc | apply gain_drewN | apply gain_drew) | (refine gain_setCell ?_ (by first | exact Nat.le_refl _ | exact World.size_ext _ _ | (simp; done) | (simp; omega)) _)))); exact rows2_snoc (w := (((((W0.ext dY).ext d).ext d1).ext d').alloc (.cells #[.int .i64 k, .int .i64 k] 3)).alloc (.cells #[.slice (some ⟨((((W0.ext dY).ext d).ext d1).ext d').heap.size, 0, none⟩) 2 2] 28)) (rows2_up HR.out (by repeat (first | with_reducible (first | exact World.gained_refl _ | exact ⟨_, rfl⟩ | apply gain_ext | apply gain_alloc | apply gain_drewN | apply gain_drew) | (refine gain_setCell ?_ (by first | exact Nat.le_refl _ | exact World.size_ext _ _ | (simp; done) | (simp; omega)) _)))) (own_up hx (by repeat (first | with_reducible (first | exact World.gained_refl _ | exact ⟨_, rfl⟩ | apply gain_ext | apply gain_alloc | apply gain_drewN | apply gain_drew) | (refine gain_setCell ?_ (by first | exact Nat.le_refl _ | exact World.size_ext _ _ | (simp; done) | (simp; omega)) _)))) (by decide) ho hg, pairwise_snoc HP.out (rows2_apart (Y := ((((W0.ext dY).ext d).ext d1).ext d')) (rows2_up HR.out (by repeat (first | with_reducible (first | exact World.gained_refl _ | exact ⟨_, rfl⟩ | apply gain_ext | apply gain_alloc | apply gain_drewN | apply gain_drew) | (refine gain_setCell ?_ (by first | exact Nat.le_refl _ | exact World.size_ext _ _ | (simp; done) | (simp; omega)) _)))) (own_lit (l := [(k : Int), (k : Int)]) intC_length rfl (by simp)))⟩
              case measure => simp [ck, intOf, World.cell?_alloc_new]; omega
      · go_wp2
        go_ret2
        obtain rfl : k = 121 := by omega
        rw [HE.out]
        exact ⟨_, _, rfl, gain_trans HGW.out (by repeat (first | with_reducible (first | exact World.gained_refl _ | exact ⟨_, rfl⟩ | apply gain_ext | apply gain_alloc | apply gain_drewN | apply gain_drew) | (refine gain_setCell ?_ (by first | exact Nat.le_refl _ | exact World.size_ext _ _ | (simp; done) | (simp; omega)) _))), rows2_base (rows2_up HR.out (by repeat (first | with_reducible (first | exact World.gained_refl _ | exact ⟨_, rfl⟩ | apply gain_ext | apply gain_alloc | apply gain_drewN | apply gain_drew) | (refine gain_setCell ?_ (by first | exact Nat.le_refl _ | exact World.size_ext _ _ | (simp; done) | (simp; omega)) _)))) hsz, HP.out⟩
end Go.Proofs.Ytfenempljjenpaa
