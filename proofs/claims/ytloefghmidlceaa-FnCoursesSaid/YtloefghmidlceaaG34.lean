/- Texts laid together: When a list of cells is a route; sums over its steps. No condition.; spec.l4Climb of a route. Condition: a map in memory.; slices.Index and slices.Contains over ints. Condition: at most 1048576 elements. -/
import Derived.Test.YtloefghmidlceaaG7
import Derived.Test.YtloefghmidlceaaG10
import Derived.Test.YtloefghmidlceaaG18
import Derived.Test.YtloefghmidlceaaRows
import Derived.Test.YtloefghmidlceaaG3
/- When a list of cells is a route; sums over its steps. No condition. -/
namespace Go.Ori
def routeAt (m : Mp) (l : List Int) (i : Nat) : Bool := match l[i]?, l[i - 1]? with
  | some x, some p => openB m x && !hasB (l.take i) x && (decide (i = 0) || decide (gapN m.wd.toNat p.toNat x.toNat = 1))
  | _, _ => true
theorem routeAt_eq {m : Mp} {l : List Int} {i : Nat} {x p : Int} (h : l[i]? = some x) (hp : l[i - 1]? = some p) : routeAt m l i = (openB m x && !hasB (l.take i) x && (decide (i = 0) || decide (gapN m.wd.toNat p.toNat x.toNat = 1))) := by
  simp [routeAt, h, hp]
/-- .. given that the map is valid. -/
def routeR (m : Mp) (l : List Int) : Bool := allB l.length (routeAt m l) && decide (0 < l.length)
def routeB (m : Mp) (l : List Int) : Bool := mapB m && routeR m l
theorem nat_of_open {m : Mp} {l : List Int} (h : ∀ x ∈ l, openB m x = true) : ∃ r : List Nat, l = r.map (fun k : Nat => (k : Int)) ∧ ∀ k ∈ r, k < m.cost.length ∧ 0 < costAt m k := by
  refine ⟨l.map Int.toNat, ?_, ?_⟩
  · rw [List.map_map]
    conv => lhs; rw [← List.map_id l]
    apply List.map_congr_left
    intro x hx
    obtain ⟨k, rfl, _⟩ := openB_true (h x hx)
    rfl
  · intro k hk
    obtain ⟨x, hx, rfl⟩ := List.mem_map.1 hk
    obtain ⟨j, rfl, h1, h2⟩ := openB_true (h x hx)
    exact ⟨h1, h2⟩
structure Rt (m : Mp) (r : List Nat) : Prop where
  pos : 0 < r.length
  cell : ∀ k ∈ r, k < m.cost.length ∧ 0 < costAt m k
  nodup : r.Nodup
  next : ∀ i (h : i + 1 < r.length), gapN m.wd.toNat (r[i]'(by omega)) r[i + 1] = 1
theorem routeB_true {m : Mp} {l : List Int} (h : routeB m l = true) : ∃ r : List Nat, l = r.map (fun k : Nat => (k : Int)) ∧ Rt m r := by
  simp only [routeB, routeR, Bool.and_eq_true, decide_eq_true_eq, allB_iff] at h
  obtain ⟨hm, ha, h0⟩ := h
  have hat : ∀ i (hi : i < l.length), openB m l[i] = true ∧ hasB (l.take i) l[i] = false ∧ (i = 0 ∨ gapN m.wd.toNat (l[i - 1]'(by omega)).toNat l[i].toNat = 1) := by
    intro i hi
    have := ha i hi
    rw [routeAt_eq (List.getElem?_eq_getElem hi) (List.getElem?_eq_getElem (by omega))] at this
    simpa [Bool.and_eq_true, and_assoc] using this
  obtain ⟨r, rfl, hr⟩ := nat_of_open (m := m) (l := l) (fun x hx => by
    obtain ⟨i, hi, rfl⟩ := List.getElem_of_mem hx
    exact (hat i hi).1)
  refine ⟨r, rfl, by simpa using h0, hr, ?_, fun i hi => ?_⟩
  · rw [List.nodup_iff_pairwise_ne, List.pairwise_iff_getElem]
    intro i j hi hj hij e
    have := (hat j (by simpa using hj)).2.1
    rw [← Bool.not_eq_true, hasB_iff] at this
    apply this
    rw [List.mem_take_iff_getElem]
    exact ⟨i, by simp; omega, by simp [e]⟩
  · have := (hat (i + 1) (by simpa using hi)).2.2
    rcases this with h | h
    · omega
    · simpa using h
theorem routeB_of {m : Mp} {r : List Nat} (hm : mapB m = true) (h : Rt m r) : routeB m (r.map fun k : Nat => (k : Int)) = true := by
  simp only [routeB, routeR, Bool.and_eq_true, decide_eq_true_eq, allB_iff]
  refine ⟨hm, fun i hi => ?_, by simpa using h.pos⟩
  have hi' : i < r.length := by simpa using hi
  rw [routeAt_eq (List.getElem?_eq_getElem hi) (List.getElem?_eq_getElem (by omega))]
  simp only [List.getElem_map, Bool.and_eq_true, Bool.or_eq_true, decide_eq_true_eq, Bool.not_eq_true', Int.toNat_natCast]
  have hc := h.cell r[i] (List.getElem_mem hi')
  refine ⟨⟨?_, ?_⟩, ?_⟩
  · simp only [openB, cellB, hm, Bool.true_and, Bool.and_eq_true, insB_true, decide_eq_true_eq, Int.toNat_natCast]
    exact ⟨by omega, hc.2⟩
  · rw [← Bool.not_eq_true, hasB_iff, ← List.map_take]
    intro hx
    obtain ⟨k, hk, e⟩ := List.mem_map.1 hx
    have e' : k = r[i] := by omega
    subst e'
    obtain ⟨j, hj, e2⟩ := List.mem_take_iff_getElem.1 hk
    have := h.nodup
    rw [List.nodup_iff_pairwise_ne, List.pairwise_iff_getElem] at this
    exact this j i (by omega) hi' (by omega) e2
  · by_cases e : i = 0
    · exact .inl e
    · right
      have := h.next (i - 1) (by omega)
      have e2 : i - 1 + 1 = i := by omega
      simp only [e2] at this
      exact this
/-- The best route is a route. -/
theorem route_rt {m : Mp} {W H a b : Nat} (hm : MapOk m W H) (ha : a < m.cost.length) (h0 : 0 < costAt m a) (hb : b < m.cost.length) (hi : timeB m a b < 1073741824) : Rt m (routeL m a b) := by
  obtain ⟨h1, h2, h3, h4⟩ := rest_chain hm hb _ a (Nat.le_refl _) ha hi
  rw [route_eq]
  refine ⟨by simp, fun k hk => ?_, ?_, fun i hi => ?_⟩
  · rcases List.mem_cons.1 hk with rfl | hk
    · exact ⟨ha, h0⟩
    · exact ⟨(h2 k hk).1, (h2 k hk).2.1⟩
  · rw [List.nodup_iff_pairwise_ne]
    exact h3.imp (fun h e => by rw [e] at h; omega)
  · exact (next_mem.1 (chain_get h4 i hi)).2.2
theorem nodup_len : ∀ (n : Nat) (l : List Nat), l.Nodup → (∀ x ∈ l, x < n) → l.length ≤ n
  | 0, [], _, _ => Nat.le_refl _
  | 0, x :: l, _, h => absurd (h x (by simp)) (Nat.not_lt_zero _)
  | n + 1, l, hd, h => by
    by_cases hm : n ∈ l
    · have h1 := nodup_len n (l.erase n) (hd.erase n) (fun x hx => by
        have h2 := (hd.mem_erase_iff).1 hx
        have := h x h2.2
        omega)
      rw [List.length_erase_of_mem hm] at h1
      omega
    · have := nodup_len n l hd (fun x hx => by
        have h2 := h x hx
        have h3 : x ≠ n := fun e => hm (e ▸ hx)
        omega)
      omega
theorem rt_len {m : Mp} {W H : Nat} {r : List Nat} (hm : MapOk m W H) (h : Rt m r) : r.length ≤ 36 :=
  Nat.le_trans (nodup_len _ r h.nodup fun k hk => (h.cell k hk).1) hm.n36
/-- The sum of f over the steps to the k-th cell. -/
def stepsF (f : Nat → Nat → Int) (l : List Int) : Nat → Int
  | 0 => 0
  | k + 1 => if k = 0 then 0 else stepsF f l k + f (l.getD (k - 1) 0).toNat (l.getD k 0).toNat
theorem stepsF_one (f : Nat → Nat → Int) (l : List Int) : stepsF f l 1 = 0 := by simp [stepsF]
theorem stepsF_succ (f : Nat → Nat → Int) {l : List Int} {k x y : Nat} (hk : 1 ≤ k) (hl : k < l.length) (hx : l[k - 1] = (x : Int)) (hy : l[k] = (y : Int)) : stepsF f l (k + 1) = stepsF f l k + f x y := by
  have h1 : k - 1 < l.length := by omega
  rw [stepsF, if_neg (by omega), List.getD_eq_getElem?_getD, List.getD_eq_getElem?_getD, List.getElem?_eq_getElem hl, List.getElem?_eq_getElem h1, Option.getD_some, Option.getD_some, hx, hy]
  rfl
theorem stepsF_bd {f : Nat → Nat → Int} {l : List Int} {B : Int} (hB : 0 ≤ B) (hf : ∀ x y, 0 ≤ f x y ∧ f x y ≤ B) : ∀ k, 0 ≤ stepsF f l k ∧ stepsF f l k ≤ B * (k : Int)
  | 0 => by simp [stepsF]
  | k + 1 => by
    have h1 := stepsF_bd (l := l) hB hf k
    have h2 := hf (l.getD (k - 1) 0).toNat (l.getD k 0).toNat
    have h3 : B * ((k + 1 : Nat) : Int) = B * (k : Int) + B := by rw [Int.natCast_add, Int.mul_add]; simp
    have h4 : 0 ≤ B * (k : Int) := Int.mul_nonneg hB (by omega)
    rw [stepsF, h3]
    split <;> omega
def climbZ (m : Mp) (a b : Nat) : Int := max (riseAt m b - riseAt m a) 0
theorem climbZ_le {m : Mp} {W H : Nat} (h : MapOk m W H) (a b : Nat) : 0 ≤ climbZ m a b ∧ climbZ m a b ≤ 9 := by
  have h1 := h.rr a
  have h2 := h.rr b
  unfold climbZ
  omega
def climbI (m : Mp) (l : List Int) : Int := if routeB m l then stepsF (climbZ m) l l.length else 0
def rtimeI (m : Mp) (l : List Int) : Int := if routeB m l then stepsF (stepZ m) l l.length else 0
/-- The route of the i-th leg of a course. -/
def legR (m : Mp) (l : List Ctl) (c : List Int) (i : Nat) : List Nat := routeL m (cellN l (c.getD i 0)) (cellN l (c.getD (i + 1) 0))
def legsR (m : Mp) (l : List Ctl) (c : List Int) (k : Nat) : List (List Int) := (List.range k).map fun i => (legR m l c i).map fun k : Nat => (k : Int)
theorem legsR_succ (m : Mp) (l : List Ctl) (c : List Int) (k : Nat) : legsR m l c (k + 1) = legsR m l c k ++ [(legR m l c k).map fun k : Nat => (k : Int)] := by simp [legsR, List.range_succ]
theorem legsR_length (m : Mp) (l : List Ctl) (c : List Int) (k : Nat) : (legsR m l c k).length = k := by simp [legsR]
theorem legR_rt {m : Mp} {W H : Nat} {l : List Ctl} {c : List Int} (hm : MapOk m W H) (hC : Crs m l c) {i : Nat} (hi : i + 1 < c.length) : Rt m (legR m l c i) := by
  have h1 : i < c.length := by omega
  have hw := hC.way i hi
  have x := cellK_open hC.good (hC.has i h1)
  have y := cellK_open hC.good (hC.has (i + 1) hi)
  rw [legR, List.getD_eq_getElem?_getD, List.getD_eq_getElem?_getD, List.getElem?_eq_getElem h1, List.getElem?_eq_getElem hi, Option.getD_some, Option.getD_some]
  exact route_rt hm x.2.1 x.2.2 y.2.1 hw
/-- The climb of the first k legs. -/
def climbK (m : Mp) (l : List Ctl) (c : List Int) : Nat → Int
  | 0 => 0
  | k + 1 => climbK m l c k + stepsF (climbZ m) ((legR m l c k).map fun k : Nat => (k : Int)) (legR m l c k).length
def climbC (m : Mp) (l : List Ctl) (c : List Int) : Int := if crsB m l c then climbK m l c (c.length - 1) else 0
theorem climbK_bd {m : Mp} {W H : Nat} {l : List Ctl} {c : List Int} (hm : MapOk m W H) (hC : Crs m l c) : ∀ k, k + 1 ≤ c.length → 0 ≤ climbK m l c k ∧ climbK m l c k ≤ 400 * (k : Int)
  | 0, _ => by simp [climbK]
  | k + 1, hk => by
    have h1 := climbK_bd hm hC k (by omega)
    have h2 := stepsF_bd (l := (legR m l c k).map fun k : Nat => (k : Int)) (B := 9) (by omega) (climbZ_le hm) (legR m l c k).length
    have h3 := rt_len hm (legR_rt hm hC (i := k) (by omega))
    rw [climbK]
    omega
end Go.Ori
/- spec.l4Climb of a route. Condition: a map in memory. -/
namespace Go.Proofs.Ytloefghmidlceaa
open Go.RowKit Go.Ori
set_option maxHeartbeats 4000000 in
theorem l4Climb_any (m : Mp) (rv cv u : Value) (W H : Nat) (r : List Nat) (w : World) (hok : MapOk m W H) (hmp : w.mp rv cv m) (h2 : w.sl intC 1 u (natL r)) (hrt : Rt m r) :
    Calls Try.prog 98 #[.agg #[.int .i64 m.wd, .int .i64 m.ht, rv, cv], u] w fun x w' => x = .returned (.int .i64 (stepsF (climbZ m) (natL r) r.length)) ∧ ∃ d, w' = w.ext d := by
  have ht := Lib.hid h2
  have h36 := rt_len hok hrt
  have h01 := hrt.pos
  have HRT := Lib.hid hrt
  have HSB := Lib.hid (fun k => stepsF_bd (f := climbZ m) (l := natL r) (B := 9) (by omega) (fun x y => climbZ_le hok x y) k)
  obtain ⟨p, c, hu, _⟩ := id h2
  rw [natL_length] at hu
  subst hu
  obtain ⟨b1, o1, c1, b2, o2, c2, hin⟩ := mp_in hmp hok
  have HIN := Lib.hid hin
  have HK := Lib.hid hok
  obtain rfl := hin.rv
  obtain rfl := hin.cv
  have ob1 := hin.ob1
  have ob2 := hin.ob2
  clear hmp hok hin h2 hrt
  go_enter Try.func98, Try.ntmps98
  go_wp2
  go_loopw [5, 6] (fun s i wr => ∃ k : Nat, 1 ≤ k ∧ k ≤ r.length ∧ i = .int .i64 k ∧ s = .int .i64 (stepsF (climbZ m) (natL r) k) ∧ ∃ d, wr = (w.alloc (.cells #[.int .i64 m.wd, .int .i64 m.ht, .slice (some ⟨b1, o1, none⟩) m.cost.length c1, .slice (some ⟨b2, o2, none⟩) m.cost.length c2] 26)).ext d) (fun _ i _ => r.length - (intOf i).toNat)
  case atStart => exact ⟨1, by omega, by omega, rfl, by rw [stepsF_one], (by repeat (first | with_reducible (first | exact World.gained_refl _ | exact ⟨_, rfl⟩ | apply gain_ext | apply gain_alloc | apply gain_drewN | apply gain_drew) | (refine gain_setCell ?_ (by first | exact Nat.le_refl _ | exact World.size_ext _ _ | (simp; done) | (simp; omega)) _)))⟩
  case round =>
    obtain ⟨k, hk0, hk, rfl, rfl, d, rfl⟩ := hrel
    by_cases hlt : k < r.length
    · obtain ⟨b, o, rfl⟩ := sl_some ht.out (by rw [natL_length]; omega)
      have hk1 : k - 1 < r.length := by omega
      have c0 := sl_int ht.out (k := k) (by rw [natL_length]; exact hlt)
      have cp := sl_int ht.out (k := k - 1) (by rw [natL_length]; exact hk1)
      have hX := (HRT.out.cell r[k] (List.getElem_mem _)).1
      have hY := (HRT.out.cell (r[k - 1]'hk1) (List.getElem_mem _)).1
      have HS := Lib.hid (stepsF_succ (climbZ m) (l := natL r) hk0 (by rw [natL_length]; exact hlt) (natL_get r (k - 1) (by rw [natL_length]; exact hk1)) (natL_get r k (by rw [natL_length]; exact hlt)))
      rw [natL_get] at c0 cp
      generalize r[k] = X at c0 hX HS
      generalize r[k - 1]'hk1 = Y at cp hY HS
      have ob := World.oldB_of_cell c0
      obtain ⟨hs0, hs1⟩ := HSB.out k
      generalize stepsF (climbZ m) (natL r) k = S at HS hs0 hs1
      have hsb : S ≤ 400 := by omega
      clear hs1
      have rx := HIN.out.ro X hX
      have ry := HIN.out.ro Y hY
      have bx := HK.out.rr X
      have by' := HK.out.rr Y
      have HF : Hid (climbZ m Y X = max (riseAt m X - riseAt m Y) 0) := Lib.hid rfl
      generalize riseAt m X = x at rx bx HF
      generalize riseAt m Y = y at ry by' HF
      have kw1 : IntKind.i64.wrap ((k : Int) - 1) = (k : Int) - 1 := IntWalk.i64_in _ (by omega)
      go_wp2
      refine wp_region_gain (by kernel_rfl) (by kernel_rfl) ?_
      repeat (first | go_big_quiet_skip | (go_big_quiet_want; go_big_quiet_op; first | go_big_quiet_on | ((apply Exists.intro); (refine ⟨fun _ => ?_, ?_⟩); (· (go_at_call 159; exact Calls.gain_same (l1Most_any _ _ _))); (go_big_quiet_on))))
      refine wpQuiet_nil ?_
      rintro _ ⟨d', rfl⟩
      go_wp2
      go_roundw
      case rel => exact ⟨k + 1, by omega, by omega, by go_num, by rw [HS.out, HF.out]; apply congrArg; omega, (by repeat (first | with_reducible (first | exact World.gained_refl _ | exact ⟨_, rfl⟩ | apply gain_ext | apply gain_alloc | apply gain_drewN | apply gain_drew) | (refine gain_setCell ?_ (by first | exact Nat.le_refl _ | exact World.size_ext _ _ | (simp; done) | (simp; omega)) _)))⟩
      case measure => simp [intOf]; omega
    · obtain rfl : k = r.length := by omega
      go_wp2
      go_ret
      exact ⟨rfl, (by repeat (first | with_reducible (first | exact World.gained_refl _ | exact ⟨_, rfl⟩ | apply gain_ext | apply gain_alloc | apply gain_drewN | apply gain_drew) | (refine gain_setCell ?_ (by first | exact Nat.le_refl _ | exact World.size_ext _ _ | (simp; done) | (simp; omega)) _)))⟩
end Go.Proofs.Ytloefghmidlceaa
/- slices.Index and slices.Contains over ints. Condition: at most 1048576 elements. -/
namespace Go.Proofs.Ytloefghmidlceaa
open Go.RowKit Go.Ori
theorem index_ints (v : Value) (l : List Int) (n : Int) (w : World) (h : w.sl intC 1 v l) (hl : l.length ≤ 1048576) :
    Calls Try.prog 177 #[v, .int .i64 n] w fun x w' => x = .returned (.int .i64 (idxB l fun x => n == x)) ∧ ∃ d, w' = w.ext d := by
  obtain ⟨p, c, rfl, hp, hcap⟩ := h
  go_enter Try.func177, Try.ntmps177
  go_wp2
  go_loopw [8] (fun i wr => ∃ k : Nat, k ≤ l.length ∧ i = .int .i64 k ∧ (∀ (j : Nat) (hj : j < l.length), j < k → (n == l[j]) = false) ∧ ∃ d, wr = w.ext d) (fun i _ => l.length - (intOf i).toNat)
  case atStart => exact ⟨0, by omega, rfl, by simp, w.gained_refl⟩
  case round =>
    obtain ⟨k, hk, rfl, hno, d, rfl⟩ := hrel
    have HN := Lib.hid hno
    clear hno
    by_cases hlt : k < l.length
    · obtain ⟨b, o, rfl, hc⟩ := hp (by omega)
      have c0 := hc k hlt 0 (by omega)
      have H1 := Lib.hid (fun (h : (n == l[k]) = true) => idxB_some (l := l) (p := fun x => n == x) hlt (fun j hj hjk => HN.out j hj hjk) h)
      have H2 := Lib.hid (fun (h : (n == l[k]) = false) => (show ∀ (j : Nat) (hj : j < l.length), j < k + 1 → (n == l[j]) = false from fun j hj hjk => by
        by_cases e : j = k
        · subst e; exact h
        · exact HN.out j hj (by omega)))
      generalize l[k] = y at c0 H1 H2
      clear hc hp
      simp only [intC, List.getElem?_cons_zero, Nat.add_zero, Nat.mul_one] at c0
      have ob := World.oldB_of_cell c0
      cases hf : (n == y) with
      | true =>
        have H1' := Lib.hid (H1.out hf)
        go_wp2
        go_ret
        exact ⟨ret_int H1'.out.symm, _, rfl⟩
      | false =>
        have H2' := Lib.hid (H2.out hf)
        go_wp2
        go_roundw
        case rel => exact ⟨k + 1, by omega, by go_num, H2'.out, _, rfl⟩
        case measure => simp [intOf]; omega
    · have HE := Lib.hid (idxB_none (l := l) (p := fun x => n == x) (fun j hj => HN.out j hj (by omega)))
      go_wp2
      go_ret
      exact ⟨ret_int HE.out.symm, _, rfl⟩
theorem contains_ints (v : Value) (l : List Int) (n : Int) (w : World) (h : w.sl intC 1 v l) (hl : l.length ≤ 1048576) :
    Calls Try.prog 161 #[v, .int .i64 n] w fun x w' => x = .returned (.bool (hasB l n)) ∧ ∃ d, w' = w.ext d := by
  have HI := Lib.hid (index_ints v l n w h hl)
  go_enter Try.func161, Try.ntmps161
  go_wp2_with fail
  refine HI.out.mono ?_
  rintro e w1 ⟨rfl, d1, rfl⟩
  have HA := Lib.hid (idxB_any l (fun x => n == x))
  go_wp2
  go_ret
  exact ⟨ret_bool HA.out, _, rfl⟩
end Go.Proofs.Ytloefghmidlceaa
