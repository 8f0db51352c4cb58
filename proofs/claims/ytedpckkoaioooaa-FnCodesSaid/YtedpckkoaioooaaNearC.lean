/- impl.NearestControl, spec.NearestControl. Condition: at most 1048576 numbers, controls. -/
import Derived.Test.YtedpckkoaioooaaPairsS
import Derived.Test.YtedpckkoaioooaaSortC
namespace Go.Ori
open Go.RowKit
def stepN (g : Ctl → Int) (o : Option Ctl) (c : Ctl) : Option Ctl := match o with | none => some c | some m => if g c < g m then some c else some m
/-- The first of those with the least distance. -/
def nearO (g : Ctl → Int) (l : List Ctl) : Option Ctl := l.foldl (stepN g) none
theorem nearO_snoc (g : Ctl → Int) (l : List Ctl) (c : Ctl) : nearO g (l ++ [c]) = stepN g (nearO g l) c := by simp [nearO]
theorem nearO_one (g : Ctl → Int) {l : List Ctl} (h : 0 < l.length) : nearO g (l.take 1) = some l[0] := by
  rw [List.take_succ_eq_append_getElem h]
  rfl
theorem nearO_next (g : Ctl → Int) {l : List Ctl} {k : Nat} {m : Ctl} (hk : k < l.length) (h : nearO g (l.take k) = some m) : nearO g (l.take (k + 1)) = if g l[k] < g m then some l[k] else some m := by
  rw [List.take_succ_eq_append_getElem hk, nearO_snoc, h]
  rfl
theorem foldN_mem {g : Ctl → Int} {l : List Ctl} {o : Option Ctl} {c : Ctl} : l.foldl (stepN g) o = some c → o = some c ∨ c ∈ l := by
  induction l generalizing o with
  | nil => intro h; exact .inl h
  | cons a l ih =>
    intro h
    rw [List.foldl_cons] at h
    rcases ih h with h1 | h1
    · unfold stepN at h1
      split at h1
      · simp only [Option.some.injEq] at h1; exact .inr (by simp [h1])
      · split at h1
        · simp only [Option.some.injEq] at h1; exact .inr (by simp [h1])
        · exact .inl h1
    · exact .inr (List.mem_cons_of_mem _ h1)
theorem nearO_mem {g : Ctl → Int} {l : List Ctl} {c : Ctl} (h : nearO g l = some c) : c ∈ l := by
  rcases foldN_mem h with h | h
  · cases h
  · exact h
def neaB (m : Mp) (l : List Ctl) (c : Int) : Bool := ctlsB m l && cellB m c && decide (0 < l.length)
def neaI (m : Mp) (l : List Ctl) (c : Int) : Int := if neaB m l c then (match nearO (fun x => gapB m x.cell c) l with | some x => x.code | none => 0) else 0
theorem neaI_no {m : Mp} {l : List Ctl} {c : Int} (h : neaB m l c = false) : neaI m l c = 0 := by simp [neaI, h]
theorem neaI_yes {m : Mp} {l : List Ctl} {c : Int} {x : Ctl} (h : neaB m l c = true) (hx : nearO (fun x => gapB m x.cell c) l = some x) : neaI m l c = x.code := by simp [neaI, h, hx]
theorem cellB_nat {m : Mp} {c : Int} (h : cellB m c = true) : ∃ k : Nat, c = k ∧ k < m.cost.length := by
  simp only [cellB, Bool.and_eq_true, insB_true] at h
  exact ⟨c.toNat, by omega, by omega⟩
/-- The first of two that is not 0. -/
def or2 (a b : Int) : Int := if a = 0 then b else a
def cmpN (g : Ctl → Int) (a b : Ctl) : Int := or2 (cmpI (g a) (g b)) (cmpI a.code b.code)
theorem cmpN_key {g : Ctl → Int} {a b : Ctl} (h : b.code < a.code) : (cmpN g a b < 0) ↔ g a < g b := by
  unfold cmpN or2 cmpI
  (repeat' split) <;> omega
abbrev putCtl (W : World) (g : Nat) (y : Ctl) : World := (W.setCell ⟨g, 0, none⟩ (.int .i64 y.code)).setCell ⟨g, 1, none⟩ (.int .i64 y.cell)
theorem putCtl_eq (W : World) (g : Nat) (y : Ctl) : putCtl W g y = W.setCells g 0 y.cells := rfl
theorem putCtl_own {W : World} {base : Nat} {e : TypeId} {g n cap : Nat} {m : Ctl} (y : Ctl) (h : W.own base e Ctl.cells 2 (.slice (some ⟨g, 0, none⟩) n cap) [m]) : (putCtl W g y).own base e Ctl.cells 2 (.slice (some ⟨g, 0, none⟩) n cap) [y] := by
  rw [putCtl_eq]
  have := own_put Ctl.cells_length h (i := 0) (by simp) y
  rw [Nat.zero_mul] at this
  exact this
theorem putCtl_far {α : Type} {W : World} {base : Nat} {e : TypeId} {enc : α → List Value} {sz g : Nat} {v : Value} {l : List α} (y : Ctl) (h : W.own base e enc sz v l) (hne : v.ownBlock ≠ some g) : (putCtl W g y).own base e enc sz v l := by
  rw [putCtl_eq]
  refine own_mark (v := .slice (some ⟨g, 0, none⟩) 1 1) h (only_setCells y.cells 0 (only_refl _ _)) (fun b hb hb2 => ?_)
  simp only [Value.ownBlock, Option.some.injEq] at hb2
  subst hb2
  exact hne hb
theorem putCtl_gain {w W : World} {g : Nat} (y : Ctl) (h : ∃ d, W = w.ext d) (hg : w.heap.size ≤ g) : ∃ d, putCtl W g y = w.ext d := by
  rw [putCtl_eq]
  exact gain_setCells y.cells 0 h hg
end Go.Ori
namespace Go.Proofs.Ytedpckkoaioooaa
open Go.RowKit Go.Ori
set_option maxHeartbeats 1000000 in
theorem or2_any (v : Value) (a b : Int) (w : World) (h : w.sl intC 1 v [a, b]) : Calls Try.prog 97 #[v] w fun x w' => x = .returned (.int .i64 (or2 a b)) ∧ ∃ d, w' = w.ext d := by
  have hs := Lib.hid h
  obtain ⟨p, cap, rfl, _⟩ := h
  obtain ⟨g, o, rfl⟩ := sl_some hs.out (by simp)
  have c0 := sl_int hs.out (k := 0) (by simp)
  have c1 := sl_int hs.out (k := 1) (by simp)
  simp only [List.getElem_cons_zero, List.getElem_cons_succ, Nat.add_zero] at c0 c1
  have ob := World.oldB_of_cell c0
  go_enter Try.func97, Try.ntmps97
  go_wp2
  go_loopw [8] (fun i wr => ∃ k : Nat, k ≤ 2 ∧ i = .int .i64 k ∧ (0 < k → a = 0) ∧ (1 < k → b = 0) ∧ ∃ d, wr = w.ext d) (fun i _ => 2 - (intOf i).toNat)
  case atStart => exact ⟨0, by omega, rfl, by omega, by omega, w.gained_refl⟩
  case round =>
    obtain ⟨k, hk, rfl, h0, h1, d, rfl⟩ := hrel
    rcases (by omega : k = 0 ∨ k = 1 ∨ k = 2) with rfl | rfl | rfl
    · by_cases ha : a = 0
      · have ha' := Lib.hid ha
        clear h0 h1
        subst ha
        go_wp2
        go_roundw
        case rel => exact ⟨1, by omega, by go_num, by simp, by omega, _, rfl⟩
        case measure => simp [intOf]
      · have HE : Hid (or2 a b = a) := Lib.hid (by simp [or2, ha])
        clear h0 h1
        go_wp2
        go_ret
        rw [HE.out]
        exact ⟨rfl, _, rfl⟩
    · have ha := h0 (by omega)
      by_cases hb : b = 0
      · clear h0 h1
        subst ha hb
        go_wp2
        go_roundw
        case rel => exact ⟨2, by omega, by go_num, by simp, by simp, _, rfl⟩
        case measure => simp [intOf]
      · have HE : Hid (or2 a b = b) := Lib.hid (by simp [or2, ha])
        clear h0 h1
        go_wp2
        go_ret
        rw [HE.out]
        exact ⟨rfl, _, rfl⟩
    · have HE : Hid (or2 a b = 0) := Lib.hid (by simp [or2, h0 (by omega), h1 (by omega)])
      clear h0 h1
      go_wp2
      go_ret
      rw [HE.out]
      exact ⟨rfl, _, rfl⟩
set_option maxRecDepth 20000 in
set_option maxHeartbeats 2000000 in
theorem nearC1_any (m : Mp) (rv cv : Value) (W H : Nat) (cell : Int) (a b : Ctl) (gm gc : Nat) (w : World) (hok : MapOk m W H) (ha : ∃ k : Nat, a.cell = k ∧ k < m.cost.length) (hb : ∃ k : Nat, b.cell = k ∧ k < m.cost.length) (hc : ∃ k : Nat, cell = k ∧ k < m.cost.length)
    (m0 : w.cell? ⟨gm, 0, none⟩ = some (.int .i64 m.wd)) (m1 : w.cell? ⟨gm, 1, none⟩ = some (.int .i64 m.ht)) (m2 : w.cell? ⟨gm, 2, none⟩ = some rv) (m3 : w.cell? ⟨gm, 3, none⟩ = some cv) (e0 : w.cell? ⟨gc, 0, none⟩ = some (.int .i64 cell)) :
    Calls Try.prog 96 #[.agg #[.int .i64 a.code, .int .i64 a.cell], .agg #[.int .i64 b.code, .int .i64 b.cell], .pointer (some ⟨gm, 0, none⟩), .pointer (some ⟨gc, 0, none⟩)] w fun x w' => x = .returned (.int .i64 (cmpN (fun x => gapB m x.cell cell) a b)) ∧ ∃ d, w' = w.ext d := by
  obtain ⟨x, hx, hx2⟩ := ha
  obtain ⟨y, hy, hy2⟩ := hb
  obtain ⟨z, rfl, hz2⟩ := hc
  have HE : Hid (cmpN (fun x => gapB m x.cell z) a b = or2 (cmpI (gapN m.wd.toNat x z : Int) (gapN m.wd.toNat y z : Int)) (cmpI a.code b.code)) := Lib.hid (by rw [cmpN, hx, hy, gapB_nat hok, gapB_nat hok])
  have HGA := Lib.hid (fun W' => gapOf_any m rv cv W H x z W' hok hx2 hz2)
  have HGB := Lib.hid (fun W' => gapOf_any m rv cv W H y z W' hok hy2 hz2)
  rw [hx, hy, HE.out]
  clear hok hx hy hx2 hy2 hz2 HE
  generalize (gapN m.wd.toNat x z : Int) = GA at HGA ⊢
  generalize (gapN m.wd.toNat y z : Int) = GB at HGB ⊢
  generalize a.code = ka
  generalize b.code = kb
  generalize hx : (x : Int) = x at *
  generalize hy : (y : Int) = y at *
  generalize hz : (z : Int) = z at *
  clear hx hy hz
  go_enter Try.func96, Try.ntmps96
  go_upto_region 1 with fail
  generalize hW : (w.alloc (.cells #[.int .i64 ka, .int .i64 x] 46)).alloc (.cells #[.int .i64 kb, .int .i64 y] 46) = W1
  have hgW : ∃ d, W1 = w.ext d := by rw [← hW]; exact gain_alloc (gain_alloc w.gained_refl _) _
  have x0 : W1.cell? ⟨w.heap.size, 0, none⟩ = some (.int .i64 ka) := by rw [← hW]; simp [go_sem]
  have x1 : W1.cell? ⟨w.heap.size, 1, none⟩ = some (.int .i64 x) := by rw [← hW]; simp [go_sem]
  have y0 : W1.cell? ⟨w.heap.size + 1, 0, none⟩ = some (.int .i64 kb) := by rw [← hW]; simp [go_sem]
  have y1 : W1.cell? ⟨w.heap.size + 1, 1, none⟩ = some (.int .i64 y) := by rw [← hW]; simp [go_sem]
  have z0 : W1.cell? ⟨gm, 0, none⟩ = some (.int .i64 m.wd) := by rw [← hW]; exact cell_alloc (cell_alloc m0 _) _
  have z1 : W1.cell? ⟨gm, 1, none⟩ = some (.int .i64 m.ht) := by rw [← hW]; exact cell_alloc (cell_alloc m1 _) _
  have z2 : W1.cell? ⟨gm, 2, none⟩ = some rv := by rw [← hW]; exact cell_alloc (cell_alloc m2 _) _
  have z3 : W1.cell? ⟨gm, 3, none⟩ = some cv := by rw [← hW]; exact cell_alloc (cell_alloc m3 _) _
  have z4 : W1.cell? ⟨gc, 0, none⟩ = some (.int .i64 z) := by rw [← hW]; exact cell_alloc (cell_alloc e0 _) _
  have HGW := Lib.hid hgW
  clear hW hgW m0 m1 m2 m3 e0
  go_region_held (fun w' => w'.cell? ⟨w.heap.size, 0, none⟩ = some (.int .i64 ka) ∧ w'.cell? ⟨w.heap.size, 1, none⟩ = some (.int .i64 x) ∧ w'.cell? ⟨w.heap.size + 1, 0, none⟩ = some (.int .i64 kb) ∧ w'.cell? ⟨w.heap.size + 1, 1, none⟩ = some (.int .i64 y) ∧ w'.cell? ⟨gm, 0, none⟩ = some (.int .i64 m.wd) ∧ w'.cell? ⟨gm, 1, none⟩ = some (.int .i64 m.ht) ∧ w'.cell? ⟨gm, 2, none⟩ = some rv ∧ w'.cell? ⟨gm, 3, none⟩ = some cv ∧ w'.cell? ⟨gc, 0, none⟩ = some (.int .i64 z)) (refine ⟨?_, ?_, ?_, ?_, ?_, ?_, ?_, ?_, ?_⟩ <;> (with_reducible (repeat (first | assumption | refine cell_ext ?_ _ | refine cell_drew ?_ | refine cell_alloc ?_ _)))) (first | (go_at_call 92; with_reducible refine (HGA.out _).mono ?_; rintro e w1 ⟨rfl, d1, rfl⟩) | (go_at_call 92; with_reducible refine (HGB.out _).mono ?_; rintro e w1 ⟨rfl, d1, rfl⟩) | (go_at_call 98; refine (compare_any _ _ _).mono ?_; rintro e w1 ⟨rfl, rfl⟩) | (go_at_call 97; refine (or2_any _ (cmpI GA GB) (cmpI ka kb) _ (sl_lit (l := [cmpI GA GB, cmpI ka kb]) intC_length rfl (by simp))).mono ?_; rintro e w1 ⟨rfl, d1, rfl⟩))
  go_wp2
  go_ret
  exact ⟨rfl, gain_trans HGW.out (by repeat (first | with_reducible (first | exact World.gained_refl _ | exact ⟨_, rfl⟩ | apply gain_ext | apply gain_alloc | apply gain_drewN | apply gain_drew) | (refine gain_setCell ?_ (by first | exact Nat.le_refl _ | exact World.size_ext _ _ | (simp; done) | (simp; omega)) _)))⟩
set_option maxRecDepth 20000 in
set_option maxHeartbeats 2000000 in
theorem minFunc_ctls (g : Ctl → Int) (gm gc : Nat) (v : Value) (l : List Ctl) (w : World) (h : w.sl Ctl.cells 2 v l) (hl : l.length ≤ 1048576) (h0 : 0 < l.length) (hord : ∀ (i j : Nat) (hi : i < l.length) (hj : j < l.length), i < j → l[i].code < l[j].code)
    (hcl : ∀ (a b : Ctl), a ∈ l → b ∈ l → ∀ W', (∃ d, W' = w.ext d) → Calls Try.prog 96 #[.agg #[.int .i64 a.code, .int .i64 a.cell], .agg #[.int .i64 b.code, .int .i64 b.cell], .pointer (some ⟨gm, 0, none⟩), .pointer (some ⟨gc, 0, none⟩)] W' fun x w' => x = .returned (.int .i64 (cmpN g a b)) ∧ ∃ d, w' = W'.ext d) :
    Calls Try.prog 95 #[v, .func (.func 96) #[] #[.pointer (some ⟨gm, 0, none⟩), .pointer (some ⟨gc, 0, none⟩)]] w fun x w' => ∃ m : Ctl, nearO g l = some m ∧ x = .returned (.agg #[.int .i64 m.code, .int .i64 m.cell]) ∧ ∃ d, w' = w.ext d := by
  have hs := Lib.hid h
  have HOR := Lib.hid hord
  have HCL := Lib.hid hcl
  obtain ⟨p, c, rfl, _⟩ := h
  obtain ⟨b, o, rfl⟩ := sl_some hs.out h0
  clear hord hcl
  have f0 := sl_cells hs.out h0 (j := 0) (by omega)
  have f1 := sl_cells hs.out h0 (j := 1) (by omega)
  have HB1 := Lib.hid (nearO_one g h0)
  have HF0 := Lib.hid (show ∃ x, l[0] = x from ⟨_, rfl⟩)
  simp only [Ctl.cells, List.getElem?_cons_zero, List.getElem?_cons_succ, Nat.add_zero, Nat.zero_mul] at f0 f1
  have ob := World.oldB_of_cell f0
  have hl1 : (1 : Int) ≤ l.length := by omega
  go_enter Try.func95, Try.ntmps95
  go_wp2
  have HZ : Hid (∃ z : Ctl, ((w.alloc (.cells #[.int .i64 0, .int .i64 0] 46))).own w.heap.size 46 Ctl.cells 2 (.slice (some ⟨w.heap.size, 0, none⟩) 1 1) [z]) := Lib.hid ⟨⟨0, 0⟩, own_lit (l := [_]) Ctl.cells_length rfl (by simp)⟩
  go_loopw [6] (fun i wr => ∃ k : Nat, 1 ≤ k ∧ k ≤ l.length ∧ i = .int .i64 k ∧ (∃ d, wr = w.ext d) ∧ ∃ m z : Ctl, nearO g (l.take k) = some m ∧ wr.own (w.heap.size + 1) 46 Ctl.cells 2 (.slice (some ⟨w.heap.size + 1, 0, none⟩) 1 1) [m] ∧ wr.own w.heap.size 46 Ctl.cells 2 (.slice (some ⟨w.heap.size, 0, none⟩) 1 1) [z]) (fun i _ => l.length - (intOf i).toNat)
  case atStart =>
    obtain ⟨z, hz⟩ := HZ.out
    exact ⟨1, by omega, by omega, rfl, (by repeat (first | with_reducible (first | exact World.gained_refl _ | exact ⟨_, rfl⟩ | apply gain_ext | apply gain_alloc | apply gain_drewN | apply gain_drew) | (refine gain_setCell ?_ (by first | exact Nat.le_refl _ | exact World.size_ext _ _ | (simp; done) | (simp; omega)) _))), l[0], z, HB1.out, own_lit' (l := [l[0]]) Ctl.cells_length rfl (by simp) (by simp), own_up hz (by repeat (first | with_reducible (first | exact World.gained_refl _ | exact ⟨_, rfl⟩ | apply gain_ext | apply gain_alloc | apply gain_drewN | apply gain_drew) | (refine gain_setCell ?_ (by first | exact Nat.le_refl _ | exact World.size_ext _ _ | (simp; done) | (simp; omega)) _)))⟩
  case round =>
    obtain ⟨k, hk1, hk, rfl, ⟨d, rfl⟩, m, z, hb, hm, hz⟩ := hrel
    have HB := Lib.hid hb
    have HM := Lib.hid hm
    have HZ2 := Lib.hid hz
    clear f0 f1 HZ HF0 HB1
    obtain ⟨g9, capm, em, _, _, tm⟩ := own_open hm (by simp)
    simp only [Value.slice.injEq, Option.some.injEq, Addr.mk.injEq, and_true] at em
    obtain ⟨rfl, -⟩ := em
    obtain ⟨gz, capz, ez, _, _, tz⟩ := own_open hz (by simp)
    simp only [Value.slice.injEq, Option.some.injEq, Addr.mk.injEq, and_true] at ez
    obtain ⟨rfl, -⟩ := ez
    have m0 := sl_cells (sl_of_own Ctl.cells_length hm) (k := 0) (by simp) (j := 0) (by omega)
    have m1 := sl_cells (sl_of_own Ctl.cells_length hm) (k := 0) (by simp) (j := 1) (by omega)
    simp only [Ctl.cells, List.getElem_cons_zero, List.getElem?_cons_zero, List.getElem?_cons_succ, Nat.add_zero, Nat.zero_mul, Nat.zero_add] at m0 m1
    have y0 := (tm 0 (by simp)).choose_spec.2
    have y1 := (tm 1 (by simp)).choose_spec.2
    have nb1 : w.newB d (w.heap.size + 1) := World.oldB_of_cell m0
    by_cases hlt : k < l.length
    · have HS := Lib.hid (nearO_next g hlt hb)
      have hmem := nearO_mem hb
      have hmid : m.code < l[k].code := by
        obtain ⟨i, hi, hi2⟩ := List.mem_take_iff_getElem.1 hmem
        rw [← hi2]
        exact HOR.out i k (by omega) hlt (by omega)
      have HMM := Lib.hid (List.mem_of_mem_take hmem)
      have HMY := Lib.hid (List.getElem_mem hlt)
      have e0 := sl_cells hs.out hlt (j := 0) (by omega)
      have e1 := sl_cells hs.out hlt (j := 1) (by omega)
      generalize l[k] = y at e0 e1 HS hmid HMY
      simp only [Ctl.cells, List.getElem?_cons_zero, List.getElem?_cons_succ, Nat.add_zero] at e0 e1
      have HC := Lib.hid (fun W hW => HCL.out y m HMY.out HMM.out W hW)
      have HK := Lib.hid (cmpN_key (g := g) hmid)
      generalize cmpN g y m = q at HC HK
      clear hb hm hz tm tz hmem hmid
      by_cases hq : q < 0
      · have HS' : Hid (nearO g (l.take (k + 1)) = some y) := Lib.hid (by rw [HS.out, if_pos (HK.out.1 hq)])
        clear HK
        go_wp2
        refine wp_region_gain (by kernel_rfl) (by kernel_rfl) ?_
        repeat (first | go_big_quiet_skip | (go_big_quiet_want; go_big_quiet_op; first | go_big_quiet_on | ((apply Exists.intro); (refine ⟨fun _ => ?_, ?_⟩); (· (go_at_call 96; exact Calls.gain (HC.out _ (by repeat (first | with_reducible (first | exact World.gained_refl _ | exact ⟨_, rfl⟩ | apply gain_ext | apply gain_alloc | apply gain_drewN | apply gain_drew) | (refine gain_setCell ?_ (by first | exact Nat.le_refl _ | exact World.size_ext _ _ | (simp; done) | (simp; omega)) _)))))); (go_big_quiet_on))))
        refine wpQuiet_nil ?_
        rintro _ ⟨d', rfl⟩
        go_wp2
        go_roundw
        case rel => exact ⟨k + 1, by omega, by omega, by go_num, putCtl_gain y ((by repeat (first | with_reducible (first | exact World.gained_refl _ | exact ⟨_, rfl⟩ | apply gain_ext | apply gain_alloc | apply gain_drewN | apply gain_drew) | (refine gain_setCell ?_ (by first | exact Nat.le_refl _ | exact World.size_ext _ _ | (simp; done) | (simp; omega)) _)))) (Nat.le_succ _), y, z, HS'.out, putCtl_own y (own_up HM.out (by repeat (first | with_reducible (first | exact World.gained_refl _ | exact ⟨_, rfl⟩ | apply gain_ext | apply gain_alloc | apply gain_drewN | apply gain_drew) | (refine gain_setCell ?_ (by first | exact Nat.le_refl _ | exact World.size_ext _ _ | (simp; done) | (simp; omega)) _)))), putCtl_far y (own_up HZ2.out (by repeat (first | with_reducible (first | exact World.gained_refl _ | exact ⟨_, rfl⟩ | apply gain_ext | apply gain_alloc | apply gain_drewN | apply gain_drew) | (refine gain_setCell ?_ (by first | exact Nat.le_refl _ | exact World.size_ext _ _ | (simp; done) | (simp; omega)) _)))) (by simp [Value.ownBlock])⟩
        case measure => simp [intOf]; omega
      · have HS' : Hid (nearO g (l.take (k + 1)) = some m) := Lib.hid (by rw [HS.out, if_neg (fun h => hq (HK.out.2 h))])
        clear HK
        go_wp2
        refine wp_region_gain (by kernel_rfl) (by kernel_rfl) ?_
        repeat (first | go_big_quiet_skip | (go_big_quiet_want; go_big_quiet_op; first | go_big_quiet_on | ((apply Exists.intro); (refine ⟨fun _ => ?_, ?_⟩); (· (go_at_call 96; exact Calls.gain (HC.out _ (by repeat (first | with_reducible (first | exact World.gained_refl _ | exact ⟨_, rfl⟩ | apply gain_ext | apply gain_alloc | apply gain_drewN | apply gain_drew) | (refine gain_setCell ?_ (by first | exact Nat.le_refl _ | exact World.size_ext _ _ | (simp; done) | (simp; omega)) _)))))); (go_big_quiet_on))))
        refine wpQuiet_nil ?_
        rintro _ ⟨d', rfl⟩
        go_wp2
        go_roundw
        case rel => exact ⟨k + 1, by omega, by omega, by go_num, (by repeat (first | with_reducible (first | exact World.gained_refl _ | exact ⟨_, rfl⟩ | apply gain_ext | apply gain_alloc | apply gain_drewN | apply gain_drew) | (refine gain_setCell ?_ (by first | exact Nat.le_refl _ | exact World.size_ext _ _ | (simp; done) | (simp; omega)) _))), m, z, HS'.out, own_up HM.out (by repeat (first | with_reducible (first | exact World.gained_refl _ | exact ⟨_, rfl⟩ | apply gain_ext | apply gain_alloc | apply gain_drewN | apply gain_drew) | (refine gain_setCell ?_ (by first | exact Nat.le_refl _ | exact World.size_ext _ _ | (simp; done) | (simp; omega)) _))), own_up HZ2.out (by repeat (first | with_reducible (first | exact World.gained_refl _ | exact ⟨_, rfl⟩ | apply gain_ext | apply gain_alloc | apply gain_drewN | apply gain_drew) | (refine gain_setCell ?_ (by first | exact Nat.le_refl _ | exact World.size_ext _ _ | (simp; done) | (simp; omega)) _)))⟩
        case measure => simp [intOf]; omega
    · obtain rfl : k = l.length := by omega
      have HBE : Hid (nearO g l = some m) := Lib.hid (by have := HB.out; rwa [List.take_length] at this)
      obtain ⟨x0, t0, z0⟩ := tz 0 (by simp)
      obtain ⟨x1, t1, z1⟩ := tz 1 (by simp)
      have nb0 : w.newB d w.heap.size := World.oldB_of_cell t0
      clear hb hm hz tm tz
      go_wp2
      refine bodyPost_ret (v := .agg #[.int .i64 m.code, .int .i64 m.cell]) (by simp [results, Try.results95, go_sem, t0, t1]) rfl ?_
      exact ⟨m, HBE.out, rfl, putCtl_gain m ((by repeat (first | with_reducible (first | exact World.gained_refl _ | exact ⟨_, rfl⟩ | apply gain_ext | apply gain_alloc | apply gain_drewN | apply gain_drew) | (refine gain_setCell ?_ (by first | exact Nat.le_refl _ | exact World.size_ext _ _ | (simp; done) | (simp; omega)) _)))) (Nat.le_refl _)⟩
theorem ctls_rise {m : Mp} {l : List Ctl} (h : ctlsB m l = true) : ∀ (i j : Nat) (hi : i < l.length) (hj : j < l.length), i < j → l[i].code < l[j].code := fun i j hi hj hij => by
  have := List.pairwise_iff_getElem.1 (ctlsB_pair h) i j hi hj hij
  omega
set_option maxRecDepth 20000 in
set_option maxHeartbeats 2000000 in
theorem nearestControl_any (m : Mp) (rv cv v : Value) (l : List Ctl) (cell : Int) (w : World) (hmp : w.mp rv cv m) (h : w.sl Ctl.cells 2 v l) (hl : l.length ≤ 1048576) :
    Calls Try.prog 34 #[.agg #[.int .i64 m.wd, .int .i64 m.ht, rv, cv], v, .int .i64 cell] w fun x w' => x = .returned (.tuple #[.int .i64 (neaI m l cell), .bool (neaB m l cell)]) ∧ ∃ d, w' = w.ext d := by
  have hm := Lib.hid hmp
  have hs := Lib.hid h
  obtain ⟨p1, c1, p2, c2, rfl, rfl⟩ := mp_form hmp
  obtain ⟨p, c, rfl, _⟩ := id h
  have HG := Lib.hid (fun W hM hL => areControls_any m (.slice p1 m.rise.length c1) (.slice p2 m.cost.length c2) (.slice p l.length c) l W hM hL hl)
  have HC := Lib.hid (fun W hM => isCell_any m (.slice p1 m.rise.length c1) (.slice p2 m.cost.length c2) cell W hM)
  clear hmp h
  cases hB : ctlsB m l with
  | false =>
    rw [hB] at HG
    have h0 : neaB m l cell = false := by simp [neaB, *]
    rw [neaI_no h0, h0]
    go_enter Try.func34, Try.ntmps34
    go_wp2_with (first | (go_at_call 13; refine (HG.out _ (mp_up (hm.out) (by repeat (first | with_reducible (first | exact World.gained_refl _ | exact ⟨_, rfl⟩ | apply gain_ext | apply gain_alloc | apply gain_drewN | apply gain_drew) | (refine gain_setCell ?_ (by first | exact Nat.le_refl _ | exact World.size_ext _ _ | (simp; done) | (simp; omega)) _)))) (by with_reducible (repeat (first | exact hs.out | refine World.sl_ext Ctl.cells_length ?_ _ | refine sl_alloc Ctl.cells_length ?_ _ | refine sl_drew ?_)))).mono ?_; rintro e w1 ⟨rfl, d1, rfl⟩) | (go_at_call 94; refine (HC.out _ (mp_up (hm.out) (by repeat (first | with_reducible (first | exact World.gained_refl _ | exact ⟨_, rfl⟩ | apply gain_ext | apply gain_alloc | apply gain_drewN | apply gain_drew) | (refine gain_setCell ?_ (by first | exact Nat.le_refl _ | exact World.size_ext _ _ | (simp; done) | (simp; omega)) _))))).mono ?_; rintro e w1 ⟨rfl, d2, rfl⟩))
    go_ret2
    exact ⟨rfl, (by repeat (first | with_reducible (first | exact World.gained_refl _ | exact ⟨_, rfl⟩ | apply gain_ext | apply gain_alloc | apply gain_drewN | apply gain_drew) | (refine gain_setCell ?_ (by first | exact Nat.le_refl _ | exact World.size_ext _ _ | (simp; done) | (simp; omega)) _)))⟩
  | true =>
  rw [hB] at HG
  cases hX : cellB m cell with
  | false =>
    rw [hX] at HC
    have h0 : neaB m l cell = false := by simp [neaB, *]
    rw [neaI_no h0, h0]
    go_enter Try.func34, Try.ntmps34
    go_wp2_with (first | (go_at_call 13; refine (HG.out _ (mp_up (hm.out) (by repeat (first | with_reducible (first | exact World.gained_refl _ | exact ⟨_, rfl⟩ | apply gain_ext | apply gain_alloc | apply gain_drewN | apply gain_drew) | (refine gain_setCell ?_ (by first | exact Nat.le_refl _ | exact World.size_ext _ _ | (simp; done) | (simp; omega)) _)))) (by with_reducible (repeat (first | exact hs.out | refine World.sl_ext Ctl.cells_length ?_ _ | refine sl_alloc Ctl.cells_length ?_ _ | refine sl_drew ?_)))).mono ?_; rintro e w1 ⟨rfl, d1, rfl⟩) | (go_at_call 94; refine (HC.out _ (mp_up (hm.out) (by repeat (first | with_reducible (first | exact World.gained_refl _ | exact ⟨_, rfl⟩ | apply gain_ext | apply gain_alloc | apply gain_drewN | apply gain_drew) | (refine gain_setCell ?_ (by first | exact Nat.le_refl _ | exact World.size_ext _ _ | (simp; done) | (simp; omega)) _))))).mono ?_; rintro e w1 ⟨rfl, d2, rfl⟩))
    go_ret2
    exact ⟨rfl, (by repeat (first | with_reducible (first | exact World.gained_refl _ | exact ⟨_, rfl⟩ | apply gain_ext | apply gain_alloc | apply gain_drewN | apply gain_drew) | (refine gain_setCell ?_ (by first | exact Nat.le_refl _ | exact World.size_ext _ _ | (simp; done) | (simp; omega)) _)))⟩
  | true =>
  rw [hX] at HC
  by_cases h0 : 0 < l.length
  · have hne : ((l.length : Int) == 0) = false := by simp; intro e; subst e; simp at h0
    have HY : Hid (neaB m l cell = true) := Lib.hid (by simp [neaB, hB, hX, h0])
    have HCC := Lib.hid (ctls_cell hB)
    have HRI := Lib.hid (ctls_rise hB)
    have HCN := Lib.hid (cellB_nat hX)
    obtain ⟨W, H, hok⟩ := mapB_ok (ctlsB_map hB)
    have HOK := Lib.hid hok
    clear hok hB hX
    go_enter Try.func34, Try.ntmps34
    go_wp2_with (first | (go_at_call 13; refine (HG.out _ (mp_up (hm.out) (by repeat (first | with_reducible (first | exact World.gained_refl _ | exact ⟨_, rfl⟩ | apply gain_ext | apply gain_alloc | apply gain_drewN | apply gain_drew) | (refine gain_setCell ?_ (by first | exact Nat.le_refl _ | exact World.size_ext _ _ | (simp; done) | (simp; omega)) _)))) (by with_reducible (repeat (first | exact hs.out | refine World.sl_ext Ctl.cells_length ?_ _ | refine sl_alloc Ctl.cells_length ?_ _ | refine sl_drew ?_)))).mono ?_; rintro e w1 ⟨rfl, d1, rfl⟩) | (go_at_call 94; refine (HC.out _ (mp_up (hm.out) (by repeat (first | with_reducible (first | exact World.gained_refl _ | exact ⟨_, rfl⟩ | apply gain_ext | apply gain_alloc | apply gain_drewN | apply gain_drew) | (refine gain_setCell ?_ (by first | exact Nat.le_refl _ | exact World.size_ext _ _ | (simp; done) | (simp; omega)) _))))).mono ?_; rintro e w1 ⟨rfl, d2, rfl⟩))
    refine (minFunc_ctls (fun x => gapB m x.cell cell) _ _ _ l _ (by with_reducible (repeat (first | exact hs.out | refine World.sl_ext Ctl.cells_length ?_ _ | refine sl_alloc Ctl.cells_length ?_ _ | refine sl_drew ?_))) hl h0 HRI.out (fun a b ha hb W' hW' => ?hcl)).mono ?_
    case hcl =>
      obtain ⟨d9, rfl⟩ := hW'
      refine nearC1_any m (.slice p1 m.rise.length c1) (.slice p2 m.cost.length c2) W H cell a b _ _ _ HOK.out (HCC.out a ha) (HCC.out b hb) HCN.out ?_ ?_ ?_ ?_ ?_
      all_goals simp [go_sem]
    rintro e w1 ⟨x, hx, rfl, d3, rfl⟩
    have HE := Lib.hid (neaI_yes HY.out hx)
    clear hx
    have hfd : ∀ W, (Instr.field 46 (.agg #[.int .i64 x.code, .int .i64 x.cell]) 0).run Try.prog W = .ok (.int .i64 x.code) W := fun _ => by kernel_rfl
    go_wp2
    go_ret2
    rw [HE.out, HY.out]
    exact ⟨rfl, (by repeat (first | with_reducible (first | exact World.gained_refl _ | exact ⟨_, rfl⟩ | apply gain_ext | apply gain_alloc | apply gain_drewN | apply gain_drew) | (refine gain_setCell ?_ (by first | exact Nat.le_refl _ | exact World.size_ext _ _ | (simp; done) | (simp; omega)) _)))⟩
  · have hne : ((l.length : Int) == 0) = true := by simp; exact List.eq_nil_of_length_eq_zero (by omega)
    have h0 : neaB m l cell = false := by simp [neaB, *]
    rw [neaI_no h0, h0]
    go_enter Try.func34, Try.ntmps34
    go_wp2_with (first | (go_at_call 13; refine (HG.out _ (mp_up (hm.out) (by repeat (first | with_reducible (first | exact World.gained_refl _ | exact ⟨_, rfl⟩ | apply gain_ext | apply gain_alloc | apply gain_drewN | apply gain_drew) | (refine gain_setCell ?_ (by first | exact Nat.le_refl _ | exact World.size_ext _ _ | (simp; done) | (simp; omega)) _)))) (by with_reducible (repeat (first | exact hs.out | refine World.sl_ext Ctl.cells_length ?_ _ | refine sl_alloc Ctl.cells_length ?_ _ | refine sl_drew ?_)))).mono ?_; rintro e w1 ⟨rfl, d1, rfl⟩) | (go_at_call 94; refine (HC.out _ (mp_up (hm.out) (by repeat (first | with_reducible (first | exact World.gained_refl _ | exact ⟨_, rfl⟩ | apply gain_ext | apply gain_alloc | apply gain_drewN | apply gain_drew) | (refine gain_setCell ?_ (by first | exact Nat.le_refl _ | exact World.size_ext _ _ | (simp; done) | (simp; omega)) _))))).mono ?_; rintro e w1 ⟨rfl, d2, rfl⟩))
    go_ret2
    exact ⟨rfl, (by repeat (first | with_reducible (first | exact World.gained_refl _ | exact ⟨_, rfl⟩ | apply gain_ext | apply gain_alloc | apply gain_drewN | apply gain_drew) | (refine gain_setCell ?_ (by first | exact Nat.le_refl _ | exact World.size_ext _ _ | (simp; done) | (simp; omega)) _)))⟩
set_option maxRecDepth 20000 in
set_option maxHeartbeats 2000000 in
theorem specNearestControl_any (m : Mp) (rv cv v : Value) (l : List Ctl) (cell : Int) (w : World) (hmp : w.mp rv cv m) (h : w.sl Ctl.cells 2 v l) (hl : l.length ≤ 1048576) :
    Calls Try.prog 35 #[.agg #[.int .i64 m.wd, .int .i64 m.ht, rv, cv], v, .int .i64 cell] w fun x w' => x = .returned (.tuple #[.int .i64 (neaI m l cell), .bool (neaB m l cell)]) ∧ ∃ d, w' = w.ext d := by
  have hm := Lib.hid hmp
  have hs := Lib.hid h
  obtain ⟨p1, c1, p2, c2, rfl, rfl⟩ := mp_form hmp
  obtain ⟨p, c, rfl, _⟩ := id h
  have HG := Lib.hid (fun W hM hL => l6Good_any m (.slice p1 m.rise.length c1) (.slice p2 m.cost.length c2) (.slice p l.length c) l W hM hL hl)
  clear hmp h
  cases hB : ctlsB m l with
  | false =>
    rw [hB] at HG
    have HC : Hid True := Lib.hid trivial
    have h0 : neaB m l cell = false := by simp [neaB, *]
    rw [neaI_no h0, h0]
    go_enter Try.func35, Try.ntmps35
    go_wp2_with (first | (go_at_call 74; refine (HG.out _ (mp_up (hm.out) (by repeat (first | with_reducible (first | exact World.gained_refl _ | exact ⟨_, rfl⟩ | apply gain_ext | apply gain_alloc | apply gain_drewN | apply gain_drew) | (refine gain_setCell ?_ (by first | exact Nat.le_refl _ | exact World.size_ext _ _ | (simp; done) | (simp; omega)) _)))) (by with_reducible (repeat (first | exact hs.out | refine World.sl_ext Ctl.cells_length ?_ _ | refine sl_alloc Ctl.cells_length ?_ _ | refine sl_drew ?_)))).mono ?_; rintro e w1 ⟨rfl, d1, rfl⟩) | (go_at_call 74; refine (HC.out _).mono ?_; rintro e w1 ⟨rfl, d2, rfl⟩))
    go_ret2
    exact ⟨rfl, (by repeat (first | with_reducible (first | exact World.gained_refl _ | exact ⟨_, rfl⟩ | apply gain_ext | apply gain_alloc | apply gain_drewN | apply gain_drew) | (refine gain_setCell ?_ (by first | exact Nat.le_refl _ | exact World.size_ext _ _ | (simp; done) | (simp; omega)) _)))⟩
  | true =>
  rw [hB] at HG
  have HC := Lib.hid (fun W => l2Cell_any m (.slice p1 m.rise.length c1) (.slice p2 m.cost.length c2) cell W (ctlsB_map hB))
  cases hX : cellB m cell with
  | false =>
    rw [hX] at HC
    have h0 : neaB m l cell = false := by simp [neaB, *]
    rw [neaI_no h0, h0]
    go_enter Try.func35, Try.ntmps35
    go_wp2_with (first | (go_at_call 74; refine (HG.out _ (mp_up (hm.out) (by repeat (first | with_reducible (first | exact World.gained_refl _ | exact ⟨_, rfl⟩ | apply gain_ext | apply gain_alloc | apply gain_drewN | apply gain_drew) | (refine gain_setCell ?_ (by first | exact Nat.le_refl _ | exact World.size_ext _ _ | (simp; done) | (simp; omega)) _)))) (by with_reducible (repeat (first | exact hs.out | refine World.sl_ext Ctl.cells_length ?_ _ | refine sl_alloc Ctl.cells_length ?_ _ | refine sl_drew ?_)))).mono ?_; rintro e w1 ⟨rfl, d1, rfl⟩) | (go_at_call 83; refine (HC.out _).mono ?_; rintro e w1 ⟨rfl, d2, rfl⟩))
    go_ret2
    exact ⟨rfl, (by repeat (first | with_reducible (first | exact World.gained_refl _ | exact ⟨_, rfl⟩ | apply gain_ext | apply gain_alloc | apply gain_drewN | apply gain_drew) | (refine gain_setCell ?_ (by first | exact Nat.le_refl _ | exact World.size_ext _ _ | (simp; done) | (simp; omega)) _)))⟩
  | true =>
  rw [hX] at HC
  by_cases h0 : 0 < l.length
  · have hne : ((l.length : Int) == 0) = false := by simp; intro e; subst e; simp at h0
    have HY : Hid (neaB m l cell = true) := Lib.hid (by simp [neaB, hB, hX, h0])
    have HCC := Lib.hid (ctls_cell hB)
    have HCN := Lib.hid (cellB_nat hX)
    obtain ⟨W, H, hok⟩ := mapB_ok (ctlsB_map hB)
    have HOK := Lib.hid hok
    have HB1 := Lib.hid (nearO_one (fun x => gapB m x.cell cell) h0)
    clear hok hB hX
    obtain ⟨b, o, rfl⟩ := sl_some hs.out h0
    go_enter Try.func35, Try.ntmps35
    go_wp2_with (first | (go_at_call 74; refine (HG.out _ (mp_up (hm.out) (by repeat (first | with_reducible (first | exact World.gained_refl _ | exact ⟨_, rfl⟩ | apply gain_ext | apply gain_alloc | apply gain_drewN | apply gain_drew) | (refine gain_setCell ?_ (by first | exact Nat.le_refl _ | exact World.size_ext _ _ | (simp; done) | (simp; omega)) _)))) (by with_reducible (repeat (first | exact hs.out | refine World.sl_ext Ctl.cells_length ?_ _ | refine sl_alloc Ctl.cells_length ?_ _ | refine sl_drew ?_)))).mono ?_; rintro e w1 ⟨rfl, d1, rfl⟩) | (go_at_call 83; refine (HC.out _).mono ?_; rintro e w1 ⟨rfl, d2, rfl⟩))
    generalize hW : ((w.alloc (.cells #[.int .i64 m.wd, .int .i64 m.ht, .slice p1 m.rise.length c1, .slice p2 m.cost.length c2] 26)).ext d1).ext d2 = W0
    have hgW : ∃ d, W0 = w.ext d := by rw [← hW]; exact (by repeat (first | with_reducible (first | exact World.gained_refl _ | exact ⟨_, rfl⟩ | apply gain_ext | apply gain_alloc | apply gain_drewN | apply gain_drew) | (refine gain_setCell ?_ (by first | exact Nat.le_refl _ | exact World.size_ext _ _ | (simp; done) | (simp; omega)) _)))
    have bx0 : W0.cell? ⟨w.heap.size, 0, none⟩ = some (.int .i64 m.wd) := by rw [← hW]; simp [go_sem]
    have bx1 : W0.cell? ⟨w.heap.size, 1, none⟩ = some (.int .i64 m.ht) := by rw [← hW]; simp [go_sem]
    have bx2 : W0.cell? ⟨w.heap.size, 2, none⟩ = some (.slice p1 m.rise.length c1) := by rw [← hW]; simp [go_sem]
    have bx3 : W0.cell? ⟨w.heap.size, 3, none⟩ = some (.slice p2 m.cost.length c2) := by rw [← hW]; simp [go_sem]
    have obx := World.oldB_of_cell bx0
    have HGW := Lib.hid hgW
    have hs0 := Lib.hid (sl_up Ctl.cells_length hs.out hgW)
    clear hW hgW HG HC hm hs
    generalize w.heap.size = gB at bx0 bx1 bx2 bx3 obx ⊢
    go_loopw [8, 9] (fun b_ i_ wr => ∃ (k j : Nat) (hj : j < l.length), 1 ≤ k ∧ k ≤ l.length ∧ i_ = .int .i64 k ∧ b_ = .int .i64 j ∧ nearO (fun x => gapB m x.cell cell) (l.take k) = some l[j] ∧ ∃ d, wr = W0.ext d) (fun _ i_ _ => l.length - (intOf i_).toNat)
    case atStart => exact ⟨1, 0, h0, by omega, by omega, rfl, rfl, HB1.out, (by repeat (first | with_reducible (first | exact World.gained_refl _ | exact ⟨_, rfl⟩ | apply gain_ext | apply gain_alloc | apply gain_drewN | apply gain_drew) | (refine gain_setCell ?_ (by first | exact Nat.le_refl _ | exact World.size_ext _ _ | (simp; done) | (simp; omega)) _)))⟩
    case round =>
      obtain ⟨k, j, hj, hk1, hk, rfl, rfl, hn, d, rfl⟩ := hrel
      have HN := Lib.hid hn
      clear hn HB1
      have c0 := sl_cells hs0.out hj (j := 0) (by omega)
      have c1' := sl_cells hs0.out hj (j := 1) (by omega)
      by_cases hlt : k < l.length
      · have HS := Lib.hid (nearO_next _ hlt HN.out)
        have HSJ : Hid (∃ z, l[j] = z) := Lib.hid ⟨_, rfl⟩
        have hcj := HCC.out _ (List.getElem_mem hj)
        have hck := HCC.out _ (List.getElem_mem hlt)
        have e1 := sl_cells hs0.out hlt (j := 1) (by omega)
        simp only [Ctl.cells, List.getElem?_cons_zero, List.getElem?_cons_succ, Nat.add_zero] at c0 c1' e1
        have obl := World.oldB_of_cell c0
        obtain ⟨x9, hx9, hx8⟩ := hcj
        obtain ⟨y9, hy9, hy8⟩ := hck
        obtain ⟨z9, hz9, hz8⟩ := HCN.out
        have HGP := Lib.hid (fun W' => l6Apart_any m (.slice p1 m.rise.length c1) (.slice p2 m.cost.length c2) W H x9 z9 W' HOK.out hx8 hz8)
        have HGQ := Lib.hid (fun W' => l6Apart_any m (.slice p1 m.rise.length c1) (.slice p2 m.cost.length c2) W H y9 z9 W' HOK.out hy8 hz8)
        have HNF : Hid (nearO (fun x => gapB m x.cell cell) (l.take (k + 1)) = if (gapN m.wd.toNat y9 z9 : Int) < (gapN m.wd.toNat x9 z9 : Int) then some l[k] else some l[j]) := Lib.hid (by rw [HS.out, hx9, hy9, hz9, gapB_nat HOK.out, gapB_nat HOK.out])
        rw [hx9] at c1'
        rw [hy9] at e1
        subst hz9
        clear HS hx9 hy9 hx8 hy8 hz8
        generalize (gapN m.wd.toNat y9 z9 : Int) = GY at HGQ HNF
        generalize (gapN m.wd.toNat x9 z9 : Int) = GX at HGP HNF
        generalize (x9 : Int) = x9 at c1' HGP
        generalize (y9 : Int) = y9 at e1 HGQ
        by_cases hq : GY < GX
        · have hqd : decide (GY < GX) = true := decide_eq_true hq
          rw [if_pos hq] at HNF
          clear hq
          go_wp2
          refine wp_region_gain (by kernel_rfl) (by kernel_rfl) ?_
          repeat (first | go_big_quiet_skip | (go_big_quiet_want; go_big_quiet_op; first | go_big_quiet_on | ((apply Exists.intro); (refine ⟨fun _ => ?_, ?_⟩); (· (first | (go_at_call 93; with_reducible exact Calls.gain (HGP.out _)) | (go_at_call 93; with_reducible exact Calls.gain (HGQ.out _)))); (go_big_quiet_on))))
          refine wpQuiet_nil ?_
          rintro _ ⟨d', rfl⟩
          go_wp2
          go_roundw
          case rel => exact ⟨k + 1, k, hlt, by omega, by omega, by go_num, rfl, HNF.out, (by repeat (first | with_reducible (first | exact World.gained_refl _ | exact ⟨_, rfl⟩ | apply gain_ext | apply gain_alloc | apply gain_drewN | apply gain_drew) | (refine gain_setCell ?_ (by first | exact Nat.le_refl _ | exact World.size_ext _ _ | (simp; done) | (simp; omega)) _)))⟩
          case measure => simp [intOf]; omega
        · have hqd : decide (GY < GX) = false := decide_eq_false hq
          rw [if_neg hq] at HNF
          clear hq
          go_wp2
          refine wp_region_gain (by kernel_rfl) (by kernel_rfl) ?_
          repeat (first | go_big_quiet_skip | (go_big_quiet_want; go_big_quiet_op; first | go_big_quiet_on | ((apply Exists.intro); (refine ⟨fun _ => ?_, ?_⟩); (· (first | (go_at_call 93; with_reducible exact Calls.gain (HGP.out _)) | (go_at_call 93; with_reducible exact Calls.gain (HGQ.out _)))); (go_big_quiet_on))))
          refine wpQuiet_nil ?_
          rintro _ ⟨d', rfl⟩
          go_wp2
          go_roundw
          case rel => exact ⟨k + 1, j, hj, by omega, by omega, by go_num, rfl, HNF.out, (by repeat (first | with_reducible (first | exact World.gained_refl _ | exact ⟨_, rfl⟩ | apply gain_ext | apply gain_alloc | apply gain_drewN | apply gain_drew) | (refine gain_setCell ?_ (by first | exact Nat.le_refl _ | exact World.size_ext _ _ | (simp; done) | (simp; omega)) _)))⟩
          case measure => simp [intOf]; omega
      · obtain rfl : k = l.length := by omega
        have HE := Lib.hid (neaI_yes HY.out (by have := HN.out; rwa [List.take_length] at this))
        generalize l[j] = y at c0 c1' HE
        simp only [Ctl.cells, List.getElem?_cons_zero, List.getElem?_cons_succ, Nat.add_zero] at c0 c1'
        have obl := World.oldB_of_cell c0
        clear HN
        go_wp2
        go_ret2
        rw [HE.out, HY.out]
        exact ⟨rfl, gain_trans HGW.out (by repeat (first | with_reducible (first | exact World.gained_refl _ | exact ⟨_, rfl⟩ | apply gain_ext | apply gain_alloc | apply gain_drewN | apply gain_drew) | (refine gain_setCell ?_ (by first | exact Nat.le_refl _ | exact World.size_ext _ _ | (simp; done) | (simp; omega)) _)))⟩
  · have hne : ((l.length : Int) == 0) = true := by simp; exact List.eq_nil_of_length_eq_zero (by omega)
    have h0 : neaB m l cell = false := by simp [neaB, *]
    rw [neaI_no h0, h0]
    go_enter Try.func35, Try.ntmps35
    go_wp2_with (first | (go_at_call 74; refine (HG.out _ (mp_up (hm.out) (by repeat (first | with_reducible (first | exact World.gained_refl _ | exact ⟨_, rfl⟩ | apply gain_ext | apply gain_alloc | apply gain_drewN | apply gain_drew) | (refine gain_setCell ?_ (by first | exact Nat.le_refl _ | exact World.size_ext _ _ | (simp; done) | (simp; omega)) _)))) (by with_reducible (repeat (first | exact hs.out | refine World.sl_ext Ctl.cells_length ?_ _ | refine sl_alloc Ctl.cells_length ?_ _ | refine sl_drew ?_)))).mono ?_; rintro e w1 ⟨rfl, d1, rfl⟩) | (go_at_call 83; refine (HC.out _).mono ?_; rintro e w1 ⟨rfl, d2, rfl⟩))
    go_ret2
    exact ⟨rfl, (by repeat (first | with_reducible (first | exact World.gained_refl _ | exact ⟨_, rfl⟩ | apply gain_ext | apply gain_alloc | apply gain_drewN | apply gain_drew) | (refine gain_setCell ?_ (by first | exact Nat.le_refl _ | exact World.size_ext _ _ | (simp; done) | (simp; omega)) _)))⟩
end Go.Proofs.Ytedpckkoaioooaa
