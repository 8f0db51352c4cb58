/- impl.ParseInt, impl.numbersIn. Conditions: texts of at most 1048576 bytes; the table of powers of ten, the variable of the syntax error. -/
import Derived.Test.YtffkkchflohhaaaGreatDoorTextI
import Derived.Test.YtffkkchflohhaaaGreatDoorPParse2
import Derived.Test.YtffkkchflohhaaaGreatDoorSplitS
import Derived.Test.YtffkkchflohhaaaGreatDoorInside
import Derived.Test.YtffkkchflohhaaaGreatDoorInfoInt
import Derived.Test.YtffkkchflohhaaaGreatDoorReadS
import Derived.Lib.AtoiTie
import Derived.Lib.AtoiErrMem
namespace Go.Ori
theorem atoiAll_digs {k : Nat} (hk : k < 1000) : Lib.atoiAll (toL (decB k)) = .ok (k : Int) := by
  have h := decB_size3 hk
  rw [Lib.atoiAll_short _ (show (toL (decB k)).length ≤ 18 from Nat.le_trans h (by decide)), toL_dec, atoi_digs]
  rfl
theorem atoi_norange {s : ByteArray} (h : s.size ≤ 7) : Lib.atoiAll (toL s) ≠ .range := by
  rw [Lib.atoiAll_short _ (show (toL s).length ≤ 18 from Nat.le_trans h (by decide))]
  cases Lib.atoi (toL s) <;> simp [Lib.NumEnd.ofOption]
end Go.Ori
namespace Go.Proofs.YtffkkchflohhaaaGreatDoor
open Go.RowKit Go.Ori
/-- What the library's variables hold. -/
structure Env (w : World) : Prop where
  tab : Tab w
  syn : ∃ ev, w.cell? ⟨4, 0, none⟩ = some ev ∧ (ev = .nilIface ∨ ∃ te pe, ev = .iface te pe)
  maxl : ∃ m, w.cell? ⟨0, 0, none⟩ = some (.int .i64 m)
theorem Env.up {w w' : World} (h : Env w) (hg : ∃ d, w' = w.ext d) : Env w' := by
  obtain ⟨d, rfl⟩ := hg
  obtain ⟨ev, h1, h2⟩ := h.syn
  obtain ⟨m, h3⟩ := h.maxl
  exact ⟨tab_ext h.tab d, ⟨ev, cell_ext h1 d, h2⟩, ⟨m, cell_ext h3 d⟩⟩
set_option maxHeartbeats 2000000 in
theorem parseInt_any (s : ByteArray) (w : World) (hs : s.size ≤ 1048576) (he : Env w) :
    Calls Tryz.prog 61 #[.string s] w fun x w' => ∃ (n : Int) (ok : Bool), x = .returned (.tuple #[.int .i64 n, .bool ok]) ∧ -999999 ≤ n ∧ n ≤ 999999 ∧ (∀ k : Nat, k < 1000 → s = decB k → ok = true ∧ n = k) ∧ ∃ d, w' = w.ext d := by
  by_cases h7 : 7 < s.size
  · have hd : decide ((7 : Int) < (s.size : Int)) = true := decide_eq_true (by omega)
    have HN : Hid (∀ k : Nat, k < 1000 → s = decB k → false = true ∧ (0 : Int) = k) := Lib.hid (fun k hk e => by
      have := decB_size3 hk
      rw [← e] at this
      omega)
    go_enter Tryz.func61, Tryz.ntmps61
    go_wp2_with fail
    go_ret2
    exact ⟨0, false, rfl, by omega, by omega, HN.out, (by repeat (first | with_reducible (first | exact World.gained_refl _ | exact ⟨_, rfl⟩ | apply gain_ext | apply gain_alloc | apply gain_drewN | apply gain_drew) | (refine gain_setCell ?_ (by first | exact Nat.le_refl _ | exact World.size_ext _ _ | (simp; done) | (simp; omega)) _)))⟩
  have hd : decide ((7 : Int) < (s.size : Int)) = false := decide_eq_false (by omega)
  rcases hA : Lib.atoiAll (toL s) with v | _ | _
  rotate_left
  rotate_left
  · exact absurd hA (atoi_norange (by omega))
  rotate_left
  · skip
    have HN : Hid (∀ k : Nat, k < 1000 → s = decB k → false = true ∧ (0 : Int) = k) := Lib.hid (fun k hk e => by
      rw [e, atoiAll_digs hk] at hA
      cases hA)
    obtain ⟨ev, hv, hev⟩ := he.syn
    have HAT := Lib.hid (show Calls Tryz.prog 75 #[.string s] w fun e w' => ∃ (N : Nat) (tp : TypeId), e = .returned (.tuple #[.int .i64 0, .iface tp (.pointer (some ⟨N, 0, none⟩))]) ∧ ∃ d, w' = w.ext d from (Any.strconv_Atoi_syntax Tryz.laysC172 s (by omega) hA ev w hv hev).mono (by
      rintro e w1 ⟨N, rfl, -, -, hb⟩
      exact ⟨N, _, rfl, World.gained_of_below hb⟩))
    clear hA hv hev he
    go_enter Tryz.func61, Tryz.ntmps61
    go_wp2_with fail
    refine HAT.out.mono ?_
    rintro e w1 ⟨N, tp, rfl, d, rfl⟩
    clear HAT
    go_wp2_with fail
    go_ret2
    exact ⟨0, false, rfl, by omega, by omega, HN.out, (by repeat (first | with_reducible (first | exact World.gained_refl _ | exact ⟨_, rfl⟩ | apply gain_ext | apply gain_alloc | apply gain_drewN | apply gain_drew) | (refine gain_setCell ?_ (by first | exact Nat.le_refl _ | exact World.size_ext _ _ | (simp; done) | (simp; omega)) _)))⟩
  · have HVK : Hid (∀ k : Nat, k < 1000 → s = decB k → v = k) := Lib.hid (fun k hk e => by
      rw [e, atoiAll_digs hk] at hA
      injection hA with hA
      exact hA.symm)
    have HAT := Lib.hid (Tryz.strconv_Atoi_ok s (by omega) v hA w)
    have HE := Lib.hid he
    have HB := Lib.atoiAll_bounds hA
    clear hA he
    cases hI : insB v (-999999) 999999 with
    | false =>
      have HN : Hid (∀ k : Nat, k < 1000 → s = decB k → false = true ∧ (0 : Int) = k) := Lib.hid (fun k hk e => by
        have := HVK.out k hk e
        rw [insB_false] at hI
        omega)
      have HIN := Lib.hid (fun W => by have h := inside_any v (-999999) 999999 W; rw [hI] at h; exact h)
      clear hI
      go_enter Tryz.func61, Tryz.ntmps61
      go_wp2_with fail
      refine HAT.out.mono ?_
      rintro e w1 ⟨rfl, hw⟩
      obtain ⟨d, rfl⟩ : ∃ d, w1 = w.ext d := by
        rcases hw with rfl | ⟨t, rfl⟩
        · exact World.gained_refl _
        · exact World.gained_of_below (Lib.bytesWorld_below _ _ _)
      clear hw HAT
      go_wp2_with (go_at_call 26; refine (HIN.out _).mono ?_; rintro e w1 ⟨rfl, rfl⟩)
      go_ret2
      exact ⟨0, false, rfl, by omega, by omega, HN.out, (by repeat (first | with_reducible (first | exact World.gained_refl _ | exact ⟨_, rfl⟩ | apply gain_ext | apply gain_alloc | apply gain_drewN | apply gain_drew) | (refine gain_setCell ?_ (by first | exact Nat.le_refl _ | exact World.size_ext _ _ | (simp; done) | (simp; omega)) _)))⟩
    | true =>
      have hvb := insB_true.1 hI
      have HIN := Lib.hid (fun W => by have h := inside_any v (-999999) 999999 W; rw [hI] at h; exact h)
      have HIT := Lib.hid (fun (W : World) (hW : ∃ d, W = w.ext d) => (show Calls Tryz.prog 55 #[.int .i64 v] W fun x w' => x = .returned (.string ⟨(Lib.itoa v).toArray⟩) ∧ ∃ d, w' = W.ext d from (Tryz.strconv_Itoa v (by omega) (by omega) W (HE.out.up hW).tab).mono (by
        rintro e w1 ⟨rfl, k, os, rfl⟩
        exact ⟨rfl, gain_grow⟩)))
      have HTK : Hid (∀ k : Nat, k < 1000 → s = decB k → (⟨(Lib.itoa v).toArray⟩ : ByteArray) = s) := Lib.hid (fun k hk e => by
        rw [HVK.out k hk e, Lib.itoa_nonneg, e]
        rfl)
      generalize (⟨(Lib.itoa v).toArray⟩ : ByteArray) = T at HIT HTK
      clear hI HE
      go_enter Tryz.func61, Tryz.ntmps61
      go_wp2_with fail
      refine HAT.out.mono ?_
      rintro e w1 ⟨rfl, hw⟩
      obtain ⟨d, rfl⟩ : ∃ d, w1 = w.ext d := by
        rcases hw with rfl | ⟨t, rfl⟩
        · exact World.gained_refl _
        · exact World.gained_of_below (Lib.bytesWorld_below _ _ _)
      clear hw HAT
      by_cases hT : T = s
      · have hne : (T.toList == s.toList) = true := by rw [str_eq]; exact decide_eq_true hT
        go_wp2_with (first | (go_at_call 26; refine (HIN.out _).mono ?_; rintro e w1 ⟨rfl, rfl⟩) | (go_at_call 55; refine (HIT.out _ (by repeat (first | with_reducible (first | exact World.gained_refl _ | exact ⟨_, rfl⟩ | apply gain_ext | apply gain_alloc | apply gain_drewN | apply gain_drew) | (refine gain_setCell ?_ (by first | exact Nat.le_refl _ | exact World.size_ext _ _ | (simp; done) | (simp; omega)) _)))).mono ?_; rintro e w1 ⟨rfl, d2, rfl⟩))
        go_ret2
        exact ⟨v, true, rfl, by omega, by omega, fun k hk e => ⟨rfl, HVK.out k hk e⟩, (by repeat (first | with_reducible (first | exact World.gained_refl _ | exact ⟨_, rfl⟩ | apply gain_ext | apply gain_alloc | apply gain_drewN | apply gain_drew) | (refine gain_setCell ?_ (by first | exact Nat.le_refl _ | exact World.size_ext _ _ | (simp; done) | (simp; omega)) _)))⟩
      · have hne : (T.toList == s.toList) = false := by rw [str_eq]; exact decide_eq_false hT
        go_wp2_with (first | (go_at_call 26; refine (HIN.out _).mono ?_; rintro e w1 ⟨rfl, rfl⟩) | (go_at_call 55; refine (HIT.out _ (by repeat (first | with_reducible (first | exact World.gained_refl _ | exact ⟨_, rfl⟩ | apply gain_ext | apply gain_alloc | apply gain_drewN | apply gain_drew) | (refine gain_setCell ?_ (by first | exact Nat.le_refl _ | exact World.size_ext _ _ | (simp; done) | (simp; omega)) _)))).mono ?_; rintro e w1 ⟨rfl, d2, rfl⟩))
        go_ret2
        exact ⟨0, false, rfl, by omega, by omega, fun k hk e => absurd (HTK.out k hk e) hT, (by repeat (first | with_reducible (first | exact World.gained_refl _ | exact ⟨_, rfl⟩ | apply gain_ext | apply gain_alloc | apply gain_drewN | apply gain_drew) | (refine gain_setCell ?_ (by first | exact Nat.le_refl _ | exact World.size_ext _ _ | (simp; done) | (simp; omega)) _)))⟩
set_option maxHeartbeats 4000000 in
/-- .. of five words, in their order. -/
theorem numbersIn_any (b o c pb po pc : Nat) (l : List ByteArray) (w : World) (h5 : l.length = 5) (hsz : ∀ x ∈ l, x.size ≤ 1048576) (h : w.sl strC 1 (.slice (some ⟨b, o, none⟩) 5 c) l) (hp : w.sl intC 1 (.slice (some ⟨pb, po, none⟩) 5 pc) [0, 1, 2, 3, 4]) (he : Env w) :
    Calls Tryz.prog 31 #[.slice (some ⟨b, o, none⟩) 5 c, .slice (some ⟨pb, po, none⟩) 5 pc] w fun x w' => ∃ (r : Value) (ok : Bool) (L : List Int), x = .returned (.tuple #[r, .bool ok]) ∧ (∃ d, w' = w.ext d) ∧ w'.own w.heap.size 3 intC 1 r L ∧
      (∀ x ∈ L, -999999 ≤ x ∧ x ≤ 999999) ∧ (ok = true → L.length = 5 ∧ ∀ (j : Nat) (h1 : j < L.length) (h2 : j < l.length) (k : Nat), k < 1000 → l[j] = decB k → L[j] = k) ∧ (ok = false → ∃ (j : Nat) (h2 : j < l.length), ∀ k : Nat, k < 1000 → l[j] ≠ decB k) := by
  have HS := Lib.hid h
  have HP := Lib.hid hp
  have HE := Lib.hid he
  have HSZ := Lib.hid hsz
  have HN := Lib.hid (own_lit' (w := w) (e := 3) (base := w.heap.size) (C := #[]) (l := ([] : List Int)) (g := w.heap.size) intC_length rfl rfl (Nat.le_refl _))
  clear h hp he hsz
  go_enter Tryz.func31, Tryz.ntmps31
  go_wp2_with fail
  go_loopw [6, 14] (fun ov i_ wr => ∃ (k : Nat) (L : List Int), k ≤ 5 ∧ i_ = .int .i64 k ∧ L.length = k ∧ (∃ d, wr = w.ext d) ∧ wr.own w.heap.size 3 intC 1 ov L ∧ (∀ x ∈ L, -999999 ≤ x ∧ x ≤ 999999) ∧ ∀ (j : Nat) (h1 : j < L.length) (h2 : j < l.length) (m : Nat), m < 1000 → l[j] = decB m → L[j] = m) (fun _ i_ _ => 5 - (intOf i_).toNat)
  case atStart => exact ⟨0, [], by omega, rfl, rfl, (by repeat (first | with_reducible (first | exact World.gained_refl _ | exact ⟨_, rfl⟩ | apply gain_ext | apply gain_alloc | apply gain_drewN | apply gain_drew) | (refine gain_setCell ?_ (by first | exact Nat.le_refl _ | exact World.size_ext _ _ | (simp; done) | (simp; omega)) _))), HN.out, by simp, fun j h1 => by simp at h1⟩
  case round =>
    obtain ⟨k, L, hk, rfl, hL, ⟨d, rfl⟩, ho, hb, hv⟩ := hrel
    have HO := Lib.hid ho
    have HB := Lib.hid hb
    have HV := Lib.hid hv
    have HL := Lib.hid hL
    clear ho hb hv hL HN
    by_cases hlt : k < 5
    · have hld : decide ((k : Int) < 5) = true := decide_eq_true (by omega)
      have hkl : k < l.length := by omega
      have p0 := sl_int HP.out (k := k) (by simpa using hlt)
      have pe : ([0, 1, 2, 3, 4] : List Int)[k]'(by simpa using hlt) = (k : Int) := by
        rcases (by omega : k = 0 ∨ k = 1 ∨ k = 2 ∨ k = 3 ∨ k = 4) with rfl | rfl | rfl | rfl | rfl <;> rfl
      rw [pe] at p0
      have c0 := sl_str HS.out (k := k) hkl
      have HX : Hid (l[k] = l[k]) := Lib.hid rfl
      have hz := HSZ.out l[k] (List.getElem_mem hkl)
      generalize hx : l[k] = x at c0 hz
      have op0 := World.oldB_of_cell p0
      have oc0 := World.oldB_of_cell c0
      have hk0 : (0 : Int) ≤ (k : Int) := by omega
      have hk5 : (k : Int) < 5 := by omega
      have hg5 : decide ((5 : Int) ≤ (k : Int)) = false := decide_eq_false (by omega)
      clear pe HX
      have HXX := Lib.hid hx
      clear hx
      go_wp2_with fail
      refine (parseInt_any x _ hz (HE.out.up (by repeat (first | with_reducible (first | exact World.gained_refl _ | exact ⟨_, rfl⟩ | apply gain_ext | apply gain_alloc | apply gain_drewN | apply gain_drew) | (refine gain_setCell ?_ (by first | exact Nat.le_refl _ | exact World.size_ext _ _ | (simp; done) | (simp; omega)) _))))).mono ?_
      rintro e w1 ⟨n, ok, rfl, hn1, hn2, hnk, d1, rfl⟩
      have HNK := Lib.hid hnk
      clear hnk
      cases ok with
      | false =>
        go_wp2_with fail
        go_ret2
        exact ⟨_, false, [], rfl, (by repeat (first | with_reducible (first | exact World.gained_refl _ | exact ⟨_, rfl⟩ | apply gain_ext | apply gain_alloc | apply gain_drewN | apply gain_drew) | (refine gain_setCell ?_ (by first | exact Nat.le_refl _ | exact World.size_ext _ _ | (simp; done) | (simp; omega)) _))), own_nil _ _ _ _ _, by simp, (fun h => by cases h), fun _ => ⟨k, hkl, fun m hm e => by
          have := (HNK.out m hm (HXX.out.symm.trans e)).1
          cases this⟩⟩
      | true =>
        have HSL := Lib.hid (show L.length ≤ 5 by rw [HL.out]; omega)
        go_upto_region 10 with fail
        go_wp2_with (at_builtin; go_must (refine wpList_append_gain (m := [n]) rfl (.tmp 32) (.tmp 34) rfl Tryz.underlying40 info_int (by rfl) (by omega) intC_length intC_one (by omega) (by repeat (first | with_reducible (first | exact World.gained_refl _ | exact ⟨_, rfl⟩ | apply gain_ext | apply gain_alloc | apply gain_drewN | apply gain_drew) | (refine gain_setCell ?_ (by first | exact Nat.le_refl _ | exact World.size_ext _ _ | (simp; done) | (simp; omega)) _))) (Nat.le_refl _) (gain_size (by repeat (first | with_reducible (first | exact World.gained_refl _ | exact ⟨_, rfl⟩ | apply gain_ext | apply gain_alloc | apply gain_drewN | apply gain_drew) | (refine gain_setCell ?_ (by first | exact Nat.le_refl _ | exact World.size_ext _ _ | (simp; done) | (simp; omega)) _)))) rfl rfl (own_up (HO.out) (by repeat (first | with_reducible (first | exact World.gained_refl _ | exact ⟨_, rfl⟩ | apply gain_ext | apply gain_alloc | apply gain_drewN | apply gain_drew) | (refine gain_setCell ?_ (by first | exact Nat.le_refl _ | exact World.size_ext _ _ | (simp; done) | (simp; omega)) _)))) (sl_lit (l := [n]) intC_length rfl (by simp)) ((by have := HSL.out; simp; omega)) ?_); intro v' d' ho' hg')
        have HO' := Lib.hid ho'
        clear ho' hg'
        go_wp2_with fail
        go_roundw
        case rel => exact ⟨k + 1, L ++ [n], by omega, by go_num, by simp [HL.out], (by repeat (first | with_reducible (first | exact World.gained_refl _ | exact ⟨_, rfl⟩ | apply gain_ext | apply gain_alloc | apply gain_drewN | apply gain_drew) | (refine gain_setCell ?_ (by first | exact Nat.le_refl _ | exact World.size_ext _ _ | (simp; done) | (simp; omega)) _))), HO'.out, fun y hy => by
          rcases List.mem_append.1 hy with hy | hy
          · exact HB.out y hy
          · rw [List.mem_singleton.1 hy]; exact ⟨hn1, hn2⟩, fun j h1 h2 m hm e => by
          by_cases hj : j < L.length
          · rw [List.getElem_append_left hj]
            exact HV.out j hj h2 m hm e
          · have hjk : j = k := by
              have := HL.out
              simp only [List.length_append, List.length_cons, List.length_nil] at h1
              omega
            subst hjk
            rw [List.getElem_append_right (by omega)]
            simp only [HL.out, Nat.sub_self, List.getElem_cons_zero]
            exact (HNK.out m hm (HXX.out.symm.trans e)).2⟩
        case measure => simp [intOf]; omega
    · obtain rfl : k = 5 := by omega
      go_wp2_with fail
      go_ret2
      exact ⟨_, true, L, rfl, (by repeat (first | with_reducible (first | exact World.gained_refl _ | exact ⟨_, rfl⟩ | apply gain_ext | apply gain_alloc | apply gain_drewN | apply gain_drew) | (refine gain_setCell ?_ (by first | exact Nat.le_refl _ | exact World.size_ext _ _ | (simp; done) | (simp; omega)) _))), HO.out, HB.out, fun _ => ⟨HL.out, HV.out⟩, fun h => by cases h⟩
end Go.Proofs.YtffkkchflohhaaaGreatDoor
