/- FnClasses returns true for every argument, where the library's variables hold what the program's text lays; the tied card. -/
import Derived.Test.YtffkkchflohhaaaGreatDoorParseI
import Derived.Test.YtffkkchflohhaaaGreatDoorParseS
import Derived.Test.YtffkkchflohhaaaGreatDoorDrawCf
import Derived.Test.YtffkkchflohhaaaGreatDoorPClsF
import Derived.Test.YtffkkchflohhaaaGreatDoorRLaws
import Derived.Test.YtffkkchflohhaaaGreatDoorTiedW
import Derived.Test.YtffkkchflohhaaaGreatDoorLaw
import Derived.Test.YtffkkchflohhaaaGreatDoorRdBytes
import Derived.Test.YtffkkchflohhaaaGreatDoorCards
import Derived.Test.YtffkkchflohhaaaGreatDoorTie
import Derived.Deep.DeepCutAuto
import Derived.SevenTiedAt
import Derived.Stop.Joined
namespace Go.Proofs.YtffkkchflohhaaaGreatDoor
open Go.ChangeShapes Go.WideShapes Go.ChangeAt Go.RowKit Go.Ori
theorem eqCls (c : Cls) (w : World) : (Op.equalIn 10000 25 (.agg #[.int .i64 c.id, .string c.name, .int .i64 c.low, .int .i64 c.high, .bool c.women, .bool c.men, .int .i64 c.course, .int .i64 c.most]) (.agg #[.int .i64 c.id, .string c.name, .int .i64 c.low, .int .i64 c.high, .bool c.women, .bool c.men, .int .i64 c.course, .int .i64 c.most])).run Tryz.prog w = .ok true w := by
  have u3 := Tryz.underlying3
  have u4 := Tryz.underlying4
  have u9 := Tryz.underlying9
  have a3 := Tryz.isAgg3
  have a4 := Tryz.isAgg4
  have a9 := Tryz.isAgg9
  rw [show (10000 : Nat) = 9999 + 1 from rfl, Op.equalIn]
  simp only [Sem.run_bind, run_underlying Tryz.underlying25, Result.andThen_ok]
  go_simp
set_option maxRecDepth 100000 in
set_option maxHeartbeats 8000000 in
theorem fnClasses_walk (v : Value) (L : List Int) (w : World) (he : Env w) (h : w.sl byteC 1 v L) (hq : ∀ x ∈ L, 0 ≤ x ∧ x ≤ 255) (hn : L.length ≤ 9223372036854775807) :
    Calls Tryz.prog 3 #[v] w fun x w' => x = .returned (.bool true) ∧ ∃ d, w' = w.ext d := by
  have hs := Lib.hid h
  have HQ := Lib.hid hq
  have HE := Lib.hid he
  obtain ⟨p, cp, rfl, _⟩ := h
  clear hq he
  by_cases hbig : 65536 < L.length
  · have hbb : decide (65536 < L.length) = true := decide_eq_true hbig
    go_enter Tryz.func3, Tryz.ntmps3
    go_wp2_with (go_at_call 4; refine (rBig_any _ _ _ _ hn).mono ?_; rw [hbb]; rintro e w1 ⟨rfl, rfl⟩)
    go_ret
    exact ⟨rfl, (by repeat (first | with_reducible (first | exact World.gained_refl _ | exact ⟨_, rfl⟩ | apply gain_ext | apply gain_alloc | apply gain_drewN | apply gain_drew) | (refine gain_setCell ?_ (by first | exact Nat.le_refl _ | exact World.size_ext _ _ | (simp; done) | (simp; omega)) _)))⟩
  have hbb : decide (65536 < L.length) = false := decide_eq_false hbig
  have hl : L.length ≤ 1048576 := by omega
  go_enter Tryz.func3, Tryz.ntmps3
  go_wp2_with (go_at_call 4; refine (rBig_any _ _ _ _ hn).mono ?_; rw [hbb]; rintro e w1 ⟨rfl, rfl⟩)
  refine (drawClassText_any _ L _ hs.out HQ.out hl).mono ?_
  rintro e w1 ⟨x, rfl, hx, d1, rfl⟩
  have HT := Lib.hid (fun W (hW : ∃ d, W = w.ext d) => implClassText_any x W (HE.out.up hW).tab hx)
  have HST := Lib.hid (fun W => specClassText_any x W hx)
  have HIC := Lib.hid (fun W => isClass_any x W hx)
  have HTS := Lib.hid (fun (hb : classB x = true) => (show clsT x = (if classB x = true then clsT x else ⟨#[]⟩ : ByteArray) from by rw [if_pos hb]))
  have hsz : (if classB x = true then clsT x else ⟨#[]⟩ : ByteArray).size ≤ 60 := by
    split
    · rename_i hb; exact cls_size hb
    · decide
  generalize (if classB x = true then clsT x else ⟨#[]⟩ : ByteArray) = T at HT HST HTS hsz
  have HPI := Lib.hid (fun W (hW : ∃ d, W = w.ext d) => implParse_any T W (by omega) (HE.out.up hW))
  have HBY := Lib.hid (fun (hb : classB x = true) (c : Cls) (ok : Bool) (hp : ParsedAs T c ok) => parsed_same hp (parsed_yes hb (HTS.out hb)))
  generalize classB x = B at HT HST HIC HBY
  clear HTS
  have hBB : (B != B) = false := by simp
  go_upto_region 8 with (first | (go_at_call 6; refine (HT.out _ (by repeat (first | with_reducible (first | exact World.gained_refl _ | exact ⟨_, rfl⟩ | apply gain_ext | apply gain_alloc | apply gain_drewN | apply gain_drew) | (refine gain_setCell ?_ (by first | exact Nat.le_refl _ | exact World.size_ext _ _ | (simp; done) | (simp; omega)) _)))).mono ?_; rintro e w1 ⟨rfl, d2, rfl⟩) | (go_at_call 7; refine (HST.out _).mono ?_; rintro e w1 ⟨rfl, d3, rfl⟩) | (go_at_call 8; refine (HIC.out _).mono ?_; rintro e w1 ⟨rfl, d4, rfl⟩))
  go_wp2_with fail
  refine (HPI.out _ (by repeat (first | with_reducible (first | exact World.gained_refl _ | exact ⟨_, rfl⟩ | apply gain_ext | apply gain_alloc | apply gain_drewN | apply gain_drew) | (refine gain_setCell ?_ (by first | exact Nat.le_refl _ | exact World.size_ext _ _ | (simp; done) | (simp; omega)) _)))).mono ?_
  rintro e w1 ⟨c, ok, rfl, hp, d5, rfl⟩
  have HPP := Lib.hid hp
  clear hp HT HST HIC HPI
  go_upto_region 9 with fail
  go_cut [78] (fun t wx => t = .bool false ∧ ∃ d, wx = w.ext d)
  case first =>
    as_aux_lemma =>
      cases B with
      | false =>
        go_wp2_with fail
        go_meet
        exact ⟨rfl, (by repeat (first | with_reducible (first | exact World.gained_refl _ | exact ⟨_, rfl⟩ | apply gain_ext | apply gain_alloc | apply gain_drewN | apply gain_drew) | (refine gain_setCell ?_ (by first | exact Nat.le_refl _ | exact World.size_ext _ _ | (simp; done) | (simp; omega)) _)))⟩
      | true =>
        obtain ⟨rfl, rfl⟩ := HBY.out rfl c ok HPP.out
        have heq := eqCls c
        go_wp2_with fail
        go_meet
        exact ⟨rfl, (by repeat (first | with_reducible (first | exact World.gained_refl _ | exact ⟨_, rfl⟩ | apply gain_ext | apply gain_alloc | apply gain_drewN | apply gain_drew) | (refine gain_setCell ?_ (by first | exact Nat.le_refl _ | exact World.size_ext _ _ | (simp; done) | (simp; omega)) _)))⟩
  obtain ⟨rfl, dA, rfl⟩ := hcut
  clear HBY HPP hBB hsz hx
  go_wp2_with fail
  refine (drawParseClass_any _ L _ (by with_reducible (repeat (first | exact hs.out | refine World.sl_ext byteC_length ?_ _ | refine sl_alloc byteC_length ?_ _ | refine sl_drew ?_))) HQ.out hl).mono ?_
  rintro e w1 ⟨t, rfl, ht, d1, rfl⟩
  go_wp2_with fail
  refine (implParse_any t _ (by omega) (HE.out.up (by repeat (first | with_reducible (first | exact World.gained_refl _ | exact ⟨_, rfl⟩ | apply gain_ext | apply gain_alloc | apply gain_drewN | apply gain_drew) | (refine gain_setCell ?_ (by first | exact Nat.le_refl _ | exact World.size_ext _ _ | (simp; done) | (simp; omega)) _))))).mono ?_
  rintro e w1 ⟨c1, ok1, rfl, hp1, d2, rfl⟩
  have HP1 := Lib.hid hp1
  clear hp1
  go_wp2_with fail
  refine (specParse_any t _ (by omega)).mono ?_
  rintro e w1 ⟨c2, ok2, rfl, hp2, d3, rfl⟩
  obtain ⟨rfl, rfl⟩ := parsed_same HP1.out hp2
  have heq := eqCls c1
  have hoo : (ok1 != ok1) = false := by simp
  clear hp2 HP1 ht
  go_upto_region 14 with fail
  go_cut [98] (fun t wx => t = .bool false ∧ ∃ d, wx = w.ext d)
  case first =>
    as_aux_lemma =>
      go_wp2_with fail
      go_meet
      exact ⟨rfl, (by repeat (first | with_reducible (first | exact World.gained_refl _ | exact ⟨_, rfl⟩ | apply gain_ext | apply gain_alloc | apply gain_drewN | apply gain_drew) | (refine gain_setCell ?_ (by first | exact Nat.le_refl _ | exact World.size_ext _ _ | (simp; done) | (simp; omega)) _)))⟩
  obtain ⟨rfl, dB, rfl⟩ := hcut
  clear heq hoo
  go_wp2_with fail
  refine (drawBestClass_any _ L _ (by with_reducible (repeat (first | exact hs.out | refine World.sl_ext byteC_length ?_ _ | refine sl_alloc byteC_length ?_ _ | refine sl_drew ?_))) HQ.out hl).mono ?_
  rintro e w1 ⟨lv, l, r, rfl, ⟨d1, rfl⟩, ho, hll, hsm, hy1, hy2⟩
  have HL := Lib.hid (sl_of_own Cls.cells_length ho)
  have HSM := Lib.hid hsm
  obtain ⟨pl, kl, rfl, _⟩ := HL.out
  clear ho hsm
  have hl20 : l.length ≤ 1048576 := by omega
  have HGW : ∃ d, ((w.ext dB).ext d1).alloc (.cells #[.int .i64 r.id, .string r.name, .string r.club, .int .i64 r.born, .bool r.woman, .int .i64 r.card] 35) = w.ext d := (by repeat (first | with_reducible (first | exact World.gained_refl _ | exact ⟨_, rfl⟩ | apply gain_ext | apply gain_alloc | apply gain_drewN | apply gain_drew) | (refine gain_setCell ?_ (by first | exact Nat.le_refl _ | exact World.size_ext _ _ | (simp; done) | (simp; omega)) _)))
  have HBX := Lib.hid (heap_alloc_new ((w.ext dB).ext d1) (.cells #[.int .i64 r.id, .string r.name, .string r.club, .int .i64 r.born, .bool r.woman, .int .i64 r.card] 35))
  have HL0 := Lib.hid (sl_up (w' := ((w.ext dB).ext d1).alloc (.cells #[.int .i64 r.id, .string r.name, .string r.club, .int .i64 r.born, .bool r.woman, .int .i64 r.card] 35)) Cls.cells_length HL.out (by repeat (first | with_reducible (first | exact World.gained_refl _ | exact ⟨_, rfl⟩ | apply gain_ext | apply gain_alloc | apply gain_drewN | apply gain_drew) | (refine gain_setCell ?_ (by first | exact Nat.le_refl _ | exact World.size_ext _ _ | (simp; done) | (simp; omega)) _))))
  go_wp2_with fail
  generalize ((w.ext dB).ext d1).alloc (.cells #[.int .i64 r.id, .string r.name, .string r.club, .int .i64 r.born, .bool r.woman, .int .i64 r.card] 35) = W0 at HGW HBX HL0 ⊢
  generalize ((w.ext dB).ext d1).heap.size = gB at HBX ⊢
  obtain ⟨dz, rfl⟩ := HGW
  clear HL
  have bx0 : (w.ext dz).cell? ⟨gB, 0, none⟩ = some (.int .i64 r.id) := World.cell_of_heap HBX.out 0
  have bx1 : (w.ext dz).cell? ⟨gB, 1, none⟩ = some (.string r.name) := World.cell_of_heap HBX.out 1
  have bx2 : (w.ext dz).cell? ⟨gB, 2, none⟩ = some (.string r.club) := World.cell_of_heap HBX.out 2
  have bx3 : (w.ext dz).cell? ⟨gB, 3, none⟩ = some (.int .i64 r.born) := World.cell_of_heap HBX.out 3
  have bx4 : (w.ext dz).cell? ⟨gB, 4, none⟩ = some (.bool r.woman) := World.cell_of_heap HBX.out 4
  have bx5 : (w.ext dz).cell? ⟨gB, 5, none⟩ = some (.int .i64 r.card) := World.cell_of_heap HBX.out 5
  have obx := World.oldB_of_cell bx0
  have HBC := Lib.hid (fun W hL => bestClass_any (.slice pl l.length kl) l r W hL hl20 HSM.out hy1 hy2)
  have HSBC := Lib.hid (fun W hL => specBestClass_any (.slice pl l.length kl) l r W hL hl20 HSM.out hy1 hy2)
  have HCF := Lib.hid (fun W hL => classesFor_any (.slice pl l.length kl) l r W hL hl20 HSM.out hy1 hy2)
  have HSCF := Lib.hid (fun W hL => specClassesFor_any (.slice pl l.length kl) l r W hL hl20 HSM.out hy1 hy2)
  have HIL := Lib.hid (cfL_length l r)
  have HLAW := Lib.hid (fun (h : cfB l r = true) => fc_law h)
  have HNO : Hid (cfB l r = false → bcB l r = false ∧ cfL l r = []) := Lib.hid (fun h => ⟨by rw [bcB, h]; rfl, by rw [cfL, h]; rfl⟩)
  generalize bcB l r = G at HBC HSBC HLAW HNO
  generalize bcI l r = N at HBC HSBC HLAW
  generalize cfB l r = K at HCF HSCF HLAW HNO
  have hGG : (G != G) = false := by simp
  have hNN : (N != N) = false := by simp
  have hKK : (K != K) = false := by simp
  go_wp2_with (first | (go_at_call 13; refine (HBC.out _ (by with_reducible (repeat (first | exact HL0.out | refine World.sl_ext Cls.cells_length ?_ _ | refine sl_alloc Cls.cells_length ?_ _ | refine sl_drew ?_)))).mono ?_; rintro e w1 ⟨rfl, d2, rfl⟩) | (go_at_call 14; refine (HSBC.out _ (by with_reducible (repeat (first | exact HL0.out | refine World.sl_ext Cls.cells_length ?_ _ | refine sl_alloc Cls.cells_length ?_ _ | refine sl_drew ?_)))).mono ?_; rintro e w1 ⟨rfl, d3, rfl⟩))
  refine (HCF.out _ (by with_reducible (repeat (first | exact HL0.out | refine World.sl_ext Cls.cells_length ?_ _ | refine sl_alloc Cls.cells_length ?_ _ | refine sl_drew ?_)))).mono ?_
  rintro e w1 ⟨q1, rfl, ⟨d4, rfl⟩, o1⟩
  have O1 := Lib.hid (sl_of_own intC_length o1)
  clear o1 HBC HSBC
  generalize cfL l r = I at O1 HSCF HIL HLAW HNO
  obtain ⟨pi, ki, rfl, _⟩ := O1.out
  go_wp2_with fail
  refine (HSCF.out _ (by with_reducible (repeat (first | exact HL0.out | refine World.sl_ext Cls.cells_length ?_ _ | refine sl_alloc Cls.cells_length ?_ _ | refine sl_drew ?_)))).mono ?_
  rintro e w1 ⟨q2, rfl, ⟨d5, rfl⟩, o2⟩
  have O2 := Lib.hid (sl_of_own intC_length o2)
  clear o2 HCF HSCF
  obtain ⟨pj, kj, rfl, _⟩ := O2.out
  have HGI : Hid (G = decide (0 < I.length) ∧ (G = true → hasB I N = true)) := Lib.hid (by
    cases K with
    | true => exact ⟨(HLAW.out rfl).len, fun h => ((HLAW.out rfl).best h).1⟩
    | false =>
      obtain ⟨h1, h2⟩ := HNO.out rfl
      rw [h1, h2]
      exact ⟨rfl, fun h => by cases h⟩)
  obtain ⟨dD, hdD⟩ : ∃ dD, ((((w.ext dz).ext d2).ext d3).ext d4).ext d5 = (w.ext dz).ext dD := (by repeat (first | with_reducible (first | exact World.gained_refl _ | exact ⟨_, rfl⟩ | apply gain_ext | apply gain_alloc | apply gain_drewN | apply gain_drew) | (refine gain_setCell ?_ (by first | exact Nat.le_refl _ | exact World.size_ext _ _ | (simp; done) | (simp; omega)) _)))
  have O1' := Lib.hid (sl_up (w' := ((((w.ext dz).ext d2).ext d3).ext d4).ext d5) intC_length O1.out (by repeat (first | with_reducible (first | exact World.gained_refl _ | exact ⟨_, rfl⟩ | apply gain_ext | apply gain_alloc | apply gain_drewN | apply gain_drew) | (refine gain_setCell ?_ (by first | exact Nat.le_refl _ | exact World.size_ext _ _ | (simp; done) | (simp; omega)) _))))
  rw [hdD] at O1' O2 ⊢
  clear O1 hdD
  go_upto_region 23 with fail
  go_cut [160] (fun t wx => t = .bool false ∧ ∃ d, wx = ((w.ext dz).ext dD).ext d)
  case first =>
    as_aux_lemma =>
      obtain ⟨hg1, hg2⟩ := HGI.out
      cases G with
      | false =>
        have hI0 : I.length = 0 := by
          have : ¬ 0 < I.length := fun h => by simp [h] at hg1
          omega
        have hI1 : decide ((0 : Int) < (I.length : Int)) = false := decide_eq_false (by omega)
        have hI2 : decide (0 < I.length) = false := decide_eq_false (by omega)
        clear hg1 hg2 hI0
        go_wp2_with (go_at_call 17; refine (rInts_same _ _ I _ (by with_reducible (repeat (first | exact O1'.out | refine World.sl_ext intC_length ?_ _ | refine sl_alloc intC_length ?_ _ | refine sl_drew ?_))) (by with_reducible (repeat (first | exact O2.out | refine World.sl_ext intC_length ?_ _ | refine sl_alloc intC_length ?_ _ | refine sl_drew ?_))) HIL.out).mono ?_; rintro e w1 ⟨rfl, d6, rfl⟩)
        go_meet
        exact ⟨rfl, (by repeat (first | with_reducible (first | exact World.gained_refl _ | exact ⟨_, rfl⟩ | apply gain_ext | apply gain_alloc | apply gain_drewN | apply gain_drew) | (refine gain_setCell ?_ (by first | exact Nat.le_refl _ | exact World.size_ext _ _ | (simp; done) | (simp; omega)) _)))⟩
      | true =>
        have hI0 : 0 < I.length := by simpa using hg1.symm
        have hI1 : decide ((0 : Int) < (I.length : Int)) = true := decide_eq_true (by omega)
        have hI2 : decide (0 < I.length) = true := decide_eq_true (by omega)
        have HRH : Hid (∀ W : World, W.sl intC 1 (.slice pi I.length ki) I → Calls Tryz.prog 18 #[.slice pi I.length ki, .int .i64 N] W fun x w' => x = .returned (.bool true) ∧ ∃ d, w' = W.ext d) := Lib.hid (fun W hI => by
          have h := rHas_any (.slice pi I.length ki) I N W hI HIL.out
          rw [hg2 rfl] at h
          exact h)
        clear hg1 hg2 hI0
        go_wp2_with (first | (go_at_call 17; refine (rInts_same _ _ I _ (by with_reducible (repeat (first | exact O1'.out | refine World.sl_ext intC_length ?_ _ | refine sl_alloc intC_length ?_ _ | refine sl_drew ?_))) (by with_reducible (repeat (first | exact O2.out | refine World.sl_ext intC_length ?_ _ | refine sl_alloc intC_length ?_ _ | refine sl_drew ?_))) HIL.out).mono ?_; rintro e w1 ⟨rfl, d6, rfl⟩) | (go_at_call 18; refine (HRH.out _ (by with_reducible (repeat (first | exact O1'.out | refine World.sl_ext intC_length ?_ _ | refine sl_alloc intC_length ?_ _ | refine sl_drew ?_)))).mono ?_; rintro e w1 ⟨rfl, d7, rfl⟩))
        go_meet
        exact ⟨rfl, (by repeat (first | with_reducible (first | exact World.gained_refl _ | exact ⟨_, rfl⟩ | apply gain_ext | apply gain_alloc | apply gain_drewN | apply gain_drew) | (refine gain_setCell ?_ (by first | exact Nat.le_refl _ | exact World.size_ext _ _ | (simp; done) | (simp; omega)) _)))⟩
  obtain ⟨rfl, dE, rfl⟩ := hcut
  obtain ⟨dF, hdF⟩ : ∃ dF, ((w.ext dz).ext dD).ext dE = (w.ext dz).ext dF := (by repeat (first | with_reducible (first | exact World.gained_refl _ | exact ⟨_, rfl⟩ | apply gain_ext | apply gain_alloc | apply gain_drewN | apply gain_drew) | (refine gain_setCell ?_ (by first | exact Nat.le_refl _ | exact World.size_ext _ _ | (simp; done) | (simp; omega)) _)))
  have OI := Lib.hid (sl_up (w' := ((w.ext dz).ext dD).ext dE) intC_length O1'.out (by repeat (first | with_reducible (first | exact World.gained_refl _ | exact ⟨_, rfl⟩ | apply gain_ext | apply gain_alloc | apply gain_drewN | apply gain_drew) | (refine gain_setCell ?_ (by first | exact Nat.le_refl _ | exact World.size_ext _ _ | (simp; done) | (simp; omega)) _))))
  rw [hdF] at OI ⊢
  clear O1' O2 hdF HGI hGG hNN hKK
  obtain ⟨wm, hwm⟩ : ∃ wm : Int, G = true → (∀ i (h : i < l.length), l[i].id = N → l[i].high - l[i].low = wm) ∧ (∃ i, ∃ h : i < l.length, l[i].id = N) ∧ ∀ i (h : i < l.length), admitB l[i] r = true → wm ≤ l[i].high - l[i].low := by
    cases G with
    | false => exact ⟨0, fun h => by cases h⟩
    | true =>
      cases K with
      | true =>
        obtain ⟨_, wm, h1, h2, h3⟩ := (HLAW.out rfl).best rfl
        exact ⟨wm, fun _ => ⟨h1, h2, h3⟩⟩
      | false => have := (HNO.out rfl).1; cases this
  have HWM := Lib.hid hwm
  have HAG : Hid (G = true → ∀ i (h : i < l.length), 0 ≤ l[i].low ∧ l[i].low ≤ 200 ∧ 0 ≤ l[i].high ∧ l[i].high ≤ 200) := Lib.hid (fun h => by
    cases K with
    | true => exact (HLAW.out rfl).ages
    | false => rw [(HNO.out rfl).1] at h; cases h)
  clear hwm
  go_upto_block 0 with fail
  go_cut [25, 26] (fun a_ _ wx => ∃ wd : Int, a_ = .int .i64 wd ∧ -200 ≤ wd ∧ wd ≤ 200 ∧ (G = true → wd = wm) ∧ ∃ d, wx = ((w.ext dz).ext dF).ext d)
  case first =>
    go_wp2_with fail
    go_loopw [25, 26] (fun a_ i_ wr => ∃ (k : Nat) (wd : Int), k ≤ l.length ∧ i_ = .int .i64 k ∧ a_ = .int .i64 wd ∧ -200 ≤ wd ∧ wd ≤ 200 ∧ (G = true → (∃ j, ∃ h : j < l.length, j < k ∧ l[j].id = N) → wd = wm) ∧ ∃ d, wr = ((w.ext dz).ext dF).ext d) (fun _ i_ _ => l.length - (intOf i_).toNat)
    case atStart => exact ⟨0, 121, by omega, rfl, rfl, by omega, by omega, fun _ h => by obtain ⟨j, _, h, _⟩ := h; omega, (by repeat (first | with_reducible (first | exact World.gained_refl _ | exact ⟨_, rfl⟩ | apply gain_ext | apply gain_alloc | apply gain_drewN | apply gain_drew) | (refine gain_setCell ?_ (by first | exact Nat.le_refl _ | exact World.size_ext _ _ | (simp; done) | (simp; omega)) _)))⟩
    case round =>
      obtain ⟨k, wd, hk, rfl, rfl, hw1, hw2, hw3, d, rfl⟩ := hrel
      have HW3 := Lib.hid hw3
      clear hw3
      by_cases hlt : k < l.length
      · have hkd : decide ((k : Int) < (l.length : Int)) = true := decide_eq_true (by omega)
        cases G with
        | false =>
          go_wp2_with fail
          go_meet
          exact ⟨wd, rfl, hw1, hw2, (fun h => by cases h), (by repeat (first | with_reducible (first | exact World.gained_refl _ | exact ⟨_, rfl⟩ | apply gain_ext | apply gain_alloc | apply gain_drewN | apply gain_drew) | (refine gain_setCell ?_ (by first | exact Nat.le_refl _ | exact World.size_ext _ _ | (simp; done) | (simp; omega)) _)))⟩
        | true =>
          obtain ⟨g1, g2, g3, g4⟩ := HAG.out rfl k hlt
          have HSTEP : Hid (l[k].id = N → l[k].high - l[k].low = wm) := Lib.hid ((HWM.out rfl).1 k hlt)
          have HNEXT : Hid (∀ wd' : Int, (l[k].id = N → wd' = wm) → (¬ l[k].id = N → wd' = wd) → (true = true → (∃ j, ∃ h : j < l.length, j < k + 1 ∧ l[j].id = N) → wd' = wm)) := Lib.hid (fun wd' h1 h2 _ hx => by
            by_cases hid : l[k].id = N
            · exact h1 hid
            · obtain ⟨j, hj, hjk, hjn⟩ := hx
              have hne : j ≠ k := fun e => by subst e; exact hid hjn
              rw [h2 hid]
              exact HW3.out rfl ⟨j, hj, by omega, hjn⟩)
          obtain ⟨b, o, rfl⟩ := sl_some HL0.out (by omega)
          have c0 := sl_cells HL0.out hlt (j := 0) (by omega)
          have c2 := sl_cells HL0.out hlt (j := 2) (by omega)
          have c3 := sl_cells HL0.out hlt (j := 3) (by omega)
          generalize l[k] = y at c0 c2 c3 HSTEP HNEXT g1 g2 g3 g4
          simp only [Cls.cells, List.getElem?_cons_zero, List.getElem?_cons_succ, Nat.add_zero] at c0 c2 c3
          have ob := World.oldB_of_cell c0
          have hk0 : (0 : Int) ≤ (k : Int) := by omega
          have hk1 : (k : Int) < (l.length : Int) := by omega
          have hws : IntKind.i64.wrap (y.high - y.low) = y.high - y.low := IntWalk.i64_in _ (by omega)
          by_cases hid : y.id = N
          · have hidb : (y.id == N) = true := by simp [hid]
            have hidd : decide (y.id = N) = true := decide_eq_true hid
            have HN1 := Lib.hid (HNEXT.out (y.high - y.low) HSTEP.out (fun h => absurd hid h))
            go_upto_region 30 with fail
            refine wp_region_gain (by kernel_rfl) (by kernel_rfl) ?_
            repeat (first | go_big_quiet_skip | (go_big_quiet_want; go_big_quiet_op; first | go_big_quiet_on))
            refine wpQuiet_nil ?_
            rintro _ ⟨d', rfl⟩
            go_wp2_with fail
            go_roundw
            case rel => exact ⟨k + 1, y.high - y.low, by omega, by go_num, rfl, by omega, by omega, (fun _ => HN1.out rfl), (by repeat (first | with_reducible (first | exact World.gained_refl _ | exact ⟨_, rfl⟩ | apply gain_ext | apply gain_alloc | apply gain_drewN | apply gain_drew) | (refine gain_setCell ?_ (by first | exact Nat.le_refl _ | exact World.size_ext _ _ | (simp; done) | (simp; omega)) _)))⟩
            case measure => simp [intOf]; omega
          · have hidb : (y.id == N) = false := by simp [hid]
            have hidd : decide (y.id = N) = false := decide_eq_false hid
            have HN1 := Lib.hid (HNEXT.out wd (fun h => absurd h hid) (fun _ => rfl))
            go_wp2_with fail
            go_roundw
            case rel => exact ⟨k + 1, wd, by omega, by go_num, rfl, hw1, hw2, (fun _ => HN1.out rfl), (by repeat (first | with_reducible (first | exact World.gained_refl _ | exact ⟨_, rfl⟩ | apply gain_ext | apply gain_alloc | apply gain_drewN | apply gain_drew) | (refine gain_setCell ?_ (by first | exact Nat.le_refl _ | exact World.size_ext _ _ | (simp; done) | (simp; omega)) _)))⟩
            case measure => simp [intOf]; omega
      · obtain rfl : k = l.length := by omega
        have hkd : decide (((l.length : Nat) : Int) < (l.length : Int)) = false := decide_eq_false (by omega)
        have HFIN : Hid (G = true → wd = wm) := Lib.hid (fun h => by
          obtain ⟨j, hj, hjn⟩ := (HWM.out h).2.1
          exact HW3.out h ⟨j, hj, hj, hjn⟩)
        go_wp2_with fail
        go_meet
        exact ⟨wd, rfl, hw1, hw2, HFIN.out, (by repeat (first | with_reducible (first | exact World.gained_refl _ | exact ⟨_, rfl⟩ | apply gain_ext | apply gain_alloc | apply gain_drewN | apply gain_drew) | (refine gain_setCell ?_ (by first | exact Nat.le_refl _ | exact World.size_ext _ _ | (simp; done) | (simp; omega)) _)))⟩
  obtain ⟨wd, rfl, hw1, hw2, hw3, dG, rfl⟩ := hcut
  have HP : Hid (K = true → ∀ i (h : i < l.length), admitB l[i] r = true → wd ≤ l[i].high - l[i].low) := Lib.hid (fun hK i h ha => by
    cases hG : G with
    | false =>
      have := (HLAW.out hK).none hG i h
      rw [this] at ha
      cases ha
    | true => rw [hw3 hG]; exact (HWM.out hG).2.2 i h ha)
  clear hw3 HWM HAG
  go_upto_block 2 with fail
  go_cut [27, 28, 29] (fun _ _ _ wx => ∃ d, wx = w.ext d)
  case first =>
    go_wp2_with fail
    go_loopw [27] (fun i_ wr => ∃ k : Nat, k ≤ l.length ∧ i_ = .int .i64 k ∧ ∃ d, wr = ((w.ext dz).ext dF).ext d) (fun i_ _ => l.length - (intOf i_).toNat)
    case atStart => exact ⟨0, by omega, rfl, (by repeat (first | with_reducible (first | exact World.gained_refl _ | exact ⟨_, rfl⟩ | apply gain_ext | apply gain_alloc | apply gain_drewN | apply gain_drew) | (refine gain_setCell ?_ (by first | exact Nat.le_refl _ | exact World.size_ext _ _ | (simp; done) | (simp; omega)) _)))⟩
    case round =>
      obtain ⟨k, hk, rfl, d, rfl⟩ := hrel
      by_cases hlt : k < l.length
      · have hkd : decide ((k : Int) < (l.length : Int)) = true := decide_eq_true (by omega)
        cases K with
        | false =>
          go_wp2_with fail
          go_meet
          exact (by repeat (first | with_reducible (first | exact World.gained_refl _ | exact ⟨_, rfl⟩ | apply gain_ext | apply gain_alloc | apply gain_drewN | apply gain_drew) | (refine gain_setCell ?_ (by first | exact Nat.le_refl _ | exact World.size_ext _ _ | (simp; done) | (simp; omega)) _)))
        | true =>
          obtain ⟨g1, g2, g3, g4⟩ := (HLAW.out rfl).ages k hlt
          have HD1 := Lib.hid ((HLAW.out rfl).does k hlt)
          have HA1 := Lib.hid ((HLAW.out rfl).has k hlt)
          have HP1 := Lib.hid (HP.out rfl k hlt)
          have HS1 := Lib.hid (HSM.out l[k] (List.getElem_mem hlt))
          have HIDX := Lib.hid (fun W hI => rHas_any (.slice pi I.length ki) I l[k].id W hI HIL.out)
          have HDX := Lib.hid (fun W => doesAdmit_any l[k] r W HS1.out hy1 hy2)
          rw [HD1.out] at HDX
          rw [HA1.out] at HIDX
          obtain ⟨b, o, rfl⟩ := sl_some HL0.out (by omega)
          have c0 := sl_cells HL0.out hlt (j := 0) (by omega)
          have c1 := sl_cells HL0.out hlt (j := 1) (by omega)
          have c2 := sl_cells HL0.out hlt (j := 2) (by omega)
          have c3 := sl_cells HL0.out hlt (j := 3) (by omega)
          have c4 := sl_cells HL0.out hlt (j := 4) (by omega)
          have c5 := sl_cells HL0.out hlt (j := 5) (by omega)
          have c6 := sl_cells HL0.out hlt (j := 6) (by omega)
          have c7 := sl_cells HL0.out hlt (j := 7) (by omega)
          clear HD1 HA1 HS1
          generalize l[k] = y at c0 c1 c2 c3 c4 c5 c6 c7 HIDX HDX HP1 g1 g2 g3 g4
          simp only [Cls.cells, List.getElem?_cons_zero, List.getElem?_cons_succ, Nat.add_zero] at c0 c1 c2 c3 c4 c5 c6 c7
          generalize admitB y r = am at HIDX HDX HP1
          have HDA : Hid (∀ W : World, Calls Tryz.prog 19 #[.agg #[.int .i64 y.id, .string y.name, .int .i64 y.low, .int .i64 y.high, .bool y.women, .bool y.men, .int .i64 y.course, .int .i64 y.most], .agg #[.int .i64 r.id, .string r.name, .string r.club, .int .i64 r.born, .bool r.woman, .int .i64 r.card]] W fun x w' => x = .returned (.tuple #[.bool am, .bool true]) ∧ ∃ d, w' = W.ext d) := Lib.hid (fun W => by
            have h := HDX.out W
            rw [Bool.true_and] at h
            exact h)
          have ob := World.oldB_of_cell c0
          have hk0 : (0 : Int) ≤ (k : Int) := by omega
          have hk1 : (k : Int) < (l.length : Int) := by omega
          have hws : IntKind.i64.wrap (y.high - y.low) = y.high - y.low := IntWalk.i64_in _ (by omega)
          clear HDX
          go_upto_region 34 with fail
          refine wp_region_held_drew (S := (fun w' => w'.cell? ⟨b, o + k * 8, none⟩ = some (.int .i64 y.id) ∧ w'.cell? ⟨b, o + k * 8 + 1, none⟩ = some (.string y.name) ∧ w'.cell? ⟨b, o + k * 8 + 2, none⟩ = some (.int .i64 y.low) ∧ w'.cell? ⟨b, o + k * 8 + 3, none⟩ = some (.int .i64 y.high) ∧ w'.cell? ⟨b, o + k * 8 + 4, none⟩ = some (.bool y.women) ∧ w'.cell? ⟨b, o + k * 8 + 5, none⟩ = some (.bool y.men) ∧ w'.cell? ⟨b, o + k * 8 + 6, none⟩ = some (.int .i64 y.course) ∧ w'.cell? ⟨b, o + k * 8 + 7, none⟩ = some (.int .i64 y.most) ∧ w'.cell? ⟨gB, 0, none⟩ = some (.int .i64 r.id) ∧ w'.cell? ⟨gB, 1, none⟩ = some (.string r.name) ∧ w'.cell? ⟨gB, 2, none⟩ = some (.string r.club) ∧ w'.cell? ⟨gB, 3, none⟩ = some (.int .i64 r.born) ∧ w'.cell? ⟨gB, 4, none⟩ = some (.bool r.woman) ∧ w'.cell? ⟨gB, 5, none⟩ = some (.int .i64 r.card))) (by kernel_rfl) (by (try dsimp only); (refine ⟨?_, ?_, ?_, ?_, ?_, ?_, ?_, ?_, ?_, ?_, ?_, ?_, ?_, ?_⟩ <;> (with_reducible (repeat (first | assumption | refine cell_ext ?_ _ | refine cell_drew ?_ | refine cell_alloc ?_ _))))) (fun hHeld => ?_)
          refine wpAnyH_take (i := 0) (oi := ⟨_, _, _, _, _, _⟩) (v := ?_) rfl (by kernel_rfl) (by kernel_rfl) (by kernel_rfl) (fun _ _ _ h => h) (Or.inl ⟨by rfl, ?_⟩) (by assumption) ?_
          rotate_left
          · intro w hSw; (try dsimp only at hSw); go_simp; (try with_reducible rfl)
          try simp only [Act.put, List.setIfInBounds_toArray, List.set_cons_zero, List.set_cons_succ]
          refine wpAnyH_take (i := 1) (oi := ⟨_, _, _, _, _, _⟩) (v := ?_) rfl (by kernel_rfl) (by kernel_rfl) (by kernel_rfl) (fun _ _ _ h => h) (Or.inl ⟨by rfl, ?_⟩) (by assumption) ?_
          rotate_left
          · intro w hSw; (try dsimp only at hSw); go_simp; (try with_reducible rfl)
          try simp only [Act.put, List.setIfInBounds_toArray, List.set_cons_zero, List.set_cons_succ]
          refine wpAnyH_take (i := 2) (oi := ⟨_, _, _, _, _, _⟩) (v := ?_) rfl (by kernel_rfl) (by kernel_rfl) (by kernel_rfl) (fun _ _ _ h => h) (Or.inl ⟨by rfl, ?_⟩) (by assumption) ?_
          rotate_left
          · intro w hSw; (try dsimp only at hSw); go_simp; (try with_reducible rfl)
          try simp only [Act.put, List.setIfInBounds_toArray, List.set_cons_zero, List.set_cons_succ]
          refine wpAnyH_take (i := 3) (oi := ⟨_, _, _, _, _, _⟩) (v := ?_) rfl (by kernel_rfl) (by kernel_rfl) (by kernel_rfl) (fun _ _ _ h => h) (Or.inl ⟨by rfl, ?_⟩) (by assumption) ?_
          rotate_left
          · intro w hSw; (try dsimp only at hSw); go_simp; (try with_reducible rfl)
          try simp only [Act.put, List.setIfInBounds_toArray, List.set_cons_zero, List.set_cons_succ]
          refine wpAnyH_take (i := 4) (oi := ⟨_, _, _, _, _, _⟩) (v := ?_) rfl (by kernel_rfl) (by kernel_rfl) (by kernel_rfl) (fun _ _ _ h => h) (Or.inl ⟨by rfl, ?_⟩) (by assumption) ?_
          rotate_left
          · intro w hSw; (try dsimp only at hSw); go_simp; (try with_reducible rfl)
          try simp only [Act.put, List.setIfInBounds_toArray, List.set_cons_zero, List.set_cons_succ]
          refine wpAnyH_ready (rs := [5]) (by kernel_rfl) (by simp) ?_
          refine AllReadyH.cons rfl (fun K hK => ?_) AllReadyH.nil
          go_simp
          go_wp2_with (go_at_call 19; refine (HDA.out _).mono ?_; rintro e w1 ⟨rfl, d8, rfl⟩)
          refine hK.out _ _ ?_ (fun hHeld => ?_)
          · (try dsimp only); (refine ⟨?_, ?_, ?_, ?_, ?_, ?_, ?_, ?_, ?_, ?_, ?_, ?_, ?_, ?_⟩ <;> (with_reducible (repeat (first | assumption | refine cell_ext ?_ _ | refine cell_drew ?_ | refine cell_alloc ?_ _))))
          clear hK K
          try simp only [Act.put, List.setIfInBounds_toArray, List.set_cons_zero, List.set_cons_succ]
          refine wpAnyH_take (i := 6) (oi := ⟨_, _, _, _, _, _⟩) (v := ?_) rfl (by kernel_rfl) (by kernel_rfl) (by kernel_rfl) (fun _ _ _ h => h) (Or.inl ⟨by rfl, ?_⟩) (by assumption) ?_
          rotate_left
          · intro w hSw; (try dsimp only at hSw); go_simp; (try with_reducible rfl)
          try simp only [Act.put, List.setIfInBounds_toArray, List.set_cons_zero, List.set_cons_succ]
          refine wpAnyH_take (i := 7) (oi := ⟨_, _, _, _, _, _⟩) (v := ?_) rfl (by kernel_rfl) (by kernel_rfl) (by kernel_rfl) (fun _ _ _ h => h) (Or.inl ⟨by rfl, ?_⟩) (by assumption) ?_
          rotate_left
          · intro w hSw; (try dsimp only at hSw); go_simp; (try with_reducible rfl)
          try simp only [Act.put, List.setIfInBounds_toArray, List.set_cons_zero, List.set_cons_succ]
          refine wpAnyH_take (i := 8) (oi := ⟨_, _, _, _, _, _⟩) (v := ?_) rfl (by kernel_rfl) (by kernel_rfl) (by kernel_rfl) (fun _ _ _ h => h) (Or.inl ⟨by rfl, ?_⟩) (by assumption) ?_
          rotate_left
          · intro w hSw; (try dsimp only at hSw); go_simp; (try with_reducible rfl)
          try simp only [Act.put, List.setIfInBounds_toArray, List.set_cons_zero, List.set_cons_succ]
          refine wpAnyH_take (i := 9) (oi := ⟨_, _, _, _, _, _⟩) (v := ?_) rfl (by kernel_rfl) (by kernel_rfl) (by kernel_rfl) (fun _ _ _ h => h) (Or.inl ⟨by rfl, ?_⟩) (by assumption) ?_
          rotate_left
          · intro w hSw; (try dsimp only at hSw); go_simp; (try with_reducible rfl)
          try simp only [Act.put, List.setIfInBounds_toArray, List.set_cons_zero, List.set_cons_succ]
          refine wpAnyH_take (i := 10) (oi := ⟨_, _, _, _, _, _⟩) (v := ?_) rfl (by kernel_rfl) (by kernel_rfl) (by kernel_rfl) (fun _ _ _ h => h) (Or.inl ⟨by rfl, ?_⟩) (by assumption) ?_
          rotate_left
          · intro w hSw; (try dsimp only at hSw); go_simp; (try with_reducible rfl)
          try simp only [Act.put, List.setIfInBounds_toArray, List.set_cons_zero, List.set_cons_succ]
          refine wpAnyH_done (by kernel_rfl) ?_ _
          go_upto_region 35 with fail
          cases am with
          | false =>
            refine wp_region_gain (by kernel_rfl) (by kernel_rfl) ?_
            repeat (first | go_big_quiet_skip | (go_big_quiet_want; go_big_quiet_op; first | go_big_quiet_on | ((apply Exists.intro); (refine ⟨fun _ => ?_, ?_⟩); (· (go_at_call 18; exact Calls.gain (HIDX.out _ (by with_reducible (repeat (first | exact OI.out | refine World.sl_ext intC_length ?_ _ | refine sl_alloc intC_length ?_ _ | refine sl_drew ?_)))))); (go_big_quiet_on))))
            refine wpQuiet_nil ?_
            rintro _ ⟨d', rfl⟩
            go_wp2_with fail
            go_roundw
            case rel => exact ⟨k + 1, by omega, by go_num, (by repeat (first | with_reducible (first | exact World.gained_refl _ | exact ⟨_, rfl⟩ | apply gain_ext | apply gain_alloc | apply gain_drewN | apply gain_drew) | (refine gain_setCell ?_ (by first | exact Nat.le_refl _ | exact World.size_ext _ _ | (simp; done) | (simp; omega)) _)))⟩
            case measure => simp [intOf]; omega
          | true =>
            have hp := HP1.out rfl
            have hwd : decide (y.high - y.low < wd) = false := decide_eq_false (by omega)
            clear hp
            refine wp_region_gain (by kernel_rfl) (by kernel_rfl) ?_
            repeat (first | go_big_quiet_skip | (go_big_quiet_want; go_big_quiet_op; first | go_big_quiet_on | ((apply Exists.intro); (refine ⟨fun _ => ?_, ?_⟩); (· (go_at_call 18; exact Calls.gain (HIDX.out _ (by with_reducible (repeat (first | exact OI.out | refine World.sl_ext intC_length ?_ _ | refine sl_alloc intC_length ?_ _ | refine sl_drew ?_)))))); (go_big_quiet_on))))
            refine wpQuiet_nil ?_
            rintro _ ⟨d', rfl⟩
            go_wp2_with fail
            go_roundw
            case rel => exact ⟨k + 1, by omega, by go_num, (by repeat (first | with_reducible (first | exact World.gained_refl _ | exact ⟨_, rfl⟩ | apply gain_ext | apply gain_alloc | apply gain_drewN | apply gain_drew) | (refine gain_setCell ?_ (by first | exact Nat.le_refl _ | exact World.size_ext _ _ | (simp; done) | (simp; omega)) _)))⟩
            case measure => simp [intOf]; omega
      · have hkd : decide ((k : Int) < (l.length : Int)) = false := decide_eq_false (by omega)
        go_wp2_with fail
        go_meet
        exact (by repeat (first | with_reducible (first | exact World.gained_refl _ | exact ⟨_, rfl⟩ | apply gain_ext | apply gain_alloc | apply gain_drewN | apply gain_drew) | (refine gain_setCell ?_ (by first | exact Nat.le_refl _ | exact World.size_ext _ _ | (simp; done) | (simp; omega)) _)))
  obtain ⟨dH, rfl⟩ := hcut
  clear HLAW HNO HP OI HIL HSM HL0 HBX bx0 bx1 bx2 bx3 bx4 bx5 obx hy1 hy2 hl20 hll
  go_wp2_with fail
  refine (drawDoesAdmit_any _ L _ (by with_reducible (repeat (first | exact hs.out | refine World.sl_ext byteC_length ?_ _ | refine sl_alloc byteC_length ?_ _ | refine sl_drew ?_))) HQ.out hl).mono ?_
  rintro e w1 ⟨y, z, rfl, hz1, hz2, hz3, d1, rfl⟩
  have HDA := Lib.hid (fun W => doesAdmit_any y z W hz1 hz2 hz3)
  have HSDA := Lib.hid (fun W => specDoesAdmit_any y z W hz1 hz2 hz3)
  generalize (doesB y z && admitB y z) = A1 at HDA HSDA
  generalize doesB y z = A2 at HDA HSDA
  have ha1 : (A1 == A1) = true := by simp
  have ha2 : (A2 == A2) = true := by simp
  go_wp2_with (first | (go_at_call 19; refine (HDA.out _).mono ?_; rintro e w1 ⟨rfl, d2, rfl⟩) | (go_at_call 21; refine (HSDA.out _).mono ?_; rintro e w1 ⟨rfl, d3, rfl⟩))
  go_ret
  exact ⟨rfl, (by repeat (first | with_reducible (first | exact World.gained_refl _ | exact ⟨_, rfl⟩ | apply gain_ext | apply gain_alloc | apply gain_drewN | apply gain_drew) | (refine gain_setCell ?_ (by first | exact Nat.le_refl _ | exact World.size_ext _ _ | (simp; done) | (simp; omega)) _)))⟩
theorem env_of_laid {W : World} (h : laidMetH Tryz.prog Rows.fnClassesRow.laid W) (hsh : W.ShapedOpen Tryz.prog) : Env W := by
  rw [MakeChecks.laidMetH_plain _ _ _ (by kernel_rfl)] at h
  obtain ⟨ps, ⟨g0, t0, cs0, f0, p0, q0, hg0, ht0, hv0, hd0, ⟨g1, t1, cs1, f1, p1, q1, hg1, ht1, hv1, hd1, ⟨g2, t2, cs2, f2, p2, q2, hg2, ht2, hv2, hd2, ⟨g3, t3, cs3, f3, p3, q3, hg3, ht3, hv3, hd3, ⟨g4, t4, cs4, f4, p4, q4, hg4, ht4, hv4, hd4, ⟨g5, t5, cs5, f5, p5, q5, hg5, ht5, hv5, hd5, _, _⟩, _⟩, _⟩, _⟩, _⟩, _⟩, _, _⟩ := h
  obtain rfl := Option.some.inj ((show Tryz.prog.globalNamed "internal/strconv.uint64pow10" = some 1 by kernel_rfl).symm.trans hg2)
  obtain rfl := Option.some.inj ((show (Tryz.prog.globals[1]?).map (·.type) = some 117 by kernel_rfl).symm.trans ht2)
  obtain rfl := Option.some.inj ((show Tryz.prog.globalNamed "strconv.ErrSyntax" = some 4 by kernel_rfl).symm.trans hg5)
  obtain rfl := Option.some.inj ((show (Tryz.prog.globals[4]?).map (·.type) = some 90 by kernel_rfl).symm.trans ht5)
  refine ⟨?_, ?_, maxl_of_shape hsh⟩
  · unfold Tab Lib.TabIs
    rw [hv2, ← Lib.cells_of_tab (k := .u64) (zs := Lib.pow10Tab) Tryz.underlying117 Tryz.underlying60 (by kernel_rfl) (by kernel_rfl) hd2]
  · obtain ⟨fu, u, v, hcs, _, _⟩ := iface_of_trod Tryz.underlying90 hd5
    have hc := World.var?_cell hg5 hv5 0
    refine ⟨.iface u v, ?_, .inr ⟨u, v, rfl⟩⟩
    have e : cs5 = #[.iface u v] := by cases cs5; simp_all
    rw [e] at hc
    simpa using hc
set_option maxRecDepth 100000 in
theorem fnClasses_lifted (os : Os) (started : os.Started) (H : Type) (enc : TypeId × Value → H) :
    ReturnsInHanded {} Tryz.checked os 3 .any (fun w args => (Rows.fnClassesSpec.pre enc Tryz.prog Tryz.f3 Rows.fnClassesRow.domain false w args ∧ laidMetH Tryz.prog Rows.fnClassesRow.laid w) ∧ sizedMet enc Tryz.prog Tryz.f3 (OpenSpec.ofChange Rows.fnClassesSpec) false w args)
      (Rows.fnClassesSpec.post enc Tryz.prog Tryz.f3 false true false false) := by
  refine returnsInHanded_of_change_and_shaped (C := Tryz.checked) (X := fun w _ => laidMetH Tryz.prog Rows.fnClassesRow.laid w) (fun _ _ _ hh h => h.of_heap hh) no_knob started (by kernel_rfl) Tryz.func3
    (ChangeSpec.witness_shaped (enc := enc) (C := Tryz.checked) (os := os) (X := fun w _ => laidMetH Tryz.prog Rows.fnClassesRow.laid w) false (World.laidAll Tryz.prog os Rows.fnClassesRow.laid) #[.slice none 0 0] 8 (World.laidAll_os _ _ _)
      (World.shaped_of_ZipB (by kernel_rfl) (by kernel_rfl)) (by kernel_rfl) (by kernel_rfl) (by kernel_rfl)
      (by rw [MakeChecks.laidMetH_plain _ _ _ (by kernel_rfl)]; exact laidMet_laidAll _ (by kernel_rfl) (by kernel_rfl))) ?_
  intro W base args ds gs before hval0 hW hL hsh
  have hval : ∀ (j : Nat) t v, Tryz.f3.params[j]? = some t → args[j]? = some v → Value.okWide Tryz.prog W .any base t v := hval0
  clear hval0
  have laidOut : laidOutB Tryz.prog = true := by as_aux_lemma => kernel_rfl
  have he := env_of_laid hL hsh
  have hWc := hW
  obtain ⟨p, q, hA0, hV, rfl, _, _⟩ := hWc
  have hA : DataW.TrodAll enc Tryz.prog W 0 (fun _ => true) true Tryz.f3.params.toList args.toList ds p := hA0
  clear hA0
  rw [Tryz.params3] at hA hval
  obtain ⟨v0, vs0, d0, ds0, p0, q0, hargs, rfl, rfl, h0, r0⟩ := trodAll_cons hA
  obtain ⟨rfl, rfl, rfl⟩ := trodAll_nil r0
  obtain rfl : args = #[v0] := by cases args; simp_all
  obtain ⟨rfl, rfl⟩ := trodVars_none hV
  obtain ⟨L, hs, hq, hn⟩ := read_Bytes (hval 0 22 v0 rfl rfl) h0
  refine (fnClasses_walk v0 L W he hs hq hn).mono fun e W1 ⟨he, hg⟩ => ?_
  subst he
  exact ⟨_, rfl, law_post (tb := 4) laidOut (by kernel_rfl) hW rfl rfl (by kernel_rfl) Tryz.underlying4 hg⟩
theorem fnClasses_holds : Rows.FnClassesSaid :=
  OpenClaim.holds_of_wide 3 Tryz.f3 rfl rfl rfl rfl rfl rfl rfl ⟨rfl, rfl, rfl, rfl, rfl⟩ rfl rfl rfl rfl rfl (by kernel_rfl) Tryz.func3 (by kernel_rfl)
    (of_decide_eq_true (by kernel_rfl)) (by unfold Func.isWrapper; first | (rw [if_pos (by decide +kernel)]; kernel_rfl) | (rw [if_neg (by decide +kernel)]; exact ⟨rfl, rfl⟩))
    (fun os started H enc _ => fnClasses_lifted os started H enc)
#print axioms fnClasses_holds
/-- The tied card. -/
theorem fnClasses_card : Rows.FnClassesCardSaid :=
  Claim7.holds_tied_plain_at .later [] [.data, .data, .data, .data, .sentinel, .sentinel, .pinned] true (true, "207341e2cc96b36ab761b6d42dbb5076dbd83bd58ff2d0a92e57eac6093c230b") true
    fnClasses_holds (fun _ h => by cases h) (by kernel_rfl) (fun _ h => by cases h) fnClasses_row_tie rfl ⟨rfl, rfl⟩ (by kernel_rfl) rfl
    (fun f fn hf hfn => by
      obtain rfl : f = 3 := Option.some.inj ((show Tryz.prog.funcNamed "loop.example/g00938/laws.FnClasses" = some 3 by kernel_rfl).symm.trans hf) |>.symm
      obtain rfl : fn = Tryz.f3 := (Option.some.inj (Tryz.func3.symm.trans hfn)).symm
      exact ⟨by kernel_rfl, fun j t ht => by
        rw [Tryz.params3] at ht
        have hm : t ∈ [(22 : TypeId)] := by simpa using Array.mem_of_getElem? ht
        have hall : ([(22 : TypeId)].all fun u => !Tryz.prog.wantsStandIn u) = true := by kernel_rfl
        exact (show Tryz.prog.wantsStandIn t = false by simpa using List.all_eq_true.1 hall t hm)⟩)
    (by kernel_rfl)
#print axioms fnClasses_card
end Go.Proofs.YtffkkchflohhaaaGreatDoor
