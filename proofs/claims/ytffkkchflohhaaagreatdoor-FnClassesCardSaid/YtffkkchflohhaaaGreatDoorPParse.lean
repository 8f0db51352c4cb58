/- The text of a class, cut into its words and read again: plain law. No condition. -/
import Derived.Test.YtffkkchflohhaaaGreatDoorTextI
import Derived.Lib.SplitLaws
import Derived.Lib.Atoi
namespace Go.Ori
abbrev toL (s : ByteArray) : List UInt8 := s.data.toList
theorem toL_inj {a b : ByteArray} (h : toL a = toL b) : a = b := by
  apply ByteArray.ext
  exact Array.toList_inj.1 h
theorem str_eq (a b : ByteArray) : (a.toList == b.toList) = decide (a = b) := by
  rw [Lib.toList_data, Lib.toList_data, Bool.eq_iff_iff, beq_iff_eq, decide_eq_true_eq]
  exact ⟨fun h => toL_inj h, fun h => by rw [h]⟩
theorem toL_append (a b : ByteArray) : toL (a ++ b) = toL a ++ toL b := by simp [toL, ByteArray.data_append]
theorem map_toL {l m : List ByteArray} (h : l.map toL = m.map toL) : l = m := by
  induction l generalizing m with
  | nil => cases m with
    | nil => rfl
    | cons _ _ => simp at h
  | cons a l ih => cases m with
    | nil => simp at h
    | cons b m =>
      simp only [List.map_cons, List.cons.injEq] at h
      rw [toL_inj h.1, ih h.2]
/-- A text's parts between bytes. -/
def splitU (c : UInt8) : List UInt8 → List (List UInt8)
  | [] => [[]]
  | b :: l => if b = c then [] :: splitU c l else match splitU c l with
    | w :: ws => (b :: w) :: ws
    | [] => [[b]]
theorem splitU_one {c : UInt8} : ∀ {a : List UInt8}, c ∉ a → splitU c a = [a]
  | [], _ => rfl
  | b :: l, h => by
    have h1 : ¬ b = c := fun e => h (by rw [e]; exact List.mem_cons_self)
    rw [splitU, if_neg h1, splitU_one (fun e => h (List.mem_cons_of_mem _ e))]
theorem splitU_cut {c : UInt8} : ∀ {a r : List UInt8}, c ∉ a → splitU c (a ++ c :: r) = a :: splitU c r
  | [], r, _ => by rw [List.nil_append, splitU, if_pos rfl]
  | b :: l, r, h => by
    have h1 : ¬ b = c := fun e => h (by rw [e]; exact List.mem_cons_self)
    rw [List.cons_append, splitU, if_neg h1, splitU_cut (fun e => h (List.mem_cons_of_mem _ e))]
theorem index_cut {c : UInt8} {a r : List UInt8} (h : c ∉ a) : Lib.index (a ++ c :: r) [c] = a.length := by
  refine Lib.index_first (by simp) ?_ (fun j hj => ?_)
  · simp [Lib.occAt, List.isPrefixOf]
  · have e : (a ++ c :: r).drop j = a[j] :: (a ++ c :: r).drop (j + 1) := by
      rw [List.drop_eq_getElem_cons (by simp; omega), List.getElem_append_left hj]
    rw [Lib.occAt, e]
    have hne : c ≠ a[j] := fun q => h (by rw [q]; exact List.getElem_mem hj)
    simp [List.isPrefixOf, hne]
theorem split_is (c : UInt8) : ∀ (k : Nat) (s : List UInt8), s.count c = k → Lib.splitK [c] 0 k s = splitU c s
  | 0, s, h => by
    have hn : c ∉ s := List.count_eq_zero.1 h
    rw [Lib.splitK, splitU_one hn]
  | k + 1, s, h => by
    have hm : c ∈ s := List.count_pos_iff.1 (by omega)
    obtain ⟨a, r, rfl, hn⟩ := List.eq_append_cons_of_mem hm
    have h0 : a.count c = 0 := List.count_eq_zero.2 hn
    have hr : r.count c = k := by
      rw [List.count_append, List.count_cons_self, h0] at h
      omega
    have hi := index_cut (r := r) hn
    rw [Lib.splitK, hi, splitU_cut hn, if_neg (by rw [beq_iff_eq]; omega)]
    rw [show ((a.length : Int)).toNat = a.length from rfl, Nat.add_zero, List.take_left' rfl]
    rw [show (a ++ c :: r).drop (a.length + [c].length) = r by simp]
    rw [split_is c k r hr]
theorem splitB_is (s : ByteArray) (c : UInt8) : (Lib.splitB ⟨#[c]⟩ 0 (Lib.countB s ⟨#[c]⟩) s).map toL = splitU c (toL s) := by
  have h := Lib.splitB_data ⟨#[c]⟩ 0 (Lib.countB s ⟨#[c]⟩) s
  rw [show Lib.countB s ⟨#[c]⟩ = s.data.toList.count c from Lib.count_one c _] at h ⊢
  exact h.trans (split_is c _ _ rfl)
/-! Numbers. -/
theorem u8_nat {n : Nat} (h : n < 256) : (UInt8.ofNat n).toNat = n := by
  rw [UInt8.toNat_ofNat']
  exact Nat.mod_eq_of_lt h
theorem digs_ok : ∀ (n : Nat), ∀ b ∈ Lib.decDigits n, 48 ≤ b.toNat ∧ b.toNat ≤ 57 := by
  intro n
  induction n using Nat.strongRecOn with
  | ind n ih =>
    intro b hb
    by_cases h : n < 10
    · rw [Lib.decDigits_one h, List.mem_singleton] at hb
      subst hb
      rw [u8_nat (by omega)]
      omega
    · rw [digits_big (by omega), List.mem_append, List.mem_singleton] at hb
      rcases hb with hb | hb
      · exact ih (n / 10) (by omega) b hb
      · subst hb
        rw [u8_nat (by omega)]
        omega
theorem digs_no {n : Nat} {c : UInt8} (h : c.toNat < 48) : c ∉ Lib.decDigits n := fun e => by
  have := digs_ok n c e
  omega
theorem digs_ne (n : Nat) : Lib.decDigits n ≠ [] := by
  by_cases h : n < 10
  · rw [Lib.decDigits_one h]; simp
  · rw [digits_big (by omega)]; simp
theorem decFrom_append (b : UInt8) : ∀ (l : List UInt8) (acc : Nat), Lib.decFrom acc (l ++ [b]) = (Lib.decFrom acc l).bind fun m => (Lib.digitVal b).map fun d => m * 10 + d
  | [], acc => by
    rw [List.nil_append]
    simp only [Lib.decFrom, Option.bind_some]
    cases Lib.digitVal b <;> rfl
  | a :: l, acc => by
    rw [List.cons_append]
    simp only [Lib.decFrom]
    cases Lib.digitVal a with
    | none => rfl
    | some d => exact decFrom_append b l _
theorem decFrom_digs : ∀ (n : Nat), Lib.decFrom 0 (Lib.decDigits n) = some n := by
  intro n
  induction n using Nat.strongRecOn with
  | ind n ih =>
    by_cases h : n < 10
    · rw [Lib.decDigits_one h]
      simp only [Lib.decFrom, Lib.digitVal, u8_nat (show 48 + n < 256 by omega)]
      rw [if_pos (by omega)]
      simp
    · rw [digits_big (by omega), decFrom_append, ih (n / 10) (by omega)]
      simp only [Option.bind_some, Lib.digitVal, u8_nat (show 48 + n % 10 < 256 by omega)]
      rw [if_pos (by omega)]
      simp only [Option.map_some, Option.some.injEq]
      omega
theorem atoi_digs (n : Nat) : Lib.atoi (Lib.decDigits n) = some (n : Int) := by
  have h1 := decFrom_digs n
  have h2 := digs_ok n
  have h3 := digs_ne n
  generalize Lib.decDigits n = l at h1 h2 h3
  cases l with
  | nil => exact absurd rfl h3
  | cons b r =>
    have hb := h2 b List.mem_cons_self
    have n1 : ¬ (b == 45) = true := fun e => by rw [beq_iff_eq] at e; subst e; revert hb; decide
    have n2 : ¬ (b == 43) = true := fun e => by rw [beq_iff_eq] at e; subst e; revert hb; decide
    rw [Lib.atoi, if_neg n1, if_neg n2, Lib.decNat, if_neg (by simp), h1]
    rfl
theorem dec_inj {a b : Nat} (h : decB a = decB b) : a = b := by
  have e : Lib.decDigits a = Lib.decDigits b := by
    have := congrArg toL h
    simpa [toL, decB] using this
  have h1 := decFrom_digs a
  rw [e, decFrom_digs b] at h1
  exact (Option.some.inj h1).symm
theorem toL_dec (n : Nat) : toL (decB n) = Lib.decDigits n := by simp [toL, decB]
/-! The words of a class. -/
def wordsC (c : Cls) : List ByteArray :=
  [decB c.id.toNat, c.name, decB c.low.toNat ++ ⟨#[45]⟩ ++ decB c.high.toNat, sexTx c.women c.men, ⟨#[99, 111, 117, 114, 115, 101]⟩, decB c.course.toNat, ⟨#[109, 111, 115, 116]⟩, decB c.most.toNat]
theorem wordB_no {s : ByteArray} (h : wordB s = true) {c : UInt8} (hc : c.toNat < 97) : c ∉ toL s := fun e => by
  obtain ⟨i, hi, rfl⟩ := List.getElem_of_mem e
  simp only [wordB, Bool.and_eq_true, allB_iff] at h
  have hs : i < s.size := by simpa [toL] using hi
  have := h.1 i hs
  rw [lowAt_eq hs] at this
  simp only [Bool.and_eq_true, decide_eq_true_eq] at this
  have e2 : (toL s)[i] = s[i] := by simp [toL]; rfl
  rw [e2] at hc
  omega
theorem toL_mk (l : List UInt8) : toL ⟨l.toArray⟩ = l := by simp [toL]
theorem cls_split {c : Cls} (h : classB c = true) : splitU 32 (toL (clsT c)) = (wordsC c).map toL := by
  have hw : wordB c.name = true := by
    simp only [classB, Bool.and_eq_true] at h
    exact h.1.1.1.1.2
  have d32 := fun n => digs_no (n := n) (c := 32) (by decide)
  have n1 : (32 : UInt8) ∉ toL (decB c.id.toNat) := by rw [toL_dec]; exact d32 _
  have n2 : (32 : UInt8) ∉ toL c.name := wordB_no hw (by decide)
  have n3 : (32 : UInt8) ∉ toL (decB c.low.toNat ++ ⟨#[45]⟩ ++ decB c.high.toNat) := by
    rw [toL_append, toL_append, toL_dec, toL_dec]
    simp only [List.mem_append]
    rintro ((e | e) | e)
    · exact d32 _ e
    · revert e; decide
    · exact d32 _ e
  have n4 : (32 : UInt8) ∉ toL (sexTx c.women c.men) := by cases c.women <;> cases c.men <;> decide
  have n5 : (32 : UInt8) ∉ toL ⟨#[99, 111, 117, 114, 115, 101]⟩ := by decide
  have n6 : (32 : UInt8) ∉ toL (decB c.course.toNat) := by rw [toL_dec]; exact d32 _
  have n7 : (32 : UInt8) ∉ toL ⟨#[109, 111, 115, 116]⟩ := by decide
  have n8 : (32 : UInt8) ∉ toL (decB c.most.toNat) := by rw [toL_dec]; exact d32 _
  have e : toL (clsT c) = toL (decB c.id.toNat) ++ 32 :: (toL c.name ++ 32 :: (toL (decB c.low.toNat ++ ⟨#[45]⟩ ++ decB c.high.toNat) ++ 32 :: (toL (sexTx c.women c.men) ++ 32 :: (toL ⟨#[99, 111, 117, 114, 115, 101]⟩ ++ 32 :: (toL (decB c.course.toNat) ++ 32 :: (toL ⟨#[109, 111, 115, 116]⟩ ++ 32 :: toL (decB c.most.toNat))))))) := by
    rw [clsT, sufT, preT, ← txt_same]
    simp only [toL_append]
    simp [toL]
  rw [e, splitU_cut n1, splitU_cut n2, splitU_cut n3, splitU_cut n4, splitU_cut n5, splitU_cut n6, splitU_cut n7, splitU_one n8]
  rfl
/-- Words that are a class's text's are the class's words. -/
theorem cls_words {c : Cls} (h : classB c = true) {s : ByteArray} (hs : clsT c = s) {ws : List ByteArray} (hw : ws.map toL = splitU 32 (toL s)) : ws = wordsC c := by
  rw [← hs, cls_split h] at hw
  exact map_toL hw
theorem ages_cut (lo hi : Nat) : Lib.cut (toL (decB lo ++ ⟨#[45]⟩ ++ decB hi)) [45] = (Lib.decDigits lo, Lib.decDigits hi, true) := by
  have e : toL (decB lo ++ ⟨#[45]⟩ ++ decB hi) = Lib.decDigits lo ++ 45 :: Lib.decDigits hi := by
    rw [toL_append, toL_append, toL_dec, toL_dec]
    simp [toL]
  rw [e, Lib.cut, index_cut (digs_no (by decide)), if_pos (by omega)]
  simp
theorem ages_split (lo hi : Nat) : splitU 45 (toL (decB lo ++ ⟨#[45]⟩ ++ decB hi)) = [toL (decB lo), toL (decB hi)] := by
  have e : toL (decB lo ++ ⟨#[45]⟩ ++ decB hi) = Lib.decDigits lo ++ 45 :: Lib.decDigits hi := by
    rw [toL_append, toL_append, toL_dec, toL_dec]
    simp [toL]
  rw [e, splitU_cut (digs_no (by decide)), splitU_one (digs_no (by decide)), toL_dec, toL_dec]
/-- A class is what its text says. -/
theorem cls_inj {c c' : Cls} (h : classB c = true) (h' : classB c' = true) (e : clsT c = clsT c') : c = c' := by
  have hw : wordsC c = wordsC c' := by
    have h1 := cls_split h
    rw [e, cls_split h'] at h1
    exact (map_toL h1).symm
  obtain ⟨i, lo, hi, co, mo, a1, a2, a3, a4, a5, _, _, _, _, _, a6⟩ := cls_nats h
  obtain ⟨i', lo', hi', co', mo', b1, b2, b3, b4, b5, _, _, _, _, _, b6⟩ := cls_nats h'
  simp only [wordsC, List.cons.injEq, and_true, true_and, a1, a2, a3, a4, a5, b1, b2, b3, b4, b5, Int.toNat_natCast] at hw
  obtain ⟨w0, w1, w2, w3, w5, w7⟩ := hw
  have c0 := dec_inj w0
  have c5 := dec_inj w5
  have c7 := dec_inj w7
  have hc := ages_cut lo hi
  rw [w2, ages_cut lo' hi'] at hc
  simp only [Prod.mk.injEq, and_true] at hc
  have c2 : lo' = lo := by
    have := decFrom_digs lo'
    rw [hc.1, decFrom_digs lo] at this
    exact (Option.some.inj this).symm
  have c3 : hi' = hi := by
    have := decFrom_digs hi'
    rw [hc.2, decFrom_digs hi] at this
    exact (Option.some.inj this).symm
  have hsx : c.women = c'.women ∧ c.men = c'.men := by
    revert w3 a6 b6
    cases c.women <;> cases c.men <;> cases c'.women <;> cases c'.men <;> decide
  obtain ⟨id, name, low, high, women, men, course, most⟩ := c
  obtain ⟨id', name', low', high', women', men', course', most'⟩ := c'
  simp only at a1 a2 a3 a4 a5 b1 b2 b3 b4 b5 w1 hsx
  simp only [Cls.mk.injEq]
  exact ⟨by omega, w1, by omega, by omega, hsx.1, hsx.2, by omega, by omega⟩
theorem sex_has (wo me : Bool) (h : (wo || me) = true) : decide (0 ≤ Lib.indexByte (toL (sexTx wo me)) 119) = wo ∧ decide (0 ≤ Lib.indexByte (toL (sexTx wo me)) 109) = me := by
  revert h
  cases wo <;> cases me <;> decide
end Go.Ori
