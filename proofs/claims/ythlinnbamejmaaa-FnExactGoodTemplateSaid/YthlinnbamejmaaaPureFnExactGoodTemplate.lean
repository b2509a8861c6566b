/- Proved: for every text, the program's GoodTemplate answers what the reference's answers. Conditions: none beyond the law's own guard. -/
import Derived.Test.YthlinnbamejmaaaPFnExactGoodTemplatex3
import Derived.Lib.Strings
import Derived.WideShapes
namespace Go.Proofs.Ythlinnbamejmaaa.Pure
open Go.RowKit Go.Proofs.Ythlinnbamejmaaa.PFnExactGoodTemplate Go.Proofs.YthlinnbamejmaaaW.PrintWords Go.Proofs.YthlinnbamejmaaaW.PrintLast

/-! ### bytes -/
theorem wrap_in {n : Int} (h : -9223372036854775808 ≤ n) (h' : n < 9223372036854775808) : wrap64 n = n := by unfold wrap64; omega

theorem Ev.succ {α : Type} {g : Nat → Option α} {r : α} (h : Ev (fun k => g (k + 1)) r) : Ev g r := Ev.step (fun _ => rfl) h

theorem bt_nat (s : ByteArray) (i : Nat) : bt s (i : Int) = ((s.data.toList.getD i 0).toNat : Int) := by
  obtain ⟨⟨l⟩⟩ := s
  unfold bt
  by_cases h : i < l.length
  · have h' : (i : Int).toNat < (ByteArray.mk ⟨l⟩).size := by simpa [ByteArray.size] using h
    rw [dif_pos h']
    show ((l[i]'h).toNat : Int) = _
    simp [h]
  · have h' : ¬ (i : Int).toNat < (ByteArray.mk ⟨l⟩).size := by simpa [ByteArray.size] using h
    rw [dif_neg h']
    simp [List.getD_eq_getElem?_getD, List.getElem?_eq_none (Nat.le_of_not_lt h)]

theorem size_ex (s : ByteArray) (a b : Nat) (h : b ≤ s.size) : (s.extract a b).size = b - a := by
  rw [ByteArray.size_extract]; omega

theorem bt_ex (s : ByteArray) (a b i : Nat) (h : a + i < b) : bt (s.extract a b) (i : Int) = bt s ((a + i : Nat) : Int) := by
  rw [bt_nat, bt_nat, Lib.extract_data]
  simp only [List.getD_eq_getElem?_getD, List.getElem?_take, List.getElem?_drop]
  rw [if_pos (by omega)]

theorem ex_ex (s : ByteArray) (a b c d : Nat) (h : a + d ≤ b) : (s.extract a b).extract c d = s.extract (a + c) (a + d) := by
  apply Go.WideShapes.bytes_inj
  simp only [Lib.extract_data, List.drop_take, List.drop_drop, List.take_take]
  congr 1
  omega

/-! ### letters, digits, words -/
def wB (c : Int) : Bool := decide ((97 ≤ c ∧ c ≤ 122) ∨ (65 ≤ c ∧ c ≤ 90) ∨ (48 ≤ c ∧ c ≤ 57) ∨ c = 95)
def dB (c : Int) : Bool := decide (48 ≤ c ∧ c ≤ 57)

theorem spec_letter (c : Int) : spec_l2Letter.f c = some (decide ((97 ≤ c ∧ c ≤ 122) ∨ (65 ≤ c ∧ c ≤ 90))) := by
  unfold spec_l2Letter.f; repeat' split
  all_goals (congr 1; rw [Bool.eq_iff_iff]; simp; try omega)
theorem spec_digit (c : Int) : spec_l2Digit.f c = some (dB c) := by
  unfold spec_l2Digit.f dB; split
  all_goals (congr 1; simp; omega)
theorem impl_digit (c : Int) : impl_digitByte.f c = some (dB c) := spec_digit c
theorem impl_word (c : Int) : impl_wordByte.f c = some (wB c) := by
  have h : impl_letterByte.f c = some (decide ((97 ≤ c ∧ c ≤ 122) ∨ (65 ≤ c ∧ c ≤ 90))) := spec_letter c
  unfold impl_wordByte.f
  rw [h, impl_digit]
  simp only [Option.bind_some, decide_eq_true_eq, dB]
  unfold wB
  split
  · congr 1; simp; omega
  · split
    · congr 1; simp; omega
    · congr 1; rw [Bool.eq_iff_iff]; simp; omega

theorem spec_word {α : Type} (c : Int) (A B : Option α) : ((spec_l2Letter.f c).bind fun t => (if t = true then A else ((spec_l2Digit.f c).bind fun u => (if u = true then A else (if c = 95 then A else B))))) = if wB c = true then A else B := by
  rw [spec_letter, spec_digit]
  simp only [Option.bind_some, decide_eq_true_eq, dB]
  unfold wB
  by_cases h1 : (97 ≤ c ∧ c ≤ 122) ∨ (65 ≤ c ∧ c ≤ 90)
  · rw [if_pos h1, if_pos (by simp; omega)]
  · rw [if_neg h1]
    by_cases h2 : 48 ≤ c ∧ c ≤ 57
    · rw [if_pos h2, if_pos (by simp; omega)]
    · rw [if_neg h2]
      by_cases h3 : c = 95
      · rw [if_pos h3, if_pos (by simp; omega)]
      · rw [if_neg h3, if_neg (by simp; omega)]

/-! ### printed texts -/
theorem printed_loop (s : ByteArray) (hs : s.size ≤ 140737488351232) (d : Nat) : ∀ i : Nat, s.size - i ≤ d →
    ∃ b, Ev (fun k => spec_l2Printed.l0 k s (i : Int)) b ∧ Ev (fun k => impl_printed.l0 k s (s.size : Int) (i : Int)) b := by
  induction d with
  | zero =>
    intro i hi
    exact ⟨true, Ev.step (f := fun _ => some true) (fun k => by simp only [spec_l2Printed.l0]; rw [if_neg (by omega)]) (Ev.now _), Ev.step (f := fun _ => some true) (fun k => by simp only [impl_printed.l0]; rw [if_neg (by omega)]) (Ev.now _)⟩
  | succ d ih =>
    intro i hi
    by_cases c : i < s.size
    · by_cases h1 : bt s (i : Int) < 32
      · exact ⟨false, Ev.step (f := fun _ => some false) (fun k => by simp only [spec_l2Printed.l0]; rw [if_pos (by omega), if_pos (by omega), if_pos h1]) (Ev.now _), Ev.step (f := fun _ => some false) (fun k => by simp only [impl_printed.l0]; rw [if_pos (by omega), if_pos (by omega), if_pos (by omega), if_pos h1]) (Ev.now _)⟩
      · by_cases h2 : bt s (i : Int) > 126
        · exact ⟨false, Ev.step (f := fun _ => some false) (fun k => by simp only [spec_l2Printed.l0]; rw [if_pos (by omega), if_pos (by omega), if_neg h1, if_pos h2]) (Ev.now _), Ev.step (f := fun _ => some false) (fun k => by simp only [impl_printed.l0]; rw [if_pos (by omega), if_pos (by omega), if_pos (by omega), if_neg h1, if_pos h2]) (Ev.now _)⟩
        · obtain ⟨b, e1, e2⟩ := ih (i + 1) (by omega)
          refine ⟨b, Ev.step (fun k => ?_) e1, Ev.step (fun k => ?_) e2⟩
          · simp only [spec_l2Printed.l0]; rw [if_pos (by omega), if_pos (by omega), if_neg h1, if_neg h2, wrap_in (by omega) (by omega)]; rfl
          · simp only [impl_printed.l0]; rw [if_pos (by omega), if_pos (by omega), if_pos (by omega), if_neg h1, if_neg h2, wrap_in (by omega) (by omega)]; rfl
    · exact ⟨true, Ev.step (f := fun _ => some true) (fun k => by simp only [spec_l2Printed.l0]; rw [if_neg (by omega)]) (Ev.now _), Ev.step (f := fun _ => some true) (fun k => by simp only [impl_printed.l0]; rw [if_neg (by omega)]) (Ev.now _)⟩

/-! ### names -/
theorem name_loop (s : ByteArray) (hs : s.size ≤ 140737488351232) (d : Nat) : ∀ i : Nat, s.size - i ≤ d →
    ∃ b, Ev (fun k => spec_l2Name.l0 k s (i : Int)) b ∧ Ev (fun k => impl_isName.l0 k s (s.size : Int) (i : Int)) b := by
  induction d with
  | zero =>
    intro i hi
    exact ⟨true, Ev.step (f := fun _ => some true) (fun k => by simp only [spec_l2Name.l0]; rw [if_neg (by omega)]) (Ev.now _), Ev.step (f := fun _ => some true) (fun k => by simp only [impl_isName.l0]; rw [if_neg (by omega)]) (Ev.now _)⟩
  | succ d ih =>
    intro i hi
    by_cases c : i < s.size
    · cases h1 : wB (bt s (i : Int)) with
      | false => exact ⟨false, Ev.step (f := fun _ => some false) (fun k => by simp only [spec_l2Name.l0]; rw [if_pos (by omega), if_pos (by omega), spec_word, h1]; rfl) (Ev.now _), Ev.step (f := fun _ => some false) (fun k => by simp only [impl_isName.l0]; rw [if_pos (by omega), if_pos (by omega), if_pos (by omega), impl_word, h1]; rfl) (Ev.now _)⟩
      | true =>
        obtain ⟨b, e1, e2⟩ := ih (i + 1) (by omega)
        refine ⟨b, Ev.step (fun k => ?_) e1, Ev.step (fun k => ?_) e2⟩
        · simp only [spec_l2Name.l0]; rw [if_pos (by omega), if_pos (by omega), spec_word, h1, wrap_in (by omega) (by omega)]; rfl
        · simp only [impl_isName.l0]; rw [if_pos (by omega), if_pos (by omega), if_pos (by omega), impl_word, h1, wrap_in (by omega) (by omega)]; rfl
    · exact ⟨true, Ev.step (f := fun _ => some true) (fun k => by simp only [spec_l2Name.l0]; rw [if_neg (by omega)]) (Ev.now _), Ev.step (f := fun _ => some true) (fun k => by simp only [impl_isName.l0]; rw [if_neg (by omega)]) (Ev.now _)⟩

theorem toList_nil (s : ByteArray) : (s.toList = ([] : List UInt8)) ↔ s.size = 0 := by
  rw [ByteArray.toList_eq, Lib.size_eq, List.length_eq_zero_iff]

/-- A name is one to both. -/
theorem name_same (s : ByteArray) (hs : s.size ≤ 140737488351232) : ∃ b, Ev (fun k => spec_l2Name.f k s) b ∧ Ev (fun k => impl_isName.f k s) b := by
  have no : Ev (fun k => spec_l2Name.j0 k s true) false ∧ Ev (fun k => impl_isName.j0 k s true) false :=
    ⟨Ev.step (f := fun _ => some false) (fun k => by simp only [spec_l2Name.j0, if_true]) (Ev.now _), Ev.step (f := fun _ => some false) (fun k => by simp only [impl_isName.j0, if_true]) (Ev.now _)⟩
  by_cases h0 : s.size = 0
  · refine ⟨false, Ev.congr (fun k => ?_) no.1, Ev.congr (fun k => ?_) no.2⟩
    · unfold spec_l2Name.f; rw [if_pos (by omega)]
    · unfold impl_isName.f; rw [if_pos ((toList_nil s).2 h0)]
  · by_cases h1 : (s.size : Int) > 40
    · refine ⟨false, Ev.congr (fun k => ?_) no.1, Ev.congr (fun k => ?_) no.2⟩
      · unfold spec_l2Name.f; rw [if_neg (by omega), if_pos h1]
      · unfold impl_isName.f; rw [if_neg (fun h => h0 ((toList_nil s).1 h)), if_pos h1]
    · cases h2 : dB (bt s 0) with
      | true =>
        refine ⟨false, Ev.congr (fun k => ?_) no.1, Ev.congr (fun k => ?_) no.2⟩
        · unfold spec_l2Name.f; rw [if_neg (by omega), if_neg h1, if_pos (by omega), spec_digit, h2]; rfl
        · unfold impl_isName.f; rw [if_neg (fun h => h0 ((toList_nil s).1 h)), if_neg h1, if_pos (by omega), impl_digit, h2]; rfl
      | false =>
        obtain ⟨b, e1, e2⟩ := name_loop s hs s.size 0 (by omega)
        refine ⟨b, Ev.congr (f := fun k => spec_l2Name.j0 k s false) (fun k => ?_) (Ev.step (fun k => ?_) e1), Ev.congr (f := fun k => impl_isName.j0 k s false) (fun k => ?_) (Ev.step (fun k => ?_) e2)⟩
        · unfold spec_l2Name.f; rw [if_neg (by omega), if_neg h1, if_pos (by omega), spec_digit, h2]; rfl
        · simp [spec_l2Name.j0]
        · unfold impl_isName.f; rw [if_neg (fun h => h0 ((toList_nil s).1 h)), if_neg h1, if_pos (by omega), impl_digit, h2]; rfl
        · simp [impl_isName.j0]

/-! ### a word at a place -/
/-- e is where the word that begins at i ends. -/
structure WordEnd (s : ByteArray) (i e : Nat) : Prop where
  low : i ≤ e
  high : e ≤ s.size
  word : ∀ j, i ≤ j → j < e → wB (bt s (j : Int)) = true
  last : e < s.size → wB (bt s (e : Int)) = false

theorem nameAt_tell (s : ByteArray) (hs : s.size ≤ 140737488351232) (d : Nat) : ∀ i : Nat, i ≤ s.size → s.size - i ≤ d →
    ∃ e : Nat, WordEnd s i e ∧ Ev (fun k => spec_l2NameAt.l0 k s (i : Int)) (e : Int) := by
  induction d with
  | zero =>
    intro i h0 hi
    exact ⟨i, ⟨Nat.le_refl _, h0, fun j _ _ => by omega, fun h => by omega⟩, Ev.step (f := fun _ => some (i : Int)) (fun k => by simp only [spec_l2NameAt.l0]; rw [if_neg (by omega)]) (Ev.now _)⟩
  | succ d ih =>
    intro i h0 hi
    by_cases c : i < s.size
    · cases h1 : wB (bt s (i : Int)) with
      | false => exact ⟨i, ⟨Nat.le_refl _, h0, fun j _ _ => by omega, fun _ => h1⟩, Ev.step (f := fun _ => some (i : Int)) (fun k => by simp only [spec_l2NameAt.l0]; rw [if_pos (by omega), if_pos (by omega), spec_word, h1]; rfl) (Ev.now _)⟩
      | true =>
        obtain ⟨e, w, e1⟩ := ih (i + 1) (by omega) (by omega)
        refine ⟨e, ⟨by have := w.low; omega, w.high, fun j h2 h3 => ?_, w.last⟩, Ev.step (fun k => ?_) e1⟩
        · by_cases q : j = i
          · subst q; exact h1
          · exact w.word j (by omega) h3
        · simp only [spec_l2NameAt.l0]; rw [if_pos (by omega), if_pos (by omega), spec_word, h1, wrap_in (by omega) (by omega)]; rfl
    · exact ⟨i, ⟨Nat.le_refl _, h0, fun j _ _ => by omega, fun h => by omega⟩, Ev.step (f := fun _ => some (i : Int)) (fun k => by simp only [spec_l2NameAt.l0]; rw [if_neg (by omega)]) (Ev.now _)⟩

theorem wordOf_tell (s : ByteArray) (hs : s.size ≤ 140737488351232) (e : Nat) (d : Nat) : ∀ i : Nat, WordEnd s i e → e - i ≤ d →
    Ev (fun k => impl_wordOf.l0 k s (i : Int)) (s.extract 0 e, s.extract e s.size) := by
  induction d with
  | zero =>
    intro i w hd
    have := w.low; have := w.high
    obtain rfl : i = e := by omega
    by_cases c : i < s.size
    · refine Ev.step (f := fun _ => some (s.extract 0 i, s.extract i s.size)) (fun k => ?_) (Ev.now _)
      simp only [impl_wordOf.l0]; rw [if_pos (by omega), if_pos (by omega), impl_word, w.last c]
      simp only [Option.bind_some, Bool.false_eq_true, if_false]
      rw [if_pos (by omega), Int.toNat_natCast]
    · refine Ev.step (f := fun _ => some (s.extract 0 i, s.extract i s.size)) (fun k => ?_) (Ev.now _)
      simp only [impl_wordOf.l0]; rw [if_neg (by omega), if_pos (by omega), if_pos (by omega), Int.toNat_natCast]
  | succ d ih =>
    intro i w hd
    have := w.low; have := w.high
    by_cases q : i = e
    · exact (by
        subst q
        by_cases c : i < s.size
        · refine Ev.step (f := fun _ => some (s.extract 0 i, s.extract i s.size)) (fun k => ?_) (Ev.now _)
          simp only [impl_wordOf.l0]; rw [if_pos (by omega), if_pos (by omega), impl_word, w.last c]
          simp only [Option.bind_some, Bool.false_eq_true, if_false]
          rw [if_pos (by omega), Int.toNat_natCast]
        · refine Ev.step (f := fun _ => some (s.extract 0 i, s.extract i s.size)) (fun k => ?_) (Ev.now _)
          simp only [impl_wordOf.l0]; rw [if_neg (by omega), if_pos (by omega), if_pos (by omega), Int.toNat_natCast])
    · refine Ev.step (fun k => ?_) (ih (i + 1) ⟨by omega, w.high, fun j h1 h2 => w.word j (by omega) h2, w.last⟩ (by omega))
      simp only [impl_wordOf.l0]; rw [if_pos (by omega), if_pos (by omega), impl_word, w.word i (Nat.le_refl _) (by omega), wrap_in (by omega) (by omega)]; rfl

/-- A text of one byte stands at another's front. -/
theorem prefix_one (s : ByteArray) (c : UInt8) : strings_HasPrefix.f s (⟨#[c]⟩ : ByteArray) = some (decide (0 < s.size ∧ bt s 0 = (c.toNat : Int))) := by
  have hsz : ((⟨#[c]⟩ : ByteArray).size : Int) = 1 := rfl
  unfold strings_HasPrefix.f stringslite_HasPrefix.f
  rw [hsz]
  by_cases h : (s.size : Int) ≥ 1
  · rw [if_pos h, if_pos (by omega), if_pos (by omega)]
    simp only [Option.bind_some]
    congr 1
    rw [Bool.eq_iff_iff]
    simp only [beq_iff_eq, decide_eq_true_eq]
    have hb := bt_nat s 0
    have hb' : bt s 0 = ((s.data.toList.getD 0 0).toNat : Int) := hb
    rw [hb', ByteArray.toList_eq, ByteArray.toList_eq, Lib.extract_data]
    rw [Lib.size_eq] at h
    have h2 : 0 < s.size := by rw [Lib.size_eq]; omega
    cases hl : s.data.toList with
    | nil => rw [hl] at h; simp at h
    | cons x l =>
      simp only [List.drop_zero, List.getD_cons_zero, h2, true_and]
      show List.take 1 (x :: l) = [c] ↔ _
      simp only [List.take_succ_cons, List.take_zero, List.cons.injEq, and_true]
      constructor
      · rintro rfl; rfl
      · intro q; exact UInt8.toNat_inj.1 (by omega)
  · rw [if_neg h]
    simp only [Option.bind_some]
    congr 1
    have : ¬ 0 < s.size := by omega
    simp [this]

/-! ### the template -/
theorem template_loop (s : ByteArray) (hs : s.size ≤ 200) (d : Nat) : ∀ (i : Nat) (l : List ByteArray) (m : List Bool), i ≤ s.size → s.size - i ≤ d → l.length ≤ i → m.length ≤ i →
    ∃ l' m' b, Ev (fun k => spec_l18Parts.l0 k s l m (i : Int)) (l', m', b) ∧ Ev (fun k => impl_GoodTemplate.l0 k s (i : Int)) b := by
  induction d with
  | zero =>
    intro i l m h0 hd hl hm
    exact ⟨l, m, true, Ev.step (f := fun _ => some (l, m, true)) (fun k => by simp only [spec_l18Parts.l0]; rw [if_neg (by omega)]) (Ev.now _), Ev.step (f := fun _ => some true) (fun k => by simp only [impl_GoodTemplate.l0]; rw [if_neg (by omega)]) (Ev.now _)⟩
  | succ d ih =>
    intro i l m h0 hd hl hm
    by_cases c : i < s.size
    · have hw : wrap64 ((i : Int) + 1) = ((i + 1 : Nat) : Int) := by rw [wrap_in (by omega) (by omega)]; omega
      by_cases h1 : bt s (i : Int) = 123
      · have hp := prefix_one (s.extract (i + 1) s.size) 123
        rw [size_ex _ _ _ (Nat.le_refl _)] at hp
        have hpi : impl_GoodTemplate.l0 = impl_GoodTemplate.l0 := rfl
        by_cases h2 : i + 1 < s.size ∧ bt s ((i + 1 : Nat) : Int) = 123
        · have hb : bt (s.extract (i + 1) s.size) 0 = 123 := by
            have := bt_ex s (i + 1) s.size 0 (by omega)
            rw [Nat.add_zero] at this
            rw [← h2.2, ← this]; rfl
          obtain ⟨l', m', b, e1, e2⟩ := ih (i + 2) (l ++ [(⟨#[123]⟩ : ByteArray)]) (m ++ [false]) (by omega) (by omega) (by simp; omega) (by simp; omega)
          refine ⟨l', m', b, Ev.step (f := fun k => spec_l18Parts.j2 k s l m (i : Int) true) (fun k => ?_) (Ev.step (fun k => ?_) e1), Ev.step (fun k => ?_) e2⟩
          · simp only [spec_l18Parts.l0]
            rw [if_pos (by omega), if_pos (by omega), if_pos h1, hw, if_pos (by omega), if_pos (by omega), h2.2]; rfl
          · simp only [spec_l18Parts.j2, if_true]
            rw [if_pos (by omega), if_pos (by omega), hw, wrap_in (by omega) (by omega)]; rfl
          · simp only [impl_GoodTemplate.l0]
            rw [if_pos (by omega), if_pos (by omega), if_pos h1, hw, if_pos (by omega), if_pos (by omega), Int.toNat_natCast, hp, hb]
            rw [show decide (0 < s.size - (i + 1) ∧ (123 : Int) = ((123 : UInt8).toNat : Int)) = true from by simp; omega]
            simp only [Option.bind_some, if_true]
            rw [wrap_in (by omega) (by omega)]; rfl
        · have hno : decide (0 < s.size - (i + 1) ∧ bt (s.extract (i + 1) s.size) 0 = ((123 : UInt8).toNat : Int)) = false := by
            rw [decide_eq_false_iff_not]
            rintro ⟨q1, q2⟩
            have := bt_ex s (i + 1) s.size 0 (by omega)
            rw [Nat.add_zero] at this
            exact h2 ⟨by omega, by rw [← this]; exact q2⟩
          obtain ⟨e, we, ee⟩ := nameAt_tell s (by omega) (s.size - (i + 1)) (i + 1) (by omega) (Nat.le_refl _)
          have elow := we.low
          have ehigh := we.high
          -- the text behind the brace
          have hX : (s.extract (i + 1) s.size).size = s.size - (i + 1) := size_ex _ _ _ (Nat.le_refl _)
          have wx : WordEnd (s.extract (i + 1) s.size) 0 (e - (i + 1)) := by
            refine ⟨by omega, by omega, fun j _ hj => ?_, fun hj => ?_⟩
            · rw [bt_ex _ _ _ _ (by omega)]; exact we.word _ (by omega) (by omega)
            · rw [hX] at hj
              rw [bt_ex _ _ _ _ (by omega), show i + 1 + (e - (i + 1)) = e from by omega]; exact we.last (by omega)
          have ew := wordOf_tell (s.extract (i + 1) s.size) (by omega) (e - (i + 1)) _ 0 wx (Nat.le_refl _)
          have hA : (s.extract (i + 1) s.size).extract 0 (e - (i + 1)) = s.extract (i + 1) e := by
            rw [ex_ex _ _ _ _ _ (by omega), Nat.add_zero, show i + 1 + (e - (i + 1)) = e from by omega]
          have hB : (s.extract (i + 1) s.size).extract (e - (i + 1)) (s.extract (i + 1) s.size).size = s.extract e s.size := by
            rw [hX, ex_ex _ _ _ _ _ (by omega), show i + 1 + (e - (i + 1)) = e from by omega, show i + 1 + (s.size - (i + 1)) = s.size from by omega]
          rw [hA, hB] at ew
          have hsA : (s.extract (i + 1) e).size = e - (i + 1) := size_ex _ _ _ ehigh
          obtain ⟨bn, en1, en2⟩ := name_same (s.extract (i + 1) e) (by omega)
          have hq := prefix_one (s.extract e s.size) 125
          rw [size_ex _ _ _ (Nat.le_refl _)] at hq
          have hj2 : ∀ k, spec_l18Parts.l0 (k + 1) s l m (i : Int) = spec_l18Parts.j2 k s l m (i : Int) false := by
            intro k
            simp only [spec_l18Parts.l0]
            rw [if_pos (by omega), if_pos (by omega), if_pos h1, hw]
            by_cases q : ((i + 1 : Nat) : Int) < s.size
            · rw [if_pos q, if_pos (by omega)]
              have : (bt s ((i + 1 : Nat) : Int) == 123) = false := by
                rw [beq_eq_false_iff_ne]; exact fun z => h2 ⟨by omega, z⟩
              rw [this]
            · rw [if_neg q]
          have hg : ∀ k, impl_GoodTemplate.l0 (k + 1) s (i : Int) = ((impl_wordOf.f k (s.extract (i + 1) s.size)).bind fun bt142 => ((impl_isName.f k bt142.1).bind fun t144 => (if t144 = true then ((strings_HasPrefix.f bt142.2 (⟨#[125]⟩ : ByteArray)).bind fun t145 => (if t145 = true then (impl_GoodTemplate.l0 k s (wrap64 ((wrap64 ((i : Int) + (wrap64 ((bt142.1.size : Int) + 1)))) + 1))) else (some false))) else (some false)))) := by
            intro k
            simp only [impl_GoodTemplate.l0]
            rw [if_pos (by omega), if_pos (by omega), if_pos h1, hw, if_pos (by omega), if_pos (by omega), Int.toNat_natCast, hp, hno]
            simp only [Option.bind_some, Bool.false_eq_true, if_false]
          have ew' : Ev (fun k => impl_wordOf.f k (s.extract (i + 1) s.size)) (s.extract (i + 1) e, s.extract e s.size) := ew
          have ee' : Ev (fun k => spec_l2NameAt.f k s ((i + 1 : Nat) : Int)) (e : Int) := ee
          by_cases hlast : e < s.size ∧ bt s (e : Int) = 125
          · have hq' : strings_HasPrefix.f (s.extract e s.size) (⟨#[125]⟩ : ByteArray) = some true := by
              rw [hq]
              congr 1
              have := bt_ex s e s.size 0 (by omega)
              rw [Nat.add_zero] at this
              rw [decide_eq_true_eq]
              refine ⟨by omega, ?_⟩
              exact this.trans hlast.2
            cases bn with
            | false =>
              refine ⟨[], [], false, Ev.step hj2 (Ev.succ ?_), Ev.step hg (Ev.bind ew' (Ev.bind en2 ?_))⟩
              · simp only [spec_l18Parts.j2, Bool.false_eq_true, if_false, hw]
                refine Ev.bind ee' ?_
                have g1 : ¬ (e : Int) ≥ (s.size : Int) := by omega
                have g2 : 0 ≤ (e : Int) := by omega
                have g3 : (e : Int) < (s.size : Int) := by omega
                have g4 : 0 ≤ ((i + 1 : Nat) : Int) := by omega
                have g5 : ((i + 1 : Nat) : Int) ≤ (e : Int) := by omega
                have g6 : (e : Int) ≤ (s.size : Int) := by omega
                simp only [g1, g2, g3, g4, g5, g6, hlast.2, if_true, if_false, Int.toNat_natCast]
                exact Ev.bind en1 (Ev.now _)
              · exact Ev.now _
            | true =>
              obtain ⟨l', m', b, e1, e2⟩ := ih (e + 1) (l ++ [s.extract (i + 1) e]) (m ++ [true]) (by omega) (by omega) (by simp; omega) (by simp; omega)
              refine ⟨l', m', b, Ev.step hj2 (Ev.succ ?_), Ev.step hg (Ev.bind ew' (Ev.bind en2 ?_))⟩
              · simp only [spec_l18Parts.j2, Bool.false_eq_true, if_false, hw]
                refine Ev.bind ee' ?_
                have g1 : ¬ (e : Int) ≥ (s.size : Int) := by omega
                have g2 : 0 ≤ (e : Int) := by omega
                have g3 : (e : Int) < (s.size : Int) := by omega
                have g4 : 0 ≤ ((i + 1 : Nat) : Int) := by omega
                have g5 : ((i + 1 : Nat) : Int) ≤ (e : Int) := by omega
                have g6 : (e : Int) ≤ (s.size : Int) := by omega
                have g7 : l.length < 8796093022208 := by omega
                have g8 : m.length < 140737488355328 := by omega
                have g9 : wrap64 ((e : Int) + 1) = ((e + 1 : Nat) : Int) := by rw [wrap_in (by omega) (by omega)]; omega
                simp only [g1, g2, g3, g4, g5, g6, g7, g8, g9, hlast.2, if_true, if_false, Int.toNat_natCast]
                refine Ev.bind en1 ?_
                simp only [if_true]
                exact e1
              · simp only [if_true, hq', Option.bind_some, hsA]
                have g9 : wrap64 ((wrap64 ((i : Int) + (wrap64 (((e - (i + 1) : Nat) : Int) + 1)))) + 1) = ((e + 1 : Nat) : Int) := by
                  rw [wrap_in (n := ((e - (i + 1) : Nat) : Int) + 1) (by omega) (by omega), wrap_in (n := (i : Int) + (((e - (i + 1) : Nat) : Int) + 1)) (by omega) (by omega), wrap_in (by omega) (by omega)]; omega
                rw [g9]
                exact e2
          · have hq' : strings_HasPrefix.f (s.extract e s.size) (⟨#[125]⟩ : ByteArray) = some false := by
              rw [hq]
              congr 1
              rw [decide_eq_false_iff_not]
              rintro ⟨q1, q2⟩
              have := bt_ex s e s.size 0 (by omega)
              rw [Nat.add_zero] at this
              exact hlast ⟨by omega, this.symm.trans q2⟩
            refine ⟨[], [], false, Ev.step hj2 (Ev.succ ?_), Ev.step hg (Ev.bind ew' (Ev.bind en2 ?_))⟩
            · simp only [spec_l18Parts.j2, Bool.false_eq_true, if_false, hw]
              refine Ev.bind ee' ?_
              by_cases g0 : e < s.size
              · have g1 : ¬ (e : Int) ≥ (s.size : Int) := by omega
                have g2 : 0 ≤ (e : Int) := by omega
                have g3 : (e : Int) < (s.size : Int) := by omega
                have g4 : ¬ bt s (e : Int) = 125 := fun z => hlast ⟨g0, z⟩
                simp only [g1, g2, g3, g4, if_true, if_false]
                exact Ev.now _
              · have g1 : (e : Int) ≥ (s.size : Int) := by omega
                simp only [g1, if_true]
                exact Ev.now _
            · cases bn with
              | false => exact Ev.now _
              | true =>
                simp only [if_true, hq', Option.bind_some, Bool.false_eq_true, if_false]
                exact Ev.now _
      · obtain ⟨l', m', b, e1, e2⟩ := ih (i + 1) (l ++ [s.extract i (i + 1)]) (m ++ [false]) (by omega) (by omega) (by simp; omega) (by simp; omega)
        refine ⟨l', m', b, Ev.step (fun k => ?_) e1, Ev.step (fun k => ?_) e2⟩
        · simp only [spec_l18Parts.l0]
          rw [if_pos (by omega), if_pos (by omega), if_neg h1, hw, if_pos (by omega), if_pos (by omega), if_pos (by omega), if_pos (by omega), Int.toNat_natCast, Int.toNat_natCast]
        · simp only [impl_GoodTemplate.l0]
          rw [if_pos (by omega), if_pos (by omega), if_neg h1, hw]
    · exact ⟨l, m, true, Ev.step (f := fun _ => some (l, m, true)) (fun k => by simp only [spec_l18Parts.l0]; rw [if_neg (by omega)]) (Ev.now _), Ev.step (f := fun _ => some true) (fun k => by simp only [impl_GoodTemplate.l0]; rw [if_neg (by omega)]) (Ev.now _)⟩

theorem template_same (s : ByteArray) (hs : s.size ≤ 140737488351232) : ∃ b, Ev (fun k => spec_GoodTemplate.f k s) b ∧ Ev (fun k => impl_GoodTemplate.f k s) b := by
  have wrap1 : ∀ {g : Nat → Option (List ByteArray × List Bool × Bool)} {l m b}, Ev g (l, m, b) → Ev (fun k => (g k).bind fun t => some t.2.2) b := by
    intro g l m b h
    exact Ev.bind h (Ev.now _)
  have no : Ev (fun k => spec_l18Parts.j0 k s ([] : List ByteArray) ([] : List Bool) true) ([], [], false) :=
    Ev.step (f := fun _ => some ([], [], false)) (fun k => by simp only [spec_l18Parts.j0, if_true]) (Ev.now _)
  by_cases h : (s.size : Int) > 200
  · refine ⟨false, wrap1 (Ev.congr (fun k => ?_) no), Ev.congr (f := fun _ => some false) (fun k => ?_) (Ev.now _)⟩
    · unfold spec_l18Parts.f; rw [if_pos h]
    · unfold impl_GoodTemplate.f impl_printed.f; rw [if_pos h]; rfl
  · obtain ⟨p, p1, p2⟩ := printed_loop s hs s.size 0 (by omega)
    have p1' : Ev (fun k => spec_l2Printed.f k s) p := p1
    have p2' : Ev (fun k => impl_printed.f k s 200) p := Ev.congr (fun k => by unfold impl_printed.f; rw [if_neg h]; rfl) p2
    cases p with
    | false =>
      refine ⟨false, wrap1 (Ev.congr (f := fun k => (spec_l2Printed.f k s).bind fun t106 => (spec_l18Parts.j0 k s ([] : List ByteArray) ([] : List Bool) (!t106))) (fun k => ?_) (Ev.bind p1' no)), ?_⟩
      · unfold spec_l18Parts.f; rw [if_neg h]
      · unfold impl_GoodTemplate.f; exact Ev.bind p2' (Ev.now _)
    | true =>
      obtain ⟨l, m, b, e1, e2⟩ := template_loop s (by omega) s.size 0 [] [] (by omega) (by omega) (by simp) (by simp)
      refine ⟨b, wrap1 (Ev.congr (f := fun k => (spec_l2Printed.f k s).bind fun t106 => (spec_l18Parts.j0 k s ([] : List ByteArray) ([] : List Bool) (!t106))) (fun k => ?_) (Ev.bind p1' (Ev.step (fun k => ?_) e1))), ?_⟩
      · unfold spec_l18Parts.f; rw [if_neg h]
      · simp [spec_l18Parts.j0]
      · unfold impl_GoodTemplate.f
        refine Ev.bind p2' ?_
        simp only [if_true]
        exact e2

theorem FnExactGoodTemplate : laws_FnExactGoodTemplate.Pure := by
  intro s hs
  refine Ev.rounds (r := true) ?_
  unfold laws_FnExactGoodTemplate.f
  by_cases h : (s.size : Int) > 1048576
  · simp only [h, if_true]; exact Ev.now _
  · simp only [h, if_false]
    obtain ⟨b, e1, e2⟩ := template_same s hs
    refine Ev.bind e1 (Ev.bind e2 ?_)
    simp only [bne_self_eq_false, Bool.false_eq_true, if_false]
    exact Ev.now _

end Go.Proofs.Ythlinnbamejmaaa.Pure
