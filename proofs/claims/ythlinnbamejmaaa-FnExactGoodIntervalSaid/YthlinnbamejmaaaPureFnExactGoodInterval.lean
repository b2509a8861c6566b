/- Proved: for every interval, the program's GoodInterval answers what the reference's answers, and leaves its argument as it was. Conditions: none beyond the law's own guard. -/
import Derived.Test.YthlinnbamejmaaaYFnExactGoodInterval
namespace Go.Proofs.Ythlinnbamejmaaa.Pure
open Go.RowKit Go.Proofs.Ythlinnbamejmaaa.PFnExactGoodInterval Go.Proofs.YthlinnbamejmaaaW.PrintWords Go.Proofs.YthlinnbamejmaaaW.PrintLast

/-! ### small words -/
theorem wrap_in {n : Int} (h : -9223372036854775808 ≤ n) (h' : n < 9223372036854775808) : wrap64 n = n := by unfold wrap64; omega
theorem Ev.succ {α : Type} {g : Nat → Option α} {r : α} (h : Ev (fun k => g (k + 1)) r) : Ev g r := Ev.step (fun _ => rfl) h
theorem wf_i64 {n : Int} (h : (Lit.int .i64 n).wf = true) : -9223372036854775808 ≤ n ∧ n ≤ 9223372036854775807 := by
  have h2 : decide (IntKind.i64.min ≤ n) && decide (n ≤ IntKind.i64.max) := h
  rw [Bool.and_eq_true] at h2
  have a : IntKind.i64.min ≤ n := of_decide_eq_true h2.1
  have b : n ≤ IntKind.i64.max := of_decide_eq_true h2.2
  have ea : IntKind.i64.min = -9223372036854775808 := by decide
  have eb : IntKind.i64.max = 9223372036854775807 := by decide
  omega
theorem dropAt {α : Type} (l : List α) (d : α) (i : Nat) (h : i < l.length) : l.drop i = l.getD i d :: l.drop (i + 1) := by
  rw [List.drop_eq_getElem_cons h]; simp [h]
theorem dropEnd {α : Type} (l : List α) (i : Nat) (h : l.length ≤ i) : l.drop i = [] := List.drop_eq_nil_of_le h
theorem set_take {α : Type} (l : List α) (i : Nat) (v : α) (h : i < l.length) : (l.set i v).take (i + 1) = l.take i ++ [v] := by
  apply List.ext_getElem?
  intro j
  simp only [List.getElem?_take, List.getElem?_set, List.getElem?_append, List.length_take]
  by_cases c : j < i
  · rw [if_pos (by omega), if_neg (by omega), if_pos (by omega), if_pos c]
  · by_cases e : j = i
    · subst e
      rw [if_pos (by omega), if_pos rfl, if_pos h, if_neg (by omega)]
      simp [Nat.min_eq_left (Nat.le_of_lt h)]
    · rw [if_neg (by omega), if_neg (by omega)]
      rw [List.getElem?_eq_none]
      simp; omega
theorem rd_nat (l : List Int) (i : Nat) : rd l (i : Int) = l.getD i 0 := by unfold rd; simp

/-! ### copies -/
def cv (x : S83) : S72 := ⟨x.f0, x.f1⟩
theorem rd83 (l : List S83) (i : Nat) : rd_T83 l (i : Int) = l.getD i z83 := by unfold rd_T83; simp
theorem rd72 (l : List S72) (i : Nat) : rd_T72 l (i : Int) = l.getD i z72 := by unfold rd_T72; simp

theorem toRange_loop (x0 : List S83) (hn : x0.length ≤ 1048576) (d : Nat) : ∀ (x3 : List S72) (i : Nat), x3.length = x0.length → i ≤ x0.length → x0.length - i ≤ d →
    Ev (fun k => laws_toRangeS.l0 k x0 x3 (i : Int)) (x3.take i ++ (x0.drop i).map cv) := by
  induction d with
  | zero =>
    intro x3 i h3 hi hd
    refine Ev.succ ?_
    simp only [laws_toRangeS.l0, show ¬ (i : Int) < (x0.length : Int) by omega, if_false]
    rw [dropEnd x0 i (by omega), List.take_of_length_le (by omega), List.map_nil, List.append_nil]
    exact Ev.now _
  | succ d ih =>
    intro x3 i h3 hi hd
    by_cases c : i < x0.length
    · refine Ev.succ ?_
      simp only [laws_toRangeS.l0, show (i : Int) < (x0.length : Int) by omega, show (0 : Int) ≤ (i : Int) by omega, show (i : Int) < (x3.length : Int) by omega, if_true, laws_toRange.f, Option.bind_some, Int.toNat_natCast, wrap_in (n := (i : Int) + 1) (by omega) (by omega)]
      have e := ih (x3.set i (cv (x0.getD i z83))) (i + 1) (by simpa using h3) (by omega) (by omega)
      rw [set_take _ _ _ (by omega)] at e
      rw [dropAt x0 z83 i c, List.map_cons]
      simp only [List.append_assoc, List.cons_append, List.nil_append] at e
      simp only [rd83]
      exact e
    · refine Ev.succ ?_
      simp only [laws_toRangeS.l0, show ¬ (i : Int) < (x0.length : Int) by omega, if_false]
      rw [dropEnd x0 i (by omega), List.take_of_length_le (by omega), List.map_nil, List.append_nil]
      exact Ev.now _
theorem toRange_tell (l : List S83) (hn : l.length ≤ 1048576) : Ev (fun k => laws_toRangeS.f k l) (l.map cv) := by
  unfold laws_toRangeS.f
  simp only [show (0 : Int) ≤ (l.length : Int) by omega, show ((l.length : Int)).toNat ≤ 17592186044416 by omega, if_true]
  have e := toRange_loop l hn l.length (List.replicate ((l.length : Int)).toNat z72) 0 (by simp) (by omega) (by omega)
  simpa using e
theorem toInt_loop (x0 : List Int) (hn : x0.length ≤ 1048576) (d : Nat) : ∀ (x3 : List Int) (i : Nat), x3.length = x0.length → i ≤ x0.length → x0.length - i ≤ d →
    Ev (fun k => laws_toIntS.l0 k x0 x3 (i : Int)) (x3.take i ++ x0.drop i) := by
  induction d with
  | zero =>
    intro x3 i h3 hi hd
    refine Ev.succ ?_
    simp only [laws_toIntS.l0, show ¬ (i : Int) < (x0.length : Int) by omega, if_false]
    rw [dropEnd x0 i (by omega), List.take_of_length_le (by omega), List.append_nil]
    exact Ev.now _
  | succ d ih =>
    intro x3 i h3 hi hd
    by_cases c : i < x0.length
    · refine Ev.succ ?_
      simp only [laws_toIntS.l0, show (i : Int) < (x0.length : Int) by omega, show (0 : Int) ≤ (i : Int) by omega, show (i : Int) < (x3.length : Int) by omega, if_true, Int.toNat_natCast, wrap_in (n := (i : Int) + 1) (by omega) (by omega)]
      have e := ih (x3.set i (x0.getD i 0)) (i + 1) (by simpa using h3) (by omega) (by omega)
      rw [set_take _ _ _ (by omega)] at e
      rw [dropAt x0 0 i c]
      simp only [List.append_assoc, List.cons_append, List.nil_append] at e
      simp only [rd_nat]
      exact e
    · refine Ev.succ ?_
      simp only [laws_toIntS.l0, show ¬ (i : Int) < (x0.length : Int) by omega, if_false]
      rw [dropEnd x0 i (by omega), List.take_of_length_le (by omega), List.append_nil]
      exact Ev.now _
theorem toInt_tell (l : List Int) (hn : l.length ≤ 1048576) : Ev (fun k => laws_toIntS.f k l) l := by
  unfold laws_toIntS.f
  simp only [show (0 : Int) ≤ (l.length : Int) by omega, show ((l.length : Int)).toNat ≤ 35184372088832 by omega, if_true]
  have e := toInt_loop l hn l.length (List.replicate ((l.length : Int)).toNat 0) 0 (by simp) (by omega) (by omega)
  simpa using e

/-! ### equal to themselves -/
theorem eqRange_loop (l : List S72) (hn : l.length ≤ 1048576) (d : Nat) : ∀ i : Nat, l.length - i ≤ d → Ev (fun k => laws_eqRangeS.l0 k l l (i : Int)) true := by
  induction d with
  | zero => intro i hd; refine Ev.succ ?_; simp only [laws_eqRangeS.l0, show ¬ (i : Int) < (l.length : Int) by omega, if_false]; exact Ev.now _
  | succ d ih =>
    intro i hd
    by_cases c : i < l.length
    · refine Ev.succ ?_
      simp only [laws_eqRangeS.l0, show (i : Int) < (l.length : Int) by omega, show (0 : Int) ≤ (i : Int) by omega, if_true, laws_eqRange.f, Option.bind_some, wrap_in (n := (i : Int) + 1) (by omega) (by omega)]
      exact ih (i + 1) (by omega)
    · refine Ev.succ ?_; simp only [laws_eqRangeS.l0, show ¬ (i : Int) < (l.length : Int) by omega, if_false]; exact Ev.now _
theorem eqRange_self (l : List S72) (hn : l.length ≤ 1048576) : Ev (fun k => laws_eqRangeS.f k l l) true := by
  unfold laws_eqRangeS.f; simp only [if_true]; exact eqRange_loop l hn l.length 0 (by omega)
theorem eqInt_loop (l : List Int) (hn : l.length ≤ 1048576) (d : Nat) : ∀ i : Nat, l.length - i ≤ d → Ev (fun k => laws_eqIntS.l0 k l l (i : Int)) true := by
  induction d with
  | zero => intro i hd; refine Ev.succ ?_; simp only [laws_eqIntS.l0, show ¬ (i : Int) < (l.length : Int) by omega, if_false]; exact Ev.now _
  | succ d ih =>
    intro i hd
    by_cases c : i < l.length
    · refine Ev.succ ?_
      simp only [laws_eqIntS.l0, show (i : Int) < (l.length : Int) by omega, show (0 : Int) ≤ (i : Int) by omega, if_true, wrap_in (n := (i : Int) + 1) (by omega) (by omega)]
      exact ih (i + 1) (by omega)
    · refine Ev.succ ?_; simp only [laws_eqIntS.l0, show ¬ (i : Int) < (l.length : Int) by omega, if_false]; exact Ev.now _
theorem eqInt_self (l : List Int) (hn : l.length ≤ 1048576) : Ev (fun k => laws_eqIntS.f k l l) true := by
  unfold laws_eqIntS.f; simp only [if_true]; exact eqInt_loop l hn l.length 0 (by omega)

/-! ### ranges -/
def okR (lo hi : Int) (x : S72) : Bool := !impl_goodRanges.bad lo hi x
def goodR (lo hi : Int) (l : List S72) : Bool := decide (l.length ≤ 10) && l.all (okR lo hi)
theorem ranges_loop (x0 l : List S72) (lo hi : Int) (hn : l.length ≤ 1048576) (d : Nat) : ∀ i : Nat, l.length - i ≤ d →
    Ev (fun k => spec_l19Ranges.l0 k x0 lo hi l (l.length : Int) (i : Int)) ((l.drop i).all (okR lo hi) && decide (x0.length ≤ 10)) := by
  induction d with
  | zero =>
    intro i hd
    refine Ev.succ ?_
    simp only [spec_l19Ranges.l0, show ¬ (i : Int) < (l.length : Int) by omega, if_false]
    rw [dropEnd l i (by omega), List.all_nil, Bool.true_and, show decide ((x0.length : Int) ≤ 10) = decide (x0.length ≤ 10) from decide_eq_decide.mpr (by omega)]
    exact Ev.now _
  | succ d ih =>
    intro i hd
    by_cases c : i < l.length
    · refine Ev.succ ?_
      rw [dropAt l z72 i c, List.all_cons]
      simp only [spec_l19Ranges.l0, show (i : Int) < (l.length : Int) by omega, show (0 : Int) ≤ (i : Int) by omega, if_true, rd72, wrap_in (n := (i : Int) + 1) (by omega) (by omega)]
      generalize l.getD i z72 = x
      by_cases c1 : x.f0 < lo
      · simp only [c1, if_true, okR, impl_goodRanges.bad, true_or, or_true, decide_true, Bool.not_true, Bool.false_and]; exact Ev.now _
      by_cases c2 : x.f1 > hi
      · simp only [c1, c2, if_true, if_false, okR, impl_goodRanges.bad, or_true, decide_true, Bool.not_true, Bool.false_and]; exact Ev.now _
      by_cases c3 : x.f0 > x.f1
      · simp only [c1, c2, c3, if_true, if_false, okR, impl_goodRanges.bad, true_or, decide_true, Bool.not_true, Bool.false_and]; exact Ev.now _
      · have hok : okR lo hi x = true := by simp only [okR, impl_goodRanges.bad, Bool.not_eq_true', decide_eq_false_iff_not]; omega
        simp only [c1, c2, c3, if_false, hok, Bool.true_and]
        exact ih (i + 1) (by omega)
    · refine Ev.succ ?_
      simp only [spec_l19Ranges.l0, show ¬ (i : Int) < (l.length : Int) by omega, if_false]
      rw [dropEnd l i (by omega), List.all_nil, Bool.true_and, show decide ((x0.length : Int) ≤ 10) = decide (x0.length ≤ 10) from decide_eq_decide.mpr (by omega)]
      exact Ev.now _
theorem ranges_spec (l : List S72) (lo hi : Int) (hn : l.length ≤ 1048576) : Ev (fun k => spec_l19Ranges.f k l lo hi) (goodR lo hi l) := by
  have e := ranges_loop l l lo hi hn l.length 0 (by omega)
  rw [List.drop_zero, Bool.and_comm] at e
  exact e
theorem any_of (l : List S72) (p : S72 → Bool) : anyP (fun x => some (p x)) l = some (l.any p) := by
  induction l with
  | nil => rfl
  | cons x t ih =>
    simp only [anyP, Option.bind_some, List.any_cons]
    cases p x with
    | true => rfl
    | false => simpa using ih
theorem ranges_impl (l : List S72) (lo hi : Int) : impl_goodRanges.f l lo hi = some (goodR lo hi l) := by
  unfold impl_goodRanges.f goodR
  by_cases c : (l.length : Int) ≤ 10
  · rw [if_pos c, any_of, Option.bind_some, decide_eq_true (show l.length ≤ 10 by omega), Bool.true_and, List.not_any_eq_all_not]
    rfl
  · rw [if_neg c, decide_eq_false (show ¬ l.length ≤ 10 by omega), Bool.false_and]

/-! ### rising -/
theorem rising_loop (l : List Int) (hn : l.length ≤ 1048576) (d : Nat) : ∀ i : Nat, 1 ≤ i → l.length - i ≤ d →
    ∃ b, Ev (fun k => spec_l9Numbers.l0 k l (l.length : Int) (i : Int)) (b && decide (l.length ≤ 1000)) ∧ Ev (fun k => impl_rising_int.l0 k l (i : Int)) b := by
  induction d with
  | zero =>
    intro i h1 hd
    refine ⟨true, Ev.succ ?_, Ev.succ ?_⟩
    · simp only [spec_l9Numbers.l0, show ¬ (i : Int) < (l.length : Int) by omega, if_false]
      rw [Bool.true_and, show decide ((l.length : Int) ≤ 1000) = decide (l.length ≤ 1000) from decide_eq_decide.mpr (by omega)]; exact Ev.now _
    · simp only [impl_rising_int.l0, show ¬ (i : Int) < (l.length : Int) by omega, if_false]; exact Ev.now _
  | succ d ih =>
    intro i h1 hd
    by_cases c : i < l.length
    · have w1 : wrap64 ((i : Int) - 1) = (i : Int) - 1 := wrap_in (by omega) (by omega)
      have w2 : wrap64 ((i : Int) + 1) = (i : Int) + 1 := wrap_in (by omega) (by omega)
      by_cases q : rd l ((i : Int) - 1) ≥ rd l (i : Int)
      · refine ⟨false, Ev.succ ?_, Ev.succ ?_⟩
        · simp only [spec_l9Numbers.l0, show (i : Int) < (l.length : Int) by omega, show (i : Int) > 0 by omega, w1, show (0 : Int) ≤ (i : Int) - 1 by omega, show (i : Int) - 1 < (l.length : Int) by omega, show (0 : Int) ≤ (i : Int) by omega, if_true, q, Bool.false_and]; exact Ev.now _
        · simp only [impl_rising_int.l0, show (i : Int) < (l.length : Int) by omega, w1, show (0 : Int) ≤ (i : Int) - 1 by omega, show (i : Int) - 1 < (l.length : Int) by omega, show (0 : Int) ≤ (i : Int) by omega, if_true, q]; exact Ev.now _
      · obtain ⟨b, e1, e2⟩ := ih (i + 1) (by omega) (by omega)
        refine ⟨b, Ev.succ ?_, Ev.succ ?_⟩
        · simp only [spec_l9Numbers.l0, show (i : Int) < (l.length : Int) by omega, show (i : Int) > 0 by omega, w1, w2, show (0 : Int) ≤ (i : Int) - 1 by omega, show (i : Int) - 1 < (l.length : Int) by omega, show (0 : Int) ≤ (i : Int) by omega, if_true, q, if_false]; exact e1
        · simp only [impl_rising_int.l0, show (i : Int) < (l.length : Int) by omega, w1, w2, show (0 : Int) ≤ (i : Int) - 1 by omega, show (i : Int) - 1 < (l.length : Int) by omega, show (0 : Int) ≤ (i : Int) by omega, if_true, q, if_false]; exact e2
    · refine ⟨true, Ev.succ ?_, Ev.succ ?_⟩
      · simp only [spec_l9Numbers.l0, show ¬ (i : Int) < (l.length : Int) by omega, if_false]
        rw [Bool.true_and, show decide ((l.length : Int) ≤ 1000) = decide (l.length ≤ 1000) from decide_eq_decide.mpr (by omega)]; exact Ev.now _
      · simp only [impl_rising_int.l0, show ¬ (i : Int) < (l.length : Int) by omega, if_false]; exact Ev.now _
theorem rising_tell (l : List Int) (hn : l.length ≤ 1048576) : ∃ b, Ev (fun k => spec_l9Numbers.f k l) (b && decide (l.length ≤ 1000)) ∧ Ev (fun k => impl_rising_int.f k l) b := by
  obtain ⟨b, e1, e2⟩ := rising_loop l hn l.length 1 (by omega) (by omega)
  by_cases c : 0 < l.length
  · refine ⟨b, ?_, e2⟩
    unfold spec_l9Numbers.f
    refine Ev.succ ?_
    simp only [spec_l9Numbers.l0, show (0 : Int) < (l.length : Int) by omega, show ¬ (0 : Int) > 0 by omega, if_true, if_false, wrap_in (n := (0 : Int) + 1) (by omega) (by omega)]
    exact e1
  · unfold spec_l9Numbers.f impl_rising_int.f
    refine ⟨true, Ev.succ ?_, Ev.succ ?_⟩
    · simp only [spec_l9Numbers.l0, show ¬ (0 : Int) < (l.length : Int) by omega, if_false]
      rw [Bool.true_and, show decide ((l.length : Int) ≤ 1000) = decide (l.length ≤ 1000) from decide_eq_decide.mpr (by omega)]; exact Ev.now _
    · simp only [impl_rising_int.l0, show ¬ (1 : Int) < (l.length : Int) by omega, if_false]; exact Ev.now _

/-! ### days, free days -/
def dayA (x : S72) : Bool := decide (x.f0 ≠ 0) && (decide (x.f1 ≠ 0) && (decide (x.f0 < 0) == decide (x.f1 < 0)))
def dayB (x : S72) : Bool := decide (x.f0 > 0) || decide (x.f1 < 0)
def free (n : Int) : Bool := decide (0 ≤ n) && decide (n ≤ 20000000)
theorem days_same (l : List S72) (h : l.all (okR (-31) 31) = true) : l.all dayA = l.all dayB := by
  induction l with
  | nil => rfl
  | cons x t ih =>
    simp only [List.all_cons, Bool.and_eq_true] at h
    obtain ⟨h1, h2⟩ := h
    simp only [List.all_cons, ih h2]
    congr 1
    simp only [okR, impl_goodRanges.bad, Bool.not_eq_true', decide_eq_false_iff_not] at h1
    rw [Bool.eq_iff_iff]
    simp only [dayA, dayB, Bool.and_eq_true, Bool.or_eq_true, decide_eq_true_eq, beq_iff_eq, decide_eq_decide]
    omega

theorem spec_free (z : Int) (a b c e f : List S72) (g l : List Int) (r : Bool) (hn : l.length ≤ 1048576)
    (hr : Ev (fun k => ((spec_l19Ranges.f k a 0 1439).bind fun t117 => (if t117 = true then ((spec_l19Ranges.f k b 0 6).bind fun t118 => (if t118 = true then ((spec_l19Ranges.f k c (-31) 31).bind fun t119 => (if t119 = true then ((spec_l19Ranges.f k e 1 12).bind fun t120 => (if t120 = true then ((spec_l19Ranges.f k f 1970 40000).bind fun t121 => (some t121)) else (some false))) else (some false))) else (some false))) else (some false)))) r) (d : Nat) : ∀ i : Nat, l.length - i ≤ d →
    Ev (fun k => spec_GoodInterval.l1 k l (l.length : Int) (i : Int) z a b c e f g) ((l.drop i).all free && r) := by
  induction d with
  | zero =>
    intro i hd
    refine Ev.succ ?_
    simp only [spec_GoodInterval.l1, show ¬ (i : Int) < (l.length : Int) by omega, if_false]
    rw [dropEnd l i (by omega), List.all_nil, Bool.true_and]; exact hr
  | succ d ih =>
    intro i hd
    by_cases q : i < l.length
    · refine Ev.succ ?_
      rw [dropAt l 0 i q, List.all_cons]
      simp only [spec_GoodInterval.l1, show (i : Int) < (l.length : Int) by omega, show (0 : Int) ≤ (i : Int) by omega, if_true, rd_nat, wrap_in (n := (i : Int) + 1) (by omega) (by omega)]
      generalize l.getD i 0 = x
      by_cases c1 : x < 0
      · have : free x = false := by simp only [free, Bool.and_eq_false_iff, decide_eq_false_iff_not]; omega
        simp only [c1, if_true, this, Bool.false_and]; exact Ev.now _
      by_cases c2 : x > 20000000
      · have : free x = false := by simp only [free, Bool.and_eq_false_iff, decide_eq_false_iff_not]; omega
        simp only [c1, c2, if_true, if_false, this, Bool.false_and]; exact Ev.now _
      · have : free x = true := by simp only [free, Bool.and_eq_true, decide_eq_true_eq]; omega
        simp only [c1, c2, if_false, this, Bool.true_and]; exact ih (i + 1) (by omega)
    · refine Ev.succ ?_
      simp only [spec_GoodInterval.l1, show ¬ (i : Int) < (l.length : Int) by omega, if_false]
      rw [dropEnd l i (by omega), List.all_nil, Bool.true_and]; exact hr

theorem spec_days (z : Int) (a b c e f : List S72) (g : List Int) (l : List S72) (r : Bool) (hn : l.length ≤ 1048576)
    (hr : Ev (fun k => (if z < (-1440) then (spec_GoodInterval.j1 k true z a b c e f g) else (if z > 1440 then (spec_GoodInterval.j1 k true z a b c e f g) else (if (g.length : Int) > 10 then (spec_GoodInterval.j1 k true z a b c e f g) else ((spec_l9Numbers.f k g).bind fun t115 => (spec_GoodInterval.j1 k (!t115) z a b c e f g)))))) r) (d : Nat) : ∀ i : Nat, l.length - i ≤ d →
    Ev (fun k => spec_GoodInterval.l0 k l (l.length : Int) (i : Int) z a b c e f g) ((l.drop i).all dayA && r) := by
  induction d with
  | zero =>
    intro i hd
    refine Ev.succ ?_
    simp only [spec_GoodInterval.l0, show ¬ (i : Int) < (l.length : Int) by omega, if_false]
    rw [dropEnd l i (by omega), List.all_nil, Bool.true_and]; exact hr
  | succ d ih =>
    intro i hd
    by_cases q : i < l.length
    · refine Ev.succ ?_
      rw [dropAt l z72 i q, List.all_cons]
      simp only [spec_GoodInterval.l0, show (i : Int) < (l.length : Int) by omega, show (0 : Int) ≤ (i : Int) by omega, if_true, rd72, wrap_in (n := (i : Int) + 1) (by omega) (by omega)]
      generalize l.getD i z72 = x
      by_cases c1 : x.f0 = 0
      · have : dayA x = false := by simp [dayA, c1]
        simp only [c1, if_true, this, Bool.false_and]; exact Ev.now _
      by_cases c2 : x.f1 = 0
      · have : dayA x = false := by simp [dayA, c2]
        simp only [c1, c2, if_true, if_false, this, Bool.false_and]; exact Ev.now _
      cases c3 : (decide (x.f0 < 0) != decide (x.f1 < 0)) with
      | true =>
        have : dayA x = false := by
          have h3 : (decide (x.f0 < 0) == decide (x.f1 < 0)) = false := by simpa [bne] using c3
          simp only [dayA, h3, Bool.and_false]
        simp only [c1, c2, if_true, if_false, this, Bool.false_and]; exact Ev.now _
      | false =>
        have : dayA x = true := by
          have h3 : (decide (x.f0 < 0) == decide (x.f1 < 0)) = true := by simpa [bne] using c3
          simp [dayA, h3, c1, c2]
        simp only [c1, c2, if_false, Bool.false_eq_true, this, Bool.true_and]; exact ih (i + 1) (by omega)
    · refine Ev.succ ?_
      simp only [spec_GoodInterval.l0, show ¬ (i : Int) < (l.length : Int) by omega, if_false]
      rw [dropEnd l i (by omega), List.all_nil, Bool.true_and]; exact hr

theorem impl_free (l : List Int) (hn : l.length ≤ 1048576) (d : Nat) : ∀ (i : Nat) (ok : Bool), l.length - i ≤ d →
    Ev (fun k => impl_GoodInterval.l1 k ok l (l.length : Int) (i : Int)) (ok && (l.drop i).all free) := by
  induction d with
  | zero =>
    intro i ok hd
    refine Ev.succ ?_
    simp only [impl_GoodInterval.l1, show ¬ (i : Int) < (l.length : Int) by omega, if_false]
    rw [dropEnd l i (by omega), List.all_nil, Bool.and_true]; exact Ev.now _
  | succ d ih =>
    intro i ok hd
    by_cases q : i < l.length
    · refine Ev.succ ?_
      rw [dropAt l 0 i q, List.all_cons]
      simp only [impl_GoodInterval.l1, show (i : Int) < (l.length : Int) by omega, show (0 : Int) ≤ (i : Int) by omega, if_true, rd_nat, wrap_in (n := (i : Int) + 1) (by omega) (by omega)]
      generalize l.getD i 0 = x
      cases ok with
      | false =>
        simp only [Bool.false_eq_true, if_false, Bool.false_and]
        have e := ih (i + 1) false (by omega)
        rw [Bool.false_and] at e; exact e
      | true =>
        simp only [if_true, Bool.true_and]
        by_cases c1 : x ≥ 0
        · simp only [c1, if_true]
          have : free x = decide (x ≤ 20000000) := by simp only [free, decide_eq_true (show 0 ≤ x from c1), Bool.true_and]
          rw [this]
          exact ih (i + 1) (decide (x ≤ 20000000)) (by omega)
        · simp only [c1, if_false]
          have : free x = false := by simp only [free, Bool.and_eq_false_iff, decide_eq_false_iff_not]; omega
          rw [this, Bool.false_and]
          have e := ih (i + 1) false (by omega)
          rw [Bool.false_and] at e; exact e
    · refine Ev.succ ?_
      simp only [impl_GoodInterval.l1, show ¬ (i : Int) < (l.length : Int) by omega, if_false]
      rw [dropEnd l i (by omega), List.all_nil, Bool.and_true]; exact Ev.now _

theorem impl_days (z : Int) (a b c e f : List S72) (g : List Int) (hg : g.length ≤ 1048576) (l : List S72) (hn : l.length ≤ 1048576) (d : Nat) : ∀ (i : Nat) (ok : Bool), l.length - i ≤ d →
    Ev (fun k => impl_GoodInterval.l0 k ok l (l.length : Int) (i : Int) z a b c e f g) (ok && (l.drop i).all dayB && g.all free) := by
  induction d with
  | zero =>
    intro i ok hd
    refine Ev.succ ?_
    simp only [impl_GoodInterval.l0, show ¬ (i : Int) < (l.length : Int) by omega, if_false]
    rw [dropEnd l i (by omega), List.all_nil, Bool.and_true]
    have e := impl_free g hg g.length 0 ok (by omega)
    rw [List.drop_zero] at e; exact e
  | succ d ih =>
    intro i ok hd
    by_cases q : i < l.length
    · refine Ev.succ ?_
      rw [dropAt l z72 i q, List.all_cons]
      simp only [impl_GoodInterval.l0, show (i : Int) < (l.length : Int) by omega, show (0 : Int) ≤ (i : Int) by omega, if_true, rd72, wrap_in (n := (i : Int) + 1) (by omega) (by omega)]
      generalize l.getD i z72 = x
      cases ok with
      | false =>
        simp only [Bool.false_eq_true, if_false, Bool.false_and]
        have e := ih (i + 1) false (by omega)
        rw [Bool.false_and, Bool.false_and] at e; exact e
      | true =>
        simp only [if_true, Bool.true_and]
        by_cases c1 : x.f0 > 0
        · simp only [c1, if_true]
          have : dayB x = true := by simp only [dayB, decide_eq_true c1, Bool.true_or]
          rw [this, Bool.true_and]
          have e := ih (i + 1) true (by omega)
          rw [Bool.true_and] at e; exact e
        · simp only [c1, if_false]
          have : dayB x = decide (x.f1 < 0) := by simp only [dayB, decide_eq_false c1, Bool.false_or]
          rw [this]
          exact ih (i + 1) (decide (x.f1 < 0)) (by omega)
    · refine Ev.succ ?_
      simp only [impl_GoodInterval.l0, show ¬ (i : Int) < (l.length : Int) by omega, if_false]
      rw [dropEnd l i (by omega), List.all_nil, Bool.and_true]
      have e := impl_free g hg g.length 0 ok (by omega)
      rw [List.drop_zero] at e; exact e

theorem interval_same (z : Int) (a b c e f : List S72) (g : List Int) (ha : a.length ≤ 1048576) (hb : b.length ≤ 1048576) (hc : c.length ≤ 1048576) (he : e.length ≤ 1048576) (hf : f.length ≤ 1048576) (hg : g.length ≤ 1048576) :
    ∃ r, Ev (fun k => spec_GoodInterval.f k z a b c e f g) r ∧ Ev (fun k => impl_GoodInterval.f k z a b c e f g) r := by
  obtain ⟨rb, r1, r2⟩ := rising_tell g hg
  have rr : Ev (fun k => ((spec_l19Ranges.f k a 0 1439).bind fun t117 => (if t117 = true then ((spec_l19Ranges.f k b 0 6).bind fun t118 => (if t118 = true then ((spec_l19Ranges.f k c (-31) 31).bind fun t119 => (if t119 = true then ((spec_l19Ranges.f k e 1 12).bind fun t120 => (if t120 = true then ((spec_l19Ranges.f k f 1970 40000).bind fun t121 => (some t121)) else (some false))) else (some false))) else (some false))) else (some false)))) (goodR 0 1439 a && (goodR 0 6 b && (goodR (-31) 31 c && (goodR 1 12 e && goodR 1970 40000 f)))) := by
    refine Ev.bind (ranges_spec a 0 1439 ha) ?_
    cases goodR 0 1439 a with
    | false => simp only [Bool.false_eq_true, if_false, Bool.false_and]; exact Ev.now _
    | true =>
      simp only [if_true, Bool.true_and]
      refine Ev.bind (ranges_spec b 0 6 hb) ?_
      cases goodR 0 6 b with
      | false => simp only [Bool.false_eq_true, if_false, Bool.false_and]; exact Ev.now _
      | true =>
        simp only [if_true, Bool.true_and]
        refine Ev.bind (ranges_spec c (-31) 31 hc) ?_
        cases goodR (-31) 31 c with
        | false => simp only [Bool.false_eq_true, if_false, Bool.false_and]; exact Ev.now _
        | true =>
          simp only [if_true, Bool.true_and]
          refine Ev.bind (ranges_spec e 1 12 he) ?_
          cases goodR 1 12 e with
          | false => simp only [Bool.false_eq_true, if_false, Bool.false_and]; exact Ev.now _
          | true =>
            simp only [if_true, Bool.true_and]
            exact Ev.bind (ranges_spec f 1970 40000 hf) (Ev.now _)
  have fr := spec_free z a b c e f g g _ hg rr g.length 0 (by omega)
  rw [List.drop_zero] at fr
  have jt : Ev (fun k => spec_GoodInterval.j1 k true z a b c e f g) false := Ev.succ (by simp only [spec_GoodInterval.j1, if_true]; exact Ev.now _)
  have jf := (Ev.succ (g := fun k => spec_GoodInterval.j1 k false z a b c e f g) (by simp only [spec_GoodInterval.j1, Bool.false_eq_true, if_false]; exact fr))
  have num : ∀ t : Bool, Ev (fun k => spec_GoodInterval.j1 k (!t) z a b c e f g) (t && (g.all free && (goodR 0 1439 a && (goodR 0 6 b && (goodR (-31) 31 c && (goodR 1 12 e && goodR 1970 40000 f)))))) := by
    intro t
    cases t with
    | true => rw [Bool.true_and]; exact jf
    | false => rw [Bool.false_and]; exact jt
  have out : ∀ ok : Bool, Ev (fun k => impl_GoodInterval.j0 k ok z a b c e f g) (ok && c.all dayB && g.all free) := by
    intro ok
    refine Ev.succ ?_
    simp only [impl_GoodInterval.j0]
    have e := impl_days z a b c e f g hg c hc c.length 0 ok (by omega)
    rw [List.drop_zero] at e; exact e
  have no : Ev (fun k => impl_GoodInterval.j0 k false z a b c e f g) false := by have e := out false; rwa [Bool.false_and, Bool.false_and] at e
  have tailS : ∀ r : Bool, Ev (fun k => (if z < (-1440) then (spec_GoodInterval.j1 k true z a b c e f g) else (if z > 1440 then (spec_GoodInterval.j1 k true z a b c e f g) else (if (g.length : Int) > 10 then (spec_GoodInterval.j1 k true z a b c e f g) else ((spec_l9Numbers.f k g).bind fun t115 => (spec_GoodInterval.j1 k (!t115) z a b c e f g)))))) r → Ev (fun k => spec_GoodInterval.f k z a b c e f g) (c.all dayA && r) := by
    intro r h
    have e := spec_days z a b c e f g c r hc h c.length 0 (by omega)
    rw [List.drop_zero] at e
    exact e
  by_cases c1 : z < -1440
  · refine ⟨false, ?_, ?_⟩
    · have e := tailS false (by simp only [c1, if_true]; exact jt)
      rwa [Bool.and_false] at e
    · unfold impl_GoodInterval.f; simp only [show ¬ z ≥ -1440 by omega, if_false]; exact no
  by_cases c2 : z > 1440
  · refine ⟨false, ?_, ?_⟩
    · have e := tailS false (by simp only [c1, c2, if_true, if_false]; exact jt)
      rwa [Bool.and_false] at e
    · unfold impl_GoodInterval.f; simp only [show z ≥ -1440 by omega, show ¬ z ≤ 1440 by omega, if_true, if_false]; exact no
  by_cases c3 : (g.length : Int) > 10
  · refine ⟨false, ?_, ?_⟩
    · have e := tailS false (by simp only [c1, c2, c3, if_true, if_false]; exact jt)
      rwa [Bool.and_false] at e
    · unfold impl_GoodInterval.f
      simp only [show z ≥ -1440 by omega, show z ≤ 1440 by omega, if_true, ranges_impl, Option.bind_some, show ¬ (g.length : Int) ≤ 10 by omega, if_false]
      repeat' split
      all_goals exact no
  have hb1000 : decide (g.length ≤ 1000) = true := decide_eq_true (by omega)
  rw [hb1000, Bool.and_true] at r1
  refine ⟨c.all dayA && (rb && (g.all free && (goodR 0 1439 a && (goodR 0 6 b && (goodR (-31) 31 c && (goodR 1 12 e && goodR 1970 40000 f)))))), tailS _ ?_, ?_⟩
  · simp only [c1, c2, c3, if_false]
    exact Ev.bind r1 (num rb)
  · unfold impl_GoodInterval.f
    simp only [show z ≥ -1440 by omega, show z ≤ 1440 by omega, if_true, ranges_impl, Option.bind_some, show (g.length : Int) ≤ 10 by omega]
    cases q1 : goodR 0 1439 a with
    | false => simp only [Bool.false_eq_true, if_false, Bool.false_and, Bool.and_false]; exact no
    | true =>
    cases q2 : goodR 0 6 b with
    | false => simp only [Bool.false_eq_true, if_true, if_false, Bool.false_and, Bool.and_false]; exact no
    | true =>
    cases q3 : goodR (-31) 31 c with
    | false => simp only [Bool.false_eq_true, if_true, if_false, Bool.false_and, Bool.and_false]; exact no
    | true =>
    cases q4 : goodR 1 12 e with
    | false => simp only [Bool.false_eq_true, if_true, if_false, Bool.false_and, Bool.and_false]; exact no
    | true =>
    cases q5 : goodR 1970 40000 f with
    | false => simp only [Bool.false_eq_true, if_true, if_false, Bool.and_false]; exact no
    | true =>
      simp only [if_true, Bool.and_true]
      have hd : c.all dayA = c.all dayB := days_same c (by simp only [goodR, Bool.and_eq_true] at q3; exact q3.2)
      rw [hd]
      refine Ev.bind r2 ?_
      have e := out rb
      rw [show (rb && c.all dayB && g.all free) = (c.all dayB && (rb && g.all free)) by cases rb <;> cases c.all dayB <;> rfl] at e
      exact e

theorem sz_step (n : Nat) (a : Int) (ha : 0 ≤ a) (ha' : a ≤ 1048576) (hn : n ≤ 9223372036854775807) : wrap64 (a - (n : Int)) = a - n := wrap_in (by omega) (by omega)

theorem FnExactGoodInterval : laws_FnExactGoodInterval.Pure := by
  intro z a b c e f g _ ha hb hc he hf hg
  have ha := ha.1; have hb := hb.1; have hc := hc.1; have he := he.1; have hf := hf.1; have hg := hg.1
  refine Ev.rounds (r := true) ?_
  unfold laws_FnExactGoodInterval.f
  have cut : ∀ (n : Nat) (t : Int), 0 ≤ t → t ≤ 1048576 → n ≤ 9223372036854775807 → (wrap64 (t - (n : Int)) < 0 ↔ t < n) := by
    intro n t h0 h1 h2; rw [sz_step n t h0 h1 h2]; omega
  have szR : ∀ (l : List S83) (t : Int), 0 ≤ t → t ≤ 1048576 → l.length ≤ 9223372036854775807 → laws_szRangeS.f l t = some (if t < l.length then -1 else t - l.length) := by
    intro l t h0 h1 h2
    unfold laws_szRangeS.f
    rw [sz_step _ t h0 h1 h2]
    by_cases q : t < l.length
    · rw [if_pos (by omega), if_pos q]
    · rw [if_neg (by omega), if_neg q]
  have szI : ∀ (l : List Int) (t : Int), 0 ≤ t → t ≤ 1048576 → l.length ≤ 9223372036854775807 → laws_szIntS.f l t = some (if t < l.length then -1 else t - l.length) := by
    intro l t h0 h1 h2
    unfold laws_szIntS.f
    rw [sz_step _ t h0 h1 h2]
    by_cases q : t < l.length
    · rw [if_pos (by omega), if_pos q]
    · rw [if_neg (by omega), if_neg q]
  have big : (∃ t : Int, laws_szInterval.f z a b c e f g 1048576 = some t ∧ t < 0) ∨ (∃ t : Int, laws_szInterval.f z a b c e f g 1048576 = some t ∧ ¬ t < 0 ∧ a.length ≤ 1048576 ∧ b.length ≤ 1048576 ∧ c.length ≤ 1048576 ∧ e.length ≤ 1048576 ∧ f.length ≤ 1048576 ∧ g.length ≤ 1048576) := by
    unfold laws_szInterval.f
    rw [szR a _ (by omega) (by omega) ha]
    by_cases qa : (1048576 : Int) < a.length
    · left; exact ⟨-1, by simp [qa], by omega⟩
    rw [if_neg qa]; simp only [Option.bind_some, show ¬ (1048576 - (a.length : Int)) < 0 by omega, if_false]
    rw [szR b _ (by omega) (by omega) hb]
    by_cases qb : 1048576 - (a.length : Int) < b.length
    · left; exact ⟨-1, by simp [qb], by omega⟩
    rw [if_neg qb]; simp only [Option.bind_some, show ¬ (1048576 - (a.length : Int) - b.length) < 0 by omega, if_false]
    rw [szR c _ (by omega) (by omega) hc]
    by_cases qc : 1048576 - (a.length : Int) - b.length < c.length
    · left; exact ⟨-1, by simp [qc], by omega⟩
    rw [if_neg qc]; simp only [Option.bind_some, show ¬ (1048576 - (a.length : Int) - b.length - c.length) < 0 by omega, if_false]
    rw [szR e _ (by omega) (by omega) he]
    by_cases qe : 1048576 - (a.length : Int) - b.length - c.length < e.length
    · left; exact ⟨-1, by simp [qe], by omega⟩
    rw [if_neg qe]; simp only [Option.bind_some, show ¬ (1048576 - (a.length : Int) - b.length - c.length - e.length) < 0 by omega, if_false]
    rw [szR f _ (by omega) (by omega) hf]
    by_cases qf : 1048576 - (a.length : Int) - b.length - c.length - e.length < f.length
    · left; exact ⟨-1, by simp [qf], by omega⟩
    rw [if_neg qf]; simp only [Option.bind_some, show ¬ (1048576 - (a.length : Int) - b.length - c.length - e.length - f.length) < 0 by omega, if_false]
    rw [szI g _ (by omega) (by omega) hg]
    by_cases qg : 1048576 - (a.length : Int) - b.length - c.length - e.length - f.length < g.length
    · left; exact ⟨-1, by simp [qg], by omega⟩
    right
    refine ⟨1048576 - (a.length : Int) - b.length - c.length - e.length - f.length - g.length, ?_, by omega, by omega, by omega, by omega, by omega, by omega, by omega⟩
    rw [if_neg qg]; simp only [Option.bind_some, show ¬ (1048576 - (a.length : Int) - b.length - c.length - e.length - f.length - g.length) < 0 by omega, if_false]
  rcases big with ⟨t, ht, hneg⟩ | ⟨t, ht, hneg, la, lb, lc, le, lf, lg⟩
  · simp only [ht, Option.bind_some, hneg, if_true]; exact Ev.now _
  · simp only [ht, Option.bind_some, hneg, if_false]
    have htw : Ev (fun k => laws_toInterval.f k z a b c e f g) (z, a.map cv, b.map cv, c.map cv, e.map cv, f.map cv, g) := by
      unfold laws_toInterval.f
      exact Ev.bind (toRange_tell a la) (Ev.bind (toRange_tell b lb) (Ev.bind (toRange_tell c lc) (Ev.bind (toRange_tell e le) (Ev.bind (toRange_tell f lf) (Ev.bind (toInt_tell g lg) (Ev.now _))))))
    obtain ⟨r, e1, e2⟩ := interval_same z (a.map cv) (b.map cv) (c.map cv) (e.map cv) (f.map cv) g (by simpa using la) (by simpa using lb) (by simpa using lc) (by simpa using le) (by simpa using lf) lg
    refine Ev.bind htw (Ev.bind e1 (Ev.bind htw (Ev.bind e2 ?_)))
    simp only [bne_self_eq_false, Bool.false_eq_true, if_false]
    refine Ev.bind htw (Ev.bind (a := true) ?_ ?_)
    · unfold laws_eqInterval.f
      simp only [if_true]
      refine Ev.bind (eqRange_self _ (by simpa using la)) ?_
      simp only [if_true]
      refine Ev.bind (eqRange_self _ (by simpa using lb)) ?_
      simp only [if_true]
      refine Ev.bind (eqRange_self _ (by simpa using lc)) ?_
      simp only [if_true]
      refine Ev.bind (eqRange_self _ (by simpa using le)) ?_
      simp only [if_true]
      refine Ev.bind (eqRange_self _ (by simpa using lf)) ?_
      simp only [if_true]
      refine Ev.bind (eqInt_self _ lg) ?_
      simp only [if_true]
      exact Ev.now _
    · simp only [if_true]; exact Ev.now _

end Go.Proofs.Ythlinnbamejmaaa.Pure
