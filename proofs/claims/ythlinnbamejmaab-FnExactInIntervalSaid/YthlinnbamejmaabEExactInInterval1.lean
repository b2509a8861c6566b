/- What these functions come to, part 1. -/
import Derived.Test.YthlinnbamejmaabV1
import Derived.Test.YthlinnbamejmaabV2
import Derived.Test.YthlinnbamejmaabFExactInInterval1
open Go Go.VM
namespace Go.II
set_option linter.unusedVariables false
set_option linter.unusedSimpArgs false
abbrev MT := ByteArray × Int × ByteArray × Unit
def matcherB (x : MT) : Bool := nameB x.1 && decide (1 ≤ x.2.1) && decide (x.2.1 ≤ 4) && decide (x.2.2.1.size ≤ 100) && printB x.2.2.1 && (decide (x.2.1 < 3) || (alts x.2.2.1).isSome)
def matchersB (l : List MT) : Bool := decide (l.length ≤ 10) && (List.range l.length).all fun i => matcherB (l.getD i default)
abbrev MU : U := .pair .str (.pair (.int .i64) (.pair .str .unit))
abbrev SIL := ByteArray × List MT × Int × Int × Unit
abbrev SIU : U := .pair .str (.pair (.sl false MU) (.pair (.int .i64) (.pair (.int .i64) .unit)))
def silB (l : List SIL) (i : Nat) : Bool := nameB (l.getD i default).1 && matchersB (l.getD i default).2.1 && decide ((l.getD i default).2.1.length ≠ 0) && timeB (l.getD i default).2.2.1 && timeB (l.getD i default).2.2.2.1 &&
  decide ((l.getD i default).2.2.1 ≤ (l.getD i default).2.2.2.1) && (decide (i = 0) || decide (cmpT (l.getD (i - 1) default).1 (l.getD i default).1 < 0))
def silsB (l : List SIL) : Bool := decide (l.length ≤ 50) && (List.range l.length).all (silB l)
/-- texts that rise -/
def risingB (l : List ByteArray) : Bool := (List.range (l.length - 1)).all fun i => decide (cmpT (l.getD i default) (l.getD (i + 1) default) < 0)
def namesB (l : List ByteArray) : Bool := decide (l.length ≤ 10) && risingB l && (List.range l.length).all fun i => nameB (l.getD i default)
abbrev INH := List MT × List MT × List ByteArray × Unit
abbrev INU : U := .pair (.sl false MU) (.pair (.sl false MU) (.pair (.sl false .str) .unit))
def inhB (x : INH) : Bool := matchersB x.1 && matchersB x.2.1 && decide (x.1.length ≠ 0) && decide (x.2.1.length ≠ 0) && namesB x.2.2.1
def inhsB (l : List INH) : Bool := decide (l.length ≤ 20) && (List.range l.length).all fun i => inhB (l.getD i default)
def lp (y : Int) : Int := if y % 4 = 0 ∧ (y % 100 ≠ 0 ∨ y % 400 = 0) then 1 else 0
def yl (y : Int) : Int := 365 + lp y
def dto (y : Int) : Int := (y - 1970) * 365 + ((y - 1) / 4 - (y - 1) / 100 + (y - 1) / 400) - 477
def mon (y m : Int) : Int := if m = 2 then 28 + lp y else if m = 4 ∨ m = 6 ∨ m = 9 ∨ m = 11 then 30 else 31
def cumd (y m : Int) : Int := if m ≤ 1 then 0 else if m = 2 then 31 else if m = 3 then 59 + lp y else if m = 4 then 90 + lp y else if m = 5 then 120 + lp y else if m = 6 then 151 + lp y else if m = 7 then 181 + lp y else if m = 8 then 212 + lp y else if m = 9 then 243 + lp y else if m = 10 then 273 + lp y else if m = 11 then 304 + lp y else if m = 12 then 334 + lp y else 365 + lp y
noncomputable def yearOf (day : Int) : Int := @dite _ (∃ y, 1970 ≤ y ∧ dto y ≤ day ∧ day < dto (y + 1)) (Classical.propDecidable _) (fun h => h.choose) (fun _ => 0)
noncomputable def monthOf (y n : Int) : Int := @dite _ (∃ m, 1 ≤ m ∧ m ≤ 12 ∧ cumd y m ≤ n ∧ n < cumd y m + mon y m) (Classical.propDecidable _) (fun h => h.choose) (fun _ => 0)
abbrev DTE := Int × Int × Int × Int × Int × Int × Unit
noncomputable def dateOfDay (day mi : Int) : DTE := (yearOf day, monthOf (yearOf day) (day - dto (yearOf day)), day - dto (yearOf day) - cumd (yearOf day) (monthOf (yearOf day) (day - dto (yearOf day))) + 1, mon (yearOf day) (monthOf (yearOf day) (day - dto (yearOf day))), (day + 4) % 7, mi, ())
def dateIn (t z : Int) : Bool := timeB t && decide (-1440 ≤ z) && decide (z ≤ 1440) && decide (0 ≤ t + 60 * z)
noncomputable def dateV (t z : Int) : DTE := if dateIn t z = true then dateOfDay ((t + 60 * z) / 86400) ((t + 60 * z) / 60 % 1440) else (0, 0, 0, 0, 0, 0, ())
def dayIn (y m d : Int) : Bool := decide (1970 ≤ y) && decide (y ≤ 40000) && decide (1 ≤ m) && decide (m ≤ 12) && decide (1 ≤ d) && decide (d ≤ mon y m)
def dayV (y m d : Int) : Int := if dayIn y m d = true then dto y + d - 1 + cumd y m else -1
theorem lp_01 (y : Int) : lp y = 0 ∨ lp y = 1 := by unfold lp; split <;> simp
theorem dto_succ (y : Int) : dto (y + 1) = dto y + yl y := by unfold dto yl lp; split <;> omega
theorem dto_1970 : dto 1970 = 0 := by decide
theorem mon_bd (y m : Int) : 28 ≤ mon y m ∧ mon y m ≤ 31 := by
  have := lp_01 y
  unfold mon; split
  · omega
  · split <;> omega
theorem dto_bd (y : Int) (h : 1970 ≤ y) : 365 * (y - 1970) ≤ dto y ∧ dto y ≤ 366 * (y - 1970) := by unfold dto; omega
theorem dto_mono (a : Int) (d : Nat) : dto a + 365 * d ≤ dto (a + d) := by
  induction d with
  | zero => simp
  | succ d ih =>
    have h := dto_succ (a + d)
    have hl := lp_01 (a + d)
    have hyl : yl (a + d) = 365 + lp (a + d) := rfl
    rw [show a + ((d + 1 : Nat) : Int) = a + d + 1 by omega]
    omega
theorem dto_lt (a b : Int) (h : a ≤ b) : dto a + 365 * (b - a) ≤ dto b := by
  have := dto_mono a (b - a).toNat
  rw [show a + ((b - a).toNat : Int) = b by omega] at this
  omega
theorem year_of (day : Int) (h : 0 ≤ day) : ∃ y, 1970 ≤ y ∧ dto y ≤ day ∧ day < dto (y + 1) := by
  have key : ∀ d : Nat, dto 1970 ≤ day ∧ day < dto (1970 + d) → ∃ y, 1970 ≤ y ∧ dto y ≤ day ∧ day < dto (y + 1) := by
    intro d
    induction d with
    | zero => intro ⟨h1, h2⟩; simp at h2; omega
    | succ d ih =>
      intro ⟨h1, h2⟩
      by_cases c : day < dto (1970 + d)
      · exact ih ⟨h1, c⟩
      · exact ⟨1970 + d, by omega, by omega, by rw [show (1970 : Int) + d + 1 = 1970 + ((d + 1 : Nat) : Int) by omega]; exact h2⟩
  refine key (day.toNat + 1) ⟨by rw [dto_1970]; exact h, ?_⟩
  have := dto_mono 1970 (day.toNat + 1)
  rw [dto_1970] at this
  omega
theorem yearOf_spec (day : Int) (h : 0 ≤ day) : 1970 ≤ yearOf day ∧ dto (yearOf day) ≤ day ∧ day < dto (yearOf day + 1) := by
  unfold yearOf
  rw [dif_pos (year_of day h)]
  exact (year_of day h).choose_spec
theorem cumd_succ (y m : Int) (h1 : 1 ≤ m) (h2 : m ≤ 12) : cumd y (m + 1) = cumd y m + mon y m := by
  have hm : m = 1 ∨ m = 2 ∨ m = 3 ∨ m = 4 ∨ m = 5 ∨ m = 6 ∨ m = 7 ∨ m = 8 ∨ m = 9 ∨ m = 10 ∨ m = 11 ∨ m = 12 := by omega
  rcases hm with rfl | rfl | rfl | rfl | rfl | rfl | rfl | rfl | rfl | rfl | rfl | rfl <;> simp [cumd, mon] <;> omega
theorem ite_nn {c : Prop} [Decidable c] {a b : Int} (ha : 0 ≤ a) (hb : 0 ≤ b) : 0 ≤ (if c then a else b) := by split <;> assumption
theorem cumd_nn (y m : Int) : 0 ≤ cumd y m := by
  have := lp_01 y
  unfold cumd
  iterate 12 (refine ite_nn (by omega) ?_)
  omega
theorem ite_le {c : Prop} [Decidable c] {a b k : Int} (ha : a ≤ k) (hb : b ≤ k) : (if c then a else b) ≤ k := by split <;> assumption
theorem cumd_le (y m : Int) : cumd y m ≤ 366 := by
  have := lp_01 y
  unfold cumd
  iterate 12 (refine ite_le (by omega) ?_)
  omega
theorem month_of (y n : Int) (h : 0 ≤ n) (h' : n < yl y) : ∃ m, 1 ≤ m ∧ m ≤ 12 ∧ cumd y m ≤ n ∧ n < cumd y m + mon y m := by
  have h13 : cumd y 13 = yl y := by simp [cumd, yl]
  have h1 : cumd y 1 = 0 := by simp [cumd]
  have key : ∀ d : Nat, d ≤ 12 → n < cumd y (1 + d) → ∃ m, 1 ≤ m ∧ m ≤ 12 ∧ cumd y m ≤ n ∧ n < cumd y m + mon y m := by
    intro d
    induction d with
    | zero => intro _ h2; simp at h2; omega
    | succ d ih =>
      intro hd h2
      by_cases c : n < cumd y (1 + d)
      · exact ih (by omega) c
      · refine ⟨1 + d, by omega, by omega, by omega, ?_⟩
        rw [← cumd_succ y (1 + d) (by omega) (by omega), show (1 : Int) + d + 1 = 1 + ((d + 1 : Nat) : Int) by omega]; exact h2
  exact key 12 (Nat.le_refl _) (by rw [show (1 : Int) + ((12 : Nat) : Int) = 13 from rfl, h13]; exact h')
theorem monthOf_spec (y n : Int) (h : 0 ≤ n) (h' : n < yl y) : 1 ≤ monthOf y n ∧ monthOf y n ≤ 12 ∧ cumd y (monthOf y n) ≤ n ∧ n < cumd y (monthOf y n) + mon y (monthOf y n) := by
  unfold monthOf
  rw [dif_pos (month_of y n h h')]
  exact (month_of y n h h').choose_spec
theorem mon_lt (y m i n : Int) (h1 : 1 ≤ i) (hi : i < m) (h2 : m ≤ 12) (hm : cumd y m ≤ n) : mon y i ≤ n - cumd y i := by
  have key : ∀ d : Nat, i + d + 1 ≤ m → cumd y (i + 1) ≤ cumd y (i + 1 + d) := by
    intro d
    induction d with
    | zero => intro _; simp
    | succ d ih =>
      intro hd
      have := cumd_succ y (i + 1 + d) (by omega) (by omega)
      have hb := mon_bd y (i + 1 + d)
      rw [show i + 1 + ((d + 1 : Nat) : Int) = i + 1 + d + 1 by omega]
      have := ih (by omega)
      omega
  have a := key (m - i - 1).toNat (by omega)
  rw [show i + 1 + ((m - i - 1).toNat : Int) = m by omega] at a
  have b := cumd_succ y i h1 (by omega)
  omega
theorem w64 {n : Int} (h : -9223372036854775808 ≤ n) (h' : n ≤ 9223372036854775807) : IntKind.wrap .i64 n = n := i64_ok h h'
abbrev RG := Int × Int × Unit
abbrev RGU : U := .pair (.int .i64) (.pair (.int .i64) .unit)
abbrev ITV := Int × List RG × List RG × List RG × List RG × List RG × List Int × Unit
abbrev ITU : U := .pair (.int .i64) (.pair (.sl false RGU) (.pair (.sl false RGU) (.pair (.sl false RGU) (.pair (.sl false RGU) (.pair (.sl false RGU) (.pair (.sl false (.int .i64)) .unit))))))
def rangeB (lo hi : Int) (r : RG) : Bool := decide (r.1 ≤ r.2.1) && decide (lo ≤ r.1) && decide (r.2.1 ≤ hi)
def rangesB (l : List RG) (lo hi : Int) : Bool := decide (l.length ≤ 10) && (List.range l.length).all fun i => rangeB lo hi (l.getD i default)
/-- numbers that rise -/
def risingI (l : List Int) : Bool := (List.range (l.length - 1)).all fun i => decide (l.getD i default < l.getD (i + 1) default)
def freeB (n : Int) : Bool := decide (0 ≤ n) && decide (n ≤ 20000000)
def dayRB (r : RG) : Bool := decide (0 < r.1) || decide (r.2.1 < 0)
def dayRS (r : RG) : Bool := !decide (r.1 = 0) && !decide (r.2.1 = 0) && (decide (r.1 < 0) == decide (r.2.1 < 0))
def allG {α : Type} [Inhabited α] (p : α → Bool) (l : List α) : Bool := (List.range l.length).all fun i => p (l.getD i default)
def itvB (x : ITV) : Bool := decide (-1440 ≤ x.1) && decide (x.1 ≤ 1440) && rangesB x.2.1 0 1439 && rangesB x.2.2.1 0 6 && rangesB x.2.2.2.1 (-31) 31 && rangesB x.2.2.2.2.1 1 12 && rangesB x.2.2.2.2.2.1 1970 40000 &&
  decide (x.2.2.2.2.2.2.1.length ≤ 10) && risingI x.2.2.2.2.2.2.1 && allG dayRB x.2.2.2.1 && allG freeB x.2.2.2.2.2.2.1
def inRB (l : List RG) (n : Int) : Bool := decide (l.length = 0) || (List.range l.length).any fun i => decide ((l.getD i default).1 ≤ n) && decide (n ≤ (l.getD i default).2.1)
def inIB (l : List Int) (n : Int) : Bool := (List.range l.length).any fun i => decide (l.getD i default = n)
noncomputable def inItvB (x : ITV) (t : Int) : Bool := itvB x && timeB t && !decide ((dateV t x.1).1 = 0) && inRB x.2.1 (dateV t x.1).2.2.2.2.2.1 && inRB x.2.2.1 (dateV t x.1).2.2.2.2.1 &&
  (inRB x.2.2.2.1 (dateV t x.1).2.2.1 || inRB x.2.2.2.1 (IntKind.wrap .i64 ((IntKind.wrap .i64 ((dateV t x.1).2.2.1 - (dateV t x.1).2.2.2.1)) - (1 : Int)))) && inRB x.2.2.2.2.1 (dateV t x.1).2.1 && inRB x.2.2.2.2.2.1 (dateV t x.1).1 &&
  !inIB x.2.2.2.2.2.2.1 (dayV (dateV t x.1).1 (dateV t x.1).2.1 (dateV t x.1).2.2.1)
theorem days_same (l : List RG) (lo hi : Int) : (allG dayRS l && rangesB l lo hi) = (allG dayRB l && rangesB l lo hi) := by
  cases h : rangesB l lo hi with
  | false => simp
  | true =>
    simp only [rangesB, Bool.and_eq_true, List.all_eq_true] at h
    rw [Bool.and_true, Bool.and_true, allG, allG, Bool.eq_iff_iff, List.all_eq_true, List.all_eq_true]
    have key : ∀ i ∈ List.range l.length, dayRS (l.getD i default) = dayRB (l.getD i default) := by
      intro i hi
      have := h.2 i hi
      simp only [rangeB, Bool.and_eq_true, decide_eq_true_eq] at this
      generalize l.getD i default = r at this
      simp only [dayRS, dayRB]
      have e1 : (r.1 = 0) = (¬ r.1 < 0 ∧ ¬ 0 < r.1) := propext (by omega)
      have e2 : (r.2.1 = 0) = (¬ r.2.1 < 0 ∧ ¬ 0 < r.2.1) := propext (by omega)
      by_cases a : r.1 < 0 <;> by_cases a' : 0 < r.1 <;> by_cases b : r.2.1 < 0 <;> by_cases b' : 0 < r.2.1 <;> first | (exfalso; omega) | simp [e1, e2, a, a', b, b']
    exact ⟨fun hh i hi => by rw [← key i hi]; exact hh i hi, fun hh i hi => by rw [key i hi]; exact hh i hi⟩
theorem wf_i64 {n : Int} (h : (Lit.int .i64 n).wf = true) : -9223372036854775808 ≤ n ∧ n ≤ 9223372036854775807 := by
  have h2 : decide (IntKind.i64.min ≤ n) && decide (n ≤ IntKind.i64.max) := h
  rw [Bool.and_eq_true] at h2
  have a : IntKind.i64.min ≤ n := of_decide_eq_true h2.1
  have b : n ≤ IntKind.i64.max := of_decide_eq_true h2.2
  have ea : IntKind.i64.min = -9223372036854775808 := by decide
  have eb : IntKind.i64.max = 9223372036854775807 := by decide
  omega
theorem laws_szRangeS.ev (l : List ((Int) × ((Int) × (Unit)))) (left : Int) (h0 : 0 ≤ left) (h1 : left ≤ 1048576) (hw : Wf (.sl false (.pair (.int .i64) (.pair (.int .i64) .unit))) l) : Sz (fun n => laws_szRangeS n l left) left (Sm 1048576 (.sl false (.pair (.int .i64) (.pair (.int .i64) .unit))) l) := by
  refine Sz.step ?_
  simp only [laws_szRangeS.step]
  have b1 : l.length ≤ 9223372036854775807 := by have := hw.1; simp only [maxLen] at this; omega
  have e1 : IntKind.wrap .i64 (left - ((List.length l) : Int)) = left - ((List.length l) : Int) := i64_ok (by omega) (by omega)
  simp only [e1]
  by_cases c1 : left - ((List.length l) : Int) < 0
  · exact Sz.yes (by simpa using c1) (Sz.neg h0)
  refine Sz.no (by simpa using c1) ?_
  exact ⟨_, Ev.pure, by omega, fun _ => ⟨by omega, fun x _ => ⟨trivial, ⟨trivial, trivial⟩⟩⟩⟩
theorem laws_szIntS.ev (l : List (Int)) (left : Int) (h0 : 0 ≤ left) (h1 : left ≤ 1048576) (hw : Wf (.sl false (.int .i64)) l) : Sz (fun n => laws_szIntS n l left) left (Sm 1048576 (.sl false (.int .i64)) l) := by
  refine Sz.step ?_
  simp only [laws_szIntS.step]
  have b1 : l.length ≤ 9223372036854775807 := by have := hw.1; simp only [maxLen] at this; omega
  have e1 : IntKind.wrap .i64 (left - ((List.length l) : Int)) = left - ((List.length l) : Int) := i64_ok (by omega) (by omega)
  simp only [e1]
  by_cases c1 : left - ((List.length l) : Int) < 0
  · exact Sz.yes (by simpa using c1) (Sz.neg h0)
  refine Sz.no (by simpa using c1) ?_
  exact ⟨_, Ev.pure, by omega, fun _ => ⟨by omega, fun x _ => trivial⟩⟩
theorem laws_szInterval.ev (x : (Int) × ((List ((Int) × ((Int) × (Unit)))) × ((List ((Int) × ((Int) × (Unit)))) × ((List ((Int) × ((Int) × (Unit)))) × ((List ((Int) × ((Int) × (Unit)))) × ((List ((Int) × ((Int) × (Unit)))) × ((List (Int)) × (Unit)))))))) (left : Int) (h0 : 0 ≤ left) (h1 : left ≤ 1048576) (hw : Wf (.pair (.int .i64) (.pair (.sl false (.pair (.int .i64) (.pair (.int .i64) .unit))) (.pair (.sl false (.pair (.int .i64) (.pair (.int .i64) .unit))) (.pair (.sl false (.pair (.int .i64) (.pair (.int .i64) .unit))) (.pair (.sl false (.pair (.int .i64) (.pair (.int .i64) .unit))) (.pair (.sl false (.pair (.int .i64) (.pair (.int .i64) .unit))) (.pair (.sl false (.int .i64)) .unit))))))) x) : Sz (fun n => laws_szInterval n x left) left (Sm 1048576 (.pair (.int .i64) (.pair (.sl false (.pair (.int .i64) (.pair (.int .i64) .unit))) (.pair (.sl false (.pair (.int .i64) (.pair (.int .i64) .unit))) (.pair (.sl false (.pair (.int .i64) (.pair (.int .i64) .unit))) (.pair (.sl false (.pair (.int .i64) (.pair (.int .i64) .unit))) (.pair (.sl false (.pair (.int .i64) (.pair (.int .i64) .unit))) (.pair (.sl false (.int .i64)) .unit))))))) x) := by
  refine Sz.step ?_
  simp only [laws_szInterval.step]
  obtain ⟨r1, k1, m1, q1⟩ := laws_szRangeS.ev x.2.1 left (by omega) (by omega) hw.2.1
  refine Sz.bind k1 ?_
  by_cases c1 : r1 < 0
  · exact Sz.yes (by simpa using c1) (Sz.neg h0)
  refine Sz.no (by simpa using c1) ?_
  obtain ⟨r2, k2, m2, q2⟩ := laws_szRangeS.ev x.2.2.1 r1 (by omega) (by omega) hw.2.2.1
  refine Sz.bind k2 ?_
  by_cases c2 : r2 < 0
  · exact Sz.yes (by simpa using c2) (Sz.neg h0)
  refine Sz.no (by simpa using c2) ?_
  obtain ⟨r3, k3, m3, q3⟩ := laws_szRangeS.ev x.2.2.2.1 r2 (by omega) (by omega) hw.2.2.2.1
  refine Sz.bind k3 ?_
  by_cases c3 : r3 < 0
  · exact Sz.yes (by simpa using c3) (Sz.neg h0)
  refine Sz.no (by simpa using c3) ?_
  obtain ⟨r4, k4, m4, q4⟩ := laws_szRangeS.ev x.2.2.2.2.1 r3 (by omega) (by omega) hw.2.2.2.2.1
  refine Sz.bind k4 ?_
  by_cases c4 : r4 < 0
  · exact Sz.yes (by simpa using c4) (Sz.neg h0)
  refine Sz.no (by simpa using c4) ?_
  obtain ⟨r5, k5, m5, q5⟩ := laws_szRangeS.ev x.2.2.2.2.2.1 r4 (by omega) (by omega) hw.2.2.2.2.2.1
  refine Sz.bind k5 ?_
  by_cases c5 : r5 < 0
  · exact Sz.yes (by simpa using c5) (Sz.neg h0)
  refine Sz.no (by simpa using c5) ?_
  obtain ⟨r6, k6, m6, q6⟩ := laws_szIntS.ev x.2.2.2.2.2.2.1 r5 (by omega) (by omega) hw.2.2.2.2.2.2.1
  refine Sz.bind k6 ?_
  by_cases c6 : r6 < 0
  · exact Sz.yes (by simpa using c6) (Sz.neg h0)
  refine Sz.no (by simpa using c6) ?_
  exact ⟨r6, Ev.pure, by omega, fun _ => ⟨trivial, ⟨(q1 (by omega)), ⟨(q2 (by omega)), ⟨(q3 (by omega)), ⟨(q4 (by omega)), ⟨(q5 (by omega)), ⟨(q6 (by omega)), trivial⟩⟩⟩⟩⟩⟩⟩⟩
theorem laws_toRange.ev (x : (Int) × ((Int) × (Unit))) (h : Sm 1048576 (.pair (.int .i64) (.pair (.int .i64) .unit)) x) : Ev (fun n => laws_toRange n x) x := by
  refine Ev.step ?_
  simp only [laws_toRange.step]
  exact Ev.pure
theorem laws_toRangeS.loop (l : List ((Int) × ((Int) × (Unit)))) (h : Sm 1048576 (.sl false (.pair (.int .i64) (.pair (.int .i64) .unit))) l) : ∀ d i (out : List ((Int) × ((Int) × (Unit)))), i + d = l.length → out.length = l.length → (∀ j, j < i → out.getD j default = l.getD j default) → Ev (fun n => goRec laws_toRangeS.step n (.p9 l (i : Int) out)) l := by
  have hl : l.length ≤ 1048576 := h.1
  intro d
  induction d with
  | zero =>
    intro i out hd ho hj
    rw [Nat.add_zero] at hd
    subst hd
    refine Ev.step ?_
    simp only [laws_toRangeS.step]
    exact Ev.no lt_no (Ev.pure' (ext_getD ho hj))
  | succ d ih =>
    intro i out hd ho hj
    have hi : i < l.length := by omega
    refine Ev.step ?_
    simp only [laws_toRangeS.step, toNat_cast, Nat.zero_add]
    refine Ev.yes (lt_yes hi) (Ev.yes (inB_nat hi) ?_)
    refine Ev.bind (laws_toRange.ev (l.getD i default) (h.2 _ (getD_mem hi))) ?_
    refine Ev.yes (inB_nat (by omega)) ?_
    rw [i64_nat (by omega)]
    refine ih (i + 1) _ (by omega) (by simpa using ho) fun j hj2 => ?_
    by_cases e : j = i
    · subst e; rw [getD_set_same (by omega)]
    · rw [getD_set_other e]; exact hj j (by omega)
theorem laws_toRangeS.ev (l : List ((Int) × ((Int) × (Unit)))) (h : Sm 1048576 (.sl false (.pair (.int .i64) (.pair (.int .i64) .unit))) l) : Ev (fun n => laws_toRangeS n l) l := by
  have hl : l.length ≤ 1048576 := h.1
  refine Ev.step ?_
  simp only [laws_toRangeS.step, toNat_cast]
  refine Ev.yes (inC_nat (Nat.le_refl _) (by omega)) ?_
  exact laws_toRangeS.loop l h l.length 0 _ (by omega) (by simp) (by omega)
theorem laws_toIntS.loop (l : List (Int)) (h : Sm 1048576 (.sl false (.int .i64)) l) : ∀ d i (out : List (Int)), i + d = l.length → out.length = l.length → (∀ j, j < i → out.getD j default = l.getD j default) → Ev (fun n => goRec laws_toIntS.step n (.p9 l (i : Int) out)) l := by
  have hl : l.length ≤ 1048576 := h.1
  intro d
  induction d with
  | zero =>
    intro i out hd ho hj
    rw [Nat.add_zero] at hd
    subst hd
    refine Ev.step ?_
    simp only [laws_toIntS.step]
    exact Ev.no lt_no (Ev.pure' (ext_getD ho hj))
  | succ d ih =>
    intro i out hd ho hj
    have hi : i < l.length := by omega
    refine Ev.step ?_
    simp only [laws_toIntS.step, toNat_cast, Nat.zero_add]
    refine Ev.yes (lt_yes hi) (Ev.yes (inB_nat hi) ?_)
    refine Ev.yes (inB_nat (by omega)) ?_
    rw [i64_nat (by omega)]
    refine ih (i + 1) _ (by omega) (by simpa using ho) fun j hj2 => ?_
    by_cases e : j = i
    · subst e; rw [getD_set_same (by omega)]
    · rw [getD_set_other e]; exact hj j (by omega)
theorem laws_toIntS.ev (l : List (Int)) (h : Sm 1048576 (.sl false (.int .i64)) l) : Ev (fun n => laws_toIntS n l) l := by
  have hl : l.length ≤ 1048576 := h.1
  refine Ev.step ?_
  simp only [laws_toIntS.step, toNat_cast]
  refine Ev.yes (inC_nat (Nat.le_refl _) (by omega)) ?_
  exact laws_toIntS.loop l h l.length 0 _ (by omega) (by simp) (by omega)
theorem laws_toInterval.ev (x : (Int) × ((List ((Int) × ((Int) × (Unit)))) × ((List ((Int) × ((Int) × (Unit)))) × ((List ((Int) × ((Int) × (Unit)))) × ((List ((Int) × ((Int) × (Unit)))) × ((List ((Int) × ((Int) × (Unit)))) × ((List (Int)) × (Unit)))))))) (h : Sm 1048576 (.pair (.int .i64) (.pair (.sl false (.pair (.int .i64) (.pair (.int .i64) .unit))) (.pair (.sl false (.pair (.int .i64) (.pair (.int .i64) .unit))) (.pair (.sl false (.pair (.int .i64) (.pair (.int .i64) .unit))) (.pair (.sl false (.pair (.int .i64) (.pair (.int .i64) .unit))) (.pair (.sl false (.pair (.int .i64) (.pair (.int .i64) .unit))) (.pair (.sl false (.int .i64)) .unit))))))) x) : Ev (fun n => laws_toInterval n x) x := by
  refine Ev.step ?_
  simp only [laws_toInterval.step]
  refine Ev.bind (laws_toRangeS.ev x.2.1 h.2.1) ?_
  refine Ev.bind (laws_toRangeS.ev x.2.2.1 h.2.2.1) ?_
  refine Ev.bind (laws_toRangeS.ev x.2.2.2.1 h.2.2.2.1) ?_
  refine Ev.bind (laws_toRangeS.ev x.2.2.2.2.1 h.2.2.2.2.1) ?_
  refine Ev.bind (laws_toRangeS.ev x.2.2.2.2.2.1 h.2.2.2.2.2.1) ?_
  refine Ev.bind (laws_toIntS.ev x.2.2.2.2.2.2.1 h.2.2.2.2.2.2.1) ?_
  exact Ev.pure
theorem spec_l9Numbers.ev (l : List Int) (hl : l.length ≤ 1048576) : Ev (fun n => spec_l9Numbers n l) (decide (l.length ≤ 1000) && risingI l) := by
  have go : ∀ d i, i + 1 + d = l.length → Ev (fun n => goRec spec_l9Numbers.step n (spec_l9Numbers.Pt.p7 l (l.length : Int) ((i + 1 : Nat) : Int))) (decide (l.length ≤ 1000) && (List.range' i d).all fun i => decide (l.getD i default < l.getD (i + 1) default)) := by
    intro d
    induction d with
    | zero =>
      intro i h
      refine Ev.step ?_
      simp only [spec_l9Numbers.step]
      exact Ev.no (decide_eq_false (by omega)) (Ev.pure' (by rw [List.range'_zero, List.all_nil, Bool.and_true]; exact decide_eq_decide.2 (by omega)))
    | succ d ih =>
      intro i h
      refine Ev.step ?_
      simp only [spec_l9Numbers.step, i64_pred (show i ≤ 4611686018427387904 by omega), i64_nat (show i + 1 ≤ 4611686018427387904 by omega), toNat_cast]
      rw [List.range'_succ, List.all_cons]
      refine Ev.yes (lt_yes (by omega)) (Ev.yes (decide_eq_true (by omega)) (Ev.yes (inB_nat (by omega)) (Ev.yes (inB_nat (by omega)) (Ev.cnd (fun c => Ev.pure' ?_) fun c => Ev.of_eq (ih (i + 1) (by omega)) ?_))))
      · have c := of_decide_eq_true c
        rw [decide_eq_false (show ¬ l.getD i default < l.getD (i + 1) default by omega)]; simp
      · have c := of_decide_eq_false c
        rw [decide_eq_true (show l.getD i default < l.getD (i + 1) default by omega), Bool.true_and]
  refine Ev.step ?_
  simp only [spec_l9Numbers.step]
  cases hl0 : l.length with
  | zero =>
    refine Ev.step ?_
    simp only [spec_l9Numbers.step, hl0]
    exact Ev.no (by simp) (Ev.pure' (by simp [risingI, hl0]))
  | succ k =>
    refine Ev.step ?_
    simp only [spec_l9Numbers.step]
    refine Ev.yes (decide_eq_true (by omega)) (Ev.no (by simp) ?_)
    have e0 : IntKind.wrap .i64 ((0 : Int) + 1) = ((0 + 1 : Nat) : Int) := by rw [w64] <;> omega
    rw [e0, ← hl0]
    have := go k 0 (by omega)
    rw [risingI, List.range_eq_range', show l.length - 1 = k by omega]
    exact this
theorem spec_l19Ranges.ev (l : List RG) (lo hi : Int) (hl : l.length ≤ 1048576) : Ev (fun n => spec_l19Ranges n l lo hi) (rangesB l lo hi) := by
  have go : ∀ d i, i + d = l.length → Ev (fun n => goRec spec_l19Ranges.step n (spec_l19Ranges.Pt.p7 l lo hi l (l.length : Int) (i : Int))) (decide (l.length ≤ 10) && (List.range' i d).all fun i => rangeB lo hi (l.getD i default)) := by
    intro d
    induction d with
    | zero =>
      intro i h
      rw [Nat.add_zero] at h; subst h
      refine Ev.step ?_
      simp only [spec_l19Ranges.step]
      exact Ev.no lt_no (Ev.pure' (by rw [List.range'_zero, List.all_nil, Bool.and_true]; exact decide_eq_decide.2 (by omega)))
    | succ d ih =>
      intro i h
      rw [List.range'_succ, List.all_cons]
      have ih' := ih (i + 1) (by omega)
      generalize ((List.range' (i + 1) d).all fun i => rangeB lo hi (l.getD i default)) = v at ih'
      have h18 : ∀ b, b = !rangeB lo hi (l.getD i default) → Ev (fun n => goRec spec_l19Ranges.step n (spec_l19Ranges.Pt.p18 l lo hi l (l.length : Int) (i : Int) b)) (decide (l.length ≤ 10) && (rangeB lo hi (l.getD i default) && v)) := by
        rintro b rfl
        refine Ev.step ?_
        simp only [spec_l19Ranges.step, i64_nat (show i ≤ 4611686018427387904 by omega)]
        exact Ev.cnd (fun c => Ev.pure' (by rw [Bool.not_eq_true'] at c; rw [c]; simp)) fun c => Ev.of_eq ih' (by rw [Bool.not_eq_false'] at c; rw [c]; simp)
      refine Ev.step ?_
      simp only [spec_l19Ranges.step, toNat_cast]
      generalize hr : l.getD i default = r at h18
      refine Ev.yes (lt_yes (by omega)) (Ev.yes (inB_nat (by omega)) (Ev.cnd (fun c => h18 _ ?_) fun c => Ev.cnd (fun c2 => h18 _ ?_) fun c2 => h18 _ ?_))
      · have c := of_decide_eq_true c; simp [rangeB, show ¬ lo ≤ r.1 by omega]
      · have c2 := of_decide_eq_true c2; simp [rangeB, show ¬ r.2.1 ≤ hi by omega]
      · have c := of_decide_eq_false c; have c2 := of_decide_eq_false c2
        simp only [rangeB, show lo ≤ r.1 by omega, show r.2.1 ≤ hi by omega, decide_true, Bool.and_true]
        rw [← decide_not]; exact decide_eq_decide.2 (by omega)
  refine Ev.step ?_
  simp only [spec_l19Ranges.step]
  have := go l.length 0 (by omega)
  rw [rangesB, List.range_eq_range']
  exact this
theorem spec_GoodInterval.free (z : Int) (m w dd mo y : List RG) (l : List Int) (hl : l.length ≤ 1048576) (hm : m.length ≤ 1048576) (hw : w.length ≤ 1048576) (hd : dd.length ≤ 1048576) (hmo : mo.length ≤ 1048576) (hy : y.length ≤ 1048576) : ∀ d i, i + d = l.length → Ev (fun n => goRec spec_GoodInterval.step n (spec_GoodInterval.Pt.p38 l (l.length : Int) (i : Int) z m w dd mo y l))
    (((List.range' i d).all fun i => freeB (l.getD i default)) && (rangesB m 0 1439 && rangesB w 0 6 && rangesB dd (-31) 31 && rangesB mo 1 12 && rangesB y 1970 40000)) := by
  intro d
  induction d with
  | zero =>
    intro i h
    rw [Nat.add_zero] at h; subst h
    refine Ev.step ?_
    simp only [spec_GoodInterval.step]
    refine Ev.no lt_no ?_
    refine Ev.bind (spec_l19Ranges.ev m _ _ hm) (Ev.cnd (fun c1 => ?_) fun c => Ev.pure' (by simp [c]))
    refine Ev.bind (spec_l19Ranges.ev w _ _ hw) (Ev.cnd (fun c2 => ?_) fun c => Ev.pure' (by simp [c]))
    refine Ev.bind (spec_l19Ranges.ev dd _ _ hd) (Ev.cnd (fun c3 => ?_) fun c => Ev.pure' (by simp [c]))
    refine Ev.bind (spec_l19Ranges.ev mo _ _ hmo) (Ev.cnd (fun c4 => ?_) fun c => Ev.pure' (by simp [c]))
    exact Ev.bind (spec_l19Ranges.ev y _ _ hy) (Ev.pure' (by simp [c1, c2, c3, c4]))
  | succ d ih =>
    intro i h
    rw [List.range'_succ, List.all_cons]
    have ih' := ih (i + 1) (by omega)
    generalize ((List.range' (i + 1) d).all fun i => freeB (l.getD i default)) = v at ih'
    refine Ev.step ?_
    simp only [spec_GoodInterval.step, toNat_cast, i64_nat (show i ≤ 4611686018427387904 by omega)]
    generalize l.getD i default = r
    refine Ev.yes (lt_yes (by omega)) (Ev.yes (inB_nat (by omega)) (Ev.cnd (fun c => Ev.pure' ?_) fun c => Ev.cnd (fun c2 => Ev.pure' ?_) fun c2 => Ev.of_eq ih' ?_))
    · have c := of_decide_eq_true c; simp [freeB, show ¬ 0 ≤ r by omega]
    · have c2 := of_decide_eq_true c2; simp [freeB, show ¬ r ≤ 20000000 by omega]
    · have c := of_decide_eq_false c; have c2 := of_decide_eq_false c2; simp [freeB, show 0 ≤ r by omega, show r ≤ 20000000 by omega]
theorem spec_GoodInterval.ev (x : ITV) (h : Sm 1048576 ITU x) : Ev (fun n => spec_GoodInterval n x) (itvB x) := by
  obtain ⟨z, m, w, l, mo, y, f, ⟨⟩⟩ := x
  obtain ⟨_, ⟨hm, _⟩, ⟨hw, _⟩, ⟨hl, _⟩, ⟨hmo, _⟩, ⟨hy, _⟩, ⟨hf, _⟩, _⟩ := h
  have hl : l.length ≤ 1048576 := hl
  have hf : f.length ≤ 1048576 := hf
  have key : ∀ d i, i + d = l.length → Ev (fun n => goRec spec_GoodInterval.step n (spec_GoodInterval.Pt.p7 l (l.length : Int) (i : Int) z m w l mo y f)) (((List.range' i d).all fun i => dayRS (l.getD i default)) && (decide (-1440 ≤ z) && decide (z ≤ 1440) && decide (f.length ≤ 10) && risingI f && (allG freeB f && (rangesB m 0 1439 && rangesB w 0 6 && rangesB l (-31) 31 && rangesB mo 1 12 && rangesB y 1970 40000)))) := by
    intro d
    induction d with
    | zero =>
      intro i hi
      rw [Nat.add_zero] at hi; subst hi
      have h27 : ∀ b, b = !(decide (-1440 ≤ z) && decide (z ≤ 1440) && decide (f.length ≤ 10) && risingI f) → Ev (fun n => goRec spec_GoodInterval.step n (spec_GoodInterval.Pt.p27 b z m w l mo y f)) (decide (-1440 ≤ z) && decide (z ≤ 1440) && decide (f.length ≤ 10) && risingI f && (allG freeB f && (rangesB m 0 1439 && rangesB w 0 6 && rangesB l (-31) 31 && rangesB mo 1 12 && rangesB y 1970 40000))) := by
        rintro b rfl
        refine Ev.step ?_
        simp only [spec_GoodInterval.step]
        refine Ev.cnd (fun c => Ev.pure' (by rw [Bool.not_eq_true'] at c; rw [c]; rfl)) fun c => ?_
        rw [Bool.not_eq_false'] at c
        rw [c, Bool.true_and, allG, List.range_eq_range']
        exact spec_GoodInterval.free z m w l mo y f hf hm hw hl hmo hy f.length 0 (by omega)
      rw [List.range'_zero, List.all_nil, Bool.true_and]
      refine Ev.step ?_
      simp only [spec_GoodInterval.step]
      refine Ev.no lt_no (Ev.cnd (fun c => h27 _ ?_) fun c1 => Ev.cnd (fun c => h27 _ ?_) fun c2 => Ev.cnd (fun c => h27 _ ?_) fun c3 => Ev.bind (spec_l9Numbers.ev f hf) (h27 _ ?_))
      · have c := of_decide_eq_true c; simp [show ¬ -1440 ≤ z by omega]
      · have c := of_decide_eq_true c; simp [show ¬ z ≤ 1440 by omega]
      · have c := of_decide_eq_true c; simp [show ¬ f.length ≤ 10 by omega]
      · have c1 := of_decide_eq_false c1; have c2 := of_decide_eq_false c2; have c3 := of_decide_eq_false c3
        simp [show -1440 ≤ z by omega, show z ≤ 1440 by omega, show f.length ≤ 10 by omega, show f.length ≤ 1000 by omega]
    | succ d ih =>
      intro i hi
      rw [List.range'_succ, List.all_cons]
      have ih' := ih (i + 1) (by omega)
      generalize ((List.range' (i + 1) d).all fun i => dayRS (l.getD i default)) = v at ih'
      generalize (decide (-1440 ≤ z) && decide (z ≤ 1440) && decide (f.length ≤ 10) && risingI f && (allG freeB f && (rangesB m 0 1439 && rangesB w 0 6 && rangesB l (-31) 31 && rangesB mo 1 12 && rangesB y 1970 40000))) = u at ih'
      have h18 : ∀ b, b = !dayRS (l.getD i default) → Ev (fun n => goRec spec_GoodInterval.step n (spec_GoodInterval.Pt.p18 l (l.length : Int) (i : Int) b z m w l mo y f)) (dayRS (l.getD i default) && v && u) := by
        rintro b rfl
        refine Ev.step ?_
        simp only [spec_GoodInterval.step, i64_nat (show i ≤ 4611686018427387904 by omega)]
        exact Ev.cnd (fun c => Ev.pure' (by rw [Bool.not_eq_true'] at c; rw [c]; rfl)) fun c => Ev.of_eq ih' (by rw [Bool.not_eq_false'] at c; rw [c]; rfl)
      refine Ev.step ?_
      simp only [spec_GoodInterval.step, toNat_cast]
      generalize l.getD i default = r at h18
      refine Ev.yes (lt_yes (by omega)) (Ev.yes (inB_nat (by omega)) (Ev.cnd (fun c => h18 _ ?_) fun c => Ev.cnd (fun c2 => h18 _ ?_) fun c2 => h18 _ ?_))
      · simp [dayRS, of_decide_eq_true c]
      · simp [dayRS, of_decide_eq_true c2]
      · simp only [dayRS, c, c2]
        cases decide (r.1 < 0) <;> cases decide (r.2.1 < 0) <;> rfl
  refine Ev.step ?_
  simp only [spec_GoodInterval.step]
  refine Ev.of_eq (key l.length 0 (by omega)) ?_
  rw [← List.range_eq_range']
  have e := days_same l (-31) 31
  simp only [allG] at e
  simp only [itvB, allG]
  generalize ((List.range l.length).all fun i => dayRS (l.getD i default)) = p at e ⊢
  generalize ((List.range l.length).all fun i => dayRB (l.getD i default)) = q at e ⊢
  revert e
  cases rangesB l (-31) 31 <;> cases p <;> cases q <;> simp [Bool.and_assoc, Bool.and_comm, Bool.and_left_comm]
theorem spec_l3Time.ev (b : Int) : Ev (fun n => spec_l3Time n b) (timeB b) := by
  refine Ev.step ?_
  simp only [spec_l3Time.step]
  exact Ev.cnd (fun h => Ev.pure' (by simp [timeB, h])) fun h => Ev.pure' (by simp [timeB, h])
theorem spec_l19Leap.ev (y : Int) (h : 0 ≤ y) : Ev (fun n => spec_l19Leap n y) (decide (lp y = 1)) := by
  refine Ev.step ?_
  simp only [spec_l19Leap.step]
  rw [Int.tmod_eq_emod_of_nonneg h, Int.tmod_eq_emod_of_nonneg h, Int.tmod_eq_emod_of_nonneg h]
  refine Ev.cnd (fun c => Ev.cnd (fun c2 => Ev.pure' ?_) fun c2 => Ev.pure' ?_) fun c => Ev.pure' ?_ <;> simp at * <;> simp [lp, *]
theorem spec_l19Year.ev (y : Int) (h : 0 ≤ y) : Ev (fun n => spec_l19Year n y) (yl y) := by
  refine Ev.step ?_
  simp only [spec_l19Year.step]
  have hl := lp_01 y
  refine Ev.bind (spec_l19Leap.ev y h) (Ev.cnd (fun c => Ev.pure' (α := Int) ?_) fun c => Ev.pure' (α := Int) ?_)
  · have := of_decide_eq_true c; simp only [yl]; omega
  · have := of_decide_eq_false c; simp only [yl]; omega
theorem spec_l19Month.ev (y m : Int) (h : 0 ≤ y) (h1 : 1 ≤ m) (h2 : m ≤ 12) : Ev (fun n => spec_l19Month n y m) (mon y m) := by
  refine Ev.step ?_
  simp only [spec_l19Month.step]
  have hin : inB m (List.length [(0 : Int), (31 : Int), (28 : Int), (31 : Int), (30 : Int), (31 : Int), (30 : Int), (31 : Int), (31 : Int), (30 : Int), (31 : Int), (30 : Int), (31 : Int)]) = true := by simp [inB]; omega
  have hl := lp_01 y
  refine Ev.cnd (fun c => Ev.bind (spec_l19Leap.ev y h) (Ev.cnd (fun c2 => Ev.pure' ?_) fun c2 => Ev.yes hin (Ev.pure' ?_))) fun c => Ev.yes hin (Ev.pure' ?_)
  · simp at c c2; simp [mon, c, c2]
  · have c2 := of_decide_eq_false c2
    have c := of_decide_eq_true c
    subst c
    have h0 : lp y = 0 := by omega
    simp [mon, h0]
  · simp at c
    have hm : m = 1 ∨ m = 3 ∨ m = 4 ∨ m = 5 ∨ m = 6 ∨ m = 7 ∨ m = 8 ∨ m = 9 ∨ m = 10 ∨ m = 11 ∨ m = 12 := by omega
    rcases hm with rfl | rfl | rfl | rfl | rfl | rfl | rfl | rfl | rfl | rfl | rfl <;> simp [mon]
theorem spec_DateOf.months (y m n w mi : Int) (hy : 0 ≤ y) (h1 : 1 ≤ m) (h2 : m ≤ 12) (hn : 0 ≤ n) (hn' : n < 400) (hm : cumd y m ≤ n) (hm' : n < cumd y m + mon y m) (d : Nat) : ∀ i : Int, 1 ≤ i → i ≤ m → (m - i).toNat ≤ d →
    Ev (fun k => goRec spec_DateOf.step k (spec_DateOf.Pt.p32 (n - cumd y i) 0 0 0 0 0 0 y i 0 0 w mi)) ((y, m, n - cumd y m + 1, mon y m, w, mi, ()) : DTE) := by
  induction d with
  | zero =>
    intro i hi hi' hd
    obtain rfl : i = m := by omega
    have hc := cumd_nn y i
    refine Ev.step ?_
    simp only [spec_DateOf.step]
    refine Ev.bind (spec_l19Month.ev y i hy h1 h2) (Ev.no (decide_eq_false (by omega)) (Ev.bind (spec_l19Month.ev y i hy h1 h2) ?_))
    rw [w64 (n := n - cumd y i + 1) (by omega) (by omega)]
    exact Ev.pure
  | succ d ih =>
    intro i hi hi' hd
    have hc := cumd_nn y i
    refine Ev.step ?_
    simp only [spec_DateOf.step]
    by_cases c : i = m
    · subst c
      refine Ev.bind (spec_l19Month.ev y i hy h1 h2) (Ev.no (decide_eq_false (by omega)) (Ev.bind (spec_l19Month.ev y i hy h1 h2) ?_))
      rw [w64 (n := n - cumd y i + 1) (by omega) (by omega)]
      exact Ev.pure
    · have hlt := mon_lt y m i n hi (by omega) h2 hm
      have hs := cumd_succ y i hi (by omega)
      have hb := mon_bd y i
      have e := ih (i + 1) (by omega) (by omega) (by omega)
      rw [hs, show n - (cumd y i + mon y i) = n - cumd y i - mon y i by omega] at e
      refine Ev.bind (spec_l19Month.ev y i hy hi (by omega)) (Ev.yes (decide_eq_true (by omega)) (Ev.bind (spec_l19Month.ev y i hy hi (by omega)) ?_))
      rw [w64 (n := n - cumd y i - mon y i) (by omega) (by omega), w64 (n := i + 1) (by omega) (by omega)]
      exact e
theorem spec_DateOf.years (day y w mi : Int) (r : DTE) (hd0 : 0 ≤ day) (hd1 : day ≤ 20000000) (hy : 1970 ≤ y) (h1 : dto y ≤ day) (h2 : day < dto (y + 1)) (e : Ev (fun k => goRec spec_DateOf.step k (spec_DateOf.Pt.p32 (day - dto y) 0 0 0 0 0 0 y 1 0 0 w mi)) r) (d : Nat) : ∀ i : Int, 1970 ≤ i → i ≤ y → (y - i).toNat ≤ d →
    Ev (fun k => goRec spec_DateOf.step k (spec_DateOf.Pt.p19 (day - dto i) 0 0 0 0 0 0 i 1 0 0 w mi)) r := by
  induction d with
  | zero =>
    intro i hi hi' hd
    obtain rfl : i = y := by omega
    have hs := dto_succ i
    refine Ev.step ?_
    simp only [spec_DateOf.step]
    exact Ev.bind (spec_l19Year.ev i (by omega)) (Ev.no (decide_eq_false (by omega)) e)
  | succ d ih =>
    intro i hi hi' hd
    have hs := dto_succ i
    refine Ev.step ?_
    simp only [spec_DateOf.step]
    by_cases c : i = y
    · subst c
      exact Ev.bind (spec_l19Year.ev i (by omega)) (Ev.no (decide_eq_false (by omega)) e)
    · have hl := dto_lt (i + 1) y (by omega)
      have hb := dto_bd i hi
      have hly := lp_01 i
      have hyl : yl i = 365 + lp i := rfl
      have e2 := ih (i + 1) (by omega) (by omega) (by omega)
      rw [hs, show day - (dto i + yl i) = day - dto i - yl i by omega] at e2
      have hb2 := dto_bd y (by omega)
      refine Ev.bind (spec_l19Year.ev i (by omega)) (Ev.yes (decide_eq_true (by omega)) (Ev.bind (spec_l19Year.ev i (by omega)) ?_))
      rw [w64 (n := day - dto i - yl i) (by omega) (by omega), w64 (n := i + 1) (by omega) (by omega)]
      exact e2
theorem spec_DateOf.ev (t z : Int) (hz : -9223372036854775808 ≤ z ∧ z ≤ 9223372036854775807) : Ev (fun n => spec_DateOf n t z) (dateV t z) := by
  have bad : dateIn t z = false → Ev (fun n => goRec spec_DateOf.step n (spec_DateOf.Pt.p4 t z true 0 0 0 0 0 0)) (dateV t z) := by
    intro h
    refine Ev.step ?_
    simp only [spec_DateOf.step]
    exact Ev.yes rfl (Ev.pure' (by simp [dateV, h] <;> rfl))
  refine Ev.step ?_
  simp only [spec_DateOf.step]
  refine Ev.bind (spec_l3Time.ev t) (Ev.cnd (fun c => bad (by simp at c; simp [dateIn, c])) fun c1 => Ev.cnd (fun c => bad (by have c := of_decide_eq_true c; simp [dateIn, show ¬ -1440 ≤ z by omega])) fun c2 => Ev.cnd (fun c => bad (by have c := of_decide_eq_true c; simp [dateIn, show ¬ z ≤ 1440 by omega])) fun c3 => ?_)
  replace c2 := of_decide_eq_false c2; replace c3 := of_decide_eq_false c3
  have ht : 0 ≤ t ∧ t ≤ 1000000000000 := by simp [timeB] at c1; exact c1
  have hT : timeB t = true := by simpa using c1
  rw [w64 (n := 60 * z) (by omega) (by omega), w64 (n := t + 60 * z) (by omega) (by omega)]
  by_cases c4 : t + 60 * z < 0
  · rw [decide_eq_true c4]; exact bad (by simp [dateIn, show ¬ 0 ≤ t + 60 * z by omega])
  rw [decide_eq_false c4]
  have hin : dateIn t z = true := by simp [dateIn, hT]; omega
  rw [dateV, if_pos hin]
  refine Ev.step ?_
  simp only [spec_DateOf.step]
  rw [w64 (n := 60 * z) (by omega) (by omega), w64 (n := t + 60 * z) (by omega) (by omega), Int.tdiv_eq_ediv_of_nonneg (show 0 ≤ t + 60 * z by omega), w64 (n := (t + 60 * z) / 60) (by omega) (by omega), Int.tdiv_eq_ediv_of_nonneg (show 0 ≤ (t + 60 * z) / 60 by omega), w64 (n := (t + 60 * z) / 60 / 1440) (by omega) (by omega),
    w64 (n := (t + 60 * z) / 60 / 1440 + 4) (by omega) (by omega), Int.tmod_eq_emod_of_nonneg (show 0 ≤ (t + 60 * z) / 60 / 1440 + 4 by omega), Int.tmod_eq_emod_of_nonneg (show 0 ≤ (t + 60 * z) / 60 by omega), show (t + 60 * z) / 60 / 1440 = (t + 60 * z) / 86400 by omega]
  generalize hday : (t + 60 * z) / 86400 = day
  have hday0 : 0 ≤ day := by omega
  have hday1 : day ≤ 20000000 := by omega
  obtain ⟨hy, hy1, hy2⟩ := yearOf_spec day hday0
  have hs := dto_succ (yearOf day)
  have hlp := lp_01 (yearOf day)
  have hyl : yl (yearOf day) = 365 + lp (yearOf day) := rfl
  obtain ⟨hm1, hm2, hm3, hm4⟩ := monthOf_spec (yearOf day) (day - dto (yearOf day)) (by omega) (by omega)
  have e := spec_DateOf.months (yearOf day) (monthOf (yearOf day) (day - dto (yearOf day))) (day - dto (yearOf day)) ((day + 4) % 7) ((t + 60 * z) / 60 % 1440) (by omega) hm1 hm2 (by omega) (by omega) hm3 hm4 12 1 (by omega) hm1 (by omega)
  rw [show cumd (yearOf day) 1 = 0 by simp [cumd], Int.sub_zero] at e
  have e2 := spec_DateOf.years day (yearOf day) _ _ _ hday0 hday1 hy hy1 hy2 e (yearOf day - 1970).toNat 1970 (by omega) hy (by omega)
  rw [dto_1970, Int.sub_zero] at e2
  exact Ev.no rfl e2
theorem spec_l19In.ev (l : List RG) (x : Int) (hl : l.length ≤ 1048576) : Ev (fun n => spec_l19In n l x) (inRB l x) := by
  have go : ∀ d i b, i + d = l.length → Ev (fun n => goRec spec_l19In.step n (spec_l19In.Pt.p9 x b l (l.length : Int) (i : Int))) (b || (List.range' i d).any fun i => decide ((l.getD i default).1 ≤ x) && decide (x ≤ (l.getD i default).2.1)) := by
    intro d
    induction d with
    | zero =>
      intro i b h
      rw [Nat.add_zero] at h; subst h
      refine Ev.step ?_
      simp only [spec_l19In.step]
      exact Ev.no lt_no (Ev.pure' (by simp))
    | succ d ih =>
      intro i b h
      rw [List.range'_succ, List.any_cons]
      have ih' := fun b => ih (i + 1) b (by omega)
      generalize ((List.range' (i + 1) d).any fun i => decide ((l.getD i default).1 ≤ x) && decide (x ≤ (l.getD i default).2.1)) = v at ih'
      refine Ev.step ?_
      simp only [spec_l19In.step, toNat_cast, i64_nat (show i ≤ 4611686018427387904 by omega)]
      generalize l.getD i default = r
      refine Ev.yes (lt_yes (by omega)) (Ev.yes (inB_nat (by omega)) (Ev.cnd (fun c => Ev.of_eq (ih' _) ?_) fun c => Ev.cnd (fun c2 => Ev.of_eq (ih' _) ?_) fun c2 => Ev.of_eq (ih' _) ?_))
      · simp [c]
      · simp [c, of_decide_eq_true c2]
      · simp [c, of_decide_eq_false c2]
  refine Ev.step ?_
  simp only [spec_l19In.step]
  have := go l.length 0 (decide (l.length = 0)) (by omega)
  rw [← List.range_eq_range'] at this
  have e : decide ((l.length : Int) = 0) = decide (l.length = 0) := decide_eq_decide.2 (by omega)
  rw [e]
  exact this
theorem spec_DayNumber.months (y m : Int) (hy : 0 ≤ y) (hm : m ≤ 12) (h1m : 1 ≤ m) (d : Nat) : ∀ (n i : Int), 1 ≤ i → i ≤ m → (m - i).toNat ≤ d → 0 ≤ n → n ≤ 100000000 + 31 * i → Ev (fun k => goRec spec_DayNumber.step k (spec_DayNumber.Pt.p32 y m n i)) (n + cumd y m - cumd y i) := by
  induction d with
  | zero =>
    intro n i h1 hi hd h0 hn
    obtain rfl : i = m := by omega
    refine Ev.step ?_
    simp only [spec_DayNumber.step]
    exact Ev.no (by simp) (Ev.pure' (α := Int) (by omega))
  | succ d ih =>
    intro n i h1 hi hd h0 hn
    refine Ev.step ?_
    simp only [spec_DayNumber.step]
    by_cases c : i < m
    · have hb := mon_bd y i
      have hc := cumd_succ y i h1 (by omega)
      refine Ev.yes (by simpa using c) (Ev.bind (spec_l19Month.ev y i hy h1 (by omega)) ?_)
      rw [w64 (n := n + mon y i) (by omega) (by omega), w64 (n := i + 1) (by omega) (by omega)]
      exact Ev.of_eq (α := Int) (ih (n + mon y i) (i + 1) (by omega) (by omega) (by omega) (by omega) (by omega)) (by omega)
    · obtain rfl : i = m := by omega
      exact Ev.no (by simp) (Ev.pure' (α := Int) (by omega))
theorem spec_DayNumber.years (y m : Int) (hy : 1970 ≤ y) (hy' : y ≤ 40000) (hm : m ≤ 12) (h1m : 1 ≤ m) (d : Nat) : ∀ (n i : Int), 1970 ≤ i → i ≤ y → (y - i).toNat ≤ d → 0 ≤ n → n ≤ 32 + 366 * (i - 1970) → Ev (fun k => goRec spec_DayNumber.step k (spec_DayNumber.Pt.p17 y m n i)) (n + dto y - dto i + cumd y m) := by
  induction d with
  | zero =>
    intro n i h1 hi hd h0 hn
    obtain rfl : i = y := by omega
    refine Ev.step ?_
    simp only [spec_DayNumber.step]
    refine Ev.no (by simp) (Ev.of_eq (α := Int) (spec_DayNumber.months i m (by omega) hm h1m (m - 1).toNat n 1 (by omega) h1m (by omega) h0 (by omega)) (by simp [cumd]))
  | succ d ih =>
    intro n i h1 hi hd h0 hn
    refine Ev.step ?_
    simp only [spec_DayNumber.step]
    by_cases c : i < y
    · have hl := lp_01 i
      have hyl : yl i = 365 + lp i := rfl
      have hs := dto_succ i
      refine Ev.yes (by simpa using c) (Ev.bind (spec_l19Year.ev i (by omega)) ?_)
      rw [w64 (n := n + yl i) (by omega) (by omega), w64 (n := i + 1) (by omega) (by omega)]
      exact Ev.of_eq (α := Int) (ih (n + yl i) (i + 1) (by omega) (by omega) (by omega) (by omega) (by omega)) (by omega)
    · obtain rfl : i = y := by omega
      refine Ev.no (by simp) (Ev.of_eq (α := Int) (spec_DayNumber.months i m (by omega) hm h1m (m - 1).toNat n 1 (by omega) h1m (by omega) h0 (by omega)) (by simp [cumd]))
theorem spec_DayNumber.ev (y m d : Int) : Ev (fun n => spec_DayNumber n y m d) (dayV y m d) := by
  have bad : dayIn y m d = false → Ev (fun n => goRec spec_DayNumber.step n (spec_DayNumber.Pt.p4 y m d true)) (dayV y m d) := by
    intro h
    refine Ev.step ?_
    simp only [spec_DayNumber.step]
    exact Ev.yes rfl (Ev.pure' (by simp [dayV, h]))
  refine Ev.step ?_
  simp only [spec_DayNumber.step]
  refine Ev.cnd (fun c => bad (by have := of_decide_eq_true c; simp [dayIn]; omega)) fun c1 => Ev.cnd (fun c => bad (by have := of_decide_eq_true c; simp [dayIn]; omega)) fun c2 => Ev.cnd (fun c => bad (by have := of_decide_eq_true c; simp [dayIn]; omega)) fun c3 => Ev.cnd (fun c => bad (by have := of_decide_eq_true c; simp [dayIn]; omega)) fun c4 => Ev.cnd (fun c => bad (by have := of_decide_eq_true c; simp [dayIn]; omega)) fun c5 => ?_
  replace c1 := of_decide_eq_false c1; replace c2 := of_decide_eq_false c2; replace c3 := of_decide_eq_false c3; replace c4 := of_decide_eq_false c4; replace c5 := of_decide_eq_false c5
  refine Ev.bind (spec_l19Month.ev y m (by omega) (by omega) (by omega)) ?_
  have hb := mon_bd y m
  by_cases c6 : mon y m < d
  · rw [decide_eq_true c6]; exact bad (by simp [dayIn]; omega)
  · rw [decide_eq_false c6]
    have hin : dayIn y m d = true := by simp [dayIn]; omega
    refine Ev.step ?_
    simp only [spec_DayNumber.step]
    rw [w64 (n := d - 1) (by omega) (by omega)]
    refine Ev.no rfl (Ev.of_eq (α := Int) (spec_DayNumber.years y m (by omega) (by omega) (by omega) (by omega) (y - 1970).toNat (d - 1) 1970 (by omega) (by omega) (by omega) (by omega) (by omega)) ?_)
    rw [dayV, if_pos hin, dto_1970]; omega
theorem spec_l9In.ev (l : List Int) (x : Int) (hl : l.length ≤ 1048576) : Ev (fun n => spec_l9In n l x) (inIB l x) := by
  have go : ∀ d i, i + d = l.length → Ev (fun n => goRec spec_l9In.step n (spec_l9In.Pt.p7 x l (l.length : Int) (i : Int))) ((List.range' i d).any fun i => decide (l.getD i default = x)) := by
    intro d
    induction d with
    | zero =>
      intro i h
      rw [Nat.add_zero] at h; subst h
      refine Ev.step ?_
      simp only [spec_l9In.step]
      exact Ev.no lt_no (Ev.pure' (by simp))
    | succ d ih =>
      intro i h
      rw [List.range'_succ, List.any_cons]
      refine Ev.step ?_
      simp only [spec_l9In.step, toNat_cast, i64_nat (show i ≤ 4611686018427387904 by omega)]
      refine Ev.yes (lt_yes (by omega)) (Ev.yes (inB_nat (by omega)) (Ev.cnd (fun c => Ev.pure' (by rw [c]; rfl)) fun c => Ev.of_eq (ih (i + 1) (by omega)) (by rw [c]; rfl)))
  refine Ev.step ?_
  simp only [spec_l9In.step]
  have := go l.length 0 (by omega)
  rw [← List.range_eq_range'] at this
  exact this
theorem spec_InInterval.ev (x : ITV) (t : Int) (h : Sm 1048576 ITU x) (hz : -9223372036854775808 ≤ x.1 ∧ x.1 ≤ 9223372036854775807) : Ev (fun n => spec_InInterval n x t) (inItvB x t) := by
  have h4 : ∀ b, b = !(itvB x && timeB t) → Ev (fun n => goRec spec_InInterval.step n (spec_InInterval.Pt.p4 t b x.1 x.2.1 x.2.2.1 x.2.2.2.1 x.2.2.2.2.1 x.2.2.2.2.2.1 x.2.2.2.2.2.2.1)) (inItvB x t) := by
    rintro b rfl
    refine Ev.step ?_
    simp only [spec_InInterval.step]
    refine Ev.cnd (fun c => Ev.pure' (by rw [Bool.not_eq_true'] at c; rw [inItvB, c]; rfl)) fun c => ?_
    rw [Bool.not_eq_false'] at c
    refine Ev.bind (spec_DateOf.ev t x.1 hz) ?_
    generalize hD : dateV t x.1 = D
    simp only [inItvB, c, hD, Bool.true_and]
    refine Ev.cnd (fun c => Ev.pure' (by rw [c]; rfl)) fun c1 => ?_
    rw [c1, Bool.not_false, Bool.true_and]
    have h21 : ∀ b, b = (inRB x.2.2.2.1 D.2.2.1 || inRB x.2.2.2.1 (IntKind.wrap .i64 ((IntKind.wrap .i64 (D.2.2.1 - D.2.2.2.1)) - (1 : Int)))) → Ev (fun n => goRec spec_InInterval.step n (spec_InInterval.Pt.p21 b x.1 x.2.1 x.2.2.1 x.2.2.2.1 x.2.2.2.2.1 x.2.2.2.2.2.1 x.2.2.2.2.2.2.1 D.1 D.2.1 D.2.2.1 D.2.2.2.1 D.2.2.2.2.1 D.2.2.2.2.2.1))
        (inRB x.2.1 D.2.2.2.2.2.1 && inRB x.2.2.1 D.2.2.2.2.1 && (inRB x.2.2.2.1 D.2.2.1 || inRB x.2.2.2.1 (IntKind.wrap .i64 ((IntKind.wrap .i64 (D.2.2.1 - D.2.2.2.1)) - (1 : Int)))) && inRB x.2.2.2.2.1 D.2.1 && inRB x.2.2.2.2.2.1 D.1 && !inIB x.2.2.2.2.2.2.1 (dayV D.1 D.2.1 D.2.2.1)) := by
      intro b hb
      rw [← hb]
      refine Ev.step ?_
      simp only [spec_InInterval.step]
      refine Ev.cnd (fun c2 => ?_) fun c => Ev.pure' (by rw [c]; simp)
      rw [c2, Bool.and_true]
      refine Ev.bind (spec_l19In.ev _ _ h.2.1.1) (Ev.cnd (fun c3 => ?_) fun c => Ev.pure' (by rw [c]; rfl))
      refine Ev.bind (spec_l19In.ev _ _ h.2.2.1.1) (Ev.cnd (fun c4 => ?_) fun c => Ev.pure' (by rw [c]; simp))
      refine Ev.bind (spec_l19In.ev _ _ h.2.2.2.2.1.1) (Ev.cnd (fun c5 => ?_) fun c => Ev.pure' (by rw [c]; simp))
      refine Ev.bind (spec_l19In.ev _ _ h.2.2.2.2.2.1.1) (Ev.cnd (fun c6 => ?_) fun c => Ev.pure' (by rw [c]; simp))
      exact Ev.bind (spec_DayNumber.ev _ _ _) (Ev.bind (spec_l9In.ev _ _ h.2.2.2.2.2.2.1.1) (Ev.pure' (by rw [c3, c4, c5, c6]; simp)))
    refine Ev.cnd (fun c => h21 _ ?_) fun c => Ev.bind (spec_l19In.ev _ _ h.2.2.2.1.1) (Ev.cnd (fun c2 => h21 _ (by rw [c2]; rfl)) fun c2 => Ev.bind (spec_l19In.ev _ _ h.2.2.2.1.1) (h21 _ (by rw [c2]; rfl)))
    have c := of_decide_eq_true c
    simp [inRB, show x.2.2.2.1.length = 0 by omega]
  refine Ev.step ?_
  simp only [spec_InInterval.step]
  refine Ev.bind (spec_GoodInterval.ev x h) (Ev.cnd (fun c => h4 _ (by rw [Bool.not_eq_true'] at c; rw [c]; rfl)) fun c => Ev.bind (spec_l3Time.ev t) (h4 _ ?_))
  rw [Bool.not_eq_false'] at c; rw [c]; rfl
theorem impl_goodRanges_1.ev (r : RG) (lo hi : Int) : Ev (fun n => impl_goodRanges_1 n r lo hi) (!rangeB lo hi r) := by
  refine Ev.step ?_
  simp only [impl_goodRanges_1.step]
  refine Ev.cnd (fun c => Ev.pure' ?_) fun c => Ev.cnd (fun c2 => Ev.pure' ?_) fun c2 => Ev.pure' ?_
  · have c := of_decide_eq_true c; simp [rangeB, show ¬ r.1 ≤ r.2.1 by omega]
  · have c2 : r.1 < lo := of_decide_eq_true c2
    simp [rangeB, show ¬ lo ≤ r.1 by omega]
  · have c := of_decide_eq_false c
    have c2 : ¬ r.1 < lo := of_decide_eq_false c2
    simp only [rangeB, show lo ≤ r.1 by omega, show r.1 ≤ r.2.1 by omega, decide_true, Bool.true_and]
    show decide (hi < r.2.1) = _
    rw [← decide_not]; exact decide_eq_decide.2 (by omega)
theorem slices_IndexFunc_Range_impl_goodRanges_1.ev (l : List ((Int) × ((Int) × (Unit)))) (a1 : Int) (a2 : Int) (p : ((Int) × ((Int) × (Unit))) → Bool) (hl : l.length ≤ 1048576) (hp : ∀ i, i < l.length → Ev (fun n => impl_goodRanges_1 n (l.getD i default) a1 a2) (p (l.getD i default))) : Ev (fun n => slices_IndexFunc_Range_impl_goodRanges_1 n l a1 a2) (match (List.range l.length).find? (fun i => p (l.getD i default)) with | some i => (i : Int) | none => -1) := by
  refine Ev.step ?_
  simp only [slices_IndexFunc_Range_impl_goodRanges_1.step]
  refine Ev.find (pt := fun i : Nat => slices_IndexFunc_Range_impl_goodRanges_1.Pt.p7 l [a1] 0 [a2] 0 ((List.length l) : Int) (i : Int)) (fun i hi => ⟨fun h v hv => ?_, fun h => ?_⟩) ?_
  · refine Ev.step ?_
    simp only [slices_IndexFunc_Range_impl_goodRanges_1.step, toNat_cast, i64_nat (show i ≤ 4611686018427387904 by omega)]
    exact Ev.yes (lt_yes hi) (Ev.yes (inB_nat hi) (Ev.bind (hp i hi) (Ev.no h hv)))
  · refine Ev.step ?_
    simp only [slices_IndexFunc_Range_impl_goodRanges_1.step, toNat_cast]
    exact Ev.yes (lt_yes hi) (Ev.yes (inB_nat hi) (Ev.bind (hp i hi) (Ev.yes h Ev.pure)))
  · refine Ev.step ?_
    simp only [slices_IndexFunc_Range_impl_goodRanges_1.step]
    exact Ev.no lt_no Ev.pure
theorem slices_ContainsFunc_Range_impl_goodRanges_1.ev (l : List ((Int) × ((Int) × (Unit)))) (a1 : Int) (a2 : Int) (p : ((Int) × ((Int) × (Unit))) → Bool) (hl : l.length ≤ 1048576) (hp : ∀ i, i < l.length → Ev (fun n => impl_goodRanges_1 n (l.getD i default) a1 a2) (p (l.getD i default))) : Ev (fun n => slices_ContainsFunc_Range_impl_goodRanges_1 n l a1 a2) ((List.range l.length).any fun i => p (l.getD i default)) := by
  refine Ev.step ?_
  simp only [slices_ContainsFunc_Range_impl_goodRanges_1.step]
  refine Ev.bind (slices_IndexFunc_Range_impl_goodRanges_1.ev l a1 a2 p hl hp) (Ev.pure' ?_)
  exact find_any
theorem impl_goodRanges.ev (l : List RG) (lo hi : Int) (hl : l.length ≤ 1048576) : Ev (fun n => impl_goodRanges n l lo hi) (rangesB l lo hi) := by
  refine Ev.step ?_
  simp only [impl_goodRanges.step]
  refine Ev.cnd (fun c => ?_) fun c => Ev.pure' (by have c := of_decide_eq_false c; simp [rangesB, show ¬ l.length ≤ 10 by omega])
  have c := of_decide_eq_true c
  refine Ev.bind (slices_ContainsFunc_Range_impl_goodRanges_1.ev l lo hi (fun r => !rangeB lo hi r) hl fun i hi' => impl_goodRanges_1.ev _ lo hi) (Ev.pure' ?_)
  simp [rangesB, show l.length ≤ 10 by omega, List.all_eq_not_any_not]
theorem impl_rising_int.ev (l : List Int) (hl : l.length ≤ 1048576) : Ev (fun n => impl_rising_int n l) (risingI l) := by
  refine Ev.step ?_
  simp only [impl_rising_int.step]
  refine Ev.allN (pt := fun i : Nat => impl_rising_int.Pt.p7 l ((i + 1 : Nat) : Int)) (fun i hi => ⟨fun hp v hv => ?_, fun hp => ?_⟩) ?_
  · have hp := of_decide_eq_true hp
    refine Ev.step ?_
    simp only [impl_rising_int.step, i64_pred (show i ≤ 4611686018427387904 by omega), i64_nat (show i + 1 ≤ 4611686018427387904 by omega), toNat_cast]
    exact Ev.yes (lt_yes (by omega)) (Ev.yes (inB_nat (by omega)) (Ev.yes (inB_nat (by omega)) (Ev.no (decide_eq_false (by omega)) hv)))
  · have hp := of_decide_eq_false hp
    refine Ev.step ?_
    simp only [impl_rising_int.step, i64_pred (show i ≤ 4611686018427387904 by omega), toNat_cast]
    exact Ev.yes (lt_yes (by omega)) (Ev.yes (inB_nat (by omega)) (Ev.yes (inB_nat (by omega)) (Ev.yes (decide_eq_true (by omega)) Ev.pure)))
  · refine Ev.step ?_
    simp only [impl_rising_int.step]
    exact Ev.no (decide_eq_false (by omega)) Ev.pure
theorem impl_GoodInterval.free (l : List Int) (hl : l.length ≤ 1048576) : ∀ d i b, i + d = l.length → Ev (fun n => goRec impl_GoodInterval.step n (impl_GoodInterval.Pt.p26 b l (l.length : Int) (i : Int))) (b && (List.range' i d).all fun i => freeB (l.getD i default)) := by
  intro d
  induction d with
  | zero =>
    intro i b h
    rw [Nat.add_zero] at h; subst h
    refine Ev.step ?_
    simp only [impl_GoodInterval.step]
    exact Ev.no lt_no (Ev.pure' (by simp))
  | succ d ih =>
    intro i b h
    rw [List.range'_succ, List.all_cons]
    have ih' := fun b => ih (i + 1) b (by omega)
    generalize ((List.range' (i + 1) d).all fun i => freeB (l.getD i default)) = v at ih'
    refine Ev.step ?_
    simp only [impl_GoodInterval.step, toNat_cast, i64_nat (show i ≤ 4611686018427387904 by omega)]
    generalize l.getD i default = r
    refine Ev.yes (lt_yes (by omega)) (Ev.yes (inB_nat (by omega)) (Ev.cnd (fun c => Ev.cnd (fun c2 => Ev.of_eq (ih' _) ?_) fun c2 => Ev.of_eq (ih' _) ?_) fun c => Ev.of_eq (ih' _) ?_))
    · simp [c, freeB, of_decide_eq_true c2]
    · simp [c, freeB, of_decide_eq_false c2]
    · simp [c]
theorem impl_GoodInterval.days (l : List RG) (hl : l.length ≤ 1048576) (z : Int) (m w mo y : List RG) (f : List Int) (hf : f.length ≤ 1048576) : ∀ d i b, i + d = l.length → Ev (fun n => goRec impl_GoodInterval.step n (impl_GoodInterval.Pt.p9 b l (l.length : Int) (i : Int) z m w l mo y f)) (b && ((List.range' i d).all fun i => dayRB (l.getD i default)) && allG freeB f) := by
  intro d
  induction d with
  | zero =>
    intro i b h
    rw [Nat.add_zero] at h; subst h
    refine Ev.step ?_
    simp only [impl_GoodInterval.step]
    refine Ev.no lt_no (Ev.of_eq (impl_GoodInterval.free f hf f.length 0 b (by omega)) ?_)
    rw [allG, List.range_eq_range']; simp
  | succ d ih =>
    intro i b h
    rw [List.range'_succ, List.all_cons]
    have ih' := fun b => ih (i + 1) b (by omega)
    generalize ((List.range' (i + 1) d).all fun i => dayRB (l.getD i default)) = v at ih'
    refine Ev.step ?_
    simp only [impl_GoodInterval.step, toNat_cast, i64_nat (show i ≤ 4611686018427387904 by omega)]
    generalize l.getD i default = r
    refine Ev.yes (lt_yes (by omega)) (Ev.yes (inB_nat (by omega)) (Ev.cnd (fun c => Ev.cnd (fun c2 => Ev.of_eq (ih' _) ?_) fun c2 => Ev.of_eq (ih' _) ?_) fun c => Ev.of_eq (ih' _) ?_))
    · simp [c, dayRB, of_decide_eq_true c2]
    · simp [c, dayRB, of_decide_eq_false c2]
    · simp [c]
theorem impl_GoodInterval.ev (x : ITV) (h : Sm 1048576 ITU x) : Ev (fun n => impl_GoodInterval n x) (itvB x) := by
  have h3 : ∀ b, Ev (fun n => goRec impl_GoodInterval.step n (impl_GoodInterval.Pt.p3 b x.1 x.2.1 x.2.2.1 x.2.2.2.1 x.2.2.2.2.1 x.2.2.2.2.2.1 x.2.2.2.2.2.2.1)) (b && allG dayRB x.2.2.2.1 && allG freeB x.2.2.2.2.2.2.1) := by
    intro b
    refine Ev.step ?_
    simp only [impl_GoodInterval.step]
    have := impl_GoodInterval.days x.2.2.2.1 h.2.2.2.1.1 x.1 x.2.1 x.2.2.1 x.2.2.2.2.1 x.2.2.2.2.2.1 x.2.2.2.2.2.2.1 h.2.2.2.2.2.2.1.1 x.2.2.2.1.length 0 b (by omega)
    rw [← List.range_eq_range'] at this
    exact this
  have bad : (∀ r, (r = itvB x) → r = false) → Ev (fun n => goRec impl_GoodInterval.step n (impl_GoodInterval.Pt.p3 false x.1 x.2.1 x.2.2.1 x.2.2.2.1 x.2.2.2.2.1 x.2.2.2.2.2.1 x.2.2.2.2.2.2.1)) (itvB x) := fun e => Ev.of_eq (h3 false) (by rw [e _ rfl]; rfl)
  refine Ev.step ?_
  simp only [impl_GoodInterval.step]
  refine Ev.cnd (fun c1 => ?_) fun c => bad (by rintro _ rfl; simp [itvB, of_decide_eq_false c])
  refine Ev.cnd (fun c2 => ?_) fun c => bad (by rintro _ rfl; simp [itvB, of_decide_eq_false c])
  refine Ev.bind (impl_goodRanges.ev _ _ _ h.2.1.1) (Ev.cnd (fun c3 => ?_) fun c => bad (by rintro _ rfl; simp [itvB, c]))
  refine Ev.bind (impl_goodRanges.ev _ _ _ h.2.2.1.1) (Ev.cnd (fun c4 => ?_) fun c => bad (by rintro _ rfl; simp [itvB, c]))
  refine Ev.bind (impl_goodRanges.ev _ _ _ h.2.2.2.1.1) (Ev.cnd (fun c5 => ?_) fun c => bad (by rintro _ rfl; simp [itvB, c]))
  refine Ev.bind (impl_goodRanges.ev _ _ _ h.2.2.2.2.1.1) (Ev.cnd (fun c6 => ?_) fun c => bad (by rintro _ rfl; simp [itvB, c]))
  refine Ev.bind (impl_goodRanges.ev _ _ _ h.2.2.2.2.2.1.1) (Ev.cnd (fun c7 => ?_) fun c => bad (by rintro _ rfl; simp [itvB, c]))
  refine Ev.cnd (fun c8 => ?_) fun c => bad (by rintro _ rfl; have c := of_decide_eq_false c; simp [itvB, show ¬ x.2.2.2.2.2.2.1.length ≤ 10 by omega])
  have c8 := of_decide_eq_true c8
  refine Ev.bind (impl_rising_int.ev _ h.2.2.2.2.2.2.1.1) (Ev.of_eq (h3 _) ?_)
  simp [itvB, of_decide_eq_true c1, of_decide_eq_true c2, c3, c4, c5, c6, c7, show x.2.2.2.2.2.2.1.length ≤ 10 by omega]
theorem impl_isTime.ev (b : Int) : Ev (fun n => impl_isTime n b) (timeB b) := by
  refine Ev.step ?_
  simp only [impl_isTime.step]
  exact Ev.cnd (fun h => Ev.pure' (by simp [timeB, h])) fun h => Ev.pure' (by simp [timeB, h])
theorem impl_daysTo.ev (y : Int) (h : 1970 ≤ y) (h' : y ≤ 100000) : Ev (fun n => impl_daysTo n y) (dto y) := by
  refine Ev.step ?_
  simp only [impl_daysTo.step]
  refine Ev.pure' ?_
  have t (c : Int) : Int.tdiv (y - 1) c = (y - 1) / c := Int.tdiv_eq_ediv_of_nonneg (by omega)
  rw [w64 (n := y - 1970) (by omega) (by omega), w64 (n := y - 1) (by omega) (by omega), t, t, t]
  rw [w64 (n := (y - 1970) * 365) (by omega) (by omega), w64 (n := (y - 1) / 4) (by omega) (by omega), w64 (n := (y - 1) / 100) (by omega) (by omega), w64 (n := (y - 1) / 400) (by omega) (by omega)]
  rw [w64 (n := (y - 1) / 4 - (y - 1) / 100) (by omega) (by omega), w64 (n := (y - 1) / 4 - (y - 1) / 100 + (y - 1) / 400) (by omega) (by omega), w64 (n := (y - 1970) * 365 + ((y - 1) / 4 - (y - 1) / 100 + (y - 1) / 400)) (by omega) (by omega), w64 (by omega) (by omega)]
  rfl
theorem impl_leap.ev (y : Int) (h : 0 ≤ y) : Ev (fun n => impl_leap n y) (decide (lp y = 1)) := by
  refine Ev.step ?_
  simp only [impl_leap.step]
  rw [Int.tmod_eq_emod_of_nonneg h, Int.tmod_eq_emod_of_nonneg h, Int.tmod_eq_emod_of_nonneg h]
  refine Ev.cnd (fun c => Ev.cnd (fun c2 => Ev.pure' ?_) fun c2 => Ev.pure' ?_) fun c => Ev.pure' ?_ <;> simp at * <;> simp [lp, *]
theorem impl_daysIn.ev (y m : Int) (h : 0 ≤ y) (h1 : 1 ≤ m) (h2 : m ≤ 12) : Ev (fun n => impl_daysIn n y m) (mon y m) := by
  refine Ev.step ?_
  simp only [impl_daysIn.step]
  have hin : inB m 13 = true := by simp [inB]; omega
  have hl := lp_01 y
  refine Ev.cnd (fun c => Ev.bind (impl_leap.ev y h) (Ev.cnd (fun c2 => Ev.pure' ?_) fun c2 => Ev.yes hin (Ev.pure' ?_))) fun c => Ev.yes hin (Ev.pure' ?_)
  · simp at c c2; simp [mon, c, c2]
  · have c2 := of_decide_eq_false c2
    have c := of_decide_eq_true c
    subst c
    have h0 : lp y = 0 := by omega
    simp [mon, h0]
  · simp at c
    have hm : m = 1 ∨ m = 3 ∨ m = 4 ∨ m = 5 ∨ m = 6 ∨ m = 7 ∨ m = 8 ∨ m = 9 ∨ m = 10 ∨ m = 11 ∨ m = 12 := by omega
    rcases hm with rfl | rfl | rfl | rfl | rfl | rfl | rfl | rfl | rfl | rfl | rfl <;> simp [mon]
theorem impl_DateOf.months (t day y m n : Int) (ht : 0 ≤ t ∧ t ≤ 2000000000000) (hdy : 0 ≤ day ∧ day ≤ 20000000) (hy : 0 ≤ y) (h1 : 1 ≤ m) (h2 : m ≤ 12) (hn : 0 ≤ n) (hn' : n < 400) (hm : cumd y m ≤ n) (hm' : n < cumd y m + mon y m) (d : Nat) : ∀ i : Int, 1 ≤ i → i ≤ m → (m - i).toNat ≤ d →
    Ev (fun k => goRec impl_DateOf.step k (impl_DateOf.Pt.p34 t day y (n - cumd y i) i 0 0 0 0 0 0)) ((y, m, n - cumd y m + 1, mon y m, (day + 4) % 7, t % 86400 / 60, ()) : DTE) := by
  have last : Ev (fun k => goRec impl_DateOf.step k (impl_DateOf.Pt.p34 t day y (n - cumd y m) m 0 0 0 0 0 0)) ((y, m, n - cumd y m + 1, mon y m, (day + 4) % 7, t % 86400 / 60, ()) : DTE) := by
    have hc := cumd_nn y m
    refine Ev.step ?_
    simp only [impl_DateOf.step]
    refine Ev.bind (impl_daysIn.ev y m hy h1 h2) (Ev.no (decide_eq_false (by omega)) (Ev.bind (impl_daysIn.ev y m hy h1 h2) ?_))
    rw [w64 (n := n - cumd y m + 1) (by omega) (by omega), w64 (n := day + 4) (by omega) (by omega), Int.tmod_eq_emod_of_nonneg (show 0 ≤ day + 4 by omega), Int.tmod_eq_emod_of_nonneg (show 0 ≤ t by omega), Int.tdiv_eq_ediv_of_nonneg (show 0 ≤ t % 86400 by omega), w64 (n := t % 86400 / 60) (by omega) (by omega)]
    exact Ev.pure
  induction d with
  | zero =>
    intro i hi hi' hd
    obtain rfl : i = m := by omega
    exact last
  | succ d ih =>
    intro i hi hi' hd
    by_cases c : i = m
    · subst c; exact last
    · have hc := cumd_nn y i
      have hlt := mon_lt y m i n hi (by omega) h2 hm
      have hs := cumd_succ y i hi (by omega)
      have hb := mon_bd y i
      have e := ih (i + 1) (by omega) (by omega) (by omega)
      rw [hs, show n - (cumd y i + mon y i) = n - cumd y i - mon y i by omega] at e
      refine Ev.step ?_
      simp only [impl_DateOf.step]
      refine Ev.bind (impl_daysIn.ev y i hy hi (by omega)) (Ev.yes (decide_eq_true (by omega)) (Ev.bind (impl_daysIn.ev y i hy hi (by omega)) ?_))
      rw [w64 (n := n - cumd y i - mon y i) (by omega) (by omega), w64 (n := i + 1) (by omega) (by omega)]
      exact e
theorem impl_DateOf.years (t day y : Int) (r : DTE) (hd0 : 0 ≤ day) (hd1 : day ≤ 20000000) (hy : 1970 ≤ y) (hy' : y ≤ 60000) (h1 : dto y ≤ day) (h2 : day < dto (y + 1)) (e : Ev (fun k => goRec impl_DateOf.step k (impl_DateOf.Pt.p34 t day y (day - dto y) 1 0 0 0 0 0 0)) r) (d : Nat) : ∀ i : Int, 1970 ≤ i → i ≤ y → (y - i).toNat ≤ d →
    Ev (fun k => goRec impl_DateOf.step k (impl_DateOf.Pt.p19 t day i 0 0 0 0 0 0)) r := by
  have hb := dto_bd y hy
  have last : Ev (fun k => goRec impl_DateOf.step k (impl_DateOf.Pt.p19 t day y 0 0 0 0 0 0)) r := by
    refine Ev.step ?_
    simp only [impl_DateOf.step]
    rw [w64 (n := y + 1) (by omega) (by omega)]
    refine Ev.bind (impl_daysTo.ev (y + 1) (by omega) (by omega)) (Ev.no (decide_eq_false (by omega)) (Ev.bind (impl_daysTo.ev y hy (by omega)) ?_))
    rw [w64 (n := day - dto y) (by omega) (by omega)]
    exact e
  induction d with
  | zero =>
    intro i hi hi' hd
    obtain rfl : i = y := by omega
    exact last
  | succ d ih =>
    intro i hi hi' hd
    by_cases c : i = y
    · subst c; exact last
    · have hl := dto_lt (i + 1) y (by omega)
      have e2 := ih (i + 1) (by omega) (by omega) (by omega)
      refine Ev.step ?_
      simp only [impl_DateOf.step]
      rw [w64 (n := i + 1) (by omega) (by omega)]
      exact Ev.bind (impl_daysTo.ev (i + 1) (by omega) (by omega)) (Ev.yes (decide_eq_true (by omega)) e2)
theorem impl_DateOf.ev (t z : Int) (hz : -9223372036854775808 ≤ z ∧ z ≤ 9223372036854775807) : Ev (fun n => impl_DateOf n t z) (dateV t z) := by
  have bad : dateIn t z = false → Ev (fun n => goRec impl_DateOf.step n (impl_DateOf.Pt.p4 t z true 0 0 0 0 0 0)) (dateV t z) := by
    intro h
    refine Ev.step ?_
    simp only [impl_DateOf.step]
    exact Ev.yes rfl (Ev.pure' (by simp [dateV, h] <;> rfl))
  refine Ev.step ?_
  simp only [impl_DateOf.step]
  refine Ev.bind (impl_isTime.ev t) (Ev.cnd (fun c => bad (by simp at c; simp [dateIn, c])) fun c1 => Ev.cnd (fun c => bad (by have c := of_decide_eq_true c; simp [dateIn, show ¬ -1440 ≤ z by omega])) fun c2 => Ev.cnd (fun c => bad (by have c := of_decide_eq_true c; simp [dateIn, show ¬ z ≤ 1440 by omega])) fun c3 => ?_)
  replace c2 := of_decide_eq_false c2; replace c3 := of_decide_eq_false c3
  have ht : 0 ≤ t ∧ t ≤ 1000000000000 := by simp [timeB] at c1; exact c1
  have hT : timeB t = true := by simpa using c1
  rw [w64 (n := 60 * z) (by omega) (by omega), w64 (n := t + 60 * z) (by omega) (by omega)]
  by_cases c4 : t + 60 * z < 0
  · rw [decide_eq_true c4]; exact bad (by simp [dateIn, show ¬ 0 ≤ t + 60 * z by omega])
  rw [decide_eq_false c4]
  have hin : dateIn t z = true := by simp [dateIn, hT]; omega
  rw [dateV, if_pos hin]
  refine Ev.step ?_
  simp only [impl_DateOf.step]
  rw [w64 (n := 60 * z) (by omega) (by omega), w64 (n := t + 60 * z) (by omega) (by omega), Int.tdiv_eq_ediv_of_nonneg (show 0 ≤ t + 60 * z by omega), w64 (n := (t + 60 * z) / 86400) (by omega) (by omega), Int.tdiv_eq_ediv_of_nonneg (show 0 ≤ (t + 60 * z) / 86400 by omega), w64 (n := (t + 60 * z) / 86400 / 366) (by omega) (by omega), w64 (n := 1970 + (t + 60 * z) / 86400 / 366) (by omega) (by omega)]
  have hmi : (t + 60 * z) / 60 % 1440 = (t + 60 * z) % 86400 / 60 := by omega
  rw [hmi]
  generalize hday : (t + 60 * z) / 86400 = day
  have hday0 : 0 ≤ day := by omega
  have hday1 : day ≤ 20000000 := by omega
  obtain ⟨hy, hy1, hy2⟩ := yearOf_spec day hday0
  have hyb := dto_bd (yearOf day) hy
  have hs := dto_succ (yearOf day)
  have hlp := lp_01 (yearOf day)
  have hyl : yl (yearOf day) = 365 + lp (yearOf day) := rfl
  obtain ⟨hm1, hm2, hm3, hm4⟩ := monthOf_spec (yearOf day) (day - dto (yearOf day)) (by omega) (by omega)
  have e := impl_DateOf.months (t + 60 * z) day (yearOf day) (monthOf (yearOf day) (day - dto (yearOf day))) (day - dto (yearOf day)) ⟨by omega, by omega⟩ ⟨hday0, hday1⟩ (by omega) hm1 hm2 (by omega) (by omega) hm3 hm4 12 1 (by omega) hm1 (by omega)
  rw [show cumd (yearOf day) 1 = 0 by simp [cumd], Int.sub_zero] at e
  have hg : 1970 + day / 366 ≤ yearOf day := by
    by_cases c : 1970 + day / 366 ≤ yearOf day
    · exact c
    · have a := dto_lt (yearOf day + 1) (1970 + day / 366) (by omega)
      have b := dto_bd (1970 + day / 366) (by omega)
      omega
  exact Ev.no rfl (impl_DateOf.years (t + 60 * z) day (yearOf day) _ hday0 hday1 hy (by omega) hy1 hy2 e (yearOf day - (1970 + day / 366)).toNat (1970 + day / 366) (by omega) hg (by omega))
theorem impl_inRanges.ev (l : List RG) (ns : List Int) (hl : l.length ≤ 1048576) (hn : ns.length ≤ 1048576) : Ev (fun n => impl_inRanges n l ns) (decide (l.length = 0) || (List.range l.length).any fun i => (List.range ns.length).any fun j => decide ((l.getD i default).1 ≤ ns.getD j default) && decide (ns.getD j default ≤ (l.getD i default).2.1)) := by
  have go : ∀ d i, i + d = l.length → Ev (fun n => goRec impl_inRanges.step n (impl_inRanges.Pt.p15 ns l (l.length : Int) (i : Int))) ((List.range' i d).any fun i => (List.range ns.length).any fun j => decide ((l.getD i default).1 ≤ ns.getD j default) && decide (ns.getD j default ≤ (l.getD i default).2.1)) := by
    intro d
    induction d with
    | zero =>
      intro i h
      rw [Nat.add_zero] at h; subst h
      refine Ev.step ?_
      simp only [impl_inRanges.step]
      exact Ev.no lt_no (Ev.pure' (by simp))
    | succ d ih =>
      intro i h
      rw [List.range'_succ, List.any_cons]
      have ih' := ih (i + 1) (by omega)
      generalize ((List.range' (i + 1) d).any fun i => (List.range ns.length).any fun j => decide ((l.getD i default).1 ≤ ns.getD j default) && decide (ns.getD j default ≤ (l.getD i default).2.1)) = v at ih'
      refine Ev.step ?_
      simp only [impl_inRanges.step, toNat_cast]
      refine Ev.yes (lt_yes (by omega)) (Ev.yes (inB_nat (by omega)) ?_)
      generalize l.getD i default = r
      have inner : ∀ e j, j + e = ns.length → Ev (fun n => goRec impl_inRanges.step n (impl_inRanges.Pt.p29 ns l (l.length : Int) (i : Int) ns (ns.length : Int) (j : Int) r.1 r.2.1)) (((List.range' j e).any fun j => decide (r.1 ≤ ns.getD j default) && decide (ns.getD j default ≤ r.2.1)) || v) := by
        intro e
        induction e with
        | zero =>
          intro j hj
          rw [Nat.add_zero] at hj; subst hj
          refine Ev.step ?_
          simp only [impl_inRanges.step, i64_nat (show i ≤ 4611686018427387904 by omega)]
          exact Ev.no lt_no (Ev.of_eq ih' (by simp))
        | succ e ihe =>
          intro j hj
          rw [List.range'_succ, List.any_cons]
          have ihe' := ihe (j + 1) (by omega)
          generalize ((List.range' (j + 1) e).any fun j => decide (r.1 ≤ ns.getD j default) && decide (ns.getD j default ≤ r.2.1)) = u at ihe'
          refine Ev.step ?_
          simp only [impl_inRanges.step, toNat_cast, i64_nat (show j ≤ 4611686018427387904 by omega)]
          generalize ns.getD j default = q
          refine Ev.yes (lt_yes (by omega)) (Ev.yes (inB_nat (by omega)) (Ev.cnd (fun c => Ev.cnd (fun c2 => Ev.pure' ?_) fun c2 => Ev.of_eq ihe' ?_) fun c => Ev.of_eq ihe' ?_))
          · simp [of_decide_eq_true c, of_decide_eq_true c2]
          · simp [of_decide_eq_false c2]
          · simp [of_decide_eq_false c]
      have := inner ns.length 0 (by omega)
      rw [← List.range_eq_range'] at this
      exact this
  refine Ev.step ?_
  simp only [impl_inRanges.step]
  refine Ev.cnd (fun c => Ev.pure' (by have c := of_decide_eq_true c; simp [show l.length = 0 by omega])) fun c => ?_
  have c := of_decide_eq_false c
  have := go l.length 0 (by omega)
  rw [← List.range_eq_range'] at this
  rw [decide_eq_false (show ¬ l.length = 0 by omega), Bool.false_or]
  exact this
theorem inRs_one (l : List RG) (a : Int) : (decide (l.length = 0) || (List.range l.length).any fun i => (List.range [a].length).any fun j => decide ((l.getD i default).1 ≤ [a].getD j default) && decide ([a].getD j default ≤ (l.getD i default).2.1)) = inRB l a := by
  simp [inRB, List.range_succ]
theorem inRs_two (l : List RG) (a b : Int) : (decide (l.length = 0) || (List.range l.length).any fun i => (List.range [a, b].length).any fun j => decide ((l.getD i default).1 ≤ [a, b].getD j default) && decide ([a, b].getD j default ≤ (l.getD i default).2.1)) = (inRB l a || inRB l b) := by
  have e : ∀ i, ((List.range [a, b].length).any fun j => decide ((l.getD i default).1 ≤ [a, b].getD j default) && decide ([a, b].getD j default ≤ (l.getD i default).2.1)) = ((decide ((l.getD i default).1 ≤ a) && decide (a ≤ (l.getD i default).2.1)) || (decide ((l.getD i default).1 ≤ b) && decide (b ≤ (l.getD i default).2.1))) := by
    intro i; simp [List.range_succ]
  simp only [e, inRB]
  rw [Bool.eq_iff_iff]
  simp only [Bool.or_eq_true, List.any_eq_true]
  constructor
  · rintro (h | ⟨i, hi, h | h⟩)
    · exact .inl (.inl h)
    · exact .inl (.inr ⟨i, hi, h⟩)
    · exact .inr (.inr ⟨i, hi, h⟩)
  · rintro ((h | ⟨i, hi, h⟩) | (h | ⟨i, hi, h⟩))
    · exact .inl h
    · exact .inr ⟨i, hi, .inl h⟩
    · exact .inl h
    · exact .inr ⟨i, hi, .inr h⟩
theorem impl_DayNumber.months (y m : Int) (hy : 0 ≤ y) (hm : m ≤ 12) (h1m : 1 ≤ m) (d : Nat) : ∀ (n i : Int), 1 ≤ i → i ≤ m → (m - i).toNat ≤ d → 0 ≤ n → n ≤ 100000000 + 31 * i → Ev (fun k => goRec impl_DayNumber.step k (impl_DayNumber.Pt.p17 y m n i)) (n + cumd y m - cumd y i) := by
  induction d with
  | zero =>
    intro n i h1 hi hd h0 hn
    obtain rfl : i = m := by omega
    refine Ev.step ?_
    simp only [impl_DayNumber.step]
    exact Ev.no (by simp) (Ev.pure' (α := Int) (by omega))
  | succ d ih =>
    intro n i h1 hi hd h0 hn
    refine Ev.step ?_
    simp only [impl_DayNumber.step]
    by_cases c : i < m
    · have hb := mon_bd y i
      have hc := cumd_succ y i h1 (by omega)
      refine Ev.yes (by simpa using c) (Ev.bind (impl_daysIn.ev y i hy h1 (by omega)) ?_)
      rw [w64 (n := n + mon y i) (by omega) (by omega), w64 (n := i + 1) (by omega) (by omega)]
      exact Ev.of_eq (α := Int) (ih (n + mon y i) (i + 1) (by omega) (by omega) (by omega) (by omega) (by omega)) (by omega)
    · obtain rfl : i = m := by omega
      exact Ev.no (by simp) (Ev.pure' (α := Int) (by omega))
theorem impl_DayNumber.ev (y m d : Int) : Ev (fun n => impl_DayNumber n y m d) (dayV y m d) := by
  have bad : dayIn y m d = false → Ev (fun n => goRec impl_DayNumber.step n (impl_DayNumber.Pt.p4 y m d true)) (dayV y m d) := by
    intro h
    refine Ev.step ?_
    simp only [impl_DayNumber.step]
    exact Ev.yes rfl (Ev.pure' (by simp [dayV, h]))
  refine Ev.step ?_
  simp only [impl_DayNumber.step]
  refine Ev.cnd (fun c => bad (by have := of_decide_eq_true c; simp [dayIn]; omega)) fun c1 => Ev.cnd (fun c => bad (by have := of_decide_eq_true c; simp [dayIn]; omega)) fun c2 => Ev.cnd (fun c => bad (by have := of_decide_eq_true c; simp [dayIn]; omega)) fun c3 => Ev.cnd (fun c => bad (by have := of_decide_eq_true c; simp [dayIn]; omega)) fun c4 => Ev.cnd (fun c => bad (by have := of_decide_eq_true c; simp [dayIn]; omega)) fun c5 => ?_
  replace c1 := of_decide_eq_false c1; replace c2 := of_decide_eq_false c2; replace c3 := of_decide_eq_false c3; replace c4 := of_decide_eq_false c4; replace c5 := of_decide_eq_false c5
  refine Ev.bind (impl_daysIn.ev y m (by omega) (by omega) (by omega)) ?_
  have hb := mon_bd y m
  by_cases c6 : mon y m < d
  · rw [decide_eq_true c6]; exact bad (by simp [dayIn]; omega)
  · rw [decide_eq_false c6]
    have hin : dayIn y m d = true := by simp [dayIn]; omega
    have hd := dto_bd y (by omega)
    refine Ev.step ?_
    simp only [impl_DayNumber.step]
    refine Ev.no rfl (Ev.bind (impl_daysTo.ev y (by omega) (by omega)) ?_)
    rw [w64 (n := dto y + d) (by omega) (by omega), w64 (n := dto y + d - 1) (by omega) (by omega)]
    refine Ev.of_eq (α := Int) (impl_DayNumber.months y m (by omega) (by omega) (by omega) (m - 1).toNat (dto y + d - 1) 1 (by omega) (by omega) (by omega) (by omega) (by omega)) ?_
    rw [dayV, if_pos hin]; simp [cumd]
theorem slices_Index_int.ev (l : List Int) (x : Int) (hl : l.length ≤ 1048576) : Ev (fun n => slices_Index_int n l x) (match (List.range l.length).find? (fun i => decide (l.getD i default = x)) with | some i => (i : Int) | none => -1) := by
  refine Ev.step ?_
  simp only [slices_Index_int.step]
  refine Ev.find (pt := fun i : Nat => slices_Index_int.Pt.p7 l x (l.length : Int) (i : Int)) (fun i hi => ⟨fun h v hv => ?_, fun h => ?_⟩) ?_
  · have h := of_decide_eq_false h
    refine Ev.step ?_
    simp only [slices_Index_int.step, toNat_cast, i64_nat (show i ≤ 4611686018427387904 by omega)]
    exact Ev.yes (lt_yes hi) (Ev.yes (inB_nat hi) (Ev.no (decide_eq_false fun e => h e.symm) hv))
  · have h := of_decide_eq_true h
    refine Ev.step ?_
    simp only [slices_Index_int.step, toNat_cast]
    exact Ev.yes (lt_yes hi) (Ev.yes (inB_nat hi) (Ev.yes (decide_eq_true h.symm) Ev.pure))
  · refine Ev.step ?_
    simp only [slices_Index_int.step]
    exact Ev.no lt_no Ev.pure
theorem slices_Contains_int.ev (l : List Int) (x : Int) (hl : l.length ≤ 1048576) : Ev (fun n => slices_Contains_int n l x) (inIB l x) := by
  refine Ev.step ?_
  simp only [slices_Contains_int.step]
  exact Ev.bind (slices_Index_int.ev l x hl) (Ev.pure' find_any)
theorem impl_InInterval.ev (x : ITV) (t : Int) (h : Sm 1048576 ITU x) (hz : -9223372036854775808 ≤ x.1 ∧ x.1 ≤ 9223372036854775807) : Ev (fun n => impl_InInterval n x t) (inItvB x t) := by
  have h4 : ∀ b, b = !(itvB x && timeB t) → Ev (fun n => goRec impl_InInterval.step n (impl_InInterval.Pt.p4 t b x.1 x.2.1 x.2.2.1 x.2.2.2.1 x.2.2.2.2.1 x.2.2.2.2.2.1 x.2.2.2.2.2.2.1)) (inItvB x t) := by
    rintro b rfl
    refine Ev.step ?_
    simp only [impl_InInterval.step]
    refine Ev.cnd (fun c => Ev.pure' (by rw [Bool.not_eq_true'] at c; rw [inItvB, c]; rfl)) fun c => ?_
    rw [Bool.not_eq_false'] at c
    refine Ev.bind (impl_DateOf.ev t x.1 hz) ?_
    generalize hD : dateV t x.1 = D
    simp only [inItvB, c, hD, Bool.true_and]
    refine Ev.cnd (fun c => Ev.pure' (by rw [c]; rfl)) fun c1 => ?_
    rw [c1, Bool.not_false, Bool.true_and]
    refine Ev.bind (Ev.of_eq (impl_inRanges.ev _ _ h.2.1.1 (by simp)) (inRs_one _ _)) (Ev.cnd (fun c2 => ?_) fun c => Ev.pure' (by rw [c]; rfl))
    rw [c2, Bool.true_and]
    refine Ev.bind (Ev.of_eq (impl_inRanges.ev _ _ h.2.2.1.1 (by simp)) (inRs_one _ _)) (Ev.cnd (fun c3 => ?_) fun c => Ev.pure' (by rw [c]; rfl))
    rw [c3, Bool.true_and]
    refine Ev.bind (Ev.of_eq (impl_inRanges.ev _ _ h.2.2.2.1.1 (by simp)) (inRs_two _ _ _)) (Ev.cnd (fun c4 => ?_) fun c => Ev.pure' (by rw [c]; rfl))
    rw [c4, Bool.true_and]
    refine Ev.bind (Ev.of_eq (impl_inRanges.ev _ _ h.2.2.2.2.1.1 (by simp)) (inRs_one _ _)) (Ev.cnd (fun c5 => ?_) fun c => Ev.pure' (by rw [c]; rfl))
    rw [c5, Bool.true_and]
    refine Ev.bind (Ev.of_eq (impl_inRanges.ev _ _ h.2.2.2.2.2.1.1 (by simp)) (inRs_one _ _)) (Ev.cnd (fun c6 => ?_) fun c => Ev.pure' (by rw [c]; rfl))
    rw [c6, Bool.true_and]
    exact Ev.bind (impl_DayNumber.ev _ _ _) (Ev.bind (slices_Contains_int.ev _ _ h.2.2.2.2.2.2.1.1) Ev.pure)
  refine Ev.step ?_
  simp only [impl_InInterval.step]
  refine Ev.bind (impl_GoodInterval.ev x h) (Ev.cnd (fun c => h4 _ (by rw [Bool.not_eq_true'] at c; rw [c]; rfl)) fun c => Ev.bind (impl_isTime.ev t) (h4 _ ?_))
  rw [Bool.not_eq_false'] at c; rw [c]; rfl
theorem laws_eqRange.ev (x y : (Int) × ((Int) × (Unit))) (hx : Sm 1048576 (.pair (.int .i64) (.pair (.int .i64) .unit)) x) (hy : Sm 1048576 (.pair (.int .i64) (.pair (.int .i64) .unit)) y) : Ev (fun n => laws_eqRange n x y) (eqB x y) := by
  refine Ev.step ?_
  simp only [laws_eqRange.step]
  refine Ev.cnd (fun h => Ev.pure' (eqB_no fun e => by subst e; simp [seq, eqB] at h).symm) fun h1 => ?_
  replace h1 : x.1 = y.1 := by simpa [seq, eqB] using h1
  refine Ev.cnd (fun h => Ev.pure' (eqB_no fun e => by subst e; simp [seq, eqB] at h).symm) fun h2 => ?_
  replace h2 : x.2.1 = y.2.1 := by simpa [seq, eqB] using h2
  exact Ev.pure' (eqB_yes (Prod.ext h1 (Prod.ext h2 rfl))).symm
theorem laws_eqRangeS.loop (l m : List ((Int) × ((Int) × (Unit)))) (hl : Sm 1048576 (.sl false (.pair (.int .i64) (.pair (.int .i64) .unit))) l) (hm : Sm 1048576 (.sl false (.pair (.int .i64) (.pair (.int .i64) .unit))) m) (hlm : l.length = m.length) : ∀ d i, i + d = l.length → (∀ j, j < i → l.getD j default = m.getD j default) → Ev (fun n => goRec laws_eqRangeS.step n (.p15 l m (i : Int))) (eqB l m) := by
  have hk : l.length ≤ 1048576 := hl.1
  intro d
  induction d with
  | zero =>
    intro i hd hj
    rw [Nat.add_zero] at hd
    subst hd
    refine Ev.step ?_
    simp only [laws_eqRangeS.step]
    exact Ev.no lt_no (Ev.pure' (eqB_yes (ext_getD (d := default) hlm (fun j hj2 => hj j (by omega)))).symm)
  | succ d ih =>
    intro i hd hj
    have hi : i < l.length := by omega
    refine Ev.step ?_
    simp only [laws_eqRangeS.step, toNat_cast]
    refine Ev.yes (lt_yes hi) (Ev.yes (inB_nat hi) (Ev.yes (inB_nat (by omega)) ?_))
    refine Ev.bind (laws_eqRange.ev (l.getD i default) (m.getD i default) (hl.2 _ (getD_mem hi)) (hm.2 _ (getD_mem (by omega)))) ?_
    refine Ev.cnd (fun h => Ev.pure' (eqB_no fun e => by subst e; simp [seq, eqB] at h).symm) fun h => ?_
    rw [i64_nat (by omega)]
    refine ih (i + 1) (by omega) fun j hj2 => ?_
    by_cases e : j = i
    · subst e; simpa [seq, eqB] using h
    · exact hj j (by omega)
theorem laws_eqRangeS.ev (l m : List ((Int) × ((Int) × (Unit)))) (hl : Sm 1048576 (.sl false (.pair (.int .i64) (.pair (.int .i64) .unit))) l) (hm : Sm 1048576 (.sl false (.pair (.int .i64) (.pair (.int .i64) .unit))) m) : Ev (fun n => laws_eqRangeS n l m) (eqB l m) := by
  refine Ev.step ?_
  simp only [laws_eqRangeS.step]
  refine Ev.cnd (fun h => Ev.pure' (eqB_no fun e => by subst e; simp at h).symm) fun h => ?_
  replace h : l.length = m.length := by simp at h; omega
  exact laws_eqRangeS.loop l m hl hm h l.length 0 (by omega) (by omega)
theorem laws_eqIntS.loop (l m : List (Int)) (hl : Sm 1048576 (.sl false (.int .i64)) l) (hm : Sm 1048576 (.sl false (.int .i64)) m) (hlm : l.length = m.length) : ∀ d i, i + d = l.length → (∀ j, j < i → l.getD j default = m.getD j default) → Ev (fun n => goRec laws_eqIntS.step n (.p15 l m (i : Int))) (eqB l m) := by
  have hk : l.length ≤ 1048576 := hl.1
  intro d
  induction d with
  | zero =>
    intro i hd hj
    rw [Nat.add_zero] at hd
    subst hd
    refine Ev.step ?_
    simp only [laws_eqIntS.step]
    exact Ev.no lt_no (Ev.pure' (eqB_yes (ext_getD (d := default) hlm (fun j hj2 => hj j (by omega)))).symm)
  | succ d ih =>
    intro i hd hj
    have hi : i < l.length := by omega
    refine Ev.step ?_
    simp only [laws_eqIntS.step, toNat_cast]
    refine Ev.yes (lt_yes hi) (Ev.yes (inB_nat hi) (Ev.yes (inB_nat (by omega)) ?_))
    refine Ev.cnd (fun h => Ev.pure' (eqB_no fun e => by subst e; simp [seq, eqB] at h).symm) fun h => ?_
    rw [i64_nat (by omega)]
    refine ih (i + 1) (by omega) fun j hj2 => ?_
    by_cases e : j = i
    · subst e; simpa [seq, eqB] using h
    · exact hj j (by omega)
theorem laws_eqIntS.ev (l m : List (Int)) (hl : Sm 1048576 (.sl false (.int .i64)) l) (hm : Sm 1048576 (.sl false (.int .i64)) m) : Ev (fun n => laws_eqIntS n l m) (eqB l m) := by
  refine Ev.step ?_
  simp only [laws_eqIntS.step]
  refine Ev.cnd (fun h => Ev.pure' (eqB_no fun e => by subst e; simp at h).symm) fun h => ?_
  replace h : l.length = m.length := by simp at h; omega
  exact laws_eqIntS.loop l m hl hm h l.length 0 (by omega) (by omega)
theorem laws_eqInterval.ev (x y : (Int) × ((List ((Int) × ((Int) × (Unit)))) × ((List ((Int) × ((Int) × (Unit)))) × ((List ((Int) × ((Int) × (Unit)))) × ((List ((Int) × ((Int) × (Unit)))) × ((List ((Int) × ((Int) × (Unit)))) × ((List (Int)) × (Unit)))))))) (hx : Sm 1048576 (.pair (.int .i64) (.pair (.sl false (.pair (.int .i64) (.pair (.int .i64) .unit))) (.pair (.sl false (.pair (.int .i64) (.pair (.int .i64) .unit))) (.pair (.sl false (.pair (.int .i64) (.pair (.int .i64) .unit))) (.pair (.sl false (.pair (.int .i64) (.pair (.int .i64) .unit))) (.pair (.sl false (.pair (.int .i64) (.pair (.int .i64) .unit))) (.pair (.sl false (.int .i64)) .unit))))))) x) (hy : Sm 1048576 (.pair (.int .i64) (.pair (.sl false (.pair (.int .i64) (.pair (.int .i64) .unit))) (.pair (.sl false (.pair (.int .i64) (.pair (.int .i64) .unit))) (.pair (.sl false (.pair (.int .i64) (.pair (.int .i64) .unit))) (.pair (.sl false (.pair (.int .i64) (.pair (.int .i64) .unit))) (.pair (.sl false (.pair (.int .i64) (.pair (.int .i64) .unit))) (.pair (.sl false (.int .i64)) .unit))))))) y) : Ev (fun n => laws_eqInterval n x y) (eqB x y) := by
  refine Ev.step ?_
  simp only [laws_eqInterval.step]
  refine Ev.cnd (fun h => Ev.pure' (eqB_no fun e => by subst e; simp [seq, eqB] at h).symm) fun h1 => ?_
  replace h1 : x.1 = y.1 := by simpa [seq, eqB] using h1
  refine Ev.bind (laws_eqRangeS.ev x.2.1 y.2.1 hx.2.1 hy.2.1) ?_
  refine Ev.cnd (fun h => Ev.pure' (eqB_no fun e => by subst e; simp [seq, eqB] at h).symm) fun h2 => ?_
  replace h2 : x.2.1 = y.2.1 := by simpa [seq, eqB] using h2
  refine Ev.bind (laws_eqRangeS.ev x.2.2.1 y.2.2.1 hx.2.2.1 hy.2.2.1) ?_
  refine Ev.cnd (fun h => Ev.pure' (eqB_no fun e => by subst e; simp [seq, eqB] at h).symm) fun h3 => ?_
  replace h3 : x.2.2.1 = y.2.2.1 := by simpa [seq, eqB] using h3
  refine Ev.bind (laws_eqRangeS.ev x.2.2.2.1 y.2.2.2.1 hx.2.2.2.1 hy.2.2.2.1) ?_
  refine Ev.cnd (fun h => Ev.pure' (eqB_no fun e => by subst e; simp [seq, eqB] at h).symm) fun h4 => ?_
  replace h4 : x.2.2.2.1 = y.2.2.2.1 := by simpa [seq, eqB] using h4
  refine Ev.bind (laws_eqRangeS.ev x.2.2.2.2.1 y.2.2.2.2.1 hx.2.2.2.2.1 hy.2.2.2.2.1) ?_
  refine Ev.cnd (fun h => Ev.pure' (eqB_no fun e => by subst e; simp [seq, eqB] at h).symm) fun h5 => ?_
  replace h5 : x.2.2.2.2.1 = y.2.2.2.2.1 := by simpa [seq, eqB] using h5
  refine Ev.bind (laws_eqRangeS.ev x.2.2.2.2.2.1 y.2.2.2.2.2.1 hx.2.2.2.2.2.1 hy.2.2.2.2.2.1) ?_
  refine Ev.cnd (fun h => Ev.pure' (eqB_no fun e => by subst e; simp [seq, eqB] at h).symm) fun h6 => ?_
  replace h6 : x.2.2.2.2.2.1 = y.2.2.2.2.2.1 := by simpa [seq, eqB] using h6
  refine Ev.bind (laws_eqIntS.ev x.2.2.2.2.2.2.1 y.2.2.2.2.2.2.1 hx.2.2.2.2.2.2.1 hy.2.2.2.2.2.2.1) ?_
  refine Ev.cnd (fun h => Ev.pure' (eqB_no fun e => by subst e; simp [seq, eqB] at h).symm) fun h7 => ?_
  replace h7 : x.2.2.2.2.2.2.1 = y.2.2.2.2.2.2.1 := by simpa [seq, eqB] using h7
  exact Ev.pure' (eqB_yes (Prod.ext h1 (Prod.ext h2 (Prod.ext h3 (Prod.ext h4 (Prod.ext h5 (Prod.ext h6 (Prod.ext h7 rfl)))))))).symm
theorem laws_FnExactInInterval.ev (x : ITV) (t : Int) (hw : Wf ITU x) (ht : Wf (.int .i64) t) : Ev (fun n => laws_FnExactInInterval n x t) true := by
  have hz := wf_i64 hw.1
  refine Ev.step ?_
  simp only [laws_FnExactInInterval.step]
  obtain ⟨r, h1, h2, h3⟩ := laws_szInterval.ev x 1048576 (by omega) (by omega) hw
  refine Ev.bind h1 (Ev.cnd (fun _ => Ev.pure) fun c => ?_)
  have hs := h3 (by simpa using c)
  refine Ev.bind (laws_toInterval.ev x hs) (Ev.bind (spec_InInterval.ev x t hs hz) (Ev.bind (laws_toInterval.ev x hs) (Ev.bind (impl_InInterval.ev x t hs hz) (Ev.no (by simp) (Ev.bind (laws_toInterval.ev x hs) (Ev.bind (laws_eqInterval.ev x x hs hs) (Ev.no (by simp [eqB]) Ev.pure)))))))
end Go.II
