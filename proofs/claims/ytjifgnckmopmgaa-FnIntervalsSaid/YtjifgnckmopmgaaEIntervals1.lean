/- What these functions come to, part 1. -/
import Derived.Test.YtjifgnckmopmgaaV1
import Derived.Test.YtjifgnckmopmgaaV2
import Derived.Test.YtjifgnckmopmgaaV3
import Derived.Test.YtjifgnckmopmgaaFIntervals1
open Go Go.VM
set_option maxRecDepth 100000
namespace Go.IV
set_option linter.unusedVariables false
set_option linter.unusedSimpArgs false
abbrev MT := ByteArray × Int × ByteArray × Unit
def matcherB (x : MT) : Bool := nameB x.1 && decide (1 ≤ x.2.1) && decide (x.2.1 ≤ 4) && decide (x.2.2.1.size ≤ 100) && printB x.2.2.1 && (decide (x.2.1 < 3) || (alts x.2.2.1).isSome)
def matchersB (l : List MT) : Bool := decide (l.length ≤ 10) && (List.range l.length).all fun i => matcherB (l.getD i default)
abbrev MU : U := .pair .str (.pair (.int .i64) (.pair .str .unit))
abbrev SIL := ByteArray × List MT × Int × Int × Unit
abbrev SIU : U := .pair .str (.pair (.sl false MU) (.pair (.int .i64) (.pair (.int .i64) .unit)))
def silB (l : List SIL) (i : Nat) : Bool := nameB (l.getD i default).1 && matchersB (l.getD i default).2.1 && decide ((l.getD i default).2.1.length ≠ 0) && timeB (l.getD i default).2.2.1 && timeB (l.getD i default).2.2.2.1 &&
  decide ((l.getD i default).2.2.1 ≤ (l.getD i default).2.2.2.1) && (decide (i = 0) || decide (cmpT (l.getD (i - 1) default).1 (l.getD i default).1 < 0))
def silsB (l : List SIL) : Bool := decide (l.length ≤ 50) && (List.range l.length).all (silB l)
/-- texts that rise -/
def risingB (l : List ByteArray) : Bool := (List.range (l.length - 1)).all fun i => decide (cmpT (l.getD i default) (l.getD (i + 1) default) < 0)
def namesB (l : List ByteArray) : Bool := decide (l.length ≤ 10) && risingB l && (List.range l.length).all fun i => nameB (l.getD i default)
abbrev INH := List MT × List MT × List ByteArray × Unit
abbrev INU : U := .pair (.sl false MU) (.pair (.sl false MU) (.pair (.sl false .str) .unit))
def inhB (x : INH) : Bool := matchersB x.1 && matchersB x.2.1 && decide (x.1.length ≠ 0) && decide (x.2.1.length ≠ 0) && namesB x.2.2.1
def inhsB (l : List INH) : Bool := decide (l.length ≤ 20) && (List.range l.length).all fun i => inhB (l.getD i default)
def lp (y : Int) : Int := if y % 4 = 0 ∧ (y % 100 ≠ 0 ∨ y % 400 = 0) then 1 else 0
def yl (y : Int) : Int := 365 + lp y
def dto (y : Int) : Int := (y - 1970) * 365 + ((y - 1) / 4 - (y - 1) / 100 + (y - 1) / 400) - 477
def mon (y m : Int) : Int := if m = 2 then 28 + lp y else if m = 4 ∨ m = 6 ∨ m = 9 ∨ m = 11 then 30 else 31
def cumd (y m : Int) : Int := if m ≤ 1 then 0 else if m = 2 then 31 else if m = 3 then 59 + lp y else if m = 4 then 90 + lp y else if m = 5 then 120 + lp y else if m = 6 then 151 + lp y else if m = 7 then 181 + lp y else if m = 8 then 212 + lp y else if m = 9 then 243 + lp y else if m = 10 then 273 + lp y else if m = 11 then 304 + lp y else if m = 12 then 334 + lp y else 365 + lp y
noncomputable def yearOf (day : Int) : Int := @dite _ (∃ y, 1970 ≤ y ∧ dto y ≤ day ∧ day < dto (y + 1)) (Classical.propDecidable _) (fun h => h.choose) (fun _ => 0)
noncomputable def monthOf (y n : Int) : Int := @dite _ (∃ m, 1 ≤ m ∧ m ≤ 12 ∧ cumd y m ≤ n ∧ n < cumd y m + mon y m) (Classical.propDecidable _) (fun h => h.choose) (fun _ => 0)
abbrev DTE := Int × Int × Int × Int × Int × Int × Unit
noncomputable def dateOfDay (day mi : Int) : DTE := (yearOf day, monthOf (yearOf day) (day - dto (yearOf day)), day - dto (yearOf day) - cumd (yearOf day) (monthOf (yearOf day) (day - dto (yearOf day))) + 1, mon (yearOf day) (monthOf (yearOf day) (day - dto (yearOf day))), (day + 4) % 7, mi, ())
def dateIn (t z : Int) : Bool := timeB t && decide (-1440 ≤ z) && decide (z ≤ 1440) && decide (0 ≤ t + 60 * z)
noncomputable def dateV (t z : Int) : DTE := if dateIn t z = true then dateOfDay ((t + 60 * z) / 86400) ((t + 60 * z) / 60 % 1440) else (0, 0, 0, 0, 0, 0, ())
def dayIn (y m d : Int) : Bool := decide (1970 ≤ y) && decide (y ≤ 40000) && decide (1 ≤ m) && decide (m ≤ 12) && decide (1 ≤ d) && decide (d ≤ mon y m)
def dayV (y m d : Int) : Int := if dayIn y m d = true then dto y + d - 1 + cumd y m else -1
theorem lp_01 (y : Int) : lp y = 0 ∨ lp y = 1 := by unfold lp; split <;> simp
theorem dto_succ (y : Int) : dto (y + 1) = dto y + yl y := by unfold dto yl lp; split <;> omega
theorem dto_1970 : dto 1970 = 0 := by decide
theorem mon_bd (y m : Int) : 28 ≤ mon y m ∧ mon y m ≤ 31 := by
  have := lp_01 y
  unfold mon; split
  · omega
  · split <;> omega
theorem dto_bd (y : Int) (h : 1970 ≤ y) : 365 * (y - 1970) ≤ dto y ∧ dto y ≤ 366 * (y - 1970) := by unfold dto; omega
theorem dto_mono (a : Int) (d : Nat) : dto a + 365 * d ≤ dto (a + d) := by
  induction d with
  | zero => simp
  | succ d ih =>
    have h := dto_succ (a + d)
    have hl := lp_01 (a + d)
    have hyl : yl (a + d) = 365 + lp (a + d) := rfl
    rw [show a + ((d + 1 : Nat) : Int) = a + d + 1 by omega]
    omega
theorem dto_lt (a b : Int) (h : a ≤ b) : dto a + 365 * (b - a) ≤ dto b := by
  have := dto_mono a (b - a).toNat
  rw [show a + ((b - a).toNat : Int) = b by omega] at this
  omega
theorem year_of (day : Int) (h : 0 ≤ day) : ∃ y, 1970 ≤ y ∧ dto y ≤ day ∧ day < dto (y + 1) := by
  have key : ∀ d : Nat, dto 1970 ≤ day ∧ day < dto (1970 + d) → ∃ y, 1970 ≤ y ∧ dto y ≤ day ∧ day < dto (y + 1) := by
    intro d
    induction d with
    | zero => intro ⟨h1, h2⟩; simp at h2; omega
    | succ d ih =>
      intro ⟨h1, h2⟩
      by_cases c : day < dto (1970 + d)
      · exact ih ⟨h1, c⟩
      · exact ⟨1970 + d, by omega, by omega, by rw [show (1970 : Int) + d + 1 = 1970 + ((d + 1 : Nat) : Int) by omega]; exact h2⟩
  refine key (day.toNat + 1) ⟨by rw [dto_1970]; exact h, ?_⟩
  have := dto_mono 1970 (day.toNat + 1)
  rw [dto_1970] at this
  omega
theorem yearOf_spec (day : Int) (h : 0 ≤ day) : 1970 ≤ yearOf day ∧ dto (yearOf day) ≤ day ∧ day < dto (yearOf day + 1) := by
  unfold yearOf
  rw [dif_pos (year_of day h)]
  exact (year_of day h).choose_spec
theorem cumd_succ (y m : Int) (h1 : 1 ≤ m) (h2 : m ≤ 12) : cumd y (m + 1) = cumd y m + mon y m := by
  have hm : m = 1 ∨ m = 2 ∨ m = 3 ∨ m = 4 ∨ m = 5 ∨ m = 6 ∨ m = 7 ∨ m = 8 ∨ m = 9 ∨ m = 10 ∨ m = 11 ∨ m = 12 := by omega
  rcases hm with rfl | rfl | rfl | rfl | rfl | rfl | rfl | rfl | rfl | rfl | rfl | rfl <;> simp [cumd, mon] <;> omega
theorem ite_nn {c : Prop} [Decidable c] {a b : Int} (ha : 0 ≤ a) (hb : 0 ≤ b) : 0 ≤ (if c then a else b) := by split <;> assumption
theorem cumd_nn (y m : Int) : 0 ≤ cumd y m := by
  have := lp_01 y
  unfold cumd
  iterate 12 (refine ite_nn (by omega) ?_)
  omega
theorem ite_le {c : Prop} [Decidable c] {a b k : Int} (ha : a ≤ k) (hb : b ≤ k) : (if c then a else b) ≤ k := by split <;> assumption
theorem cumd_le (y m : Int) : cumd y m ≤ 366 := by
  have := lp_01 y
  unfold cumd
  iterate 12 (refine ite_le (by omega) ?_)
  omega
theorem month_of (y n : Int) (h : 0 ≤ n) (h' : n < yl y) : ∃ m, 1 ≤ m ∧ m ≤ 12 ∧ cumd y m ≤ n ∧ n < cumd y m + mon y m := by
  have h13 : cumd y 13 = yl y := by simp [cumd, yl]
  have h1 : cumd y 1 = 0 := by simp [cumd]
  have key : ∀ d : Nat, d ≤ 12 → n < cumd y (1 + d) → ∃ m, 1 ≤ m ∧ m ≤ 12 ∧ cumd y m ≤ n ∧ n < cumd y m + mon y m := by
    intro d
    induction d with
    | zero => intro _ h2; simp at h2; omega
    | succ d ih =>
      intro hd h2
      by_cases c : n < cumd y (1 + d)
      · exact ih (by omega) c
      · refine ⟨1 + d, by omega, by omega, by omega, ?_⟩
        rw [← cumd_succ y (1 + d) (by omega) (by omega), show (1 : Int) + d + 1 = 1 + ((d + 1 : Nat) : Int) by omega]; exact h2
  exact key 12 (Nat.le_refl _) (by rw [show (1 : Int) + ((12 : Nat) : Int) = 13 from rfl, h13]; exact h')
theorem monthOf_spec (y n : Int) (h : 0 ≤ n) (h' : n < yl y) : 1 ≤ monthOf y n ∧ monthOf y n ≤ 12 ∧ cumd y (monthOf y n) ≤ n ∧ n < cumd y (monthOf y n) + mon y (monthOf y n) := by
  unfold monthOf
  rw [dif_pos (month_of y n h h')]
  exact (month_of y n h h').choose_spec
theorem mon_lt (y m i n : Int) (h1 : 1 ≤ i) (hi : i < m) (h2 : m ≤ 12) (hm : cumd y m ≤ n) : mon y i ≤ n - cumd y i := by
  have key : ∀ d : Nat, i + d + 1 ≤ m → cumd y (i + 1) ≤ cumd y (i + 1 + d) := by
    intro d
    induction d with
    | zero => intro _; simp
    | succ d ih =>
      intro hd
      have := cumd_succ y (i + 1 + d) (by omega) (by omega)
      have hb := mon_bd y (i + 1 + d)
      rw [show i + 1 + ((d + 1 : Nat) : Int) = i + 1 + d + 1 by omega]
      have := ih (by omega)
      omega
  have a := key (m - i - 1).toNat (by omega)
  rw [show i + 1 + ((m - i - 1).toNat : Int) = m by omega] at a
  have b := cumd_succ y i h1 (by omega)
  omega
theorem w64 {n : Int} (h : -9223372036854775808 ≤ n) (h' : n ≤ 9223372036854775807) : IntKind.wrap .i64 n = n := i64_ok h h'
abbrev RG := Int × Int × Unit
abbrev RGU : U := .pair (.int .i64) (.pair (.int .i64) .unit)
abbrev ITV := Int × List RG × List RG × List RG × List RG × List RG × List Int × Unit
abbrev ITU : U := .pair (.int .i64) (.pair (.sl false RGU) (.pair (.sl false RGU) (.pair (.sl false RGU) (.pair (.sl false RGU) (.pair (.sl false RGU) (.pair (.sl false (.int .i64)) .unit))))))
def rangeB (lo hi : Int) (r : RG) : Bool := decide (r.1 ≤ r.2.1) && decide (lo ≤ r.1) && decide (r.2.1 ≤ hi)
def rangesB (l : List RG) (lo hi : Int) : Bool := decide (l.length ≤ 10) && (List.range l.length).all fun i => rangeB lo hi (l.getD i default)
/-- numbers that rise -/
def risingI (l : List Int) : Bool := (List.range (l.length - 1)).all fun i => decide (l.getD i default < l.getD (i + 1) default)
def freeB (n : Int) : Bool := decide (0 ≤ n) && decide (n ≤ 20000000)
def dayRB (r : RG) : Bool := decide (0 < r.1) || decide (r.2.1 < 0)
def dayRS (r : RG) : Bool := !decide (r.1 = 0) && !decide (r.2.1 = 0) && (decide (r.1 < 0) == decide (r.2.1 < 0))
def allG {α : Type} [Inhabited α] (p : α → Bool) (l : List α) : Bool := (List.range l.length).all fun i => p (l.getD i default)
def itvB (x : ITV) : Bool := decide (-1440 ≤ x.1) && decide (x.1 ≤ 1440) && rangesB x.2.1 0 1439 && rangesB x.2.2.1 0 6 && rangesB x.2.2.2.1 (-31) 31 && rangesB x.2.2.2.2.1 1 12 && rangesB x.2.2.2.2.2.1 1970 40000 &&
  decide (x.2.2.2.2.2.2.1.length ≤ 10) && risingI x.2.2.2.2.2.2.1 && allG dayRB x.2.2.2.1 && allG freeB x.2.2.2.2.2.2.1
def inRB (l : List RG) (n : Int) : Bool := decide (l.length = 0) || (List.range l.length).any fun i => decide ((l.getD i default).1 ≤ n) && decide (n ≤ (l.getD i default).2.1)
def inIB (l : List Int) (n : Int) : Bool := (List.range l.length).any fun i => decide (l.getD i default = n)
noncomputable def inItvB (x : ITV) (t : Int) : Bool := itvB x && timeB t && !decide ((dateV t x.1).1 = 0) && inRB x.2.1 (dateV t x.1).2.2.2.2.2.1 && inRB x.2.2.1 (dateV t x.1).2.2.2.2.1 &&
  (inRB x.2.2.2.1 (dateV t x.1).2.2.1 || inRB x.2.2.2.1 (IntKind.wrap .i64 ((IntKind.wrap .i64 ((dateV t x.1).2.2.1 - (dateV t x.1).2.2.2.1)) - (1 : Int)))) && inRB x.2.2.2.2.1 (dateV t x.1).2.1 && inRB x.2.2.2.2.2.1 (dateV t x.1).1 &&
  !inIB x.2.2.2.2.2.2.1 (dayV (dateV t x.1).1 (dateV t x.1).2.1 (dateV t x.1).2.2.1)
theorem days_same (l : List RG) (lo hi : Int) : (allG dayRS l && rangesB l lo hi) = (allG dayRB l && rangesB l lo hi) := by
  cases h : rangesB l lo hi with
  | false => simp
  | true =>
    simp only [rangesB, Bool.and_eq_true, List.all_eq_true] at h
    rw [Bool.and_true, Bool.and_true, allG, allG, Bool.eq_iff_iff, List.all_eq_true, List.all_eq_true]
    have key : ∀ i ∈ List.range l.length, dayRS (l.getD i default) = dayRB (l.getD i default) := by
      intro i hi
      have := h.2 i hi
      simp only [rangeB, Bool.and_eq_true, decide_eq_true_eq] at this
      generalize l.getD i default = r at this
      simp only [dayRS, dayRB]
      have e1 : (r.1 = 0) = (¬ r.1 < 0 ∧ ¬ 0 < r.1) := propext (by omega)
      have e2 : (r.2.1 = 0) = (¬ r.2.1 < 0 ∧ ¬ 0 < r.2.1) := propext (by omega)
      by_cases a : r.1 < 0 <;> by_cases a' : 0 < r.1 <;> by_cases b : r.2.1 < 0 <;> by_cases b' : 0 < r.2.1 <;> first | (exfalso; omega) | simp [e1, e2, a, a', b, b']
    exact ⟨fun hh i hi => by rw [← key i hi]; exact hh i hi, fun hh i hi => by rw [key i hi]; exact hh i hi⟩
theorem wf_i64 {n : Int} (h : (Lit.int .i64 n).wf = true) : -9223372036854775808 ≤ n ∧ n ≤ 9223372036854775807 := by
  have h2 : decide (IntKind.i64.min ≤ n) && decide (n ≤ IntKind.i64.max) := h
  rw [Bool.and_eq_true] at h2
  have a : IntKind.i64.min ≤ n := of_decide_eq_true h2.1
  have b : n ≤ IntKind.i64.max := of_decide_eq_true h2.2
  have ea : IntKind.i64.min = -9223372036854775808 := by decide
  have eb : IntKind.i64.max = 9223372036854775807 := by decide
  omega
abbrev LB := ByteArray × ByteArray × Unit
abbrev LU : U := .pair .str (.pair .str .unit)
def valueB (s : ByteArray) : Bool := decide (1 ≤ s.size) && decide (s.size ≤ 100) && printB s
def labB (l : List LB) (i : Nat) : Bool := nameB (l.getD i default).1 && valueB (l.getD i default).2.1 && (decide (i = 0) || decide (cmpT (l.getD (i - 1) default).1 (l.getD i default).1 < 0))
def labelsB (l : List LB) : Bool := decide (l.length ≤ 20) && (List.range l.length).all (labB l)
def valL : List LB → ByteArray → ByteArray
  | [], _ => ⟨#[]⟩
  | x :: r, k => bif seq x.1 k then x.2.1 else valL r k
theorem drop_getD {α : Type} [Inhabited α] {l : List α} {i : Nat} (h : i < l.length) : l.drop i = l.getD i default :: l.drop (i + 1) := by
  rw [List.drop_eq_getElem_cons h, List.getD_eq_getElem?_getD, List.getElem?_eq_getElem h]; rfl
theorem labelsB_value {l : List LB} (h : labelsB l = true) : ∀ i, i < l.length → (l.getD i default).2.1.size ≤ 100 := by
  intro i hi
  simp only [labelsB, Bool.and_eq_true, List.all_eq_true, List.mem_range] at h
  have := h.2 i hi
  simp only [labB, valueB, Bool.and_eq_true, decide_eq_true_eq] at this
  exact this.1.2.1.2
theorem valL_small {l : List LB} {k : ByteArray} (h : ∀ x ∈ l, x.2.1.size ≤ 100) : (valL l k).size ≤ 100 := by
  induction l with
  | nil => simp [valL, size_empty]
  | cons x l ih =>
    simp only [valL]
    cases seq x.1 k with
    | true => exact h x (by simp)
    | false => exact ih fun y hy => h y (by simp [hy])
theorem labelsB_small {l : List LB} (h : labelsB l = true) {k : ByteArray} : (valL l k).size ≤ 100 := valL_small fun x hx => by
  obtain ⟨j, hj, rfl⟩ := List.getElem_of_mem hx
  have := labelsB_value h j hj
  rwa [List.getD_eq_getElem?_getD, List.getElem?_eq_getElem hj] at this
/-- whether a pattern's codes fit bytes -/
def mt : List Int → List Int → Bool
  | [], s => s.isEmpty
  | c :: p, s => if c = -1 then mt p s || (match s with | [] => false | _ :: r => mt (c :: p) r) else match s with | [] => false | x :: r => (decide (c = -2) || decide (c = x)) && mt p r
termination_by p s => p.length + s.length
decreasing_by all_goals simp_wf; try omega
def fitsP (p s : ByteArray) : Bool := match alts p with | some l => (List.range l.length).any fun i => mt (l.getD i default) (octs s) | none => false
def cellM (p : List Int) (s : ByteArray) (j i : Nat) : Bool := mt (p.drop j) ((octs s).drop i)
theorem cell_end {p : List Int} {s : ByteArray} {i : Nat} (hi : i ≤ s.size) : cellM p s p.length i = decide (i = s.size) := by
  rw [cellM, List.drop_length, mt.eq_def]
  rcases Nat.eq_or_lt_of_le hi with rfl | hi
  · rw [octs_nil]; simp
  · rw [octs_drop hi]; simp; omega
theorem dropI {p : List Int} {j : Nat} (h : j < p.length) : p.drop j = p.getD j default :: p.drop (j + 1) := drop_getD h
theorem cell_star {p : List Int} {s : ByteArray} {j i : Nat} (hj : j < p.length) (hi : i ≤ s.size) (h : p.getD j default = -1) : cellM p s j i = (cellM p s (j + 1) i || (decide (i < s.size) && cellM p s j (i + 1))) := by
  simp only [cellM]
  rw [dropI hj, h]
  rw [mt.eq_def]
  simp only [if_true]
  rcases Nat.eq_or_lt_of_le hi with rfl | hi
  · rw [octs_nil]; simp
  · rw [octs_drop hi]; simp [hi]
theorem cell_one {p : List Int} {s : ByteArray} {j i : Nat} (hj : j < p.length) (hi : i < s.size) (h : p.getD j default ≠ -1) : cellM p s j i = ((decide (p.getD j default = -2) || decide (p.getD j default = bt s i)) && cellM p s (j + 1) (i + 1)) := by
  simp only [cellM]
  rw [dropI hj, mt.eq_def]
  simp only [if_neg h]
  rw [octs_drop hi]
theorem cell_no {p : List Int} {s : ByteArray} {j : Nat} (hj : j < p.length) (h : p.getD j default ≠ -1) : cellM p s j s.size = false := by
  simp only [cellM]
  rw [dropI hj, mt.eq_def]
  simp only [if_neg h]
  rw [octs_nil]
theorem i64_down {k : Nat} (h : k ≤ 4611686018427387904) : IntKind.wrap .i64 ((k : Int) - 1) = (k : Int) - 1 := by rw [i64_ok] <;> omega
theorem inC_eq {n : Nat} (h : n ≤ 1000000000) : inC (n : Int) (n : Int) 1000000000 = true := by simp only [inC, decide_eq_true_eq]; omega
/-- comes to something of which this holds -/
def EvP {α : Type} (f : Nat → Option α) (Q : α → Prop) : Prop := ∃ v, Ev f v ∧ Q v
namespace EvP
variable {α β : Type} {Q : α → Prop}
theorem pure {v : α} (h : Q v) : EvP (fun _ => some v) Q := ⟨v, Ev.pure, h⟩
theorem of {f : Nat → Option α} {v : α} (h : Ev f v) (q : Q v) : EvP f Q := ⟨v, h, q⟩
theorem imp {f : Nat → Option α} {R : α → Prop} (h : EvP f Q) (q : ∀ v, Q v → R v) : EvP f R := ⟨h.choose, h.choose_spec.1, q _ h.choose_spec.2⟩
theorem bind {f : Nat → Option β} {g : Nat → β → Option α} {a : β} (h : Ev f a) (h' : EvP (fun n => g n a) Q) : EvP (fun n => (f n).bind (g n)) Q := ⟨h'.choose, Ev.bind h h'.choose_spec.1, h'.choose_spec.2⟩
theorem bindP {f : Nat → Option β} {g : Nat → β → Option α} {R : β → Prop} (h : EvP f R) (h' : ∀ a, R a → EvP (fun n => g n a) Q) : EvP (fun n => (f n).bind (g n)) Q := by
  obtain ⟨a, h1, h2⟩ := h
  exact bind h1 (h' a h2)
theorem cnd {c : Bool} {f g : Nat → Option α} (ht : c = true → EvP f Q) (hf : c = false → EvP g Q) : EvP (fun n => cond c (f n) (g n)) Q := by
  cases c with
  | true => exact ht rfl
  | false => exact hf rfl
theorem yes {c : Bool} {f g : Nat → Option α} (hc : c = true) (h : EvP f Q) : EvP (fun n => cond c (f n) (g n)) Q := by subst hc; exact h
theorem no {c : Bool} {f g : Nat → Option α} (hc : c = false) (h : EvP g Q) : EvP (fun n => cond c (f n) (g n)) Q := by subst hc; exact h
theorem step {P : Type} {s : Nat → (P → Option α) → P → Option α} {p : P} (h : EvP (fun n => s n (goRec s n) p) Q) : EvP (fun n => goRec s n p) Q := ⟨h.choose, Ev.step h.choose_spec.1, h.choose_spec.2⟩
end EvP
theorem toP_star (c : Int) : (toP c).2.2.1 = decide (c = -1) := by
  simp only [toP]
  by_cases h : c = -1
  · simp [h]
  · by_cases h2 : c = -2 <;> simp [h, h2]
theorem toP_any {c : Int} : (toP c).2.1 = decide (c = -2) := by
  simp only [toP]
  by_cases h : c = -1
  · simp [h]
  · by_cases h2 : c = -2 <;> simp [h, h2]
theorem toP_byte {c : Int} (h : c ≠ -1) (h2 : c ≠ -2) : (toP c).1 = c := by simp [toP, h, h2]
theorem pat_len : ∀ (n : Nat) (r : List Int) (out : List (List Int)) (now : List Int) (l : List (List Int)), r.length ≤ n → pat r out now = some l → l.length ≤ out.length + 1 + r.length ∧ ∀ a ∈ l, a ∈ out ∨ a.length ≤ now.length + r.length := by
  intro n
  induction n with
  | zero =>
    intro r out now l hr h
    obtain rfl : r = [] := List.length_eq_zero_iff.1 (by omega)
    rw [pat_nil] at h
    cases h
    refine ⟨by simp, fun a ha => ?_⟩
    rcases List.mem_append.1 ha with ha | ha
    · exact .inl ha
    · right; simp at ha; subst ha; simp
  | succ n ih =>
    intro r out now l hr h
    match r, hr, h with
    | [], hr, h =>
      rw [pat_nil] at h
      cases h
      refine ⟨by simp, fun a ha => ?_⟩
      rcases List.mem_append.1 ha with ha | ha
      · exact .inl ha
      · right; simp at ha; subst ha; simp
    | c :: r, hr, h =>
      simp only [List.length_cons] at hr ⊢
      have one : ∀ e, pat r out (now ++ [e]) = some l → l.length ≤ out.length + 1 + (r.length + 1) ∧ ∀ a ∈ l, a ∈ out ∨ a.length ≤ now.length + (r.length + 1) := by
        intro e h
        obtain ⟨h1, h2⟩ := ih r out _ l (by omega) h
        refine ⟨by omega, fun a ha => ?_⟩
        rcases h2 a ha with h3 | h3
        · exact .inl h3
        · right; simp at h3; omega
      rw [pat_cons] at h
      split at h
      · obtain ⟨h1, h2⟩ := ih r _ _ l (by omega) h
        refine ⟨by simp at h1; omega, fun a ha => ?_⟩
        rcases h2 a ha with h3 | h3
        · rcases List.mem_append.1 h3 with h3 | h3
          · exact .inl h3
          · right; simp at h3; subst h3; omega
        · right; simp at h3; omega
      · split at h
        · exact one _ h
        · split at h
          · exact one _ h
          · split at h
            · match r, h with
              | e :: r', h =>
                simp only at h
                split at h
                · obtain ⟨h1, h2⟩ := ih r' out _ l (by simp only [List.length_cons] at hr; omega) h
                  refine ⟨by simp only [List.length_cons]; omega, fun a ha => ?_⟩
                  rcases h2 a ha with h3 | h3
                  · exact .inl h3
                  · right; simp at h3; simp only [List.length_cons]; omega
                · cases h
            · exact one _ h
theorem alts_len {s : ByteArray} {l : List (List Int)} (h : alts s = some l) : l.length ≤ 101 ∧ ∀ a ∈ l, a.length ≤ 100 := by
  rw [alts] at h
  split at h
  · rename_i hs
    obtain ⟨h1, h2⟩ := pat_len _ (octs s) [] [] l (Nat.le_refl _) h
    rw [octs_len] at h1 h2
    refine ⟨by simp at h1; omega, fun a ha => ?_⟩
    rcases h2 a ha with h3 | h3
    · cases h3
    · simp at h3; omega
  · cases h
def matchOne (x : MT) (v : ByteArray) : Bool := if x.2.1 = 1 then seq v x.2.2.1 else if x.2.1 = 2 then !seq v x.2.2.1 else if x.2.1 = 3 then fitsP x.2.2.1 v else !fitsP x.2.2.1 v
def fitsB (ms : List MT) (l : List LB) : Bool := (List.range ms.length).all fun i => matchOne (ms.getD i default) (valL l (ms.getD i default).1)
theorem range_map_getD {α : Type} [Inhabited α] (l : List α) : (List.range l.length).map (fun i => l.getD i default) = l := by
  refine ext_getD (d := default) (by simp) fun j hj => ?_
  simp [List.getD_eq_getElem?_getD, hj]
theorem any_range {α : Type} [Inhabited α] (l : List α) (p : α → Bool) : ((List.range l.length).any fun i => p (l.getD i default)) = l.any p := by
  conv => rhs; rw [← range_map_getD l, List.any_map]
  rfl
theorem all_range {α : Type} [Inhabited α] (l : List α) (p : α → Bool) : ((List.range l.length).all fun i => p (l.getD i default)) = l.all p := by
  conv => rhs; rw [← range_map_getD l, List.all_map]
  rfl
def inhOne (x : INH) (s t : List LB) : Bool := (fitsB x.1 s && !(fitsB x.2.1 s && fitsB x.1 t)) && x.2.2.1.all fun k => seq (valL s k) (valL t k)
def inhibitedB (l : List INH) (ss : List (List LB)) (t : List LB) : Bool := l.any fun x => fitsB x.2.1 t && ss.any fun s => inhOne x s t
def inhibitedF (l : List INH) (ss : List (List LB)) (t : List LB) : Bool := (inhsB l && decide (ss.length ≤ 200) && labelsB t && ss.all labelsB) && inhibitedB l ss t
theorem Ev.bindP {α β : Type} {f : Nat → Option β} {g : Nat → β → Option α} {R : β → Prop} {v : α} (h : EvP f R) (h' : ∀ a, R a → Ev (fun n => g n a) v) : Ev (fun n => (f n).bind (g n)) v := by
  obtain ⟨a, h1, h2⟩ := h
  exact Ev.bind h1 (h' a h2)
def silP (t : List LB) (n : Int) (x : SIL) : Bool := fitsB x.2.1 t && decide (x.2.2.1 ≤ n) && decide (n ≤ x.2.2.2.1)
def silL (l : List SIL) (t : List LB) (n : Int) : List ByteArray := (l.filter (silP t n)).map fun x => x.1
def silencedF (l : List SIL) (t : List LB) (n : Int) : List ByteArray := if (silsB l && labelsB t && timeB n) = true then silL l t n else []
theorem silencedF_small {l : List SIL} {t : List LB} {n : Int} (h : Sm 1048576 (.sl false SIU) l) : Sm 1048576 (.sl false .str) (silencedF l t n) := by
  have hl : l.length ≤ 1048576 := h.1
  rw [silencedF]
  split
  · refine ⟨?_, fun x hx => ?_⟩
    · have := List.length_filter_le (silP t n) l
      simp only [silL, List.length_map]
      omega
    · obtain ⟨y, hy, rfl⟩ := List.mem_map.1 hx
      exact (h.2 y (List.mem_filter.1 hy).1).1
  · exact ⟨by simp, fun x hx => by cases hx⟩
abbrev RTE := ByteArray × List MT × List ByteArray × Int × Int × Int × List Int × Bool × Int × Unit
abbrev RTU : U := .pair .str (.pair (.sl false MU) (.pair (.sl false .str) (.pair (.int .i64) (.pair (.int .i64) (.pair (.int .i64) (.pair (.sl false (.int .i64)) (.pair .bool (.pair (.int .i64) .unit))))))))
def mutesB (l : List Int) : Bool := (List.range l.length).all fun i => decide (0 ≤ l.getD i default) && decide (l.getD i default < 20)
def posB (n : Int) : Bool := decide (1 ≤ n) && decide (n ≤ 1000000000000)
def routeB (r : RTE) : Bool := nameB r.1 && matchersB r.2.1 && namesB r.2.2.1 && timeB r.2.2.2.1 && posB r.2.2.2.2.1 && posB r.2.2.2.2.2.1 && (decide (r.2.2.2.2.2.2.1.length ≤ 20) && risingI r.2.2.2.2.2.2.1) && mutesB r.2.2.2.2.2.2.1
def kidsOf (l : List RTE) (i : Nat) : Int := (l.getD i default).2.2.2.2.2.2.2.2.1
def manyN (f : Nat → Option Nat) : Nat → Nat → Option Nat
  | 0, p => some p
  | k + 1, p => match f p with | some q => manyN f k q | none => none
def nodeN (l : List RTE) (g : RTE → Bool) : Nat → Nat → Option Nat
  | 0, _ => none
  | d + 1, i => if (decide (i < l.length) && decide (0 ≤ kidsOf l i) && g (l.getD i default)) = true then manyN (nodeN l g d) (kidsOf l i).toNat (i + 1) else none
theorem posB_time {n : Int} : posB n = (timeB n && !decide (n = 0)) := by
  simp only [posB, timeB]
  by_cases h : n = 0
  · subst h; rfl
  · by_cases h2 : 0 ≤ n
    · have : 1 ≤ n := by omega
      simp [h, h2, this]
    · have : ¬ 1 ≤ n := by omega
      simp [h2, this]
def smallB (r : RTE) : Bool := decide (r.2.2.2.2.2.2.2.2.1 ≤ 40)
theorem manyN_le {f : Nat → Option Nat} (hf : ∀ p q, f p = some q → p < q) : ∀ k p q, manyN f k p = some q → p + k ≤ q
  | 0, p, q, h => by simp only [manyN, Option.some.injEq] at h; omega
  | k + 1, p, q, h => by
    simp only [manyN] at h
    cases hp : f p with
    | none => rw [hp] at h; cases h
    | some r =>
      rw [hp] at h
      have := hf p r hp
      have := manyN_le hf k r q h
      omega
theorem manyN_top {f : Nat → Option Nat} {m : Nat} (hf : ∀ p q, f p = some q → q ≤ m) : ∀ k p q, p ≤ m → manyN f k p = some q → q ≤ m
  | 0, p, q, hp, h => by simp only [manyN, Option.some.injEq] at h; omega
  | k + 1, p, q, hp, h => by
    simp only [manyN] at h
    cases hp' : f p with
    | none => rw [hp'] at h; cases h
    | some r =>
      rw [hp'] at h
      exact manyN_top hf k r q (hf p r hp') h
theorem nodeN_lt {l : List RTE} {g : RTE → Bool} : ∀ d i n, nodeN l g d i = some n → i < n ∧ n ≤ l.length
  | 0, i, n, h => by simp [nodeN] at h
  | d + 1, i, n, h => by
    simp only [nodeN] at h
    split at h
    · rename_i hc
      simp only [Bool.and_eq_true, decide_eq_true_eq] at hc
      have h1 := manyN_le (fun p q hq => (nodeN_lt d p q hq).1) _ _ _ h
      have h2 := manyN_top (m := l.length) (fun p q hq => (nodeN_lt d p q hq).2) _ _ _ (by omega) h
      omega
    · cases h
def tkV : Option Nat → Int | some q => (q : Int) | none => -1
theorem manyN_SI {f g : Nat → Option Nat} {G : Nat → Prop} (hf : ∀ p q, f p = some q → p < q ∧ g p = some q ∧ ∀ j, p ≤ j → j < q → G j) : ∀ k p q, manyN f k p = some q → manyN g k p = some q ∧ ∀ j, p ≤ j → j < q → G j
  | 0, p, q, h => by
    simp only [manyN, Option.some.injEq] at h
    subst h
    exact ⟨rfl, fun j h1 h2 => by omega⟩
  | k + 1, p, q, h => by
    simp only [manyN] at h ⊢
    cases hp : f p with
    | none => rw [hp] at h; cases h
    | some r =>
      rw [hp] at h
      obtain ⟨h1, h2, h3⟩ := hf p r hp
      obtain ⟨h4, h5⟩ := manyN_SI hf k r q h
      rw [h2]
      exact ⟨h4, fun j j1 j2 => if hj : j < r then h3 j j1 hj else h5 j (by omega) j2⟩
theorem nodeN_SI {l : List RTE} (hl : l.length ≤ 40) : ∀ d i n, nodeN l routeB d i = some n → nodeN l smallB d i = some n ∧ ∀ j, i ≤ j → j < n → routeB (l.getD j default) = true
  | 0, i, n, h => by simp [nodeN] at h
  | d + 1, i, n, h => by
    have hn := nodeN_lt _ _ _ h
    simp only [nodeN] at h ⊢
    split at h
    · rename_i hc
      have hc' := hc
      simp only [Bool.and_eq_true, decide_eq_true_eq] at hc
      have h1 := manyN_le (fun p q hq => (nodeN_lt d p q hq).1) _ _ _ h
      have hs : smallB (l.getD i default) = true := decide_eq_true (show kidsOf l i ≤ 40 by omega)
      obtain ⟨h2, h3⟩ := manyN_SI (G := fun j => routeB (l.getD j default) = true) (g := nodeN l smallB d) (fun p q hq => ⟨(nodeN_lt d p q hq).1, nodeN_SI hl d p q hq⟩) _ _ _ h
      rw [if_pos (by rw [decide_eq_true hc.1.1, decide_eq_true hc.1.2, hs]; rfl)]
      refine ⟨h2, fun j j1 j2 => ?_⟩
      rcases Nat.eq_or_lt_of_le j1 with rfl | j1
      · exact hc.2
      · exact h3 j (by omega) j2
    · cases h
theorem manyN_IS {f g : Nat → Option Nat} {G : Nat → Prop} (hl : ∀ p q, g p = some q → p < q) (hg : ∀ p q, g p = some q → (∀ j, p ≤ j → j < q → G j) → f p = some q) : ∀ k p q, manyN g k p = some q → (∀ j, p ≤ j → j < q → G j) → manyN f k p = some q
  | 0, p, q, h, _ => by simpa only [manyN] using h
  | k + 1, p, q, h, hG => by
    simp only [manyN] at h ⊢
    cases hp : g p with
    | none => rw [hp] at h; cases h
    | some r =>
      rw [hp] at h
      have h1 := hl p r hp
      have h2 := manyN_le hl k r q h
      rw [hg p r hp (fun j j1 j2 => hG j j1 (by omega))]
      exact manyN_IS hl hg k r q h (fun j j1 j2 => hG j (by omega) j2)
theorem nodeN_IS {l : List RTE} : ∀ d i n, nodeN l smallB d i = some n → (∀ j, i ≤ j → j < n → routeB (l.getD j default) = true) → nodeN l routeB d i = some n
  | 0, i, n, h, _ => by simp [nodeN] at h
  | d + 1, i, n, h, hG => by
    have hn := nodeN_lt _ _ _ h
    simp only [nodeN] at h ⊢
    split at h
    · rename_i hc
      simp only [Bool.and_eq_true, decide_eq_true_eq] at hc
      rw [if_pos (by rw [decide_eq_true hc.1.1, decide_eq_true hc.1.2, hG i (Nat.le_refl _) hn.1]; rfl)]
      exact manyN_IS (fun p q hq => (nodeN_lt d p q hq).1) (fun p q hq => nodeN_IS d p q hq) _ _ _ h (fun j j1 j2 => hG j (by omega) j2)
    · cases h
def routesB (l : List RTE) : Bool := (decide (l.length ≠ 0) && decide (l.length ≤ 40) && decide (nodeN l routeB 8 0 = some l.length)) && (decide ((l.getD 0 default).2.1.length = 0) && !(l.getD 0 default).2.2.2.2.2.2.2.1)
theorem routes_eq {l : List RTE} (hl : l.length ≤ 40) : decide (nodeN l routeB 8 0 = some l.length) = (decide (nodeN l smallB 8 0 = some l.length) && (List.range l.length).all fun i => routeB (l.getD i default)) := by
  rw [Bool.eq_iff_iff]
  simp only [decide_eq_true_eq, Bool.and_eq_true, List.all_eq_true, List.mem_range]
  exact ⟨fun h => ⟨(nodeN_SI hl _ _ _ h).1, fun i hi => (nodeN_SI hl _ _ _ h).2 i (Nat.zero_le _) hi⟩, fun h => nodeN_IS _ _ _ h.1 fun j _ j2 => h.2 j j2⟩
theorem Ev.filt {P α : Type} [Inhabited α] {step : Nat → (P → Option (List α)) → P → Option (List α)} {l : List α} {p : α → Bool} {pt : Nat → List α → P}
    (hy : ∀ i out, i < l.length → out.length ≤ i → p (l.getD i default) = true → ∀ v, Ev (fun n => goRec step n (pt (i + 1) (out ++ [l.getD i default]))) v → Ev (fun n => goRec step n (pt i out)) v)
    (hn : ∀ i out, i < l.length → out.length ≤ i → p (l.getD i default) = false → ∀ v, Ev (fun n => goRec step n (pt (i + 1) out)) v → Ev (fun n => goRec step n (pt i out)) v)
    (he : ∀ out, Ev (fun n => goRec step n (pt l.length out)) out) : Ev (fun n => goRec step n (pt 0 [])) (l.filter p) := by
  have key : ∀ d i out, i + d = l.length → out.length ≤ i → Ev (fun n => goRec step n (pt i out)) (out ++ (l.drop i).filter p) := by
    intro d
    induction d with
    | zero =>
      intro i out h ho
      obtain rfl : i = l.length := by omega
      exact Ev.of_eq (he out) (by simp)
    | succ d ih =>
      intro i out h ho
      have hi : i < l.length := by omega
      rw [drop_getD hi, List.filter_cons]
      cases c : p (l.getD i default) with
      | true => exact hy i out hi ho c _ (Ev.of_eq (ih (i + 1) _ (by omega) (by simp; omega)) (by simp))
      | false => exact hn i out hi ho c _ (Ev.of_eq (ih (i + 1) _ (by omega) (by omega)) (by simp))
  exact key l.length 0 [] (by omega) (by simp)
theorem any_getD {α : Type} [Inhabited α] {l : List α} {p : α → Bool} : l.any p = (List.range l.length).any fun i => p (l.getD i default) := by
  rw [Bool.eq_iff_iff, List.any_eq_true, List.any_eq_true]
  constructor
  · rintro ⟨x, hx, hp⟩
    obtain ⟨i, hi, rfl⟩ := List.getElem_of_mem hx
    refine ⟨i, by simpa using hi, ?_⟩
    rwa [List.getD_eq_getElem?_getD, List.getElem?_eq_getElem hi]
  · rintro ⟨i, hi, hp⟩
    exact ⟨_, getD_mem (by simpa using hi), hp⟩
def hasB (l : List ByteArray) (x : ByteArray) : Bool := (List.range l.length).any fun i => decide (l.getD i default = x)
def groupF (l : List RTE) (k : Int) (t : List LB) : List LB := if (routesB l && decide (0 ≤ k) && decide (k < (l.length : Int)) && labelsB t) = true then t.filter (fun x => hasB (l.getD k.toNat default).2.2.1 x.1) else []
theorem groupF_small {l : List RTE} {k : Int} {t : List LB} (h : Sm 1048576 (.sl false LU) t) : Sm 1048576 (.sl false LU) (groupF l k t) := by
  have hl : t.length ≤ 1048576 := h.1
  rw [groupF]
  split
  · exact ⟨by have := List.length_filter_le (fun x => hasB (l.getD k.toNat default).2.2.1 x.1) t; omega, fun x hx => h.2 x (List.mem_filter.1 hx).1⟩
  · exact ⟨by simp, fun x hx => by cases hx⟩
/-- a loop that goes on while p holds, and something else behind it -/
theorem Ev.allK {P : Type} {step : Nat → (P → Option Bool) → P → Option Bool} {n : Nat} {p : Nat → Bool} {pt : Nat → P} {b : Bool}
    (hs : ∀ i, i < n → (p i = true → ∀ v, Ev (fun m => goRec step m (pt (i + 1))) v → Ev (fun m => goRec step m (pt i)) v) ∧ (p i = false → Ev (fun m => goRec step m (pt i)) false))
    (he : (List.range n).all p = true → Ev (fun m => goRec step m (pt n)) b) : Ev (fun m => goRec step m (pt 0)) ((List.range n).all p && b) := by
  have key : ∀ d i, i + d = n → (∀ j, j < i → p j = true) → Ev (fun m => goRec step m (pt i)) ((List.range' i d).all p && b) := by
    intro d
    induction d with
    | zero =>
      intro i h hj
      rw [Nat.add_zero] at h
      subst h
      exact he (by simpa using hj)
    | succ d ih =>
      intro i h hj
      obtain ⟨h1, h2⟩ := hs i (by omega)
      rw [List.range'_succ, List.all_cons]
      cases hp : p i with
      | false => rw [Bool.false_and, Bool.false_and]; exact h2 hp
      | true =>
        rw [Bool.true_and]
        refine h1 hp _ (ih (i + 1) (by omega) fun j h => ?_)
        rcases Nat.lt_succ_iff_lt_or_eq.1 h with h | rfl
        · exact hj j h
        · exact hp
  have := key n 0 (by omega) (by omega)
  rwa [List.range_eq_range']
abbrev NCE := List RTE × List ITV × List SIL × List INH × Unit
abbrev NCU : U := .pair (.sl false RTU) (.pair (.sl false ITU) (.pair (.sl false SIU) (.pair (.sl false INU) .unit)))
def mutesOK (m : Nat) (l : List Int) : Bool := (List.range l.length).all fun j => !decide ((m : Int) ≤ l.getD j default)
def itvsB (l : List ITV) : Bool := (List.range l.length).all fun i => itvB (l.getD i default)
def rmutesB (m : Nat) (l : List RTE) : Bool := (List.range l.length).all fun i => mutesOK m (l.getD i default).2.2.2.2.2.2.1
def notifyB (c : NCE) : Bool := (routesB c.1 && silsB c.2.2.1 && inhsB c.2.2.2.1) && decide (c.2.1.length ≤ 20) && itvsB c.2.1 && rmutesB c.2.1.length c.1
abbrev CUE := Int × Int × Int × Int × Unit
abbrev CUU : U := .pair (.int .i64) (.pair (.int .i64) (.pair (.int .i64) (.pair (.int .i64) .unit)))
abbrev MCE := Int × Int × List CUE × List CUE × Unit
abbrev MCU : U := .pair (.int .i64) (.pair (.int .i64) (.pair (.sl false CUU) (.pair (.sl false CUU) .unit)))
def cutB (m : Int) (d : Bool) (x : CUE) : Bool := timeB x.2.2.1 && timeB x.2.2.2.1 && decide (0 ≤ x.1) && decide (x.1 < m) && decide (0 ≤ x.2.1) && decide (x.2.1 < m) && !(d && !decide (x.2.1 = 0))
def cutsB (l : List CUE) (m : Int) (d : Bool) : Bool := decide (l.length ≤ 20) && (List.range l.length).all fun i => cutB m d (l.getD i default)
def slowB (l : List RTE) (k : Int) : Bool := (List.range l.length).all fun i => !decide ((l.getD i default).2.2.2.2.1 ≤ k)
def membersB (c : NCE) (m : MCE) : Bool := (notifyB c && decide (1 ≤ m.1) && decide (m.1 ≤ 5) && timeB m.2.1 && cutsB m.2.2.1 m.1 false && cutsB m.2.2.2.1 m.1 true) && slowB c.1 (IntKind.wrap .i64 ((IntKind.wrap .i64 (m.1 - (1 : Int))) * m.2.1))
theorem routesB_all {l : List RTE} (h : routesB l = true) : l.length ≤ 40 ∧ nodeN l routeB 8 0 = some l.length ∧ ∀ i, i < l.length → routeB (l.getD i default) = true := by
  simp only [routesB, Bool.and_eq_true, decide_eq_true_eq] at h
  exact ⟨h.1.1.2, h.1.2, fun i hi => (nodeN_SI h.1.1.2 _ _ _ h.1.2).2 i (Nat.zero_le _) hi⟩
noncomputable def mutedB (c : NCE) (l : List Int) (t : Int) : Bool := (List.range l.length).any fun j => inItvB (c.2.1.getD (l.getD j default).toNat default) t
noncomputable def mutedAtB (c : NCE) (r t : Int) : Bool := notifyB c && decide (0 ≤ r) && decide (r < (c.1.length : Int)) && timeB t && mutedB c (c.1.getD r.toNat default).2.2.2.2.2.2.1 t
/-- the mutes of a route of good routes name intervals -/
theorem mutes_in {c : NCE} (h : notifyB c = true) {i : Nat} (hi : i < c.1.length) {j : Nat} (hj : j < (c.1.getD i default).2.2.2.2.2.2.1.length) : 0 ≤ (c.1.getD i default).2.2.2.2.2.2.1.getD j default ∧ (c.1.getD i default).2.2.2.2.2.2.1.getD j default < (c.2.1.length : Int) := by
  simp only [notifyB, Bool.and_eq_true] at h
  have h1 := (routesB_all h.1.1.1.1.1).2.2 i hi
  have h2 := h.2
  simp only [rmutesB, List.all_eq_true, List.mem_range] at h2
  have h3 := h2 i hi
  simp only [mutesOK, List.all_eq_true, List.mem_range, Bool.not_eq_true', decide_eq_false_iff_not] at h3
  have h3 := h3 j hj
  simp only [routeB, Bool.and_eq_true] at h1
  have h4 := h1.2
  simp only [mutesB, List.all_eq_true, List.mem_range, Bool.and_eq_true, decide_eq_true_eq] at h4
  have h4 := h4 j hj
  exact ⟨h4.1, by omega⟩
theorem inB_of {i : Int} {n : Nat} (h : 0 ≤ i ∧ i < (n : Int)) : inB i n = true := by simpa [inB] using h
/-- a loop that goes on until p holds -/
theorem Ev.anyN {P : Type} {step : Nat → (P → Option Bool) → P → Option Bool} {n : Nat} {p : Nat → Bool} {pt : Nat → P}
    (hs : ∀ i, i < n → (p i = false → ∀ v, Ev (fun m => goRec step m (pt (i + 1))) v → Ev (fun m => goRec step m (pt i)) v) ∧ (p i = true → Ev (fun m => goRec step m (pt i)) true))
    (he : Ev (fun m => goRec step m (pt n)) false) : Ev (fun m => goRec step m (pt 0)) ((List.range n).any p) := by
  have key : ∀ d i, i + d = n → Ev (fun m => goRec step m (pt i)) ((List.range' i d).any p) := by
    intro d
    induction d with
    | zero => intro i h; rw [Nat.add_zero] at h; subst h; exact he
    | succ d ih =>
      intro i h
      obtain ⟨h1, h2⟩ := hs i (by omega)
      rw [List.range'_succ, List.any_cons]
      cases hp : p i with
      | true => rw [Bool.true_or]; exact h2 hp
      | false => rw [Bool.false_or]; exact h1 hp _ (ih (i + 1) (by omega))
  have := key n 0 (by omega)
  rwa [List.range_eq_range']
def onB (l : List RTE) (i : Nat) : Bool := (l.getD i default).2.2.2.2.2.2.2.1
def fitI (l : List RTE) (t : List LB) (i : Nat) : Bool := fitsB (l.getD i default).2.1 t
def takeK (f : Nat → Option Nat) (g : Nat → List Int) (fit on : Nat → Bool) : Nat → Nat → Bool → List Int
  | 0, _, _ => []
  | k + 1, p, go => if (go && fit p) = true then g p ++ takeK f g fit on k ((f p).getD 0) (on p) else takeK f g fit on k ((f p).getD 0) go
def takeN (l : List RTE) (t : List LB) : Nat → Nat → List Int
  | 0, _ => []
  | d + 1, i => if (takeK (nodeN l routeB d) (takeN l t d) (fitI l t) (onB l) (kidsOf l i).toNat (i + 1) true).isEmpty = true then [(i : Int)] else takeK (nodeN l routeB d) (takeN l t d) (fitI l t) (onB l) (kidsOf l i).toNat (i + 1) true
/-- in order, within bounds -/
def InO (r : List Int) (p q : Nat) : Prop := r.Pairwise (· ≤ ·) ∧ (∀ x ∈ r, (p : Int) ≤ x ∧ x < (q : Int)) ∧ r.length ≤ q - p
theorem InO.app {r s : List Int} {p q n : Nat} (h1 : InO r p q) (h2 : InO s q n) (hp : p ≤ q) (hq : q ≤ n) : InO (r ++ s) p n := by
  obtain ⟨a1, a2, a3⟩ := h1
  obtain ⟨b1, b2, b3⟩ := h2
  refine ⟨List.pairwise_append.2 ⟨a1, b1, fun x hx y hy => ?_⟩, fun x hx => ?_, by rw [List.length_append]; omega⟩
  · have := a2 x hx
    have := b2 y hy
    omega
  · rcases List.mem_append.1 hx with hx | hx
    · have := a2 x hx; omega
    · have := b2 x hx; omega
theorem InO.up {s : List Int} {p q n : Nat} (h : InO s q n) (hp : p ≤ q) : InO s p n := ⟨h.1, fun x hx => by have := h.2.1 x hx; omega, by have := h.2.2; omega⟩
theorem takeK_in {f : Nat → Option Nat} {g : Nat → List Int} {fit on : Nat → Bool} (hf : ∀ p q, f p = some q → p < q ∧ InO (g p) p q) : ∀ k p q go, manyN f k p = some q → p ≤ q ∧ InO (takeK f g fit on k p go) p q
  | 0, p, q, go, h => by
    simp only [manyN, Option.some.injEq] at h
    subst h
    exact ⟨Nat.le_refl _, by simp [takeK, InO]⟩
  | k + 1, p, q, go, h => by
    simp only [manyN] at h
    cases hp : f p with
    | none => rw [hp] at h; cases h
    | some r =>
      rw [hp] at h
      obtain ⟨h1, h2⟩ := hf p r hp
      simp only [takeK, hp, Option.getD_some]
      split
      · obtain ⟨h3, h4⟩ := takeK_in (fit := fit) (on := on) hf k r q (on p) h
        exact ⟨by omega, h2.app h4 (by omega) h3⟩
      · obtain ⟨h3, h4⟩ := takeK_in (fit := fit) (on := on) hf k r q go h
        exact ⟨by omega, h4.up (by omega)⟩
theorem takeN_in {l : List RTE} {t : List LB} : ∀ d i n, nodeN l routeB d i = some n → i < n ∧ InO (takeN l t d i) i n
  | 0, i, n, h => by simp [nodeN] at h
  | d + 1, i, n, h => by
    have hn := nodeN_lt _ _ _ h
    simp only [nodeN] at h
    split at h
    · have hk := takeK_in (fit := fitI l t) (on := onB l) (fun p q hq => takeN_in (t := t) d p q hq) _ _ _ true h
      refine ⟨hn.1, ?_⟩
      simp only [takeN]
      split
      · exact ⟨by simp, fun x hx => by simp at hx; omega, by simp; omega⟩
      · exact hk.2.up (by omega)
    · cases h
theorem manyN_mono {f g : Nat → Option Nat} (hf : ∀ p q, f p = some q → g p = some q) : ∀ k p q, manyN f k p = some q → manyN g k p = some q
  | 0, p, q, h => h
  | k + 1, p, q, h => by
    simp only [manyN] at h ⊢
    cases hp : f p with
    | none => rw [hp] at h; cases h
    | some r => rw [hp] at h; rw [hf p r hp]; exact manyN_mono hf k r q h
theorem nodeN_up {l : List RTE} {g : RTE → Bool} : ∀ d i n, nodeN l g d i = some n → nodeN l g (d + 1) i = some n
  | 0, i, n, h => by simp [nodeN] at h
  | d + 1, i, n, h => by
    rw [nodeN] at h ⊢
    split at h
    · rename_i hc
      rw [if_pos hc]
      exact manyN_mono (fun p q hq => nodeN_up d p q hq) _ _ _ h
    · cases h
theorem nodeN_to {l : List RTE} {g : RTE → Bool} {d i n : Nat} (h : nodeN l g d i = some n) {e : Nat} (he : d ≤ e) : nodeN l g e i = some n := by
  obtain ⟨k, rfl⟩ := Nat.le.dest he
  clear he
  induction k with
  | zero => exact h
  | succ k ih => exact nodeN_up _ _ _ ih
def forF (l : List RTE) (t : List LB) : List Int := if (routesB l && labelsB t) = true then takeN l t 8 0 else []
theorem forF_small {l : List RTE} {t : List LB} : Sm 1048576 (.sl false (.int .i64)) (forF l t) := by
  rw [forF]
  split
  · rename_i h
    simp only [Bool.and_eq_true] at h
    have := routesB_all h.1
    have h2 := (takeN_in (t := t) _ _ _ this.2.1).2.2.2
    exact ⟨by omega, fun _ _ => trivial⟩
  · exact ⟨by simp, fun x hx => by cases hx⟩
theorem takeN_sort {l : List RTE} {t : List LB} {d i n : Nat} (h : nodeN l routeB d i = some n) : (takeN l t d i).mergeSort (fun x y => decide (x ≤ y)) = takeN l t d i := by
  refine List.mergeSort_of_pairwise ?_
  exact ((takeN_in (t := t) _ _ _ h).2.1).imp fun h => by simpa using h
theorem wrapu {x : Int} : IntKind.wrap .u64 x = x % 18446744073709551616 := rfl
theorem wrapu_nat {n : Nat} (h : n < 18446744073709551616) : IntKind.wrap .u64 (n : Int) = (n : Int) := by rw [wrapu]; omega
theorem i64_id {n : Nat} (h : n ≤ 4611686018427387904) : IntKind.wrap .i64 (n : Int) = (n : Int) := i64_ok (by omega) (by omega)
theorem tmod_nat {s k : Nat} : Int.tmod (s : Int) (k : Int) = ((s % k : Nat) : Int) := by rw [Int.tmod_eq_emod_of_nonneg (by omega)]; rfl
theorem tdiv_nat {s k : Nat} : Int.tdiv (s : Int) (k : Int) = ((s / k : Nat) : Int) := by rw [Int.tdiv_eq_ediv_of_nonneg (by omega)]; rfl
theorem band1 {z : Nat} : band .u64 (z : Int) 1 = ((z % 2 : Nat) : Int) := by
  have e : (BitVec.ofInt 64 (z : Int) &&& BitVec.ofInt 64 1).toNat = z % 2 := by
    rw [BitVec.toNat_and]
    have h1 : (BitVec.ofInt 64 1).toNat = 1 := by decide
    have h2 : (BitVec.ofInt 64 (z : Int)).toNat = z % 2 ^ 64 := by rw [BitVec.toNat_ofInt]; omega
    rw [h1, h2, Nat.and_one_is_mod]
    omega
  show IntKind.wrap .u64 ((BitVec.ofInt 64 (z : Int) &&& BitVec.ofInt 64 1).toNat : Int) = _
  rw [e]
  exact wrapu_nat (by omega)
theorem shr_nat {y k : Nat} (hk : k ≤ 64) : shr .u64 (y : Int) (k : Int) = ((y / 2 ^ k : Nat) : Int) := by
  show Int.fdiv (y : Int) (2 ^ (min (Int.toNat (k : Int)) 64)) = _
  rw [Int.toNat_natCast, Nat.min_eq_left hk, Int.fdiv_eq_ediv_of_nonneg _ (Int.pow_nonneg (by decide))]
  rw [show ((2 : Int) ^ k) = ((2 ^ k : Nat) : Int) by simp]
  rfl
def bitN (y k : Nat) : Nat := y / 2 ^ k % 2
theorem bit_eq {y k : Nat} (hk : k ≤ 64) : band .u64 (shr .u64 (y : Int) (k : Int)) 1 = (bitN y k : Int) := by rw [shr_nat hk, band1]; rfl
theorem bitN_test {y k : Nat} : y.testBit k = decide (bitN y k = 1) := Nat.testBit_eq_decide_div_mod_eq
theorem bitN_lt {y k : Nat} : bitN y k < 2 := Nat.mod_lt _ (by decide)
def lzN (y : Nat) : Nat := 63 - Nat.log2 y
def tzN (y : Nat) : Nat := ((List.range 64).find? fun i => y.testBit i).getD 64
theorem log2_le {y : Nat} (h0 : y ≠ 0) (h : y < 18446744073709551616) : Nat.log2 y ≤ 63 := by
  have := (Nat.log2_lt h0 (k := 64)).2 h
  omega
theorem tz_spec {y : Nat} (h0 : y ≠ 0) (h : y < 18446744073709551616) : tzN y < 64 ∧ y.testBit (tzN y) = true ∧ ∀ j, j < tzN y → y.testBit j = false := by
  have hl := log2_le h0 h
  have hb : y.testBit (Nat.log2 y) = true := Nat.testBit_log2 h0
  cases hf : (List.range 64).find? fun i => y.testBit i with
  | none =>
    have := List.find?_eq_none.1 hf (Nat.log2 y) (by simp; omega)
    exact absurd hb this
  | some b =>
    rw [tzN, hf, Option.getD_some]
    have h1 := List.find?_some hf
    have h2 := List.mem_of_find?_eq_some hf
    refine ⟨by simpa using h2, h1, fun j hj => ?_⟩
    rw [List.find?_eq_some_iff_append] at hf
    obtain ⟨_, l1, l2, e, h3⟩ := hf
    have hlen : l1.length = b := by
      have := congrArg (fun l => l[l1.length]?) e
      simp only [List.getElem?_append_right (Nat.le_refl _), Nat.sub_self, List.getElem?_cons_zero] at this
      have := List.getElem?_eq_some_iff.1 this
      obtain ⟨_, h5⟩ := this
      simpa using h5
    have hj1 : l1[j]? = some j := by
      have := congrArg (fun l => l[j]?) e
      simp only [List.getElem?_append_left (show j < l1.length by omega)] at this
      rw [← this]
      have hb64 : b < 64 := by simpa using h2
      exact List.getElem?_range (by omega)
    have := h3 j (List.mem_of_getElem? hj1)
    simpa using this
theorem lz_tz {y : Nat} (h0 : y ≠ 0) (h : y < 18446744073709551616) : lzN y + tzN y ≤ 63 := by
  have hl := log2_le h0 h
  obtain ⟨h1, h2, h3⟩ := tz_spec h0 h
  have : tzN y ≤ Nat.log2 y := by
    rcases Nat.lt_or_ge (Nat.log2 y) (tzN y) with h4 | h4
    · have := h3 _ h4; rw [Nat.testBit_log2 h0] at this; cases this
    · exact h4
  rw [lzN]; omega
theorem log2_shift {y k : Nat} (h : 2 ^ k ≤ y) : Nat.log2 y = Nat.log2 (y / 2 ^ k) + k := by
  have hp : 0 < 2 ^ k := Nat.pos_of_ne_zero (by simp)
  have h0 : y ≠ 0 := by omega
  have h1 : y / 2 ^ k ≠ 0 := by have := Nat.div_pos h hp; omega
  obtain ⟨a, b⟩ := (Nat.log2_eq_iff h1).1 rfl
  refine (Nat.log2_eq_iff h0).2 ⟨?_, ?_⟩
  · rw [Nat.pow_add]; exact (Nat.le_div_iff_mul_le hp).1 a
  · rw [show Nat.log2 (y / 2 ^ k) + k + 1 = Nat.log2 (y / 2 ^ k) + 1 + k by omega, Nat.pow_add]; exact (Nat.div_lt_iff_lt_mul hp).1 b
def len8T : ByteArray := ⟨#[0, 1, 2, 2, 3, 3, 3, 3, 4, 4, 4, 4, 4, 4, 4, 4, 5, 5, 5, 5, 5, 5, 5, 5, 5, 5, 5, 5, 5, 5, 5, 5, 6, 6, 6, 6, 6, 6, 6, 6, 6, 6, 6, 6, 6, 6, 6, 6, 6, 6, 6, 6, 6, 6, 6, 6, 6, 6, 6, 6, 6, 6, 6, 6, 7, 7, 7, 7, 7, 7, 7, 7, 7, 7, 7, 7, 7, 7, 7, 7, 7, 7, 7, 7, 7, 7, 7, 7, 7, 7, 7, 7, 7, 7, 7, 7, 7, 7, 7, 7, 7, 7, 7, 7, 7, 7, 7, 7, 7, 7, 7, 7, 7, 7, 7, 7, 7, 7, 7, 7, 7, 7, 7, 7, 7, 7, 7, 7, 8, 8, 8, 8, 8, 8, 8, 8, 8, 8, 8, 8, 8, 8, 8, 8, 8, 8, 8, 8, 8, 8, 8, 8, 8, 8, 8, 8, 8, 8, 8, 8, 8, 8, 8, 8, 8, 8, 8, 8, 8, 8, 8, 8, 8, 8, 8, 8, 8, 8, 8, 8, 8, 8, 8, 8, 8, 8, 8, 8, 8, 8, 8, 8, 8, 8, 8, 8, 8, 8, 8, 8, 8, 8, 8, 8, 8, 8, 8, 8, 8, 8, 8, 8, 8, 8, 8, 8, 8, 8, 8, 8, 8, 8, 8, 8, 8, 8, 8, 8, 8, 8, 8, 8, 8, 8, 8, 8, 8, 8, 8, 8, 8, 8, 8, 8, 8, 8, 8, 8, 8, 8, 8, 8, 8, 8, 8, 8]⟩
theorem len8_ok : ∀ z : Nat, z < 256 → z = 0 ∨ IntKind.wrap .i64 (bt len8T (z : Int)) = ((Nat.log2 z + 1 : Nat) : Int) := by decide +kernel
theorem u8_id {z : Nat} (h : z < 256) : IntKind.wrap .u8 (z : Int) = (z : Int) := by
  show (z : Int) % 256 = _
  omega
def tzT : List Int := [0, 1, 56, 2, 57, 49, 28, 3, 61, 58, 42, 50, 38, 29, 17, 4, 62, 47, 59, 36, 45, 43, 51, 22, 53, 39, 33, 30, 24, 18, 12, 5, 63, 55, 48, 27, 60, 41, 37, 16, 46, 35, 44, 21, 52, 32, 23, 11, 54, 26, 40, 15, 34, 20, 31, 10, 25, 14, 19, 9, 13, 8, 7, 6]
theorem tz_tab : ∀ t : Nat, t < 64 → inB (shr .u64 (IntKind.wrap .u64 ((285870213051353865 : Int) * ((2 ^ t : Nat) : Int))) (58 : Int)) 64 = true ∧ IntKind.wrap .i64 (List.getD (List.getD [tzT] 0 default) (Int.toNat (shr .u64 (IntKind.wrap .u64 ((285870213051353865 : Int) * ((2 ^ t : Nat) : Int))) (58 : Int))) default) = (t : Int) := by decide +kernel
theorem low_bit {y : Nat} (h0 : y ≠ 0) (h : y < 18446744073709551616) : band .u64 (y : Int) (IntKind.wrap .u64 ((0 : Int) - (y : Int))) = ((2 ^ tzN y : Nat) : Int) := by
  obtain ⟨t1, t2, t3⟩ := tz_spec h0 h
  have hy : BitVec.ofInt 64 (y : Int) = BitVec.ofNat 64 y := BitVec.ofInt_natCast _ _
  have hn : BitVec.ofInt 64 (IntKind.wrap .u64 ((0 : Int) - (y : Int))) = -BitVec.ofNat 64 y := by
    apply BitVec.eq_of_toNat_eq
    rw [BitVec.toNat_ofInt, BitVec.toNat_neg, BitVec.toNat_ofNat, wrapu]
    omega
  have key : BitVec.ofNat 64 y &&& -BitVec.ofNat 64 y = BitVec.twoPow 64 (tzN y) := by
    apply BitVec.eq_of_getLsbD_eq
    intro i hi
    rw [BitVec.getLsbD_and, BitVec.getLsbD_neg, BitVec.getLsbD_twoPow, BitVec.getLsbD_ofNat]
    simp only [hi, decide_true, Bool.true_and]
    rcases Nat.lt_trichotomy i (tzN y) with h1 | h1 | h1
    · rw [t3 i h1, Bool.false_and]
      rw [decide_eq_false (show ¬ tzN y = i by omega), Bool.and_false]
    · subst h1
      rw [t2]
      have : ¬ ∃ j, j < tzN y ∧ (BitVec.ofNat 64 y).getLsbD j = true := by
        rintro ⟨j, hj, h5⟩
        rw [BitVec.getLsbD_ofNat, t3 j hj] at h5
        simp at h5
      simp [this, t1]
    · have : ∃ j, j < i ∧ (BitVec.ofNat 64 y).getLsbD j = true := ⟨tzN y, h1, by rw [BitVec.getLsbD_ofNat, t2]; simp [t1]⟩
      simp only [this, decide_true]
      have hne : decide (tzN y = i) = false := by simp only [decide_eq_false_iff_not]; omega
      cases y.testBit i <;> simp [hne]
  show IntKind.wrap .u64 ((BitVec.ofInt 64 (y : Int) &&& BitVec.ofInt 64 (IntKind.wrap .u64 ((0 : Int) - (y : Int)))).toNat : Int) = _
  rw [hy, hn, key, BitVec.toNat_twoPow]
  have : 2 ^ tzN y < 2 ^ 64 := Nat.pow_lt_pow_right (by decide) t1
  rw [Nat.mod_eq_of_lt this]
  exact wrapu_nat this
abbrev SME := Int × Int × Unit
abbrev SMU : U := .pair (.int .i64) (.pair (.int .i64) .unit)
abbrev BBE := List Int × Nat
theorem tmod8 {s : Nat} : Int.tmod (s : Int) 8 = ((s % 8 : Nat) : Int) := tmod_nat (k := 8)
theorem tdiv8 {s : Nat} : Int.tdiv (s : Int) 8 = ((s / 8 : Nat) : Int) := tdiv_nat (k := 8)
def bitAt (v : Int) (k : Nat) : Bool := decide (band .u64 (shr .u64 (IntKind.wrap .u64 v) (k : Int)) (1 : Int) = 1)
theorem bit_val {v : Int} {k : Nat} (hk : k ≤ 64) : band .u64 (shr .u64 (IntKind.wrap .u64 v) (k : Int)) (1 : Int) = if bitAt v k = true then 1 else 0 := by
  obtain ⟨w, hw⟩ : ∃ w : Nat, IntKind.wrap .u64 v = (w : Int) := ⟨(v % 18446744073709551616).toNat, by rw [wrapu]; omega⟩
  rw [bitAt, hw, bit_eq hk]
  have := @bitN_lt w k
  by_cases h : bitN w k = 1
  · rw [h]; rfl
  · rw [if_neg (by simp only [decide_eq_true_eq]; omega)]; omega
def growB (b : BBE) : List Int := if b.2 % 8 = 0 then b.1 ++ [0] else b.1
def put1 (b : BBE) (x : Bool) : BBE := (if x = true then (growB b).set (b.2 / 8) (bor .u8 ((growB b).getD (b.2 / 8) default) (shr .u8 (128 : Int) ((b.2 % 8 : Nat) : Int))) else growB b, b.2 + 1)
def puts (v : Int) : Nat → BBE → BBE
  | 0, b => b
  | k + 1, b => puts v k (put1 b (bitAt v k))
def OKB (b : BBE) : Prop := b.1.length = (b.2 + 7) / 8
theorem growB_len {b : BBE} (h : OKB b) : (growB b).length = b.2 / 8 + 1 := by
  simp only [OKB] at h
  rw [growB]
  split
  · rw [List.length_append, h, List.length_singleton]; omega
  · rw [h]; omega
theorem put1_ok {b : BBE} {x : Bool} (h : OKB b) : OKB (put1 b x) := by
  have := growB_len h
  simp only [OKB, put1]
  split
  · rw [List.length_set, this]; omega
  · rw [this]; omega
theorem puts_ok {v : Int} : ∀ {n : Nat} {b : BBE}, OKB b → OKB (puts v n b)
  | 0, b, h => h
  | n + 1, b, h => puts_ok (n := n) (put1_ok h)
theorem puts_sz {v : Int} : ∀ {n : Nat} {b : BBE}, (puts v n b).2 = b.2 + n
  | 0, b => rfl
  | n + 1, b => by rw [puts, puts_sz, put1]; omega
def outB (b : BBE) : List Int × Int × Unit := (b.1, ((b.2 : Nat) : Int), ())
def bendB (b : BBE) (e : Int) : BBE :=
  if e = 0 then puts 0 1 b else if -63 ≤ e ∧ e ≤ 64 then puts (IntKind.wrap .i64 (e + 63)) 7 (puts 2 2 b) else if -255 ≤ e ∧ e ≤ 256 then puts (IntKind.wrap .i64 (e + 255)) 9 (puts 6 3 b)
  else if -2047 ≤ e ∧ e ≤ 2048 then puts (IntKind.wrap .i64 (e + 2047)) 12 (puts 14 4 b) else puts e 64 (puts 15 4 b)
theorem bendB_ok {b : BBE} {e : Int} (h : OKB b) : OKB (bendB b e) ∧ (bendB b e).2 ≤ b.2 + 68 := by
  simp only [bendB]
  split
  · exact ⟨puts_ok h, by rw [puts_sz]; omega⟩
  split
  · exact ⟨puts_ok (puts_ok h), by rw [puts_sz, puts_sz]; omega⟩
  split
  · exact ⟨puts_ok (puts_ok h), by rw [puts_sz, puts_sz]; omega⟩
  split
  · exact ⟨puts_ok (puts_ok h), by rw [puts_sz, puts_sz]; omega⟩
  · exact ⟨puts_ok (puts_ok h), by rw [puts_sz, puts_sz]; omega⟩
def turnN (a p : Int) : Nat := (BitVec.ofInt 64 a ^^^ BitVec.ofInt 64 p).toNat
theorem turn_lt {a p : Int} : turnN a p < 18446744073709551616 := (BitVec.ofInt 64 a ^^^ BitVec.ofInt 64 p).isLt
theorem turn_i {a p : Int} : IntKind.wrap .u64 (bxor .i64 a p) = (turnN a p : Int) := by
  have := @turn_lt a p
  show IntKind.wrap .u64 (IntKind.wrap .i64 (turnN a p : Int)) = _
  rw [wrapu]
  show (if (true && decide ((turnN a p : Int) % 18446744073709551616 ≥ 9223372036854775808)) = true then (turnN a p : Int) % 18446744073709551616 - 18446744073709551616 else (turnN a p : Int) % 18446744073709551616) % 18446744073709551616 = _
  split <;> omega
theorem ofInt_wrapu {a : Int} : BitVec.ofInt 64 (IntKind.wrap .u64 a) = BitVec.ofInt 64 a := by
  apply BitVec.eq_of_toNat_eq
  rw [BitVec.toNat_ofInt, BitVec.toNat_ofInt, wrapu]
  omega
theorem turn_u {a p : Int} : bxor .u64 (IntKind.wrap .u64 a) (IntKind.wrap .u64 p) = (turnN a p : Int) := by
  show IntKind.wrap .u64 ((BitVec.ofInt 64 (IntKind.wrap .u64 a) ^^^ BitVec.ofInt 64 (IntKind.wrap .u64 p)).toNat : Int) = _
  rw [ofInt_wrapu, ofInt_wrapu]
  exact wrapu_nat turn_lt
abbrev FRE := Option (Nat × Nat)
def frB (st : FRE) (y : Nat) : Bool := match st with | some (ld, tr) => decide (ld ≤ lzN y) && decide (tr ≤ tzN y) | none => false
def leadN (st : FRE) : Nat := (st.getD (0, 0)).1
def leadI (st : FRE) : Int := match st with | some p => (p.1 : Int) | none => -1
def trailN (st : FRE) : Nat := (st.getD (0, 0)).2
def oldB (b : BBE) (st : FRE) (y : Nat) : BBE := puts (IntKind.wrap .i64 ((y / 2 ^ trailN st : Nat) : Int)) (64 - leadN st - trailN st) (puts 2 2 b)
def newB (b : BBE) (y : Nat) : BBE := puts (IntKind.wrap .i64 ((y / 2 ^ tzN y : Nat) : Int)) (64 - lzN y - tzN y) (puts ((64 - lzN y - tzN y - 1 : Nat) : Int) 6 (puts (lzN y : Int) 6 (puts 3 2 b)))
def valB (b : BBE) (st : FRE) (y : Nat) : BBE × FRE := if y = 0 then (puts 0 1 b, st) else if frB st y = true then (oldB b st y, st) else (newB b y, some (lzN y, tzN y))
def nowI (l : List SME) (i : Nat) : Int := IntKind.wrap .i64 ((l.getD i default).1 - (l.getD (i - 1) default).1)
def bendI (l : List SME) (i : Nat) (step : Int) : Int := if i = 1 then nowI l i else IntKind.wrap .i64 (nowI l i - step)
def turnI (l : List SME) (i : Nat) : Nat := turnN (l.getD i default).2.1 (l.getD (i - 1) default).2.1
def packR (l : List SME) : Nat → Nat → BBE → FRE → Int → BBE
  | 0, _, b, _, _ => b
  | d + 1, i, b, st, step => if i = 0 then packR l d (i + 1) (puts (l.getD i default).2.1 64 (puts (l.getD i default).1 40 b)) st step
    else packR l d (i + 1) (valB (bendB b (bendI l i step)) st (turnI l i)).1 (valB (bendB b (bendI l i step)) st (turnI l i)).2 (nowI l i)
def packV (l : List SME) : BBE := packR l l.length 0 (puts (l.length : Int) 8 ([], 0)) none 0
def FrOK (st : FRE) : Prop := leadN st + trailN st ≤ 63
theorem valB_ok {b : BBE} {st : FRE} {y : Nat} (h : OKB b) (hs : FrOK st) (hy : y < 18446744073709551616) : OKB (valB b st y).1 ∧ (valB b st y).1.2 ≤ b.2 + 78 ∧ FrOK (valB b st y).2 := by
  simp only [valB]
  split
  · exact ⟨puts_ok h, by rw [puts_sz]; omega, hs⟩
  rename_i h0
  split
  · exact ⟨puts_ok (puts_ok h), by rw [oldB, puts_sz, puts_sz]; omega, hs⟩
  · exact ⟨puts_ok (puts_ok (puts_ok (puts_ok h))), by rw [newB, puts_sz, puts_sz, puts_sz, puts_sz]; omega, lz_tz h0 hy⟩
theorem packR_ok {l : List SME} : ∀ d i b st step, OKB b → FrOK st → OKB (packR l d i b st step) ∧ (packR l d i b st step).2 ≤ b.2 + 150 * d
  | 0, i, b, st, step, h, hs => ⟨h, by simp [packR]⟩
  | d + 1, i, b, st, step, h, hs => by
    simp only [packR]
    split
    · have := packR_ok (l := l) d (i + 1) (puts (l.getD i default).2.1 64 (puts (l.getD i default).1 40 b)) st step (puts_ok (puts_ok h)) hs
      rw [puts_sz, puts_sz] at this
      exact ⟨this.1, by omega⟩
    · obtain ⟨h1, h2⟩ := bendB_ok (e := bendI l i step) h
      obtain ⟨h3, h4, h5⟩ := valB_ok h1 hs (turn_lt (a := (l.getD i default).2.1) (p := (l.getD (i - 1) default).2.1))
      have := packR_ok (l := l) d (i + 1) _ _ (nowI l i) h3 h5
      exact ⟨this.1, by have := this.2; simp only [turnI] at *; omega⟩
def samplesB (l : List SME) : Bool := ((List.range l.length).all fun i => timeB (l.getD i default).1 && !(decide (0 < i) && decide ((l.getD i default).1 ≤ (l.getD (i - 1) default).1))) && decide (l.length ≤ 2000)
def chunkF (l : List SME) : BBE := if (samplesB l && decide (l.length ≤ 120)) = true then packV l else ([], 0)
theorem chunkF_ok {l : List SME} : OKB (chunkF l) ∧ (chunkF l).2 ≤ 100000 := by
  rw [chunkF]
  split
  · rename_i h
    simp only [Bool.and_eq_true, decide_eq_true_eq] at h
    have := packR_ok (l := l) l.length 0 (puts (l.length : Int) 8 ([], 0)) none 0 (puts_ok rfl) (by simp [FrOK, leadN, trailN])
    rw [puts_sz] at this
    exact ⟨this.1, by rw [packV]; omega⟩
  · exact ⟨rfl, by decide⟩
theorem len_lt {a b : Nat} (h : a + b ≤ 63) : IntKind.wrap .i64 (IntKind.wrap .i64 ((64 : Int) - (a : Int)) - (b : Int)) = ((64 - a - b : Nat) : Int) := by
  rw [i64_ok (x := (64 : Int) - (a : Int)) (by omega) (by omega), i64_ok (by omega) (by omega)]; omega
theorem len_pred {a b : Nat} (h : a + b ≤ 63) : IntKind.wrap .i64 (((64 - a - b : Nat) : Int) - 1) = ((64 - a - b - 1 : Nat) : Int) := by
  rw [i64_ok (by omega) (by omega)]; omega
theorem pred_i64 {i : Nat} (h : i ≠ 0) (h2 : i ≤ 4611686018427387904) : IntKind.wrap .i64 ((i : Int) - 1) = ((i - 1 : Nat) : Int) := by
  rw [i64_ok (by omega) (by omega)]; omega
abbrev CRE := List Int × Int × Int × Unit
def CurOK (code : List Int) (m : Int) (c : CRE) : Prop := c.1 = code ∧ 0 ≤ c.2.1 ∧ c.2.1 ≤ m
def CodeOK (code : List Int) : Prop := code.length ≤ 1048576 ∧ ∀ x ∈ code, 0 ≤ x ∧ x ≤ 255
theorem CurOK.up {code : List Int} {m m' : Int} {c : CRE} (h : CurOK code m c) (hm : m ≤ m') : CurOK code m' c := ⟨h.1, h.2.1, Int.le_trans h.2.2 hm⟩
theorem band255 {x : Int} : ∃ z : Nat, band .u64 x 255 = (z : Int) ∧ z ≤ 255 := by
  have h : (BitVec.ofInt 64 x &&& BitVec.ofInt 64 255).toNat ≤ 255 := by
    rw [BitVec.toNat_and]
    exact Nat.le_trans Nat.and_le_right (by decide)
  refine ⟨_, ?_, h⟩
  show IntKind.wrap .u64 ((BitVec.ofInt 64 x &&& BitVec.ofInt 64 255).toNat : Int) = _
  exact wrapu_nat (by omega)
theorem wrap_range {x : Int} : -9223372036854775808 ≤ IntKind.wrap .i64 x ∧ IntKind.wrap .i64 x ≤ 9223372036854775807 := by
  have e : IntKind.wrap .i64 x = (if (true && decide (x % 18446744073709551616 ≥ 9223372036854775808)) = true then x % 18446744073709551616 - 18446744073709551616 else x % 18446744073709551616) := rfl
  rw [e]
  split <;> rename_i h <;> simp only [Bool.true_and, decide_eq_true_eq, Bool.not_eq_true] at h <;> omega
def PickOK (code : List Int) (m k : Int) (r : Int × CRE) : Prop := 0 ≤ r.1 ∧ r.1 ≤ 65535 ∧ (1 ≤ k → r.1 < k) ∧ CurOK code m r.2
theorem spec_l1Cur__next.ev (code : List Int) (hc : CodeOK code) (m : Int) (hm : m ≤ 1000000) (c : CRE) (h : CurOK code m c) : EvP (fun n => spec_l1Cur__next n c) (fun (r : Int × CRE) => 0 ≤ r.1 ∧ r.1 ≤ 255 ∧ CurOK code (m + 1) r.2) := by
  obtain ⟨h1, h2, h3⟩ := h
  have p5 : ∀ y, 0 ≤ y → y ≤ 255 → EvP (fun n => goRec spec_l1Cur__next.step n (spec_l1Cur__next.Pt.p5 y c.1 c.2.1 c.2.2.1)) (fun (r : Int × CRE) => 0 ≤ r.1 ∧ r.1 ≤ 255 ∧ CurOK code (m + 1) r.2) := by
    intro y hy hy2
    have e : IntKind.wrap .i64 (c.2.1 + 1) = c.2.1 + 1 := i64_ok (by omega) (by omega)
    have cur : ∀ s : Int, CurOK code (m + 1) (c.1, c.2.1 + 1, s, ()) := fun s => ⟨h1, by show 0 ≤ c.2.1 + 1; omega, by show c.2.1 + 1 ≤ m + 1; omega⟩
    refine EvP.step ?_
    simp only [spec_l1Cur__next.step, e]
    refine EvP.cnd (fun _ => EvP.pure ⟨hy, hy2, cur _⟩) fun _ => EvP.pure ?_
    obtain ⟨z, hz, hz2⟩ := @band255 (shr .u64 (IntKind.wrap .u64 (IntKind.wrap .u64 (IntKind.wrap .u64 (6364136223846793005 * c.2.2.1) + IntKind.wrap .u64 y) + 1442695040888963407)) 40)
    refine ⟨?_, ?_, cur _⟩
    · show 0 ≤ IntKind.wrap .i64 (band .u64 _ 255)
      rw [hz, i64_id (by omega)]; omega
    · show IntKind.wrap .i64 (band .u64 _ 255) ≤ 255
      rw [hz, i64_id (by omega)]; omega
  refine EvP.step ?_
  simp only [spec_l1Cur__next.step]
  refine EvP.cnd (fun e => ?_) fun e => p5 0 (by omega) (by omega)
  have e : c.2.1 < (c.1.length : Int) := of_decide_eq_true e
  obtain ⟨i, hi⟩ : ∃ i : Nat, c.2.1 = (i : Int) := ⟨c.2.1.toNat, by omega⟩
  have hin : i < c.1.length := by omega
  refine EvP.yes (inB_of ⟨h2, e⟩) ?_
  have hx := hc.2 (c.1.getD i default) (by rw [← h1]; exact getD_mem hin)
  rw [hi, toNat_cast, ← hi, i64_ok (by omega) (by omega)]
  exact p5 _ hx.1 hx.2
theorem spec_l1Cur__pick.ev (code : List Int) (hc : CodeOK code) (m : Int) (hm : m ≤ 900000) (c : CRE) (k : Int) (h : CurOK code m c) : EvP (fun n => spec_l1Cur__pick n c k) (PickOK code (m + 2) k) := by
  refine EvP.step ?_
  simp only [spec_l1Cur__pick.step]
  refine EvP.cnd (fun e => EvP.pure ⟨Int.le_refl _, by show (0 : Int) ≤ 65535; decide, fun h1 => by show (0 : Int) < k; omega, h.up (by omega)⟩) fun e => ?_
  have e : 1 < k := by have := of_decide_eq_false e; omega
  have bnd : ∀ x : Int, 0 ≤ x → x ≤ 65535 → 0 ≤ Int.tmod x k ∧ Int.tmod x k ≤ 65535 ∧ Int.tmod x k < k := by
    intro x h0 h1
    rw [Int.tmod_eq_emod_of_nonneg h0]
    have a := Int.emod_nonneg x (show k ≠ 0 by omega)
    have b := Int.emod_lt_of_pos x (show 0 < k by omega)
    have d : x % k ≤ x := by
      obtain ⟨y, rfl⟩ := Int.eq_ofNat_of_zero_le h0
      obtain ⟨z, rfl⟩ := Int.eq_ofNat_of_zero_le (show 0 ≤ k by omega)
      have := Nat.mod_le y z
      rw [← Int.natCast_emod]
      omega
    omega
  refine EvP.bindP (spec_l1Cur__next.ev code hc m (by omega) c h) fun r5 h5 => ?_
  obtain ⟨a5, b5, c5⟩ := h5
  have a5 : (0 : Int) ≤ r5.1 := a5
  have b5 : (r5.1 : Int) ≤ 255 := b5
  refine EvP.cnd (fun _ => ?_) fun _ => ?_
  · refine EvP.bindP (spec_l1Cur__next.ev code hc (m + 1) (by omega) r5.2 c5) fun r6 h6 => EvP.no (decide_eq_false (by omega)) (EvP.pure ?_)
    obtain ⟨a6, b6, c6⟩ := h6
    have a6 : (0 : Int) ≤ r6.1 := a6
    have b6 : (r6.1 : Int) ≤ 255 := b6
    have e1 : IntKind.wrap .i64 (IntKind.wrap .i64 (r5.1 * 256) + r6.1) = r5.1 * 256 + r6.1 := by
      rw [i64_ok (x := r5.1 * 256) (by omega) (by omega), i64_ok (by omega) (by omega)]
    have hb := bnd (r5.1 * 256 + r6.1) (by omega) (by omega)
    refine ⟨?_, ?_, fun _ => ?_, c6.up (by omega)⟩
    · show 0 ≤ Int.tmod (IntKind.wrap .i64 (IntKind.wrap .i64 (r5.1 * 256) + r6.1)) k
      rw [e1]; exact hb.1
    · show Int.tmod (IntKind.wrap .i64 (IntKind.wrap .i64 (r5.1 * 256) + r6.1)) k ≤ 65535
      rw [e1]; exact hb.2.1
    · show Int.tmod (IntKind.wrap .i64 (IntKind.wrap .i64 (r5.1 * 256) + r6.1)) k < k
      rw [e1]; exact hb.2.2
  · have hb := bnd r5.1 a5 (by omega)
    exact EvP.no (decide_eq_false (by omega)) (EvP.pure ⟨hb.1, hb.2.1, fun _ => hb.2.2, c5.up (by omega)⟩)
theorem spec_l1Cur__one.ev (code : List Int) (hc : CodeOK code) (m : Int) (hm : m ≤ 900000) (c : CRE) (k : Int) (h : CurOK code m c) : EvP (fun n => spec_l1Cur__one n c k) (fun (r : _ × CRE) => CurOK code (m + 2) r.2) := by
  refine EvP.step ?_
  simp only [spec_l1Cur__one.step]
  exact EvP.bindP (spec_l1Cur__pick.ev code hc m hm c k h) fun r hr => EvP.pure hr.2.2.2
theorem spec_l1Cur__ranges.ev (code : List Int) (hc : CodeOK code) (m : Int) (hm : m ≤ 800000) (c : CRE) (lo hi : Int) (h : CurOK code m c) : EvP (fun n => spec_l1Cur__ranges n c lo hi) (fun (r : List RG × CRE) => r.1.length ≤ 2 ∧ CurOK code (m + 12) r.2) := by
  have loop : ∀ (k : Nat) (m : Int) (c : CRE) (l : List RG), m + 4 * k ≤ 850000 → l.length + k ≤ 2 → CurOK code m c → EvP (fun n => goRec spec_l1Cur__ranges.step n (spec_l1Cur__ranges.Pt.p17 lo hi (k : Int) c.1 c.2.1 c.2.2.1 l)) (fun (r : List RG × CRE) => r.1.length ≤ 2 ∧ CurOK code (m + 4 * k) r.2) := by
    intro k
    induction k with
    | zero =>
      intro m c l hm hl h
      refine EvP.step ?_
      simp only [spec_l1Cur__ranges.step]
      exact EvP.no (by decide) (EvP.pure ⟨by show l.length ≤ 2; omega, h.up (by omega)⟩)
    | succ k ih =>
      intro m c l hm hl h
      refine EvP.step ?_
      simp only [spec_l1Cur__ranges.step]
      refine EvP.yes (by simp only [decide_eq_true_eq]; omega) (EvP.bindP (spec_l1Cur__pick.ev code hc m (by omega) c _ h) fun r10 h10 => EvP.bindP (spec_l1Cur__pick.ev code hc (m + 2) (by omega) r10.2 _ h10.2.2.2) fun r11 h11 => EvP.yes (room_ok (by simp; omega)) ?_)
      rw [i64_ok (x := ((k + 1 : Nat) : Int) - 1) (by omega) (by omega), show ((k + 1 : Nat) : Int) - 1 = (k : Int) by omega]
      refine (ih (m + 4) r11.2 _ (by omega) (by simp; omega) (h11.2.2.2.up (by omega))).imp fun r hr => ⟨hr.1, hr.2.up (by omega)⟩
  refine EvP.step ?_
  simp only [spec_l1Cur__ranges.step]
  refine EvP.bindP (spec_l1Cur__one.ev code hc m (by omega) c 2 h) fun r6 h6 => EvP.cnd (fun _ => EvP.pure ⟨by simp, h6.up (by omega)⟩) fun _ => EvP.bindP (spec_l1Cur__pick.ev code hc (m + 2) (by omega) r6.2 2 h6) fun r7 h7 => ?_
  obtain ⟨z, c7⟩ := r7
  have hb : @LT.lt Int _ z 2 := h7.2.2.1 (by decide)
  have hb0 : @LE.le Int _ 0 z := h7.1
  change EvP (fun n => goRec spec_l1Cur__ranges.step n (spec_l1Cur__ranges.Pt.p17 lo hi (IntKind.wrap .i64 ((1 : Int) + z)) c7.1 c7.2.1 c7.2.2.1 [])) _
  obtain ⟨k, hk⟩ : ∃ k : Nat, (1 : Int) + z = (k : Int) := ⟨((1 : Int) + z).toNat, by omega⟩
  rw [i64_ok (x := (1 : Int) + z) (by omega) (by omega), hk]
  exact (loop k (m + 4) c7 [] (by omega) (by simp; omega) (h7.2.2.2.up (by omega))).imp fun r hr => ⟨hr.1, hr.2.up (by omega)⟩
def ItvOK (k : Nat) (x : ITV) : Prop := (-9223372036854775808 ≤ x.1 ∧ x.1 ≤ 9223372036854775807) ∧ x.2.1.length ≤ k ∧ x.2.2.1.length ≤ k ∧ x.2.2.2.1.length ≤ k ∧ x.2.2.2.2.1.length ≤ k ∧ x.2.2.2.2.2.1.length ≤ k ∧ x.2.2.2.2.2.2.1.length ≤ k
theorem spec_l1Cur__interval.ev (code : List Int) (hc : CodeOK code) (c : CRE) (h : CurOK code 0 c) : EvP (fun n => spec_l1Cur__interval n c) (fun (r : ITV × CRE) => ItvOK 2 r.1 ∧ CurOK code 100 r.2) := by
  have p21 : ∀ (z : Int) (c : CRE) (d1 d2 : Int) (e1 e2 e3 e4 e5 : List RG) (e6 : List Int) (l1 l2 l3 l4 l5 : List RG) (l6 : List Int), (-9223372036854775808 ≤ z ∧ z ≤ 9223372036854775807) → CurOK code 90 c → l1.length ≤ 2 → l2.length ≤ 2 → l3.length ≤ 2 → l4.length ≤ 2 → l5.length ≤ 2 → l6.length ≤ 2 →
      EvP (fun n => goRec spec_l1Cur__interval.step n (spec_l1Cur__interval.Pt.p21 c.1 c.2.1 c.2.2.1 d1 z e1 e2 e3 e4 e5 e6 l1 l2 l3 l4 l5 l6)) (fun (r : ITV × CRE) => ItvOK 2 r.1 ∧ CurOK code 100 r.2) := by
    intro z c d1 d2 e1 e2 e3 e4 e5 e6 l1 l2 l3 l4 l5 l6 hz hc' h1 h2 h3 h4 h5 h6
    refine EvP.step ?_
    simp only [spec_l1Cur__interval.step]
    refine EvP.bindP (spec_l1Cur__one.ev code hc 90 (by decide) c 2 hc') fun r hr => EvP.cnd (fun _ => EvP.pure ⟨⟨hz, by simp, h2, h3, by simp, by simp, by simp⟩, hr.up (by decide)⟩) fun _ => EvP.pure ⟨⟨hz, h1, h2, h3, h4, h5, h6⟩, hr.up (by decide)⟩
  have p7 : ∀ (z : Int) (c : CRE) (d1 d2 : Int) (e1 e2 e3 e4 e5 : List RG) (e6 : List Int) (l1 l2 l3 l4 l5 : List RG) (l6 : List Int), (-9223372036854775808 ≤ z ∧ z ≤ 9223372036854775807) → CurOK code 80 c → l1.length ≤ 2 → l2.length ≤ 2 → l3.length ≤ 2 → l4.length ≤ 2 → l5.length ≤ 2 → l6.length ≤ 2 →
      EvP (fun n => goRec spec_l1Cur__interval.step n (spec_l1Cur__interval.Pt.p7 c.1 c.2.1 c.2.2.1 d1 z e1 e2 e3 e4 e5 e6 l1 l2 l3 l4 l5 l6)) (fun (r : ITV × CRE) => ItvOK 2 r.1 ∧ CurOK code 100 r.2) := by
    intro z c d1 d2 e1 e2 e3 e4 e5 e6 l1 l2 l3 l4 l5 l6 hz hc' h1 h2 h3 h4 h5 h6
    refine EvP.step ?_
    simp only [spec_l1Cur__interval.step]
    refine EvP.bindP (spec_l1Cur__one.ev code hc 80 (by decide) c 4 hc') fun r20 h20 => EvP.cnd (fun _ => EvP.bindP (spec_l1Cur__pick.ev code hc 82 (by decide) r20.2 140 h20) fun r21 h21 => EvP.bindP (spec_l1Cur__one.ev code hc 84 (by decide) r21.2 4 h21.2.2.2) fun r22 h22 => EvP.cnd (fun _ => EvP.bindP (spec_l1Cur__pick.ev code hc 86 (by decide) r22.2 200 h22) fun r23 h23 => ?_) fun _ => ?_) fun _ => EvP.bindP (spec_l1Cur__one.ev code hc 82 (by decide) r20.2 4 h20) fun r21 h21 => EvP.cnd (fun _ => EvP.bindP (spec_l1Cur__pick.ev code hc 84 (by decide) r21.2 200 h21) fun r22 h22 => ?_) fun _ => ?_
    · exact p21 z r23.2 d1 d2 e1 e2 e3 e4 e5 e6 l1 l2 l3 l4 _ _ hz (h23.2.2.2.up (by decide)) h1 h2 h3 h4 (by simp) (by simp)
    · exact p21 z r22.2 d1 d2 e1 e2 e3 e4 e5 e6 l1 l2 l3 l4 _ l6 hz (h22.up (by decide)) h1 h2 h3 h4 (by simp) h6
    · exact p21 z r22.2 d1 d2 e1 e2 e3 e4 e5 e6 l1 l2 l3 l4 l5 _ hz (h22.2.2.2.up (by decide)) h1 h2 h3 h4 h5 (by simp)
    · exact p21 z r21.2 d1 d2 e1 e2 e3 e4 e5 e6 l1 l2 l3 l4 l5 l6 hz (h21.up (by decide)) h1 h2 h3 h4 h5 h6
  refine EvP.step ?_
  simp only [spec_l1Cur__interval.step]
  refine EvP.bindP (spec_l1Cur__pick.ev code hc 0 (by decide) c 27 h) fun r4 h4 => EvP.bindP (spec_l1Cur__ranges.ev code hc 2 (by decide) r4.2 0 1439 h4.2.2.2) fun r5 h5 => EvP.bindP (spec_l1Cur__ranges.ev code hc 14 (by decide) r5.2 0 6 h5.2) fun r6 h6 => EvP.bindP (spec_l1Cur__ranges.ev code hc 26 (by decide) r6.2 1 12 h6.2) fun r7 h7 => EvP.bindP (spec_l1Cur__ranges.ev code hc 38 (by decide) r7.2 1 31 h7.2) fun r8 h8 => EvP.bindP (spec_l1Cur__one.ev code hc 50 (by decide) r8.2 2 h8.2) fun r9 h9 => EvP.cnd (fun _ => EvP.bindP (spec_l1Cur__pick.ev code hc 52 (by decide) r9.2 5 h9) fun r10 h10 => EvP.bindP (spec_l1Cur__pick.ev code hc 54 (by decide) r10.2 _ h10.2.2.2) fun r11 h11 => ?_) fun _ => ?_
  · exact p7 _ r11.2 default default [] [] [] [] [] [] r5.1 r6.1 _ r7.1 [] [] wrap_range (h11.2.2.2.up (by decide)) h5.1 h6.1 (by simp) h7.1 (by simp) (by simp)
  · exact p7 _ r9.2 default default [] [] [] [] [] [] r5.1 r6.1 r8.1 r7.1 [] [] wrap_range (h9.up (by decide)) h5.1 h6.1 h8.1 h7.1 (by simp) (by simp)
theorem spec_l19Leap.ev (y : Int) (h : 0 ≤ y) : Ev (fun n => spec_l19Leap n y) (decide (lp y = 1)) := by
  refine Ev.step ?_
  simp only [spec_l19Leap.step]
  rw [Int.tmod_eq_emod_of_nonneg h, Int.tmod_eq_emod_of_nonneg h, Int.tmod_eq_emod_of_nonneg h]
  refine Ev.cnd (fun c => Ev.cnd (fun c2 => Ev.pure' ?_) fun c2 => Ev.pure' ?_) fun c => Ev.pure' ?_ <;> simp at * <;> simp [lp, *]
theorem spec_l19Month.ev (y m : Int) (h : 0 ≤ y) (h1 : 1 ≤ m) (h2 : m ≤ 12) : Ev (fun n => spec_l19Month n y m) (mon y m) := by
  refine Ev.step ?_
  simp only [spec_l19Month.step]
  have hin : inB m (List.length [(0 : Int), (31 : Int), (28 : Int), (31 : Int), (30 : Int), (31 : Int), (30 : Int), (31 : Int), (31 : Int), (30 : Int), (31 : Int), (30 : Int), (31 : Int)]) = true := by simp [inB]; omega
  have hl := lp_01 y
  refine Ev.cnd (fun c => Ev.bind (spec_l19Leap.ev y h) (Ev.cnd (fun c2 => Ev.pure' ?_) fun c2 => Ev.yes hin (Ev.pure' ?_))) fun c => Ev.yes hin (Ev.pure' ?_)
  · simp at c c2; simp [mon, c, c2]
  · have c2 := of_decide_eq_false c2
    have c := of_decide_eq_true c
    subst c
    have h0 : lp y = 0 := by omega
    simp [mon, h0]
  · simp at c
    have hm : m = 1 ∨ m = 3 ∨ m = 4 ∨ m = 5 ∨ m = 6 ∨ m = 7 ∨ m = 8 ∨ m = 9 ∨ m = 10 ∨ m = 11 ∨ m = 12 := by omega
    rcases hm with rfl | rfl | rfl | rfl | rfl | rfl | rfl | rfl | rfl | rfl | rfl <;> simp [mon]
theorem spec_l19Year.ev (y : Int) (h : 0 ≤ y) : Ev (fun n => spec_l19Year n y) (yl y) := by
  refine Ev.step ?_
  simp only [spec_l19Year.step]
  have hl := lp_01 y
  refine Ev.bind (spec_l19Leap.ev y h) (Ev.cnd (fun c => Ev.pure' (α := Int) ?_) fun c => Ev.pure' (α := Int) ?_)
  · have := of_decide_eq_true c; simp only [yl]; omega
  · have := of_decide_eq_false c; simp only [yl]; omega
theorem spec_DayNumber.months (y m : Int) (hy : 0 ≤ y) (hm : m ≤ 12) (h1m : 1 ≤ m) (d : Nat) : ∀ (n i : Int), 1 ≤ i → i ≤ m → (m - i).toNat ≤ d → 0 ≤ n → n ≤ 100000000 + 31 * i → Ev (fun k => goRec spec_DayNumber.step k (spec_DayNumber.Pt.p32 y m n i)) (n + cumd y m - cumd y i) := by
  induction d with
  | zero =>
    intro n i h1 hi hd h0 hn
    obtain rfl : i = m := by omega
    refine Ev.step ?_
    simp only [spec_DayNumber.step]
    exact Ev.no (by simp) (Ev.pure' (α := Int) (by omega))
  | succ d ih =>
    intro n i h1 hi hd h0 hn
    refine Ev.step ?_
    simp only [spec_DayNumber.step]
    by_cases c : i < m
    · have hb := mon_bd y i
      have hc := cumd_succ y i h1 (by omega)
      refine Ev.yes (by simpa using c) (Ev.bind (spec_l19Month.ev y i hy h1 (by omega)) ?_)
      rw [w64 (n := n + mon y i) (by omega) (by omega), w64 (n := i + 1) (by omega) (by omega)]
      exact Ev.of_eq (α := Int) (ih (n + mon y i) (i + 1) (by omega) (by omega) (by omega) (by omega) (by omega)) (by omega)
    · obtain rfl : i = m := by omega
      exact Ev.no (by simp) (Ev.pure' (α := Int) (by omega))
theorem spec_DayNumber.years (y m : Int) (hy : 1970 ≤ y) (hy' : y ≤ 40000) (hm : m ≤ 12) (h1m : 1 ≤ m) (d : Nat) : ∀ (n i : Int), 1970 ≤ i → i ≤ y → (y - i).toNat ≤ d → 0 ≤ n → n ≤ 32 + 366 * (i - 1970) → Ev (fun k => goRec spec_DayNumber.step k (spec_DayNumber.Pt.p17 y m n i)) (n + dto y - dto i + cumd y m) := by
  induction d with
  | zero =>
    intro n i h1 hi hd h0 hn
    obtain rfl : i = y := by omega
    refine Ev.step ?_
    simp only [spec_DayNumber.step]
    refine Ev.no (by simp) (Ev.of_eq (α := Int) (spec_DayNumber.months i m (by omega) hm h1m (m - 1).toNat n 1 (by omega) h1m (by omega) h0 (by omega)) (by simp [cumd]))
  | succ d ih =>
    intro n i h1 hi hd h0 hn
    refine Ev.step ?_
    simp only [spec_DayNumber.step]
    by_cases c : i < y
    · have hl := lp_01 i
      have hyl : yl i = 365 + lp i := rfl
      have hs := dto_succ i
      refine Ev.yes (by simpa using c) (Ev.bind (spec_l19Year.ev i (by omega)) ?_)
      rw [w64 (n := n + yl i) (by omega) (by omega), w64 (n := i + 1) (by omega) (by omega)]
      exact Ev.of_eq (α := Int) (ih (n + yl i) (i + 1) (by omega) (by omega) (by omega) (by omega) (by omega)) (by omega)
    · obtain rfl : i = y := by omega
      refine Ev.no (by simp) (Ev.of_eq (α := Int) (spec_DayNumber.months i m (by omega) hm h1m (m - 1).toNat n 1 (by omega) h1m (by omega) h0 (by omega)) (by simp [cumd]))
theorem spec_DayNumber.ev (y m d : Int) : Ev (fun n => spec_DayNumber n y m d) (dayV y m d) := by
  have bad : dayIn y m d = false → Ev (fun n => goRec spec_DayNumber.step n (spec_DayNumber.Pt.p4 y m d true)) (dayV y m d) := by
    intro h
    refine Ev.step ?_
    simp only [spec_DayNumber.step]
    exact Ev.yes rfl (Ev.pure' (by simp [dayV, h]))
  refine Ev.step ?_
  simp only [spec_DayNumber.step]
  refine Ev.cnd (fun c => bad (by have := of_decide_eq_true c; simp [dayIn]; omega)) fun c1 => Ev.cnd (fun c => bad (by have := of_decide_eq_true c; simp [dayIn]; omega)) fun c2 => Ev.cnd (fun c => bad (by have := of_decide_eq_true c; simp [dayIn]; omega)) fun c3 => Ev.cnd (fun c => bad (by have := of_decide_eq_true c; simp [dayIn]; omega)) fun c4 => Ev.cnd (fun c => bad (by have := of_decide_eq_true c; simp [dayIn]; omega)) fun c5 => ?_
  replace c1 := of_decide_eq_false c1; replace c2 := of_decide_eq_false c2; replace c3 := of_decide_eq_false c3; replace c4 := of_decide_eq_false c4; replace c5 := of_decide_eq_false c5
  refine Ev.bind (spec_l19Month.ev y m (by omega) (by omega) (by omega)) ?_
  have hb := mon_bd y m
  by_cases c6 : mon y m < d
  · rw [decide_eq_true c6]; exact bad (by simp [dayIn]; omega)
  · rw [decide_eq_false c6]
    have hin : dayIn y m d = true := by simp [dayIn]; omega
    refine Ev.step ?_
    simp only [spec_DayNumber.step]
    rw [w64 (n := d - 1) (by omega) (by omega)]
    refine Ev.no rfl (Ev.of_eq (α := Int) (spec_DayNumber.years y m (by omega) (by omega) (by omega) (by omega) (y - 1970).toNat (d - 1) 1970 (by omega) (by omega) (by omega) (by omega) (by omega)) ?_)
    rw [dayV, if_pos hin, dto_1970]; omega
theorem spec_l1Cur__day.ev (code : List Int) (hc : CodeOK code) (c : CRE) (h : CurOK code 100 c) : EvP (fun n => spec_l1Cur__day n c) (fun (r : Int × CRE) => CurOK code 120 r.2) := by
  refine EvP.step ?_
  simp only [spec_l1Cur__day.step]
  refine EvP.bindP (spec_l1Cur__pick.ev code hc 100 (by decide) c _ h) fun r4 h4 => EvP.bindP (spec_l1Cur__pick.ev code hc 102 (by decide) r4.2 _ h4.2.2.2) fun r5 h5 => EvP.bindP (spec_l1Cur__pick.ev code hc 104 (by decide) r5.2 _ h5.2.2.2) fun r6 h6 => EvP.bindP (spec_l1Cur__pick.ev code hc 106 (by decide) r6.2 _ h6.2.2.2) fun r7 h7 => ?_
  refine EvP.cnd (fun _ => EvP.bindP (spec_l1Cur__pick.ev code hc 108 (by decide) r7.2 _ h7.2.2.2) fun r8 h8 => EvP.pure (h8.2.2.2.up (by decide))) fun _ => EvP.cnd (fun _ => EvP.bindP (spec_l1Cur__pick.ev code hc 108 (by decide) r7.2 _ h7.2.2.2) fun r8 h8 => EvP.pure (h8.2.2.2.up (by decide))) fun _ => EvP.cnd (fun _ => EvP.bindP (spec_l1Cur__pick.ev code hc 108 (by decide) r7.2 _ h7.2.2.2) fun r8 h8 => EvP.bind (spec_DayNumber.ev _ _ _) (EvP.bindP (spec_l1Cur__pick.ev code hc 110 (by decide) r8.2 _ h8.2.2.2) fun r10 h10 => EvP.pure (h10.2.2.2.up (by decide)))) fun _ => EvP.pure (h7.2.2.2.up (by decide))
theorem spec_l1Cur__of2.ev (code : List Int) (hc : CodeOK code) (m : Int) (hm : m ≤ 900000) (c : CRE) (a b : Int) (h : CurOK code m c) : EvP (fun n => spec_l1Cur__of2 n c a b) (fun (r : _ × CRE) => CurOK code (m + 2) r.2) := by
  refine EvP.step ?_
  simp only [spec_l1Cur__of2.step]
  exact EvP.bindP (spec_l1Cur__one.ev code hc m hm c 2 h) fun r hr => EvP.cnd (fun _ => EvP.pure hr) fun _ => EvP.pure hr
theorem spec_l1Cur__oddInterval.ev (code : List Int) (hc : CodeOK code) (c : CRE) (x : ITV) (hx : ItvOK 2 x) (h : CurOK code 130 c) : EvP (fun n => spec_l1Cur__oddInterval n c x) (fun (r : ITV × CRE) => ItvOK 40 r.1 ∧ CurOK code 300 r.2) := by
  obtain ⟨hz, x1, x2, x3, x4, x5, x6⟩ := hx
  have loop : ∀ (d : Nat) (m : Int) (c : CRE) (l : List RG) (d1 : Int) (e1 e2 e3 e4 e5 : List RG) (e6 : List Int), m + 2 * d ≤ 250 → l.length + d = 30 → CurOK code m c →
      EvP (fun n => goRec spec_l1Cur__oddInterval.step n (spec_l1Cur__oddInterval.Pt.p31 c.1 c.2.1 c.2.2.1 x.1 d1 x.2.1 x.2.2.1 x.2.2.2.1 l x.2.2.2.2.2.1 x.2.2.2.2.2.2.1 e1 e2 e3 e4 e5 e6)) (fun (r : ITV × CRE) => ItvOK 40 r.1 ∧ CurOK code 300 r.2) := by
    intro d
    induction d with
    | zero =>
      intro m c l d1 e1 e2 e3 e4 e5 e6 hm hl h
      refine EvP.step ?_
      simp only [spec_l1Cur__oddInterval.step]
      refine EvP.bindP (spec_l1Cur__pick.ev code hc m (by omega) c _ h) fun r20 h20 => ?_
      obtain ⟨z, c20⟩ := r20
      have hb : @LT.lt Int _ z 3 := h20.2.2.1 (by decide)
      have hb0 : @LE.le Int _ 0 z := h20.1
      have hcur : CurOK code (m + 2) c20 := h20.2.2.2
      refine EvP.no ?_ (EvP.pure ⟨⟨hz, by show x.2.1.length ≤ 40; omega, by show x.2.2.1.length ≤ 40; omega, by show x.2.2.2.1.length ≤ 40; omega, by show l.length ≤ 40; omega, by show x.2.2.2.2.2.1.length ≤ 40; omega, by show x.2.2.2.2.2.2.1.length ≤ 40; omega⟩, hcur.up (by omega)⟩)
      show decide ((l.length : Int) < IntKind.wrap .i64 ((9 : Int) + z)) = false
      rw [i64_ok (x := (9 : Int) + z) (by omega) (by omega)]
      exact decide_eq_false (by omega)
    | succ d ih =>
      intro m c l d1 e1 e2 e3 e4 e5 e6 hm hl h
      refine EvP.step ?_
      simp only [spec_l1Cur__oddInterval.step]
      refine EvP.bindP (spec_l1Cur__pick.ev code hc m (by omega) c _ h) fun r20 h20 => EvP.cnd (fun _ => EvP.yes (room_ok (by simp; omega)) ?_) fun _ => EvP.pure ⟨⟨hz, by show x.2.1.length ≤ 40; omega, by show x.2.2.1.length ≤ 40; omega, by show x.2.2.2.1.length ≤ 40; omega, by show l.length ≤ 40; omega, by show x.2.2.2.2.2.1.length ≤ 40; omega, by show x.2.2.2.2.2.2.1.length ≤ 40; omega⟩, h20.2.2.2.up (by omega)⟩
      exact ih (m + 2) r20.2 _ d1 e1 e2 e3 e4 e5 e6 (by omega) (by simp; omega) h20.2.2.2
  have inb : ∀ (r : Int × CRE) (m k : Int) (n : Nat), PickOK code m k r → 1 ≤ k → k ≤ n → inB r.1 n = true := fun r m k n hr h1 h2 => inB_of ⟨hr.1, by have := hr.2.2.1 h1; omega⟩
  have six : x.2.2.2.2.1.length ≤ 40 ∧ x.2.1.length ≤ 40 ∧ x.2.2.1.length ≤ 40 ∧ x.2.2.2.1.length ≤ 40 ∧ x.2.2.2.2.2.1.length ≤ 40 ∧ x.2.2.2.2.2.2.1.length ≤ 40 := by omega
  refine EvP.step ?_
  simp only [spec_l1Cur__oddInterval.step]
  refine EvP.bindP (spec_l1Cur__pick.ev code hc 130 (by decide) c _ h) fun r5 h5 => ?_
  refine EvP.cnd (fun _ => ?_) fun _ => EvP.cnd (fun _ => ?_) fun _ => EvP.cnd (fun _ => ?_) fun _ => EvP.cnd (fun _ => ?_) fun _ => EvP.cnd (fun _ => ?_) fun _ => EvP.cnd (fun _ => ?_) fun _ => ?_
  · refine EvP.bindP (spec_l1Cur__pick.ev code hc 132 (by decide) r5.2 4 h5.2.2.2) fun r6 h6 => EvP.yes (inb r6 _ _ 4 h6 (by decide) (by decide)) (EvP.pure ⟨⟨?_, six.2.1, six.2.2.1, six.2.2.2.1, six.1, six.2.2.2.2.1, six.2.2.2.2.2⟩, h6.2.2.2.up (by decide)⟩)
    have hi := h6.2.2.1 (by decide)
    have h0 := h6.1
    obtain ⟨z, c6⟩ := r6
    obtain ⟨j, hj⟩ := Int.eq_ofNat_of_zero_le (show @LE.le Int _ 0 z from h0)
    have hi : @LT.lt Int _ z 4 := hi
    have hj4 : j < 4 := by rw [hj] at hi; omega
    show -9223372036854775808 ≤ List.getD [(-(1440 : Int)), (1440 : Int), (-(1441 : Int)), (1441 : Int)] (0 + (Int.toNat z)) default ∧ List.getD [(-(1440 : Int)), (1440 : Int), (-(1441 : Int)), (1441 : Int)] (0 + (Int.toNat z)) default ≤ 9223372036854775807
    rw [hj, toNat_cast, Nat.zero_add]
    match j, hj4 with
    | 0, _ => decide
    | 1, _ => decide
    | 2, _ => decide
    | 3, _ => decide
  · refine EvP.bindP (spec_l1Cur__pick.ev code hc 132 (by decide) r5.2 3 h5.2.2.2) fun r6 h6 => EvP.yes (inb r6 _ _ 3 h6 (by decide) (by decide)) (EvP.yes (room_ok (by simp; omega)) (EvP.pure ⟨⟨hz, by simp; omega, six.2.2.1, six.2.2.2.1, six.1, six.2.2.2.2.1, six.2.2.2.2.2⟩, h6.2.2.2.up (by decide)⟩))
  · refine EvP.bindP (spec_l1Cur__pick.ev code hc 132 (by decide) r5.2 3 h5.2.2.2) fun r6 h6 => EvP.yes (inb r6 _ _ 3 h6 (by decide) (by decide)) (EvP.bindP (spec_l1Cur__pick.ev code hc 134 (by decide) r6.2 4 h6.2.2.2) fun r7 h7 => EvP.yes (inb r7 _ _ 4 h7 (by decide) (by decide)) (EvP.yes (room_ok (by simp; omega)) (EvP.pure ⟨⟨hz, six.2.1, six.2.2.1, by simp; omega, six.1, six.2.2.2.2.1, six.2.2.2.2.2⟩, h7.2.2.2.up (by decide)⟩)))
  · refine EvP.bindP (spec_l1Cur__of2.ev code hc 132 (by decide) r5.2 _ _ h5.2.2.2) fun r6 h6 => EvP.yes (room_ok (by simp; omega)) (EvP.pure ⟨⟨hz, six.2.1, six.2.2.1, six.2.2.2.1, six.1, six.2.2.2.2.1, by simp; omega⟩, h6.up (by decide)⟩)
  · exact EvP.pure ⟨⟨hz, six.2.1, six.2.2.1, six.2.2.2.1, six.1, by simp, six.2.2.2.2.2⟩, h5.2.2.2.up (by decide)⟩
  · exact loop (30 - x.2.2.2.2.1.length) 132 r5.2 _ _ _ _ _ _ _ _ (by omega) (by omega) h5.2.2.2
  · exact EvP.pure ⟨⟨hz, six.2.1, six.2.2.1, six.2.2.2.1, six.1, six.2.2.2.2.1, six.2.2.2.2.2⟩, h5.2.2.2.up (by decide)⟩
theorem spec_l3Time.ev (b : Int) : Ev (fun n => spec_l3Time n b) (timeB b) := by
  refine Ev.step ?_
  simp only [spec_l3Time.step]
  exact Ev.cnd (fun h => Ev.pure' (by simp [timeB, h])) fun h => Ev.pure' (by simp [timeB, h])
theorem spec_DateOf.months (y m n w mi : Int) (hy : 0 ≤ y) (h1 : 1 ≤ m) (h2 : m ≤ 12) (hn : 0 ≤ n) (hn' : n < 400) (hm : cumd y m ≤ n) (hm' : n < cumd y m + mon y m) (d : Nat) : ∀ i : Int, 1 ≤ i → i ≤ m → (m - i).toNat ≤ d →
    Ev (fun k => goRec spec_DateOf.step k (spec_DateOf.Pt.p32 (n - cumd y i) 0 0 0 0 0 0 y i 0 0 w mi)) ((y, m, n - cumd y m + 1, mon y m, w, mi, ()) : DTE) := by
  induction d with
  | zero =>
    intro i hi hi' hd
    obtain rfl : i = m := by omega
    have hc := cumd_nn y i
    refine Ev.step ?_
    simp only [spec_DateOf.step]
    refine Ev.bind (spec_l19Month.ev y i hy h1 h2) (Ev.no (decide_eq_false (by omega)) (Ev.bind (spec_l19Month.ev y i hy h1 h2) ?_))
    rw [w64 (n := n - cumd y i + 1) (by omega) (by omega)]
    exact Ev.pure
  | succ d ih =>
    intro i hi hi' hd
    have hc := cumd_nn y i
    refine Ev.step ?_
    simp only [spec_DateOf.step]
    by_cases c : i = m
    · subst c
      refine Ev.bind (spec_l19Month.ev y i hy h1 h2) (Ev.no (decide_eq_false (by omega)) (Ev.bind (spec_l19Month.ev y i hy h1 h2) ?_))
      rw [w64 (n := n - cumd y i + 1) (by omega) (by omega)]
      exact Ev.pure
    · have hlt := mon_lt y m i n hi (by omega) h2 hm
      have hs := cumd_succ y i hi (by omega)
      have hb := mon_bd y i
      have e := ih (i + 1) (by omega) (by omega) (by omega)
      rw [hs, show n - (cumd y i + mon y i) = n - cumd y i - mon y i by omega] at e
      refine Ev.bind (spec_l19Month.ev y i hy hi (by omega)) (Ev.yes (decide_eq_true (by omega)) (Ev.bind (spec_l19Month.ev y i hy hi (by omega)) ?_))
      rw [w64 (n := n - cumd y i - mon y i) (by omega) (by omega), w64 (n := i + 1) (by omega) (by omega)]
      exact e
theorem spec_DateOf.years (day y w mi : Int) (r : DTE) (hd0 : 0 ≤ day) (hd1 : day ≤ 20000000) (hy : 1970 ≤ y) (h1 : dto y ≤ day) (h2 : day < dto (y + 1)) (e : Ev (fun k => goRec spec_DateOf.step k (spec_DateOf.Pt.p32 (day - dto y) 0 0 0 0 0 0 y 1 0 0 w mi)) r) (d : Nat) : ∀ i : Int, 1970 ≤ i → i ≤ y → (y - i).toNat ≤ d →
    Ev (fun k => goRec spec_DateOf.step k (spec_DateOf.Pt.p19 (day - dto i) 0 0 0 0 0 0 i 1 0 0 w mi)) r := by
  induction d with
  | zero =>
    intro i hi hi' hd
    obtain rfl : i = y := by omega
    have hs := dto_succ i
    refine Ev.step ?_
    simp only [spec_DateOf.step]
    exact Ev.bind (spec_l19Year.ev i (by omega)) (Ev.no (decide_eq_false (by omega)) e)
  | succ d ih =>
    intro i hi hi' hd
    have hs := dto_succ i
    refine Ev.step ?_
    simp only [spec_DateOf.step]
    by_cases c : i = y
    · subst c
      exact Ev.bind (spec_l19Year.ev i (by omega)) (Ev.no (decide_eq_false (by omega)) e)
    · have hl := dto_lt (i + 1) y (by omega)
      have hb := dto_bd i hi
      have hly := lp_01 i
      have hyl : yl i = 365 + lp i := rfl
      have e2 := ih (i + 1) (by omega) (by omega) (by omega)
      rw [hs, show day - (dto i + yl i) = day - dto i - yl i by omega] at e2
      have hb2 := dto_bd y (by omega)
      refine Ev.bind (spec_l19Year.ev i (by omega)) (Ev.yes (decide_eq_true (by omega)) (Ev.bind (spec_l19Year.ev i (by omega)) ?_))
      rw [w64 (n := day - dto i - yl i) (by omega) (by omega), w64 (n := i + 1) (by omega) (by omega)]
      exact e2
theorem spec_DateOf.ev (t z : Int) (hz : -9223372036854775808 ≤ z ∧ z ≤ 9223372036854775807) : Ev (fun n => spec_DateOf n t z) (dateV t z) := by
  have bad : dateIn t z = false → Ev (fun n => goRec spec_DateOf.step n (spec_DateOf.Pt.p4 t z true 0 0 0 0 0 0)) (dateV t z) := by
    intro h
    refine Ev.step ?_
    simp only [spec_DateOf.step]
    exact Ev.yes rfl (Ev.pure' (by simp [dateV, h] <;> rfl))
  refine Ev.step ?_
  simp only [spec_DateOf.step]
  refine Ev.bind (spec_l3Time.ev t) (Ev.cnd (fun c => bad (by simp at c; simp [dateIn, c])) fun c1 => Ev.cnd (fun c => bad (by have c := of_decide_eq_true c; simp [dateIn, show ¬ -1440 ≤ z by omega])) fun c2 => Ev.cnd (fun c => bad (by have c := of_decide_eq_true c; simp [dateIn, show ¬ z ≤ 1440 by omega])) fun c3 => ?_)
  replace c2 := of_decide_eq_false c2; replace c3 := of_decide_eq_false c3
  have ht : 0 ≤ t ∧ t ≤ 1000000000000 := by simp [timeB] at c1; exact c1
  have hT : timeB t = true := by simpa using c1
  rw [w64 (n := 60 * z) (by omega) (by omega), w64 (n := t + 60 * z) (by omega) (by omega)]
  by_cases c4 : t + 60 * z < 0
  · rw [decide_eq_true c4]; exact bad (by simp [dateIn, show ¬ 0 ≤ t + 60 * z by omega])
  rw [decide_eq_false c4]
  have hin : dateIn t z = true := by simp [dateIn, hT]; omega
  rw [dateV, if_pos hin]
  refine Ev.step ?_
  simp only [spec_DateOf.step]
  rw [w64 (n := 60 * z) (by omega) (by omega), w64 (n := t + 60 * z) (by omega) (by omega), Int.tdiv_eq_ediv_of_nonneg (show 0 ≤ t + 60 * z by omega), w64 (n := (t + 60 * z) / 60) (by omega) (by omega), Int.tdiv_eq_ediv_of_nonneg (show 0 ≤ (t + 60 * z) / 60 by omega), w64 (n := (t + 60 * z) / 60 / 1440) (by omega) (by omega),
    w64 (n := (t + 60 * z) / 60 / 1440 + 4) (by omega) (by omega), Int.tmod_eq_emod_of_nonneg (show 0 ≤ (t + 60 * z) / 60 / 1440 + 4 by omega), Int.tmod_eq_emod_of_nonneg (show 0 ≤ (t + 60 * z) / 60 by omega), show (t + 60 * z) / 60 / 1440 = (t + 60 * z) / 86400 by omega]
  generalize hday : (t + 60 * z) / 86400 = day
  have hday0 : 0 ≤ day := by omega
  have hday1 : day ≤ 20000000 := by omega
  obtain ⟨hy, hy1, hy2⟩ := yearOf_spec day hday0
  have hs := dto_succ (yearOf day)
  have hlp := lp_01 (yearOf day)
  have hyl : yl (yearOf day) = 365 + lp (yearOf day) := rfl
  obtain ⟨hm1, hm2, hm3, hm4⟩ := monthOf_spec (yearOf day) (day - dto (yearOf day)) (by omega) (by omega)
  have e := spec_DateOf.months (yearOf day) (monthOf (yearOf day) (day - dto (yearOf day))) (day - dto (yearOf day)) ((day + 4) % 7) ((t + 60 * z) / 60 % 1440) (by omega) hm1 hm2 (by omega) (by omega) hm3 hm4 12 1 (by omega) hm1 (by omega)
  rw [show cumd (yearOf day) 1 = 0 by simp [cumd], Int.sub_zero] at e
  have e2 := spec_DateOf.years day (yearOf day) _ _ _ hday0 hday1 hy hy1 hy2 e (yearOf day - 1970).toNat 1970 (by omega) hy (by omega)
  rw [dto_1970, Int.sub_zero] at e2
  exact Ev.no rfl e2
theorem spec_DrawInInterval.ev (code : List Int) (hc : CodeOK code) : EvP (fun n => spec_DrawInInterval n code) (fun (r : ITV × Int) => ItvOK 40 r.1) := by
  have p9 : ∀ (t : Int) (d1 : Int) (c : CRE) (x : ITV) (e1 e2 e3 e4 e5 : List RG) (e6 : List Int), ItvOK 40 x → CurOK code 310 c →
      EvP (fun n => goRec spec_DrawInInterval.step n (spec_DrawInInterval.Pt.p9 t d1 c.1 c.2.1 c.2.2.1 x.1 e1 e2 e3 e4 e5 e6 x.2.1 x.2.2.1 x.2.2.2.1 x.2.2.2.2.1 x.2.2.2.2.2.1 x.2.2.2.2.2.2.1)) (fun (r : ITV × Int) => ItvOK 40 r.1) := by
    intro t d1 c x e1 e2 e3 e4 e5 e6 hx hcu
    refine EvP.step ?_
    simp only [spec_DrawInInterval.step]
    refine EvP.bindP (spec_l1Cur__one.ev code hc 310 (by decide) c _ hcu) fun r21 h21 => EvP.cnd (fun _ => ?_) fun _ => EvP.pure hx
    refine EvP.bind (spec_DateOf.ev _ _ hx.1) (EvP.bind (spec_DayNumber.ev _ _ _) (EvP.pure ⟨hx.1, hx.2.1, hx.2.2.1, hx.2.2.2.1, hx.2.2.2.2.1, hx.2.2.2.2.2.1, by simp⟩))
  refine EvP.step ?_
  simp only [spec_DrawInInterval.step]
  refine EvP.bindP (spec_l1Cur__interval.ev code hc (code, default) ⟨rfl, Int.le_refl _, Int.le_refl _⟩) fun r4 h4 => EvP.bindP (spec_l1Cur__day.ev code hc r4.2 h4.2) fun r5 h5 => EvP.bindP (spec_l1Cur__one.ev code hc 120 (by decide) r5.2 _ h5) fun r6 h6 => EvP.cnd (fun _ => ?_) fun _ => ?_
  · refine EvP.bindP (spec_l1Cur__oddInterval.ev code hc r6.2 r4.1 h4.1 (h6.up (by decide))) fun r7 h7 => ?_
    exact p9 _ _ r7.2 r7.1 _ _ _ _ _ _ h7.1 (h7.2.up (by decide))
  · obtain ⟨hz, a1, a2, a3, a4, a5, a6⟩ := h4.1
    exact p9 _ _ r6.2 r4.1 _ _ _ _ _ _ ⟨hz, by omega, by omega, by omega, by omega, by omega, by omega⟩ (h6.up (by decide))
theorem impl_goodRanges_1.ev (r : RG) (lo hi : Int) : Ev (fun n => impl_goodRanges_1 n r lo hi) (!rangeB lo hi r) := by
  refine Ev.step ?_
  simp only [impl_goodRanges_1.step]
  refine Ev.cnd (fun c => Ev.pure' ?_) fun c => Ev.cnd (fun c2 => Ev.pure' ?_) fun c2 => Ev.pure' ?_
  · have c := of_decide_eq_true c; simp [rangeB, show ¬ r.1 ≤ r.2.1 by omega]
  · have c2 : r.1 < lo := of_decide_eq_true c2
    simp [rangeB, show ¬ lo ≤ r.1 by omega]
  · have c := of_decide_eq_false c
    have c2 : ¬ r.1 < lo := of_decide_eq_false c2
    simp only [rangeB, show lo ≤ r.1 by omega, show r.1 ≤ r.2.1 by omega, decide_true, Bool.true_and]
    show decide (hi < r.2.1) = _
    rw [← decide_not]; exact decide_eq_decide.2 (by omega)
theorem slices_IndexFunc_Range_impl_goodRanges_1.ev (l : List ((Int) × ((Int) × (Unit)))) (a1 : Int) (a2 : Int) (p : ((Int) × ((Int) × (Unit))) → Bool) (hl : l.length ≤ 1048576) (hp : ∀ i, i < l.length → Ev (fun n => impl_goodRanges_1 n (l.getD i default) a1 a2) (p (l.getD i default))) : Ev (fun n => slices_IndexFunc_Range_impl_goodRanges_1 n l a1 a2) (match (List.range l.length).find? (fun i => p (l.getD i default)) with | some i => (i : Int) | none => -1) := by
  refine Ev.step ?_
  simp only [slices_IndexFunc_Range_impl_goodRanges_1.step]
  refine Ev.find (pt := fun i : Nat => slices_IndexFunc_Range_impl_goodRanges_1.Pt.p7 l ((List.length l) : Int) (i : Int) a1 a2) (fun i hi => ⟨fun h v hv => ?_, fun h => ?_⟩) ?_
  · refine Ev.step ?_
    simp only [slices_IndexFunc_Range_impl_goodRanges_1.step, toNat_cast, i64_nat (show i ≤ 4611686018427387904 by omega)]
    exact Ev.yes (lt_yes hi) (Ev.yes (inB_nat hi) (Ev.bind (hp i hi) (Ev.no h hv)))
  · refine Ev.step ?_
    simp only [slices_IndexFunc_Range_impl_goodRanges_1.step, toNat_cast]
    exact Ev.yes (lt_yes hi) (Ev.yes (inB_nat hi) (Ev.bind (hp i hi) (Ev.yes h Ev.pure)))
  · refine Ev.step ?_
    simp only [slices_IndexFunc_Range_impl_goodRanges_1.step]
    exact Ev.no lt_no Ev.pure
theorem slices_ContainsFunc_Range_impl_goodRanges_1.ev (l : List ((Int) × ((Int) × (Unit)))) (a1 : Int) (a2 : Int) (p : ((Int) × ((Int) × (Unit))) → Bool) (hl : l.length ≤ 1048576) (hp : ∀ i, i < l.length → Ev (fun n => impl_goodRanges_1 n (l.getD i default) a1 a2) (p (l.getD i default))) : Ev (fun n => slices_ContainsFunc_Range_impl_goodRanges_1 n l a1 a2) ((List.range l.length).any fun i => p (l.getD i default)) := by
  refine Ev.step ?_
  simp only [slices_ContainsFunc_Range_impl_goodRanges_1.step]
  refine Ev.bind (slices_IndexFunc_Range_impl_goodRanges_1.ev l a1 a2 p hl hp) (Ev.pure' ?_)
  exact find_any
theorem impl_goodRanges.ev (l : List RG) (lo hi : Int) (hl : l.length ≤ 1048576) : Ev (fun n => impl_goodRanges n l lo hi) (rangesB l lo hi) := by
  refine Ev.step ?_
  simp only [impl_goodRanges.step]
  refine Ev.cnd (fun c => ?_) fun c => Ev.pure' (by have c := of_decide_eq_false c; simp [rangesB, show ¬ l.length ≤ 10 by omega])
  have c := of_decide_eq_true c
  refine Ev.bind (slices_ContainsFunc_Range_impl_goodRanges_1.ev l lo hi (fun r => !rangeB lo hi r) hl fun i hi' => impl_goodRanges_1.ev _ lo hi) (Ev.pure' ?_)
  simp [rangesB, show l.length ≤ 10 by omega, List.all_eq_not_any_not]
theorem impl_rising_int.ev (l : List Int) (hl : l.length ≤ 1048576) : Ev (fun n => impl_rising_int n l) (risingI l) := by
  refine Ev.step ?_
  simp only [impl_rising_int.step]
  refine Ev.allN (pt := fun i : Nat => impl_rising_int.Pt.p7 l ((i + 1 : Nat) : Int)) (fun i hi => ⟨fun hp v hv => ?_, fun hp => ?_⟩) ?_
  · have hp := of_decide_eq_true hp
    refine Ev.step ?_
    simp only [impl_rising_int.step, i64_pred (show i ≤ 4611686018427387904 by omega), i64_nat (show i + 1 ≤ 4611686018427387904 by omega), toNat_cast]
    exact Ev.yes (lt_yes (by omega)) (Ev.yes (inB_nat (by omega)) (Ev.yes (inB_nat (by omega)) (Ev.no (decide_eq_false (by omega)) hv)))
  · have hp := of_decide_eq_false hp
    refine Ev.step ?_
    simp only [impl_rising_int.step, i64_pred (show i ≤ 4611686018427387904 by omega), toNat_cast]
    exact Ev.yes (lt_yes (by omega)) (Ev.yes (inB_nat (by omega)) (Ev.yes (inB_nat (by omega)) (Ev.yes (decide_eq_true (by omega)) Ev.pure)))
  · refine Ev.step ?_
    simp only [impl_rising_int.step]
    exact Ev.no (decide_eq_false (by omega)) Ev.pure
theorem impl_GoodInterval.free (l : List Int) (hl : l.length ≤ 1048576) : ∀ d i b, i + d = l.length → Ev (fun n => goRec impl_GoodInterval.step n (impl_GoodInterval.Pt.p26 b l (l.length : Int) (i : Int))) (b && (List.range' i d).all fun i => freeB (l.getD i default)) := by
  intro d
  induction d with
  | zero =>
    intro i b h
    rw [Nat.add_zero] at h; subst h
    refine Ev.step ?_
    simp only [impl_GoodInterval.step]
    exact Ev.no lt_no (Ev.pure' (by simp))
  | succ d ih =>
    intro i b h
    rw [List.range'_succ, List.all_cons]
    have ih' := fun b => ih (i + 1) b (by omega)
    generalize ((List.range' (i + 1) d).all fun i => freeB (l.getD i default)) = v at ih'
    refine Ev.step ?_
    simp only [impl_GoodInterval.step, toNat_cast, i64_nat (show i ≤ 4611686018427387904 by omega)]
    generalize l.getD i default = r
    refine Ev.yes (lt_yes (by omega)) (Ev.yes (inB_nat (by omega)) (Ev.cnd (fun c => Ev.cnd (fun c2 => Ev.of_eq (ih' _) ?_) fun c2 => Ev.of_eq (ih' _) ?_) fun c => Ev.of_eq (ih' _) ?_))
    · simp [c, freeB, of_decide_eq_true c2]
    · simp [c, freeB, of_decide_eq_false c2]
    · simp [c]
theorem impl_GoodInterval.days (l : List RG) (hl : l.length ≤ 1048576) (z : Int) (m w mo y : List RG) (f : List Int) (hf : f.length ≤ 1048576) : ∀ d i b, i + d = l.length → Ev (fun n => goRec impl_GoodInterval.step n (impl_GoodInterval.Pt.p9 b l (l.length : Int) (i : Int) z m w l mo y f)) (b && ((List.range' i d).all fun i => dayRB (l.getD i default)) && allG freeB f) := by
  intro d
  induction d with
  | zero =>
    intro i b h
    rw [Nat.add_zero] at h; subst h
    refine Ev.step ?_
    simp only [impl_GoodInterval.step]
    refine Ev.no lt_no (Ev.of_eq (impl_GoodInterval.free f hf f.length 0 b (by omega)) ?_)
    rw [allG, List.range_eq_range']; simp
  | succ d ih =>
    intro i b h
    rw [List.range'_succ, List.all_cons]
    have ih' := fun b => ih (i + 1) b (by omega)
    generalize ((List.range' (i + 1) d).all fun i => dayRB (l.getD i default)) = v at ih'
    refine Ev.step ?_
    simp only [impl_GoodInterval.step, toNat_cast, i64_nat (show i ≤ 4611686018427387904 by omega)]
    generalize l.getD i default = r
    refine Ev.yes (lt_yes (by omega)) (Ev.yes (inB_nat (by omega)) (Ev.cnd (fun c => Ev.cnd (fun c2 => Ev.of_eq (ih' _) ?_) fun c2 => Ev.of_eq (ih' _) ?_) fun c => Ev.of_eq (ih' _) ?_))
    · simp [c, dayRB, of_decide_eq_true c2]
    · simp [c, dayRB, of_decide_eq_false c2]
    · simp [c]
theorem impl_GoodInterval.ev (x : ITV) (h : Sm 1048576 ITU x) : Ev (fun n => impl_GoodInterval n x) (itvB x) := by
  have h3 : ∀ b, Ev (fun n => goRec impl_GoodInterval.step n (impl_GoodInterval.Pt.p3 b x.1 x.2.1 x.2.2.1 x.2.2.2.1 x.2.2.2.2.1 x.2.2.2.2.2.1 x.2.2.2.2.2.2.1)) (b && allG dayRB x.2.2.2.1 && allG freeB x.2.2.2.2.2.2.1) := by
    intro b
    refine Ev.step ?_
    simp only [impl_GoodInterval.step]
    have := impl_GoodInterval.days x.2.2.2.1 h.2.2.2.1.1 x.1 x.2.1 x.2.2.1 x.2.2.2.2.1 x.2.2.2.2.2.1 x.2.2.2.2.2.2.1 h.2.2.2.2.2.2.1.1 x.2.2.2.1.length 0 b (by omega)
    rw [← List.range_eq_range'] at this
    exact this
  have bad : (∀ r, (r = itvB x) → r = false) → Ev (fun n => goRec impl_GoodInterval.step n (impl_GoodInterval.Pt.p3 false x.1 x.2.1 x.2.2.1 x.2.2.2.1 x.2.2.2.2.1 x.2.2.2.2.2.1 x.2.2.2.2.2.2.1)) (itvB x) := fun e => Ev.of_eq (h3 false) (by rw [e _ rfl]; rfl)
  refine Ev.step ?_
  simp only [impl_GoodInterval.step]
  refine Ev.cnd (fun c1 => ?_) fun c => bad (by rintro _ rfl; simp [itvB, of_decide_eq_false c])
  refine Ev.cnd (fun c2 => ?_) fun c => bad (by rintro _ rfl; simp [itvB, of_decide_eq_false c])
  refine Ev.bind (impl_goodRanges.ev _ _ _ h.2.1.1) (Ev.cnd (fun c3 => ?_) fun c => bad (by rintro _ rfl; simp [itvB, c]))
  refine Ev.bind (impl_goodRanges.ev _ _ _ h.2.2.1.1) (Ev.cnd (fun c4 => ?_) fun c => bad (by rintro _ rfl; simp [itvB, c]))
  refine Ev.bind (impl_goodRanges.ev _ _ _ h.2.2.2.1.1) (Ev.cnd (fun c5 => ?_) fun c => bad (by rintro _ rfl; simp [itvB, c]))
  refine Ev.bind (impl_goodRanges.ev _ _ _ h.2.2.2.2.1.1) (Ev.cnd (fun c6 => ?_) fun c => bad (by rintro _ rfl; simp [itvB, c]))
  refine Ev.bind (impl_goodRanges.ev _ _ _ h.2.2.2.2.2.1.1) (Ev.cnd (fun c7 => ?_) fun c => bad (by rintro _ rfl; simp [itvB, c]))
  refine Ev.cnd (fun c8 => ?_) fun c => bad (by rintro _ rfl; have c := of_decide_eq_false c; simp [itvB, show ¬ x.2.2.2.2.2.2.1.length ≤ 10 by omega])
  have c8 := of_decide_eq_true c8
  refine Ev.bind (impl_rising_int.ev _ h.2.2.2.2.2.2.1.1) (Ev.of_eq (h3 _) ?_)
  simp [itvB, of_decide_eq_true c1, of_decide_eq_true c2, c3, c4, c5, c6, c7, show x.2.2.2.2.2.2.1.length ≤ 10 by omega]
theorem impl_isTime.ev (b : Int) : Ev (fun n => impl_isTime n b) (timeB b) := by
  refine Ev.step ?_
  simp only [impl_isTime.step]
  exact Ev.cnd (fun h => Ev.pure' (by simp [timeB, h])) fun h => Ev.pure' (by simp [timeB, h])
theorem impl_daysTo.ev (y : Int) (h : 1970 ≤ y) (h' : y ≤ 100000) : Ev (fun n => impl_daysTo n y) (dto y) := by
  refine Ev.step ?_
  simp only [impl_daysTo.step]
  refine Ev.pure' ?_
  have t (c : Int) : Int.tdiv (y - 1) c = (y - 1) / c := Int.tdiv_eq_ediv_of_nonneg (by omega)
  rw [w64 (n := y - 1970) (by omega) (by omega), w64 (n := y - 1) (by omega) (by omega), t, t, t]
  rw [w64 (n := (y - 1970) * 365) (by omega) (by omega), w64 (n := (y - 1) / 4) (by omega) (by omega), w64 (n := (y - 1) / 100) (by omega) (by omega), w64 (n := (y - 1) / 400) (by omega) (by omega)]
  rw [w64 (n := (y - 1) / 4 - (y - 1) / 100) (by omega) (by omega), w64 (n := (y - 1) / 4 - (y - 1) / 100 + (y - 1) / 400) (by omega) (by omega), w64 (n := (y - 1970) * 365 + ((y - 1) / 4 - (y - 1) / 100 + (y - 1) / 400)) (by omega) (by omega), w64 (by omega) (by omega)]
  rfl
theorem impl_leap.ev (y : Int) (h : 0 ≤ y) : Ev (fun n => impl_leap n y) (decide (lp y = 1)) := by
  refine Ev.step ?_
  simp only [impl_leap.step]
  rw [Int.tmod_eq_emod_of_nonneg h, Int.tmod_eq_emod_of_nonneg h, Int.tmod_eq_emod_of_nonneg h]
  refine Ev.cnd (fun c => Ev.cnd (fun c2 => Ev.pure' ?_) fun c2 => Ev.pure' ?_) fun c => Ev.pure' ?_ <;> simp at * <;> simp [lp, *]
theorem impl_daysIn.ev (y m : Int) (h : 0 ≤ y) (h1 : 1 ≤ m) (h2 : m ≤ 12) : Ev (fun n => impl_daysIn n y m) (mon y m) := by
  refine Ev.step ?_
  simp only [impl_daysIn.step]
  have hin : inB m 13 = true := by simp [inB]; omega
  have hl := lp_01 y
  refine Ev.cnd (fun c => Ev.bind (impl_leap.ev y h) (Ev.cnd (fun c2 => Ev.pure' ?_) fun c2 => Ev.yes hin (Ev.pure' ?_))) fun c => Ev.yes hin (Ev.pure' ?_)
  · simp at c c2; simp [mon, c, c2]
  · have c2 := of_decide_eq_false c2
    have c := of_decide_eq_true c
    subst c
    have h0 : lp y = 0 := by omega
    simp [mon, h0]
  · simp at c
    have hm : m = 1 ∨ m = 3 ∨ m = 4 ∨ m = 5 ∨ m = 6 ∨ m = 7 ∨ m = 8 ∨ m = 9 ∨ m = 10 ∨ m = 11 ∨ m = 12 := by omega
    rcases hm with rfl | rfl | rfl | rfl | rfl | rfl | rfl | rfl | rfl | rfl | rfl <;> simp [mon]
theorem impl_DateOf.months (t day y m n : Int) (ht : 0 ≤ t ∧ t ≤ 2000000000000) (hdy : 0 ≤ day ∧ day ≤ 20000000) (hy : 0 ≤ y) (h1 : 1 ≤ m) (h2 : m ≤ 12) (hn : 0 ≤ n) (hn' : n < 400) (hm : cumd y m ≤ n) (hm' : n < cumd y m + mon y m) (d : Nat) : ∀ i : Int, 1 ≤ i → i ≤ m → (m - i).toNat ≤ d →
    Ev (fun k => goRec impl_DateOf.step k (impl_DateOf.Pt.p34 t day y (n - cumd y i) i 0 0 0 0 0 0)) ((y, m, n - cumd y m + 1, mon y m, (day + 4) % 7, t % 86400 / 60, ()) : DTE) := by
  have last : Ev (fun k => goRec impl_DateOf.step k (impl_DateOf.Pt.p34 t day y (n - cumd y m) m 0 0 0 0 0 0)) ((y, m, n - cumd y m + 1, mon y m, (day + 4) % 7, t % 86400 / 60, ()) : DTE) := by
    have hc := cumd_nn y m
    refine Ev.step ?_
    simp only [impl_DateOf.step]
    refine Ev.bind (impl_daysIn.ev y m hy h1 h2) (Ev.no (decide_eq_false (by omega)) (Ev.bind (impl_daysIn.ev y m hy h1 h2) ?_))
    rw [w64 (n := n - cumd y m + 1) (by omega) (by omega), w64 (n := day + 4) (by omega) (by omega), Int.tmod_eq_emod_of_nonneg (show 0 ≤ day + 4 by omega), Int.tmod_eq_emod_of_nonneg (show 0 ≤ t by omega), Int.tdiv_eq_ediv_of_nonneg (show 0 ≤ t % 86400 by omega), w64 (n := t % 86400 / 60) (by omega) (by omega)]
    exact Ev.pure
  induction d with
  | zero =>
    intro i hi hi' hd
    obtain rfl : i = m := by omega
    exact last
  | succ d ih =>
    intro i hi hi' hd
    by_cases c : i = m
    · subst c; exact last
    · have hc := cumd_nn y i
      have hlt := mon_lt y m i n hi (by omega) h2 hm
      have hs := cumd_succ y i hi (by omega)
      have hb := mon_bd y i
      have e := ih (i + 1) (by omega) (by omega) (by omega)
      rw [hs, show n - (cumd y i + mon y i) = n - cumd y i - mon y i by omega] at e
      refine Ev.step ?_
      simp only [impl_DateOf.step]
      refine Ev.bind (impl_daysIn.ev y i hy hi (by omega)) (Ev.yes (decide_eq_true (by omega)) (Ev.bind (impl_daysIn.ev y i hy hi (by omega)) ?_))
      rw [w64 (n := n - cumd y i - mon y i) (by omega) (by omega), w64 (n := i + 1) (by omega) (by omega)]
      exact e
theorem impl_DateOf.years (t day y : Int) (r : DTE) (hd0 : 0 ≤ day) (hd1 : day ≤ 20000000) (hy : 1970 ≤ y) (hy' : y ≤ 60000) (h1 : dto y ≤ day) (h2 : day < dto (y + 1)) (e : Ev (fun k => goRec impl_DateOf.step k (impl_DateOf.Pt.p34 t day y (day - dto y) 1 0 0 0 0 0 0)) r) (d : Nat) : ∀ i : Int, 1970 ≤ i → i ≤ y → (y - i).toNat ≤ d →
    Ev (fun k => goRec impl_DateOf.step k (impl_DateOf.Pt.p19 t day i 0 0 0 0 0 0)) r := by
  have hb := dto_bd y hy
  have last : Ev (fun k => goRec impl_DateOf.step k (impl_DateOf.Pt.p19 t day y 0 0 0 0 0 0)) r := by
    refine Ev.step ?_
    simp only [impl_DateOf.step]
    rw [w64 (n := y + 1) (by omega) (by omega)]
    refine Ev.bind (impl_daysTo.ev (y + 1) (by omega) (by omega)) (Ev.no (decide_eq_false (by omega)) (Ev.bind (impl_daysTo.ev y hy (by omega)) ?_))
    rw [w64 (n := day - dto y) (by omega) (by omega)]
    exact e
  induction d with
  | zero =>
    intro i hi hi' hd
    obtain rfl : i = y := by omega
    exact last
  | succ d ih =>
    intro i hi hi' hd
    by_cases c : i = y
    · subst c; exact last
    · have hl := dto_lt (i + 1) y (by omega)
      have e2 := ih (i + 1) (by omega) (by omega) (by omega)
      refine Ev.step ?_
      simp only [impl_DateOf.step]
      rw [w64 (n := i + 1) (by omega) (by omega)]
      exact Ev.bind (impl_daysTo.ev (i + 1) (by omega) (by omega)) (Ev.yes (decide_eq_true (by omega)) e2)
theorem impl_DateOf.ev (t z : Int) (hz : -9223372036854775808 ≤ z ∧ z ≤ 9223372036854775807) : Ev (fun n => impl_DateOf n t z) (dateV t z) := by
  have bad : dateIn t z = false → Ev (fun n => goRec impl_DateOf.step n (impl_DateOf.Pt.p4 t z true 0 0 0 0 0 0)) (dateV t z) := by
    intro h
    refine Ev.step ?_
    simp only [impl_DateOf.step]
    exact Ev.yes rfl (Ev.pure' (by simp [dateV, h] <;> rfl))
  refine Ev.step ?_
  simp only [impl_DateOf.step]
  refine Ev.bind (impl_isTime.ev t) (Ev.cnd (fun c => bad (by simp at c; simp [dateIn, c])) fun c1 => Ev.cnd (fun c => bad (by have c := of_decide_eq_true c; simp [dateIn, show ¬ -1440 ≤ z by omega])) fun c2 => Ev.cnd (fun c => bad (by have c := of_decide_eq_true c; simp [dateIn, show ¬ z ≤ 1440 by omega])) fun c3 => ?_)
  replace c2 := of_decide_eq_false c2; replace c3 := of_decide_eq_false c3
  have ht : 0 ≤ t ∧ t ≤ 1000000000000 := by simp [timeB] at c1; exact c1
  have hT : timeB t = true := by simpa using c1
  rw [w64 (n := 60 * z) (by omega) (by omega), w64 (n := t + 60 * z) (by omega) (by omega)]
  by_cases c4 : t + 60 * z < 0
  · rw [decide_eq_true c4]; exact bad (by simp [dateIn, show ¬ 0 ≤ t + 60 * z by omega])
  rw [decide_eq_false c4]
  have hin : dateIn t z = true := by simp [dateIn, hT]; omega
  rw [dateV, if_pos hin]
  refine Ev.step ?_
  simp only [impl_DateOf.step]
  rw [w64 (n := 60 * z) (by omega) (by omega), w64 (n := t + 60 * z) (by omega) (by omega), Int.tdiv_eq_ediv_of_nonneg (show 0 ≤ t + 60 * z by omega), w64 (n := (t + 60 * z) / 86400) (by omega) (by omega), Int.tdiv_eq_ediv_of_nonneg (show 0 ≤ (t + 60 * z) / 86400 by omega), w64 (n := (t + 60 * z) / 86400 / 366) (by omega) (by omega), w64 (n := 1970 + (t + 60 * z) / 86400 / 366) (by omega) (by omega)]
  have hmi : (t + 60 * z) / 60 % 1440 = (t + 60 * z) % 86400 / 60 := by omega
  rw [hmi]
  generalize hday : (t + 60 * z) / 86400 = day
  have hday0 : 0 ≤ day := by omega
  have hday1 : day ≤ 20000000 := by omega
  obtain ⟨hy, hy1, hy2⟩ := yearOf_spec day hday0
  have hyb := dto_bd (yearOf day) hy
  have hs := dto_succ (yearOf day)
  have hlp := lp_01 (yearOf day)
  have hyl : yl (yearOf day) = 365 + lp (yearOf day) := rfl
  obtain ⟨hm1, hm2, hm3, hm4⟩ := monthOf_spec (yearOf day) (day - dto (yearOf day)) (by omega) (by omega)
  have e := impl_DateOf.months (t + 60 * z) day (yearOf day) (monthOf (yearOf day) (day - dto (yearOf day))) (day - dto (yearOf day)) ⟨by omega, by omega⟩ ⟨hday0, hday1⟩ (by omega) hm1 hm2 (by omega) (by omega) hm3 hm4 12 1 (by omega) hm1 (by omega)
  rw [show cumd (yearOf day) 1 = 0 by simp [cumd], Int.sub_zero] at e
  have hg : 1970 + day / 366 ≤ yearOf day := by
    by_cases c : 1970 + day / 366 ≤ yearOf day
    · exact c
    · have a := dto_lt (yearOf day + 1) (1970 + day / 366) (by omega)
      have b := dto_bd (1970 + day / 366) (by omega)
      omega
  exact Ev.no rfl (impl_DateOf.years (t + 60 * z) day (yearOf day) _ hday0 hday1 hy (by omega) hy1 hy2 e (yearOf day - (1970 + day / 366)).toNat (1970 + day / 366) (by omega) hg (by omega))
theorem impl_inRanges.ev (l : List RG) (ns : List Int) (hl : l.length ≤ 1048576) (hn : ns.length ≤ 1048576) : Ev (fun n => impl_inRanges n l ns) (decide (l.length = 0) || (List.range l.length).any fun i => (List.range ns.length).any fun j => decide ((l.getD i default).1 ≤ ns.getD j default) && decide (ns.getD j default ≤ (l.getD i default).2.1)) := by
  have go : ∀ d i, i + d = l.length → Ev (fun n => goRec impl_inRanges.step n (impl_inRanges.Pt.p15 ns l (l.length : Int) (i : Int))) ((List.range' i d).any fun i => (List.range ns.length).any fun j => decide ((l.getD i default).1 ≤ ns.getD j default) && decide (ns.getD j default ≤ (l.getD i default).2.1)) := by
    intro d
    induction d with
    | zero =>
      intro i h
      rw [Nat.add_zero] at h; subst h
      refine Ev.step ?_
      simp only [impl_inRanges.step]
      exact Ev.no lt_no (Ev.pure' (by simp))
    | succ d ih =>
      intro i h
      rw [List.range'_succ, List.any_cons]
      have ih' := ih (i + 1) (by omega)
      generalize ((List.range' (i + 1) d).any fun i => (List.range ns.length).any fun j => decide ((l.getD i default).1 ≤ ns.getD j default) && decide (ns.getD j default ≤ (l.getD i default).2.1)) = v at ih'
      refine Ev.step ?_
      simp only [impl_inRanges.step, toNat_cast]
      refine Ev.yes (lt_yes (by omega)) (Ev.yes (inB_nat (by omega)) ?_)
      generalize l.getD i default = r
      have inner : ∀ e j, j + e = ns.length → Ev (fun n => goRec impl_inRanges.step n (impl_inRanges.Pt.p29 ns l (l.length : Int) (i : Int) ns (ns.length : Int) (j : Int) r.1 r.2.1)) (((List.range' j e).any fun j => decide (r.1 ≤ ns.getD j default) && decide (ns.getD j default ≤ r.2.1)) || v) := by
        intro e
        induction e with
        | zero =>
          intro j hj
          rw [Nat.add_zero] at hj; subst hj
          refine Ev.step ?_
          simp only [impl_inRanges.step, i64_nat (show i ≤ 4611686018427387904 by omega)]
          exact Ev.no lt_no (Ev.of_eq ih' (by simp))
        | succ e ihe =>
          intro j hj
          rw [List.range'_succ, List.any_cons]
          have ihe' := ihe (j + 1) (by omega)
          generalize ((List.range' (j + 1) e).any fun j => decide (r.1 ≤ ns.getD j default) && decide (ns.getD j default ≤ r.2.1)) = u at ihe'
          refine Ev.step ?_
          simp only [impl_inRanges.step, toNat_cast, i64_nat (show j ≤ 4611686018427387904 by omega)]
          generalize ns.getD j default = q
          refine Ev.yes (lt_yes (by omega)) (Ev.yes (inB_nat (by omega)) (Ev.cnd (fun c => Ev.cnd (fun c2 => Ev.pure' ?_) fun c2 => Ev.of_eq ihe' ?_) fun c => Ev.of_eq ihe' ?_))
          · simp [of_decide_eq_true c, of_decide_eq_true c2]
          · simp [of_decide_eq_false c2]
          · simp [of_decide_eq_false c]
      have := inner ns.length 0 (by omega)
      rw [← List.range_eq_range'] at this
      exact this
  refine Ev.step ?_
  simp only [impl_inRanges.step]
  refine Ev.cnd (fun c => Ev.pure' (by have c := of_decide_eq_true c; simp [show l.length = 0 by omega])) fun c => ?_
  have c := of_decide_eq_false c
  have := go l.length 0 (by omega)
  rw [← List.range_eq_range'] at this
  rw [decide_eq_false (show ¬ l.length = 0 by omega), Bool.false_or]
  exact this
theorem inRs_one (l : List RG) (a : Int) : (decide (l.length = 0) || (List.range l.length).any fun i => (List.range [a].length).any fun j => decide ((l.getD i default).1 ≤ [a].getD j default) && decide ([a].getD j default ≤ (l.getD i default).2.1)) = inRB l a := by
  simp [inRB, List.range_succ]
theorem inRs_two (l : List RG) (a b : Int) : (decide (l.length = 0) || (List.range l.length).any fun i => (List.range [a, b].length).any fun j => decide ((l.getD i default).1 ≤ [a, b].getD j default) && decide ([a, b].getD j default ≤ (l.getD i default).2.1)) = (inRB l a || inRB l b) := by
  have e : ∀ i, ((List.range [a, b].length).any fun j => decide ((l.getD i default).1 ≤ [a, b].getD j default) && decide ([a, b].getD j default ≤ (l.getD i default).2.1)) = ((decide ((l.getD i default).1 ≤ a) && decide (a ≤ (l.getD i default).2.1)) || (decide ((l.getD i default).1 ≤ b) && decide (b ≤ (l.getD i default).2.1))) := by
    intro i; simp [List.range_succ]
  simp only [e, inRB]
  rw [Bool.eq_iff_iff]
  simp only [Bool.or_eq_true, List.any_eq_true]
  constructor
  · rintro (h | ⟨i, hi, h | h⟩)
    · exact .inl (.inl h)
    · exact .inl (.inr ⟨i, hi, h⟩)
    · exact .inr (.inr ⟨i, hi, h⟩)
  · rintro ((h | ⟨i, hi, h⟩) | (h | ⟨i, hi, h⟩))
    · exact .inl h
    · exact .inr ⟨i, hi, .inl h⟩
    · exact .inl h
    · exact .inr ⟨i, hi, .inr h⟩
theorem impl_DayNumber.months (y m : Int) (hy : 0 ≤ y) (hm : m ≤ 12) (h1m : 1 ≤ m) (d : Nat) : ∀ (n i : Int), 1 ≤ i → i ≤ m → (m - i).toNat ≤ d → 0 ≤ n → n ≤ 100000000 + 31 * i → Ev (fun k => goRec impl_DayNumber.step k (impl_DayNumber.Pt.p17 y m n i)) (n + cumd y m - cumd y i) := by
  induction d with
  | zero =>
    intro n i h1 hi hd h0 hn
    obtain rfl : i = m := by omega
    refine Ev.step ?_
    simp only [impl_DayNumber.step]
    exact Ev.no (by simp) (Ev.pure' (α := Int) (by omega))
  | succ d ih =>
    intro n i h1 hi hd h0 hn
    refine Ev.step ?_
    simp only [impl_DayNumber.step]
    by_cases c : i < m
    · have hb := mon_bd y i
      have hc := cumd_succ y i h1 (by omega)
      refine Ev.yes (by simpa using c) (Ev.bind (impl_daysIn.ev y i hy h1 (by omega)) ?_)
      rw [w64 (n := n + mon y i) (by omega) (by omega), w64 (n := i + 1) (by omega) (by omega)]
      exact Ev.of_eq (α := Int) (ih (n + mon y i) (i + 1) (by omega) (by omega) (by omega) (by omega) (by omega)) (by omega)
    · obtain rfl : i = m := by omega
      exact Ev.no (by simp) (Ev.pure' (α := Int) (by omega))
theorem impl_DayNumber.ev (y m d : Int) : Ev (fun n => impl_DayNumber n y m d) (dayV y m d) := by
  have bad : dayIn y m d = false → Ev (fun n => goRec impl_DayNumber.step n (impl_DayNumber.Pt.p4 y m d true)) (dayV y m d) := by
    intro h
    refine Ev.step ?_
    simp only [impl_DayNumber.step]
    exact Ev.yes rfl (Ev.pure' (by simp [dayV, h]))
  refine Ev.step ?_
  simp only [impl_DayNumber.step]
  refine Ev.cnd (fun c => bad (by have := of_decide_eq_true c; simp [dayIn]; omega)) fun c1 => Ev.cnd (fun c => bad (by have := of_decide_eq_true c; simp [dayIn]; omega)) fun c2 => Ev.cnd (fun c => bad (by have := of_decide_eq_true c; simp [dayIn]; omega)) fun c3 => Ev.cnd (fun c => bad (by have := of_decide_eq_true c; simp [dayIn]; omega)) fun c4 => Ev.cnd (fun c => bad (by have := of_decide_eq_true c; simp [dayIn]; omega)) fun c5 => ?_
  replace c1 := of_decide_eq_false c1; replace c2 := of_decide_eq_false c2; replace c3 := of_decide_eq_false c3; replace c4 := of_decide_eq_false c4; replace c5 := of_decide_eq_false c5
  refine Ev.bind (impl_daysIn.ev y m (by omega) (by omega) (by omega)) ?_
  have hb := mon_bd y m
  by_cases c6 : mon y m < d
  · rw [decide_eq_true c6]; exact bad (by simp [dayIn]; omega)
  · rw [decide_eq_false c6]
    have hin : dayIn y m d = true := by simp [dayIn]; omega
    have hd := dto_bd y (by omega)
    refine Ev.step ?_
    simp only [impl_DayNumber.step]
    refine Ev.no rfl (Ev.bind (impl_daysTo.ev y (by omega) (by omega)) ?_)
    rw [w64 (n := dto y + d) (by omega) (by omega), w64 (n := dto y + d - 1) (by omega) (by omega)]
    refine Ev.of_eq (α := Int) (impl_DayNumber.months y m (by omega) (by omega) (by omega) (m - 1).toNat (dto y + d - 1) 1 (by omega) (by omega) (by omega) (by omega) (by omega)) ?_
    rw [dayV, if_pos hin]; simp [cumd]
theorem slices_Index_int.ev (l : List Int) (x : Int) (hl : l.length ≤ 1048576) : Ev (fun n => slices_Index_int n l x) (match (List.range l.length).find? (fun i => decide (l.getD i default = x)) with | some i => (i : Int) | none => -1) := by
  refine Ev.step ?_
  simp only [slices_Index_int.step]
  refine Ev.find (pt := fun i : Nat => slices_Index_int.Pt.p7 l x (l.length : Int) (i : Int)) (fun i hi => ⟨fun h v hv => ?_, fun h => ?_⟩) ?_
  · have h := of_decide_eq_false h
    refine Ev.step ?_
    simp only [slices_Index_int.step, toNat_cast, i64_nat (show i ≤ 4611686018427387904 by omega)]
    exact Ev.yes (lt_yes hi) (Ev.yes (inB_nat hi) (Ev.no (decide_eq_false fun e => h e.symm) hv))
  · have h := of_decide_eq_true h
    refine Ev.step ?_
    simp only [slices_Index_int.step, toNat_cast]
    exact Ev.yes (lt_yes hi) (Ev.yes (inB_nat hi) (Ev.yes (decide_eq_true h.symm) Ev.pure))
  · refine Ev.step ?_
    simp only [slices_Index_int.step]
    exact Ev.no lt_no Ev.pure
theorem slices_Contains_int.ev (l : List Int) (x : Int) (hl : l.length ≤ 1048576) : Ev (fun n => slices_Contains_int n l x) (inIB l x) := by
  refine Ev.step ?_
  simp only [slices_Contains_int.step]
  exact Ev.bind (slices_Index_int.ev l x hl) (Ev.pure' find_any)
theorem impl_InInterval.ev (x : ITV) (t : Int) (h : Sm 1048576 ITU x) (hz : -9223372036854775808 ≤ x.1 ∧ x.1 ≤ 9223372036854775807) : Ev (fun n => impl_InInterval n x t) (inItvB x t) := by
  have h4 : ∀ b, b = !(itvB x && timeB t) → Ev (fun n => goRec impl_InInterval.step n (impl_InInterval.Pt.p4 t b x.1 x.2.1 x.2.2.1 x.2.2.2.1 x.2.2.2.2.1 x.2.2.2.2.2.1 x.2.2.2.2.2.2.1)) (inItvB x t) := by
    rintro b rfl
    refine Ev.step ?_
    simp only [impl_InInterval.step]
    refine Ev.cnd (fun c => Ev.pure' (by rw [Bool.not_eq_true'] at c; rw [inItvB, c]; rfl)) fun c => ?_
    rw [Bool.not_eq_false'] at c
    refine Ev.bind (impl_DateOf.ev t x.1 hz) ?_
    generalize hD : dateV t x.1 = D
    simp only [inItvB, c, hD, Bool.true_and]
    refine Ev.cnd (fun c => Ev.pure' (by rw [c]; rfl)) fun c1 => ?_
    rw [c1, Bool.not_false, Bool.true_and]
    refine Ev.bind (Ev.of_eq (impl_inRanges.ev _ _ h.2.1.1 (by simp)) (inRs_one _ _)) (Ev.cnd (fun c2 => ?_) fun c => Ev.pure' (by rw [c]; rfl))
    rw [c2, Bool.true_and]
    refine Ev.bind (Ev.of_eq (impl_inRanges.ev _ _ h.2.2.1.1 (by simp)) (inRs_one _ _)) (Ev.cnd (fun c3 => ?_) fun c => Ev.pure' (by rw [c]; rfl))
    rw [c3, Bool.true_and]
    refine Ev.bind (Ev.of_eq (impl_inRanges.ev _ _ h.2.2.2.1.1 (by simp)) (inRs_two _ _ _)) (Ev.cnd (fun c4 => ?_) fun c => Ev.pure' (by rw [c]; rfl))
    rw [c4, Bool.true_and]
    refine Ev.bind (Ev.of_eq (impl_inRanges.ev _ _ h.2.2.2.2.1.1 (by simp)) (inRs_one _ _)) (Ev.cnd (fun c5 => ?_) fun c => Ev.pure' (by rw [c]; rfl))
    rw [c5, Bool.true_and]
    refine Ev.bind (Ev.of_eq (impl_inRanges.ev _ _ h.2.2.2.2.2.1.1 (by simp)) (inRs_one _ _)) (Ev.cnd (fun c6 => ?_) fun c => Ev.pure' (by rw [c]; rfl))
    rw [c6, Bool.true_and]
    exact Ev.bind (impl_DayNumber.ev _ _ _) (Ev.bind (slices_Contains_int.ev _ _ h.2.2.2.2.2.2.1.1) Ev.pure)
  refine Ev.step ?_
  simp only [impl_InInterval.step]
  refine Ev.bind (impl_GoodInterval.ev x h) (Ev.cnd (fun c => h4 _ (by rw [Bool.not_eq_true'] at c; rw [c]; rfl)) fun c => Ev.bind (impl_isTime.ev t) (h4 _ ?_))
  rw [Bool.not_eq_false'] at c; rw [c]; rfl
theorem spec_l9Numbers.ev (l : List Int) (hl : l.length ≤ 1048576) : Ev (fun n => spec_l9Numbers n l) (decide (l.length ≤ 1000) && risingI l) := by
  have go : ∀ d i, i + 1 + d = l.length → Ev (fun n => goRec spec_l9Numbers.step n (spec_l9Numbers.Pt.p7 l (l.length : Int) ((i + 1 : Nat) : Int))) (decide (l.length ≤ 1000) && (List.range' i d).all fun i => decide (l.getD i default < l.getD (i + 1) default)) := by
    intro d
    induction d with
    | zero =>
      intro i h
      refine Ev.step ?_
      simp only [spec_l9Numbers.step]
      exact Ev.no (decide_eq_false (by omega)) (Ev.pure' (by rw [List.range'_zero, List.all_nil, Bool.and_true]; exact decide_eq_decide.2 (by omega)))
    | succ d ih =>
      intro i h
      refine Ev.step ?_
      simp only [spec_l9Numbers.step, i64_pred (show i ≤ 4611686018427387904 by omega), i64_nat (show i + 1 ≤ 4611686018427387904 by omega), toNat_cast]
      rw [List.range'_succ, List.all_cons]
      refine Ev.yes (lt_yes (by omega)) (Ev.yes (decide_eq_true (by omega)) (Ev.yes (inB_nat (by omega)) (Ev.yes (inB_nat (by omega)) (Ev.cnd (fun c => Ev.pure' ?_) fun c => Ev.of_eq (ih (i + 1) (by omega)) ?_))))
      · have c := of_decide_eq_true c
        rw [decide_eq_false (show ¬ l.getD i default < l.getD (i + 1) default by omega)]; simp
      · have c := of_decide_eq_false c
        rw [decide_eq_true (show l.getD i default < l.getD (i + 1) default by omega), Bool.true_and]
  refine Ev.step ?_
  simp only [spec_l9Numbers.step]
  cases hl0 : l.length with
  | zero =>
    refine Ev.step ?_
    simp only [spec_l9Numbers.step, hl0]
    exact Ev.no (by simp) (Ev.pure' (by simp [risingI, hl0]))
  | succ k =>
    refine Ev.step ?_
    simp only [spec_l9Numbers.step]
    refine Ev.yes (decide_eq_true (by omega)) (Ev.no (by simp) ?_)
    have e0 : IntKind.wrap .i64 ((0 : Int) + 1) = ((0 + 1 : Nat) : Int) := by rw [w64] <;> omega
    rw [e0, ← hl0]
    have := go k 0 (by omega)
    rw [risingI, List.range_eq_range', show l.length - 1 = k by omega]
    exact this
theorem spec_l19Ranges.ev (l : List RG) (lo hi : Int) (hl : l.length ≤ 1048576) : Ev (fun n => spec_l19Ranges n l lo hi) (rangesB l lo hi) := by
  have go : ∀ d i, i + d = l.length → Ev (fun n => goRec spec_l19Ranges.step n (spec_l19Ranges.Pt.p7 l lo hi l (l.length : Int) (i : Int))) (decide (l.length ≤ 10) && (List.range' i d).all fun i => rangeB lo hi (l.getD i default)) := by
    intro d
    induction d with
    | zero =>
      intro i h
      rw [Nat.add_zero] at h; subst h
      refine Ev.step ?_
      simp only [spec_l19Ranges.step]
      exact Ev.no lt_no (Ev.pure' (by rw [List.range'_zero, List.all_nil, Bool.and_true]; exact decide_eq_decide.2 (by omega)))
    | succ d ih =>
      intro i h
      rw [List.range'_succ, List.all_cons]
      have ih' := ih (i + 1) (by omega)
      generalize ((List.range' (i + 1) d).all fun i => rangeB lo hi (l.getD i default)) = v at ih'
      have h18 : ∀ b, b = !rangeB lo hi (l.getD i default) → Ev (fun n => goRec spec_l19Ranges.step n (spec_l19Ranges.Pt.p18 l lo hi l (l.length : Int) (i : Int) b)) (decide (l.length ≤ 10) && (rangeB lo hi (l.getD i default) && v)) := by
        rintro b rfl
        refine Ev.step ?_
        simp only [spec_l19Ranges.step, i64_nat (show i ≤ 4611686018427387904 by omega)]
        exact Ev.cnd (fun c => Ev.pure' (by rw [Bool.not_eq_true'] at c; rw [c]; simp)) fun c => Ev.of_eq ih' (by rw [Bool.not_eq_false'] at c; rw [c]; simp)
      refine Ev.step ?_
      simp only [spec_l19Ranges.step, toNat_cast]
      generalize hr : l.getD i default = r at h18
      refine Ev.yes (lt_yes (by omega)) (Ev.yes (inB_nat (by omega)) (Ev.cnd (fun c => h18 _ ?_) fun c => Ev.cnd (fun c2 => h18 _ ?_) fun c2 => h18 _ ?_))
      · have c := of_decide_eq_true c; simp [rangeB, show ¬ lo ≤ r.1 by omega]
      · have c2 := of_decide_eq_true c2; simp [rangeB, show ¬ r.2.1 ≤ hi by omega]
      · have c := of_decide_eq_false c; have c2 := of_decide_eq_false c2
        simp only [rangeB, show lo ≤ r.1 by omega, show r.2.1 ≤ hi by omega, decide_true, Bool.and_true]
        rw [← decide_not]; exact decide_eq_decide.2 (by omega)
  refine Ev.step ?_
  simp only [spec_l19Ranges.step]
  have := go l.length 0 (by omega)
  rw [rangesB, List.range_eq_range']
  exact this
theorem spec_GoodInterval.free (z : Int) (m w dd mo y : List RG) (l : List Int) (hl : l.length ≤ 1048576) (hm : m.length ≤ 1048576) (hw : w.length ≤ 1048576) (hd : dd.length ≤ 1048576) (hmo : mo.length ≤ 1048576) (hy : y.length ≤ 1048576) : ∀ d i, i + d = l.length → Ev (fun n => goRec spec_GoodInterval.step n (spec_GoodInterval.Pt.p38 l (l.length : Int) (i : Int) z m w dd mo y l))
    (((List.range' i d).all fun i => freeB (l.getD i default)) && (rangesB m 0 1439 && rangesB w 0 6 && rangesB dd (-31) 31 && rangesB mo 1 12 && rangesB y 1970 40000)) := by
  intro d
  induction d with
  | zero =>
    intro i h
    rw [Nat.add_zero] at h; subst h
    refine Ev.step ?_
    simp only [spec_GoodInterval.step]
    refine Ev.no lt_no ?_
    refine Ev.bind (spec_l19Ranges.ev m _ _ hm) (Ev.cnd (fun c1 => ?_) fun c => Ev.pure' (by simp [c]))
    refine Ev.bind (spec_l19Ranges.ev w _ _ hw) (Ev.cnd (fun c2 => ?_) fun c => Ev.pure' (by simp [c]))
    refine Ev.bind (spec_l19Ranges.ev dd _ _ hd) (Ev.cnd (fun c3 => ?_) fun c => Ev.pure' (by simp [c]))
    refine Ev.bind (spec_l19Ranges.ev mo _ _ hmo) (Ev.cnd (fun c4 => ?_) fun c => Ev.pure' (by simp [c]))
    exact Ev.bind (spec_l19Ranges.ev y _ _ hy) (Ev.pure' (by simp [c1, c2, c3, c4]))
  | succ d ih =>
    intro i h
    rw [List.range'_succ, List.all_cons]
    have ih' := ih (i + 1) (by omega)
    generalize ((List.range' (i + 1) d).all fun i => freeB (l.getD i default)) = v at ih'
    refine Ev.step ?_
    simp only [spec_GoodInterval.step, toNat_cast, i64_nat (show i ≤ 4611686018427387904 by omega)]
    generalize l.getD i default = r
    refine Ev.yes (lt_yes (by omega)) (Ev.yes (inB_nat (by omega)) (Ev.cnd (fun c => Ev.pure' ?_) fun c => Ev.cnd (fun c2 => Ev.pure' ?_) fun c2 => Ev.of_eq ih' ?_))
    · have c := of_decide_eq_true c; simp [freeB, show ¬ 0 ≤ r by omega]
    · have c2 := of_decide_eq_true c2; simp [freeB, show ¬ r ≤ 20000000 by omega]
    · have c := of_decide_eq_false c; have c2 := of_decide_eq_false c2; simp [freeB, show 0 ≤ r by omega, show r ≤ 20000000 by omega]
theorem spec_GoodInterval.ev (x : ITV) (h : Sm 1048576 ITU x) : Ev (fun n => spec_GoodInterval n x) (itvB x) := by
  obtain ⟨z, m, w, l, mo, y, f, ⟨⟩⟩ := x
  obtain ⟨_, ⟨hm, _⟩, ⟨hw, _⟩, ⟨hl, _⟩, ⟨hmo, _⟩, ⟨hy, _⟩, ⟨hf, _⟩, _⟩ := h
  have hl : l.length ≤ 1048576 := hl
  have hf : f.length ≤ 1048576 := hf
  have key : ∀ d i, i + d = l.length → Ev (fun n => goRec spec_GoodInterval.step n (spec_GoodInterval.Pt.p7 l (l.length : Int) (i : Int) z m w l mo y f)) (((List.range' i d).all fun i => dayRS (l.getD i default)) && (decide (-1440 ≤ z) && decide (z ≤ 1440) && decide (f.length ≤ 10) && risingI f && (allG freeB f && (rangesB m 0 1439 && rangesB w 0 6 && rangesB l (-31) 31 && rangesB mo 1 12 && rangesB y 1970 40000)))) := by
    intro d
    induction d with
    | zero =>
      intro i hi
      rw [Nat.add_zero] at hi; subst hi
      have h27 : ∀ b, b = !(decide (-1440 ≤ z) && decide (z ≤ 1440) && decide (f.length ≤ 10) && risingI f) → Ev (fun n => goRec spec_GoodInterval.step n (spec_GoodInterval.Pt.p27 b z m w l mo y f)) (decide (-1440 ≤ z) && decide (z ≤ 1440) && decide (f.length ≤ 10) && risingI f && (allG freeB f && (rangesB m 0 1439 && rangesB w 0 6 && rangesB l (-31) 31 && rangesB mo 1 12 && rangesB y 1970 40000))) := by
        rintro b rfl
        refine Ev.step ?_
        simp only [spec_GoodInterval.step]
        refine Ev.cnd (fun c => Ev.pure' (by rw [Bool.not_eq_true'] at c; rw [c]; rfl)) fun c => ?_
        rw [Bool.not_eq_false'] at c
        rw [c, Bool.true_and, allG, List.range_eq_range']
        exact spec_GoodInterval.free z m w l mo y f hf hm hw hl hmo hy f.length 0 (by omega)
      rw [List.range'_zero, List.all_nil, Bool.true_and]
      refine Ev.step ?_
      simp only [spec_GoodInterval.step]
      refine Ev.no lt_no (Ev.cnd (fun c => h27 _ ?_) fun c1 => Ev.cnd (fun c => h27 _ ?_) fun c2 => Ev.cnd (fun c => h27 _ ?_) fun c3 => Ev.bind (spec_l9Numbers.ev f hf) (h27 _ ?_))
      · have c := of_decide_eq_true c; simp [show ¬ -1440 ≤ z by omega]
      · have c := of_decide_eq_true c; simp [show ¬ z ≤ 1440 by omega]
      · have c := of_decide_eq_true c; simp [show ¬ f.length ≤ 10 by omega]
      · have c1 := of_decide_eq_false c1; have c2 := of_decide_eq_false c2; have c3 := of_decide_eq_false c3
        simp [show -1440 ≤ z by omega, show z ≤ 1440 by omega, show f.length ≤ 10 by omega, show f.length ≤ 1000 by omega]
    | succ d ih =>
      intro i hi
      rw [List.range'_succ, List.all_cons]
      have ih' := ih (i + 1) (by omega)
      generalize ((List.range' (i + 1) d).all fun i => dayRS (l.getD i default)) = v at ih'
      generalize (decide (-1440 ≤ z) && decide (z ≤ 1440) && decide (f.length ≤ 10) && risingI f && (allG freeB f && (rangesB m 0 1439 && rangesB w 0 6 && rangesB l (-31) 31 && rangesB mo 1 12 && rangesB y 1970 40000))) = u at ih'
      have h18 : ∀ b, b = !dayRS (l.getD i default) → Ev (fun n => goRec spec_GoodInterval.step n (spec_GoodInterval.Pt.p18 l (l.length : Int) (i : Int) b z m w l mo y f)) (dayRS (l.getD i default) && v && u) := by
        rintro b rfl
        refine Ev.step ?_
        simp only [spec_GoodInterval.step, i64_nat (show i ≤ 4611686018427387904 by omega)]
        exact Ev.cnd (fun c => Ev.pure' (by rw [Bool.not_eq_true'] at c; rw [c]; rfl)) fun c => Ev.of_eq ih' (by rw [Bool.not_eq_false'] at c; rw [c]; rfl)
      refine Ev.step ?_
      simp only [spec_GoodInterval.step, toNat_cast]
      generalize l.getD i default = r at h18
      refine Ev.yes (lt_yes (by omega)) (Ev.yes (inB_nat (by omega)) (Ev.cnd (fun c => h18 _ ?_) fun c => Ev.cnd (fun c2 => h18 _ ?_) fun c2 => h18 _ ?_))
      · simp [dayRS, of_decide_eq_true c]
      · simp [dayRS, of_decide_eq_true c2]
      · simp only [dayRS, c, c2]
        cases decide (r.1 < 0) <;> cases decide (r.2.1 < 0) <;> rfl
  refine Ev.step ?_
  simp only [spec_GoodInterval.step]
  refine Ev.of_eq (key l.length 0 (by omega)) ?_
  rw [← List.range_eq_range']
  have e := days_same l (-31) 31
  simp only [allG] at e
  simp only [itvB, allG]
  generalize ((List.range l.length).all fun i => dayRS (l.getD i default)) = p at e ⊢
  generalize ((List.range l.length).all fun i => dayRB (l.getD i default)) = q at e ⊢
  revert e
  cases rangesB l (-31) 31 <;> cases p <;> cases q <;> simp [Bool.and_assoc, Bool.and_comm, Bool.and_left_comm]
theorem spec_l19In.ev (l : List RG) (x : Int) (hl : l.length ≤ 1048576) : Ev (fun n => spec_l19In n l x) (inRB l x) := by
  have go : ∀ d i b, i + d = l.length → Ev (fun n => goRec spec_l19In.step n (spec_l19In.Pt.p9 x b l (l.length : Int) (i : Int))) (b || (List.range' i d).any fun i => decide ((l.getD i default).1 ≤ x) && decide (x ≤ (l.getD i default).2.1)) := by
    intro d
    induction d with
    | zero =>
      intro i b h
      rw [Nat.add_zero] at h; subst h
      refine Ev.step ?_
      simp only [spec_l19In.step]
      exact Ev.no lt_no (Ev.pure' (by simp))
    | succ d ih =>
      intro i b h
      rw [List.range'_succ, List.any_cons]
      have ih' := fun b => ih (i + 1) b (by omega)
      generalize ((List.range' (i + 1) d).any fun i => decide ((l.getD i default).1 ≤ x) && decide (x ≤ (l.getD i default).2.1)) = v at ih'
      refine Ev.step ?_
      simp only [spec_l19In.step, toNat_cast, i64_nat (show i ≤ 4611686018427387904 by omega)]
      generalize l.getD i default = r
      refine Ev.yes (lt_yes (by omega)) (Ev.yes (inB_nat (by omega)) (Ev.cnd (fun c => Ev.of_eq (ih' _) ?_) fun c => Ev.cnd (fun c2 => Ev.of_eq (ih' _) ?_) fun c2 => Ev.of_eq (ih' _) ?_))
      · simp [c]
      · simp [c, of_decide_eq_true c2]
      · simp [c, of_decide_eq_false c2]
  refine Ev.step ?_
  simp only [spec_l19In.step]
  have := go l.length 0 (decide (l.length = 0)) (by omega)
  rw [← List.range_eq_range'] at this
  have e : decide ((l.length : Int) = 0) = decide (l.length = 0) := decide_eq_decide.2 (by omega)
  rw [e]
  exact this
theorem spec_l9In.ev (l : List Int) (x : Int) (hl : l.length ≤ 1048576) : Ev (fun n => spec_l9In n l x) (inIB l x) := by
  have go : ∀ d i, i + d = l.length → Ev (fun n => goRec spec_l9In.step n (spec_l9In.Pt.p7 x l (l.length : Int) (i : Int))) ((List.range' i d).any fun i => decide (l.getD i default = x)) := by
    intro d
    induction d with
    | zero =>
      intro i h
      rw [Nat.add_zero] at h; subst h
      refine Ev.step ?_
      simp only [spec_l9In.step]
      exact Ev.no lt_no (Ev.pure' (by simp))
    | succ d ih =>
      intro i h
      rw [List.range'_succ, List.any_cons]
      refine Ev.step ?_
      simp only [spec_l9In.step, toNat_cast, i64_nat (show i ≤ 4611686018427387904 by omega)]
      refine Ev.yes (lt_yes (by omega)) (Ev.yes (inB_nat (by omega)) (Ev.cnd (fun c => Ev.pure' (by rw [c]; rfl)) fun c => Ev.of_eq (ih (i + 1) (by omega)) (by rw [c]; rfl)))
  refine Ev.step ?_
  simp only [spec_l9In.step]
  have := go l.length 0 (by omega)
  rw [← List.range_eq_range'] at this
  exact this
theorem spec_InInterval.ev (x : ITV) (t : Int) (h : Sm 1048576 ITU x) (hz : -9223372036854775808 ≤ x.1 ∧ x.1 ≤ 9223372036854775807) : Ev (fun n => spec_InInterval n x t) (inItvB x t) := by
  have h4 : ∀ b, b = !(itvB x && timeB t) → Ev (fun n => goRec spec_InInterval.step n (spec_InInterval.Pt.p4 t b x.1 x.2.1 x.2.2.1 x.2.2.2.1 x.2.2.2.2.1 x.2.2.2.2.2.1 x.2.2.2.2.2.2.1)) (inItvB x t) := by
    rintro b rfl
    refine Ev.step ?_
    simp only [spec_InInterval.step]
    refine Ev.cnd (fun c => Ev.pure' (by rw [Bool.not_eq_true'] at c; rw [inItvB, c]; rfl)) fun c => ?_
    rw [Bool.not_eq_false'] at c
    refine Ev.bind (spec_DateOf.ev t x.1 hz) ?_
    generalize hD : dateV t x.1 = D
    simp only [inItvB, c, hD, Bool.true_and]
    refine Ev.cnd (fun c => Ev.pure' (by rw [c]; rfl)) fun c1 => ?_
    rw [c1, Bool.not_false, Bool.true_and]
    have h21 : ∀ b, b = (inRB x.2.2.2.1 D.2.2.1 || inRB x.2.2.2.1 (IntKind.wrap .i64 ((IntKind.wrap .i64 (D.2.2.1 - D.2.2.2.1)) - (1 : Int)))) → Ev (fun n => goRec spec_InInterval.step n (spec_InInterval.Pt.p21 b x.1 x.2.1 x.2.2.1 x.2.2.2.1 x.2.2.2.2.1 x.2.2.2.2.2.1 x.2.2.2.2.2.2.1 D.1 D.2.1 D.2.2.1 D.2.2.2.1 D.2.2.2.2.1 D.2.2.2.2.2.1))
        (inRB x.2.1 D.2.2.2.2.2.1 && inRB x.2.2.1 D.2.2.2.2.1 && (inRB x.2.2.2.1 D.2.2.1 || inRB x.2.2.2.1 (IntKind.wrap .i64 ((IntKind.wrap .i64 (D.2.2.1 - D.2.2.2.1)) - (1 : Int)))) && inRB x.2.2.2.2.1 D.2.1 && inRB x.2.2.2.2.2.1 D.1 && !inIB x.2.2.2.2.2.2.1 (dayV D.1 D.2.1 D.2.2.1)) := by
      intro b hb
      rw [← hb]
      refine Ev.step ?_
      simp only [spec_InInterval.step]
      refine Ev.cnd (fun c2 => ?_) fun c => Ev.pure' (by rw [c]; simp)
      rw [c2, Bool.and_true]
      refine Ev.bind (spec_l19In.ev _ _ h.2.1.1) (Ev.cnd (fun c3 => ?_) fun c => Ev.pure' (by rw [c]; rfl))
      refine Ev.bind (spec_l19In.ev _ _ h.2.2.1.1) (Ev.cnd (fun c4 => ?_) fun c => Ev.pure' (by rw [c]; simp))
      refine Ev.bind (spec_l19In.ev _ _ h.2.2.2.2.1.1) (Ev.cnd (fun c5 => ?_) fun c => Ev.pure' (by rw [c]; simp))
      refine Ev.bind (spec_l19In.ev _ _ h.2.2.2.2.2.1.1) (Ev.cnd (fun c6 => ?_) fun c => Ev.pure' (by rw [c]; simp))
      exact Ev.bind (spec_DayNumber.ev _ _ _) (Ev.bind (spec_l9In.ev _ _ h.2.2.2.2.2.2.1.1) (Ev.pure' (by rw [c3, c4, c5, c6]; simp)))
    refine Ev.cnd (fun c => h21 _ ?_) fun c => Ev.bind (spec_l19In.ev _ _ h.2.2.2.1.1) (Ev.cnd (fun c2 => h21 _ (by rw [c2]; rfl)) fun c2 => Ev.bind (spec_l19In.ev _ _ h.2.2.2.1.1) (h21 _ (by rw [c2]; rfl)))
    have c := of_decide_eq_true c
    simp [inRB, show x.2.2.2.1.length = 0 by omega]
  refine Ev.step ?_
  simp only [spec_InInterval.step]
  refine Ev.bind (spec_GoodInterval.ev x h) (Ev.cnd (fun c => h4 _ (by rw [Bool.not_eq_true'] at c; rw [c]; rfl)) fun c => Ev.bind (spec_l3Time.ev t) (h4 _ ?_))
  rw [Bool.not_eq_false'] at c; rw [c]; rfl
theorem itv_small {x : ITV} (h : ItvOK 40 x) : Sm 1048576 ITU x := by
  obtain ⟨hz, a1, a2, a3, a4, a5, a6⟩ := h
  exact ⟨trivial, ⟨by omega, fun _ _ => ⟨trivial, trivial, trivial⟩⟩, ⟨by omega, fun _ _ => ⟨trivial, trivial, trivial⟩⟩, ⟨by omega, fun _ _ => ⟨trivial, trivial, trivial⟩⟩, ⟨by omega, fun _ _ => ⟨trivial, trivial, trivial⟩⟩, ⟨by omega, fun _ _ => ⟨trivial, trivial, trivial⟩⟩, ⟨by omega, fun _ _ => trivial⟩, trivial⟩
theorem laws_FnIntervals.ev (code : List Int) (hw : Wf (.bs (.int .u8)) code) : Ev (fun n => laws_FnIntervals n code) true := by
  refine Ev.step ?_
  simp only [laws_FnIntervals.step]
  refine Ev.cnd (fun _ => Ev.pure) fun e => ?_
  have hlen : code.length ≤ 1048576 := by have := of_decide_eq_false e; omega
  have hc : CodeOK code := ⟨hlen, fun x hx => by
    have h2 : decide (IntKind.u8.min ≤ x) && decide (x ≤ IntKind.u8.max) := hw.2 x hx
    rw [Bool.and_eq_true] at h2
    have a : IntKind.u8.min ≤ x := of_decide_eq_true h2.1
    have b : x ≤ IntKind.u8.max := of_decide_eq_true h2.2
    have ea : IntKind.u8.min = 0 := by decide
    have eb : IntKind.u8.max = 255 := by decide
    omega⟩
  refine Ev.bindP (spec_DrawInInterval.ev code hc) ?_
  rintro ⟨x, t0⟩ hx
  obtain ⟨t, ht0⟩ : ∃ t : Int, t = t0 := ⟨t0, rfl⟩
  subst ht0
  have hx : ItvOK 40 x := hx
  have hs := itv_small hx
  have hz := hx.1
  refine Ev.bind (impl_InInterval.ev x t hs hz) (Ev.bind (spec_InInterval.ev x t hs hz) (Ev.no (by simp) (Ev.bind (spec_GoodInterval.ev x hs) ?_)))
  have bad : (itvB x && timeB t) = false → Ev (fun n => goRec laws_FnIntervals.step n (laws_FnIntervals.Pt.p24 t (inItvB x t) true x.1 x.2.1 x.2.2.1 x.2.2.2.1 x.2.2.2.2.1 x.2.2.2.2.2.1 x.2.2.2.2.2.2.1)) true := fun h => by
    refine Ev.step ?_
    simp only [laws_FnIntervals.step]
    exact Ev.yes rfl (Ev.pure' (by rw [inItvB, h]; rfl))
  refine Ev.cnd (fun e => bad (by rw [Bool.not_eq_true'] at e; rw [e]; rfl)) fun e1 => ?_
  rw [Bool.not_eq_false'] at e1
  refine Ev.cnd (fun e => bad ?_) fun e2 => ?_
  · have e : t < 0 := of_decide_eq_true e
    rw [timeB, decide_eq_false (show ¬ 0 ≤ t by omega)]; simp
  have e2 : 0 ≤ t := by have : ¬ @LT.lt Int _ t 0 := of_decide_eq_false e2; omega
  by_cases e3 : t ≤ 1000000000000
  case neg =>
    rw [decide_eq_true (show (1000000000000 : Int) < t by omega)]
    exact bad (by rw [timeB, decide_eq_false e3]; simp)
  rw [decide_eq_false (show ¬ (1000000000000 : Int) < t by omega)]
  have ht : timeB t = true := by rw [timeB, decide_eq_true e2, decide_eq_true e3]; rfl
  refine Ev.step ?_
  simp only [laws_FnIntervals.step]
  refine Ev.no rfl (Ev.bind (spec_DateOf.ev t x.1 hz) ?_)
  refine Ev.cnd (fun e => Ev.pure' ?_) fun e4 => ?_
  · have e : (dateV t x.1).1 = 0 := of_decide_eq_true e
    rw [inItvB, decide_eq_true e]; simp
  have e4 : ¬ (dateV t x.1).1 = 0 := of_decide_eq_false e4
  have blank : inItvB (x.1, [], [], [], [], [], [], ()) t = true := by
    simp only [itvB, Bool.and_eq_true] at e1
    have z1 := e1.1.1.1.1.1.1.1.1.1.1
    have z2 := e1.1.1.1.1.1.1.1.1.1.2
    rw [inItvB, decide_eq_false e4, ht]
    simp only [itvB, z1, z2]
    rfl
  have okb : ItvOK 40 (x.1, [], [], [], [], [], [], ()) := ⟨hz, by simp, by simp, by simp, by simp, by simp, by simp⟩
  refine Ev.bind (impl_InInterval.ev (x.1, [], [], [], [], [], [], ()) t (itv_small okb) hz) ?_
  rw [blank]
  refine Ev.no rfl (Ev.bind (spec_DayNumber.ev _ _ _) ?_)
  have okf : ItvOK 40 (x.1, x.2.1, x.2.2.1, x.2.2.2.1, x.2.2.2.2.1, x.2.2.2.2.2.1, [dayV (dateV t x.1).1 (dateV t x.1).2.1 (dateV t x.1).2.2.1], ()) := ⟨hz, hx.2.1, hx.2.2.1, hx.2.2.2.1, hx.2.2.2.2.1, hx.2.2.2.2.2.1, by simp⟩
  refine Ev.bind (impl_InInterval.ev (x.1, x.2.1, x.2.2.1, x.2.2.2.1, x.2.2.2.2.1, x.2.2.2.2.2.1, [dayV (dateV t x.1).1 (dateV t x.1).2.1 (dateV t x.1).2.2.1], ()) t (itv_small okf) hz) (Ev.pure' ?_)
  have : inIB [dayV (dateV t x.1).1 (dateV t x.1).2.1 (dateV t x.1).2.2.1] (dayV (dateV t x.1).1 (dateV t x.1).2.1 (dateV t x.1).2.2.1) = true := by simp [inIB]
  rw [inItvB]
  simp only [this]
  simp
end Go.IV
