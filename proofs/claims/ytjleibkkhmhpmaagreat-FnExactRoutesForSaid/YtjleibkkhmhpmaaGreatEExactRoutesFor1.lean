/- What these functions come to, part 1. -/
import Derived.Test.YtjleibkkhmhpmaaGreatV1
import Derived.Test.YtjleibkkhmhpmaaGreatV2
import Derived.Test.YtjleibkkhmhpmaaGreatV3
import Derived.Test.YtjleibkkhmhpmaaGreatFExactRoutesFor1
import Derived.Test.YtjleibkkhmhpmaaGreatFExactRoutesFor2
open Go Go.VM
set_option maxRecDepth 100000
namespace Go.RF
set_option linter.unusedVariables false
set_option linter.unusedSimpArgs false
abbrev MT := ByteArray × Int × ByteArray × Unit
def matcherB (x : MT) : Bool := nameB x.1 && decide (1 ≤ x.2.1) && decide (x.2.1 ≤ 4) && decide (x.2.2.1.size ≤ 100) && printB x.2.2.1 && (decide (x.2.1 < 3) || (alts x.2.2.1).isSome)
def matchersB (l : List MT) : Bool := decide (l.length ≤ 10) && (List.range l.length).all fun i => matcherB (l.getD i default)
abbrev MU : U := .pair .str (.pair (.int .i64) (.pair .str .unit))
abbrev SIL := ByteArray × List MT × Int × Int × Unit
abbrev SIU : U := .pair .str (.pair (.sl false MU) (.pair (.int .i64) (.pair (.int .i64) .unit)))
def silB (l : List SIL) (i : Nat) : Bool := nameB (l.getD i default).1 && matchersB (l.getD i default).2.1 && decide ((l.getD i default).2.1.length ≠ 0) && timeB (l.getD i default).2.2.1 && timeB (l.getD i default).2.2.2.1 &&
  decide ((l.getD i default).2.2.1 ≤ (l.getD i default).2.2.2.1) && (decide (i = 0) || decide (cmpT (l.getD (i - 1) default).1 (l.getD i default).1 < 0))
def silsB (l : List SIL) : Bool := decide (l.length ≤ 50) && (List.range l.length).all (silB l)
/-- texts that rise -/
def risingB (l : List ByteArray) : Bool := (List.range (l.length - 1)).all fun i => decide (cmpT (l.getD i default) (l.getD (i + 1) default) < 0)
def namesB (l : List ByteArray) : Bool := decide (l.length ≤ 10) && risingB l && (List.range l.length).all fun i => nameB (l.getD i default)
abbrev INH := List MT × List MT × List ByteArray × Unit
abbrev INU : U := .pair (.sl false MU) (.pair (.sl false MU) (.pair (.sl false .str) .unit))
def inhB (x : INH) : Bool := matchersB x.1 && matchersB x.2.1 && decide (x.1.length ≠ 0) && decide (x.2.1.length ≠ 0) && namesB x.2.2.1
def inhsB (l : List INH) : Bool := decide (l.length ≤ 20) && (List.range l.length).all fun i => inhB (l.getD i default)
def lp (y : Int) : Int := if y % 4 = 0 ∧ (y % 100 ≠ 0 ∨ y % 400 = 0) then 1 else 0
def yl (y : Int) : Int := 365 + lp y
def dto (y : Int) : Int := (y - 1970) * 365 + ((y - 1) / 4 - (y - 1) / 100 + (y - 1) / 400) - 477
def mon (y m : Int) : Int := if m = 2 then 28 + lp y else if m = 4 ∨ m = 6 ∨ m = 9 ∨ m = 11 then 30 else 31
def cumd (y m : Int) : Int := if m ≤ 1 then 0 else if m = 2 then 31 else if m = 3 then 59 + lp y else if m = 4 then 90 + lp y else if m = 5 then 120 + lp y else if m = 6 then 151 + lp y else if m = 7 then 181 + lp y else if m = 8 then 212 + lp y else if m = 9 then 243 + lp y else if m = 10 then 273 + lp y else if m = 11 then 304 + lp y else if m = 12 then 334 + lp y else 365 + lp y
noncomputable def yearOf (day : Int) : Int := @dite _ (∃ y, 1970 ≤ y ∧ dto y ≤ day ∧ day < dto (y + 1)) (Classical.propDecidable _) (fun h => h.choose) (fun _ => 0)
noncomputable def monthOf (y n : Int) : Int := @dite _ (∃ m, 1 ≤ m ∧ m ≤ 12 ∧ cumd y m ≤ n ∧ n < cumd y m + mon y m) (Classical.propDecidable _) (fun h => h.choose) (fun _ => 0)
abbrev DTE := Int × Int × Int × Int × Int × Int × Unit
noncomputable def dateOfDay (day mi : Int) : DTE := (yearOf day, monthOf (yearOf day) (day - dto (yearOf day)), day - dto (yearOf day) - cumd (yearOf day) (monthOf (yearOf day) (day - dto (yearOf day))) + 1, mon (yearOf day) (monthOf (yearOf day) (day - dto (yearOf day))), (day + 4) % 7, mi, ())
def dateIn (t z : Int) : Bool := timeB t && decide (-1440 ≤ z) && decide (z ≤ 1440) && decide (0 ≤ t + 60 * z)
noncomputable def dateV (t z : Int) : DTE := if dateIn t z = true then dateOfDay ((t + 60 * z) / 86400) ((t + 60 * z) / 60 % 1440) else (0, 0, 0, 0, 0, 0, ())
def dayIn (y m d : Int) : Bool := decide (1970 ≤ y) && decide (y ≤ 40000) && decide (1 ≤ m) && decide (m ≤ 12) && decide (1 ≤ d) && decide (d ≤ mon y m)
def dayV (y m d : Int) : Int := if dayIn y m d = true then dto y + d - 1 + cumd y m else -1
theorem lp_01 (y : Int) : lp y = 0 ∨ lp y = 1 := by unfold lp; split <;> simp
theorem dto_succ (y : Int) : dto (y + 1) = dto y + yl y := by unfold dto yl lp; split <;> omega
theorem dto_1970 : dto 1970 = 0 := by decide
theorem mon_bd (y m : Int) : 28 ≤ mon y m ∧ mon y m ≤ 31 := by
  have := lp_01 y
  unfold mon; split
  · omega
  · split <;> omega
theorem dto_bd (y : Int) (h : 1970 ≤ y) : 365 * (y - 1970) ≤ dto y ∧ dto y ≤ 366 * (y - 1970) := by unfold dto; omega
theorem dto_mono (a : Int) (d : Nat) : dto a + 365 * d ≤ dto (a + d) := by
  induction d with
  | zero => simp
  | succ d ih =>
    have h := dto_succ (a + d)
    have hl := lp_01 (a + d)
    have hyl : yl (a + d) = 365 + lp (a + d) := rfl
    rw [show a + ((d + 1 : Nat) : Int) = a + d + 1 by omega]
    omega
theorem dto_lt (a b : Int) (h : a ≤ b) : dto a + 365 * (b - a) ≤ dto b := by
  have := dto_mono a (b - a).toNat
  rw [show a + ((b - a).toNat : Int) = b by omega] at this
  omega
theorem year_of (day : Int) (h : 0 ≤ day) : ∃ y, 1970 ≤ y ∧ dto y ≤ day ∧ day < dto (y + 1) := by
  have key : ∀ d : Nat, dto 1970 ≤ day ∧ day < dto (1970 + d) → ∃ y, 1970 ≤ y ∧ dto y ≤ day ∧ day < dto (y + 1) := by
    intro d
    induction d with
    | zero => intro ⟨h1, h2⟩; simp at h2; omega
    | succ d ih =>
      intro ⟨h1, h2⟩
      by_cases c : day < dto (1970 + d)
      · exact ih ⟨h1, c⟩
      · exact ⟨1970 + d, by omega, by omega, by rw [show (1970 : Int) + d + 1 = 1970 + ((d + 1 : Nat) : Int) by omega]; exact h2⟩
  refine key (day.toNat + 1) ⟨by rw [dto_1970]; exact h, ?_⟩
  have := dto_mono 1970 (day.toNat + 1)
  rw [dto_1970] at this
  omega
theorem yearOf_spec (day : Int) (h : 0 ≤ day) : 1970 ≤ yearOf day ∧ dto (yearOf day) ≤ day ∧ day < dto (yearOf day + 1) := by
  unfold yearOf
  rw [dif_pos (year_of day h)]
  exact (year_of day h).choose_spec
theorem cumd_succ (y m : Int) (h1 : 1 ≤ m) (h2 : m ≤ 12) : cumd y (m + 1) = cumd y m + mon y m := by
  have hm : m = 1 ∨ m = 2 ∨ m = 3 ∨ m = 4 ∨ m = 5 ∨ m = 6 ∨ m = 7 ∨ m = 8 ∨ m = 9 ∨ m = 10 ∨ m = 11 ∨ m = 12 := by omega
  rcases hm with rfl | rfl | rfl | rfl | rfl | rfl | rfl | rfl | rfl | rfl | rfl | rfl <;> simp [cumd, mon] <;> omega
theorem ite_nn {c : Prop} [Decidable c] {a b : Int} (ha : 0 ≤ a) (hb : 0 ≤ b) : 0 ≤ (if c then a else b) := by split <;> assumption
theorem cumd_nn (y m : Int) : 0 ≤ cumd y m := by
  have := lp_01 y
  unfold cumd
  iterate 12 (refine ite_nn (by omega) ?_)
  omega
theorem ite_le {c : Prop} [Decidable c] {a b k : Int} (ha : a ≤ k) (hb : b ≤ k) : (if c then a else b) ≤ k := by split <;> assumption
theorem cumd_le (y m : Int) : cumd y m ≤ 366 := by
  have := lp_01 y
  unfold cumd
  iterate 12 (refine ite_le (by omega) ?_)
  omega
theorem month_of (y n : Int) (h : 0 ≤ n) (h' : n < yl y) : ∃ m, 1 ≤ m ∧ m ≤ 12 ∧ cumd y m ≤ n ∧ n < cumd y m + mon y m := by
  have h13 : cumd y 13 = yl y := by simp [cumd, yl]
  have h1 : cumd y 1 = 0 := by simp [cumd]
  have key : ∀ d : Nat, d ≤ 12 → n < cumd y (1 + d) → ∃ m, 1 ≤ m ∧ m ≤ 12 ∧ cumd y m ≤ n ∧ n < cumd y m + mon y m := by
    intro d
    induction d with
    | zero => intro _ h2; simp at h2; omega
    | succ d ih =>
      intro hd h2
      by_cases c : n < cumd y (1 + d)
      · exact ih (by omega) c
      · refine ⟨1 + d, by omega, by omega, by omega, ?_⟩
        rw [← cumd_succ y (1 + d) (by omega) (by omega), show (1 : Int) + d + 1 = 1 + ((d + 1 : Nat) : Int) by omega]; exact h2
  exact key 12 (Nat.le_refl _) (by rw [show (1 : Int) + ((12 : Nat) : Int) = 13 from rfl, h13]; exact h')
theorem monthOf_spec (y n : Int) (h : 0 ≤ n) (h' : n < yl y) : 1 ≤ monthOf y n ∧ monthOf y n ≤ 12 ∧ cumd y (monthOf y n) ≤ n ∧ n < cumd y (monthOf y n) + mon y (monthOf y n) := by
  unfold monthOf
  rw [dif_pos (month_of y n h h')]
  exact (month_of y n h h').choose_spec
theorem mon_lt (y m i n : Int) (h1 : 1 ≤ i) (hi : i < m) (h2 : m ≤ 12) (hm : cumd y m ≤ n) : mon y i ≤ n - cumd y i := by
  have key : ∀ d : Nat, i + d + 1 ≤ m → cumd y (i + 1) ≤ cumd y (i + 1 + d) := by
    intro d
    induction d with
    | zero => intro _; simp
    | succ d ih =>
      intro hd
      have := cumd_succ y (i + 1 + d) (by omega) (by omega)
      have hb := mon_bd y (i + 1 + d)
      rw [show i + 1 + ((d + 1 : Nat) : Int) = i + 1 + d + 1 by omega]
      have := ih (by omega)
      omega
  have a := key (m - i - 1).toNat (by omega)
  rw [show i + 1 + ((m - i - 1).toNat : Int) = m by omega] at a
  have b := cumd_succ y i h1 (by omega)
  omega
theorem w64 {n : Int} (h : -9223372036854775808 ≤ n) (h' : n ≤ 9223372036854775807) : IntKind.wrap .i64 n = n := i64_ok h h'
abbrev RG := Int × Int × Unit
abbrev RGU : U := .pair (.int .i64) (.pair (.int .i64) .unit)
abbrev ITV := Int × List RG × List RG × List RG × List RG × List RG × List Int × Unit
abbrev ITU : U := .pair (.int .i64) (.pair (.sl false RGU) (.pair (.sl false RGU) (.pair (.sl false RGU) (.pair (.sl false RGU) (.pair (.sl false RGU) (.pair (.sl false (.int .i64)) .unit))))))
def rangeB (lo hi : Int) (r : RG) : Bool := decide (r.1 ≤ r.2.1) && decide (lo ≤ r.1) && decide (r.2.1 ≤ hi)
def rangesB (l : List RG) (lo hi : Int) : Bool := decide (l.length ≤ 10) && (List.range l.length).all fun i => rangeB lo hi (l.getD i default)
/-- numbers that rise -/
def risingI (l : List Int) : Bool := (List.range (l.length - 1)).all fun i => decide (l.getD i default < l.getD (i + 1) default)
def freeB (n : Int) : Bool := decide (0 ≤ n) && decide (n ≤ 20000000)
def dayRB (r : RG) : Bool := decide (0 < r.1) || decide (r.2.1 < 0)
def dayRS (r : RG) : Bool := !decide (r.1 = 0) && !decide (r.2.1 = 0) && (decide (r.1 < 0) == decide (r.2.1 < 0))
def allG {α : Type} [Inhabited α] (p : α → Bool) (l : List α) : Bool := (List.range l.length).all fun i => p (l.getD i default)
def itvB (x : ITV) : Bool := decide (-1440 ≤ x.1) && decide (x.1 ≤ 1440) && rangesB x.2.1 0 1439 && rangesB x.2.2.1 0 6 && rangesB x.2.2.2.1 (-31) 31 && rangesB x.2.2.2.2.1 1 12 && rangesB x.2.2.2.2.2.1 1970 40000 &&
  decide (x.2.2.2.2.2.2.1.length ≤ 10) && risingI x.2.2.2.2.2.2.1 && allG dayRB x.2.2.2.1 && allG freeB x.2.2.2.2.2.2.1
def inRB (l : List RG) (n : Int) : Bool := decide (l.length = 0) || (List.range l.length).any fun i => decide ((l.getD i default).1 ≤ n) && decide (n ≤ (l.getD i default).2.1)
def inIB (l : List Int) (n : Int) : Bool := (List.range l.length).any fun i => decide (l.getD i default = n)
noncomputable def inItvB (x : ITV) (t : Int) : Bool := itvB x && timeB t && !decide ((dateV t x.1).1 = 0) && inRB x.2.1 (dateV t x.1).2.2.2.2.2.1 && inRB x.2.2.1 (dateV t x.1).2.2.2.2.1 &&
  (inRB x.2.2.2.1 (dateV t x.1).2.2.1 || inRB x.2.2.2.1 (IntKind.wrap .i64 ((IntKind.wrap .i64 ((dateV t x.1).2.2.1 - (dateV t x.1).2.2.2.1)) - (1 : Int)))) && inRB x.2.2.2.2.1 (dateV t x.1).2.1 && inRB x.2.2.2.2.2.1 (dateV t x.1).1 &&
  !inIB x.2.2.2.2.2.2.1 (dayV (dateV t x.1).1 (dateV t x.1).2.1 (dateV t x.1).2.2.1)
theorem days_same (l : List RG) (lo hi : Int) : (allG dayRS l && rangesB l lo hi) = (allG dayRB l && rangesB l lo hi) := by
  cases h : rangesB l lo hi with
  | false => simp
  | true =>
    simp only [rangesB, Bool.and_eq_true, List.all_eq_true] at h
    rw [Bool.and_true, Bool.and_true, allG, allG, Bool.eq_iff_iff, List.all_eq_true, List.all_eq_true]
    have key : ∀ i ∈ List.range l.length, dayRS (l.getD i default) = dayRB (l.getD i default) := by
      intro i hi
      have := h.2 i hi
      simp only [rangeB, Bool.and_eq_true, decide_eq_true_eq] at this
      generalize l.getD i default = r at this
      simp only [dayRS, dayRB]
      have e1 : (r.1 = 0) = (¬ r.1 < 0 ∧ ¬ 0 < r.1) := propext (by omega)
      have e2 : (r.2.1 = 0) = (¬ r.2.1 < 0 ∧ ¬ 0 < r.2.1) := propext (by omega)
      by_cases a : r.1 < 0 <;> by_cases a' : 0 < r.1 <;> by_cases b : r.2.1 < 0 <;> by_cases b' : 0 < r.2.1 <;> first | (exfalso; omega) | simp [e1, e2, a, a', b, b']
    exact ⟨fun hh i hi => by rw [← key i hi]; exact hh i hi, fun hh i hi => by rw [key i hi]; exact hh i hi⟩
theorem wf_i64 {n : Int} (h : (Lit.int .i64 n).wf = true) : -9223372036854775808 ≤ n ∧ n ≤ 9223372036854775807 := by
  have h2 : decide (IntKind.i64.min ≤ n) && decide (n ≤ IntKind.i64.max) := h
  rw [Bool.and_eq_true] at h2
  have a : IntKind.i64.min ≤ n := of_decide_eq_true h2.1
  have b : n ≤ IntKind.i64.max := of_decide_eq_true h2.2
  have ea : IntKind.i64.min = -9223372036854775808 := by decide
  have eb : IntKind.i64.max = 9223372036854775807 := by decide
  omega
abbrev LB := ByteArray × ByteArray × Unit
abbrev LU : U := .pair .str (.pair .str .unit)
def valueB (s : ByteArray) : Bool := decide (1 ≤ s.size) && decide (s.size ≤ 100) && printB s
def labB (l : List LB) (i : Nat) : Bool := nameB (l.getD i default).1 && valueB (l.getD i default).2.1 && (decide (i = 0) || decide (cmpT (l.getD (i - 1) default).1 (l.getD i default).1 < 0))
def labelsB (l : List LB) : Bool := decide (l.length ≤ 20) && (List.range l.length).all (labB l)
def valL : List LB → ByteArray → ByteArray
  | [], _ => ⟨#[]⟩
  | x :: r, k => bif seq x.1 k then x.2.1 else valL r k
theorem drop_getD {α : Type} [Inhabited α] {l : List α} {i : Nat} (h : i < l.length) : l.drop i = l.getD i default :: l.drop (i + 1) := by
  rw [List.drop_eq_getElem_cons h, List.getD_eq_getElem?_getD, List.getElem?_eq_getElem h]; rfl
theorem labelsB_value {l : List LB} (h : labelsB l = true) : ∀ i, i < l.length → (l.getD i default).2.1.size ≤ 100 := by
  intro i hi
  simp only [labelsB, Bool.and_eq_true, List.all_eq_true, List.mem_range] at h
  have := h.2 i hi
  simp only [labB, valueB, Bool.and_eq_true, decide_eq_true_eq] at this
  exact this.1.2.1.2
theorem valL_small {l : List LB} {k : ByteArray} (h : ∀ x ∈ l, x.2.1.size ≤ 100) : (valL l k).size ≤ 100 := by
  induction l with
  | nil => simp [valL, size_empty]
  | cons x l ih =>
    simp only [valL]
    cases seq x.1 k with
    | true => exact h x (by simp)
    | false => exact ih fun y hy => h y (by simp [hy])
theorem labelsB_small {l : List LB} (h : labelsB l = true) {k : ByteArray} : (valL l k).size ≤ 100 := valL_small fun x hx => by
  obtain ⟨j, hj, rfl⟩ := List.getElem_of_mem hx
  have := labelsB_value h j hj
  rwa [List.getD_eq_getElem?_getD, List.getElem?_eq_getElem hj] at this
/-- whether a pattern's codes fit bytes -/
def mt : List Int → List Int → Bool
  | [], s => s.isEmpty
  | c :: p, s => if c = -1 then mt p s || (match s with | [] => false | _ :: r => mt (c :: p) r) else match s with | [] => false | x :: r => (decide (c = -2) || decide (c = x)) && mt p r
termination_by p s => p.length + s.length
decreasing_by all_goals simp_wf; try omega
def fitsP (p s : ByteArray) : Bool := match alts p with | some l => (List.range l.length).any fun i => mt (l.getD i default) (octs s) | none => false
def cellM (p : List Int) (s : ByteArray) (j i : Nat) : Bool := mt (p.drop j) ((octs s).drop i)
theorem cell_end {p : List Int} {s : ByteArray} {i : Nat} (hi : i ≤ s.size) : cellM p s p.length i = decide (i = s.size) := by
  rw [cellM, List.drop_length, mt.eq_def]
  rcases Nat.eq_or_lt_of_le hi with rfl | hi
  · rw [octs_nil]; simp
  · rw [octs_drop hi]; simp; omega
theorem dropI {p : List Int} {j : Nat} (h : j < p.length) : p.drop j = p.getD j default :: p.drop (j + 1) := drop_getD h
theorem cell_star {p : List Int} {s : ByteArray} {j i : Nat} (hj : j < p.length) (hi : i ≤ s.size) (h : p.getD j default = -1) : cellM p s j i = (cellM p s (j + 1) i || (decide (i < s.size) && cellM p s j (i + 1))) := by
  simp only [cellM]
  rw [dropI hj, h]
  rw [mt.eq_def]
  simp only [if_true]
  rcases Nat.eq_or_lt_of_le hi with rfl | hi
  · rw [octs_nil]; simp
  · rw [octs_drop hi]; simp [hi]
theorem cell_one {p : List Int} {s : ByteArray} {j i : Nat} (hj : j < p.length) (hi : i < s.size) (h : p.getD j default ≠ -1) : cellM p s j i = ((decide (p.getD j default = -2) || decide (p.getD j default = bt s i)) && cellM p s (j + 1) (i + 1)) := by
  simp only [cellM]
  rw [dropI hj, mt.eq_def]
  simp only [if_neg h]
  rw [octs_drop hi]
theorem cell_no {p : List Int} {s : ByteArray} {j : Nat} (hj : j < p.length) (h : p.getD j default ≠ -1) : cellM p s j s.size = false := by
  simp only [cellM]
  rw [dropI hj, mt.eq_def]
  simp only [if_neg h]
  rw [octs_nil]
theorem i64_down {k : Nat} (h : k ≤ 4611686018427387904) : IntKind.wrap .i64 ((k : Int) - 1) = (k : Int) - 1 := by rw [i64_ok] <;> omega
theorem inC_eq {n : Nat} (h : n ≤ 1000000000) : inC (n : Int) (n : Int) 1000000000 = true := by simp only [inC, decide_eq_true_eq]; omega
/-- comes to something of which this holds -/
def EvP {α : Type} (f : Nat → Option α) (Q : α → Prop) : Prop := ∃ v, Ev f v ∧ Q v
namespace EvP
variable {α β : Type} {Q : α → Prop}
theorem pure {v : α} (h : Q v) : EvP (fun _ => some v) Q := ⟨v, Ev.pure, h⟩
theorem of {f : Nat → Option α} {v : α} (h : Ev f v) (q : Q v) : EvP f Q := ⟨v, h, q⟩
theorem imp {f : Nat → Option α} {R : α → Prop} (h : EvP f Q) (q : ∀ v, Q v → R v) : EvP f R := ⟨h.choose, h.choose_spec.1, q _ h.choose_spec.2⟩
theorem bind {f : Nat → Option β} {g : Nat → β → Option α} {a : β} (h : Ev f a) (h' : EvP (fun n => g n a) Q) : EvP (fun n => (f n).bind (g n)) Q := ⟨h'.choose, Ev.bind h h'.choose_spec.1, h'.choose_spec.2⟩
theorem bindP {f : Nat → Option β} {g : Nat → β → Option α} {R : β → Prop} (h : EvP f R) (h' : ∀ a, R a → EvP (fun n => g n a) Q) : EvP (fun n => (f n).bind (g n)) Q := by
  obtain ⟨a, h1, h2⟩ := h
  exact bind h1 (h' a h2)
theorem cnd {c : Bool} {f g : Nat → Option α} (ht : c = true → EvP f Q) (hf : c = false → EvP g Q) : EvP (fun n => cond c (f n) (g n)) Q := by
  cases c with
  | true => exact ht rfl
  | false => exact hf rfl
theorem yes {c : Bool} {f g : Nat → Option α} (hc : c = true) (h : EvP f Q) : EvP (fun n => cond c (f n) (g n)) Q := by subst hc; exact h
theorem no {c : Bool} {f g : Nat → Option α} (hc : c = false) (h : EvP g Q) : EvP (fun n => cond c (f n) (g n)) Q := by subst hc; exact h
theorem step {P : Type} {s : Nat → (P → Option α) → P → Option α} {p : P} (h : EvP (fun n => s n (goRec s n) p) Q) : EvP (fun n => goRec s n p) Q := ⟨h.choose, Ev.step h.choose_spec.1, h.choose_spec.2⟩
end EvP
theorem toP_star (c : Int) : (toP c).2.2.1 = decide (c = -1) := by
  simp only [toP]
  by_cases h : c = -1
  · simp [h]
  · by_cases h2 : c = -2 <;> simp [h, h2]
theorem toP_any {c : Int} : (toP c).2.1 = decide (c = -2) := by
  simp only [toP]
  by_cases h : c = -1
  · simp [h]
  · by_cases h2 : c = -2 <;> simp [h, h2]
theorem toP_byte {c : Int} (h : c ≠ -1) (h2 : c ≠ -2) : (toP c).1 = c := by simp [toP, h, h2]
theorem pat_len : ∀ (n : Nat) (r : List Int) (out : List (List Int)) (now : List Int) (l : List (List Int)), r.length ≤ n → pat r out now = some l → l.length ≤ out.length + 1 + r.length ∧ ∀ a ∈ l, a ∈ out ∨ a.length ≤ now.length + r.length := by
  intro n
  induction n with
  | zero =>
    intro r out now l hr h
    obtain rfl : r = [] := List.length_eq_zero_iff.1 (by omega)
    rw [pat_nil] at h
    cases h
    refine ⟨by simp, fun a ha => ?_⟩
    rcases List.mem_append.1 ha with ha | ha
    · exact .inl ha
    · right; simp at ha; subst ha; simp
  | succ n ih =>
    intro r out now l hr h
    match r, hr, h with
    | [], hr, h =>
      rw [pat_nil] at h
      cases h
      refine ⟨by simp, fun a ha => ?_⟩
      rcases List.mem_append.1 ha with ha | ha
      · exact .inl ha
      · right; simp at ha; subst ha; simp
    | c :: r, hr, h =>
      simp only [List.length_cons] at hr ⊢
      have one : ∀ e, pat r out (now ++ [e]) = some l → l.length ≤ out.length + 1 + (r.length + 1) ∧ ∀ a ∈ l, a ∈ out ∨ a.length ≤ now.length + (r.length + 1) := by
        intro e h
        obtain ⟨h1, h2⟩ := ih r out _ l (by omega) h
        refine ⟨by omega, fun a ha => ?_⟩
        rcases h2 a ha with h3 | h3
        · exact .inl h3
        · right; simp at h3; omega
      rw [pat_cons] at h
      split at h
      · obtain ⟨h1, h2⟩ := ih r _ _ l (by omega) h
        refine ⟨by simp at h1; omega, fun a ha => ?_⟩
        rcases h2 a ha with h3 | h3
        · rcases List.mem_append.1 h3 with h3 | h3
          · exact .inl h3
          · right; simp at h3; subst h3; omega
        · right; simp at h3; omega
      · split at h
        · exact one _ h
        · split at h
          · exact one _ h
          · split at h
            · match r, h with
              | e :: r', h =>
                simp only at h
                split at h
                · obtain ⟨h1, h2⟩ := ih r' out _ l (by simp only [List.length_cons] at hr; omega) h
                  refine ⟨by simp only [List.length_cons]; omega, fun a ha => ?_⟩
                  rcases h2 a ha with h3 | h3
                  · exact .inl h3
                  · right; simp at h3; simp only [List.length_cons]; omega
                · cases h
            · exact one _ h
theorem alts_len {s : ByteArray} {l : List (List Int)} (h : alts s = some l) : l.length ≤ 101 ∧ ∀ a ∈ l, a.length ≤ 100 := by
  rw [alts] at h
  split at h
  · rename_i hs
    obtain ⟨h1, h2⟩ := pat_len _ (octs s) [] [] l (Nat.le_refl _) h
    rw [octs_len] at h1 h2
    refine ⟨by simp at h1; omega, fun a ha => ?_⟩
    rcases h2 a ha with h3 | h3
    · cases h3
    · simp at h3; omega
  · cases h
def matchOne (x : MT) (v : ByteArray) : Bool := if x.2.1 = 1 then seq v x.2.2.1 else if x.2.1 = 2 then !seq v x.2.2.1 else if x.2.1 = 3 then fitsP x.2.2.1 v else !fitsP x.2.2.1 v
def fitsB (ms : List MT) (l : List LB) : Bool := (List.range ms.length).all fun i => matchOne (ms.getD i default) (valL l (ms.getD i default).1)
theorem range_map_getD {α : Type} [Inhabited α] (l : List α) : (List.range l.length).map (fun i => l.getD i default) = l := by
  refine ext_getD (d := default) (by simp) fun j hj => ?_
  simp [List.getD_eq_getElem?_getD, hj]
theorem any_range {α : Type} [Inhabited α] (l : List α) (p : α → Bool) : ((List.range l.length).any fun i => p (l.getD i default)) = l.any p := by
  conv => rhs; rw [← range_map_getD l, List.any_map]
  rfl
theorem all_range {α : Type} [Inhabited α] (l : List α) (p : α → Bool) : ((List.range l.length).all fun i => p (l.getD i default)) = l.all p := by
  conv => rhs; rw [← range_map_getD l, List.all_map]
  rfl
def inhOne (x : INH) (s t : List LB) : Bool := (fitsB x.1 s && !(fitsB x.2.1 s && fitsB x.1 t)) && x.2.2.1.all fun k => seq (valL s k) (valL t k)
def inhibitedB (l : List INH) (ss : List (List LB)) (t : List LB) : Bool := l.any fun x => fitsB x.2.1 t && ss.any fun s => inhOne x s t
def inhibitedF (l : List INH) (ss : List (List LB)) (t : List LB) : Bool := (inhsB l && decide (ss.length ≤ 200) && labelsB t && ss.all labelsB) && inhibitedB l ss t
theorem Ev.bindP {α β : Type} {f : Nat → Option β} {g : Nat → β → Option α} {R : β → Prop} {v : α} (h : EvP f R) (h' : ∀ a, R a → Ev (fun n => g n a) v) : Ev (fun n => (f n).bind (g n)) v := by
  obtain ⟨a, h1, h2⟩ := h
  exact Ev.bind h1 (h' a h2)
def silP (t : List LB) (n : Int) (x : SIL) : Bool := fitsB x.2.1 t && decide (x.2.2.1 ≤ n) && decide (n ≤ x.2.2.2.1)
def silL (l : List SIL) (t : List LB) (n : Int) : List ByteArray := (l.filter (silP t n)).map fun x => x.1
def silencedF (l : List SIL) (t : List LB) (n : Int) : List ByteArray := if (silsB l && labelsB t && timeB n) = true then silL l t n else []
theorem silencedF_small {l : List SIL} {t : List LB} {n : Int} (h : Sm 1048576 (.sl false SIU) l) : Sm 1048576 (.sl false .str) (silencedF l t n) := by
  have hl : l.length ≤ 1048576 := h.1
  rw [silencedF]
  split
  · refine ⟨?_, fun x hx => ?_⟩
    · have := List.length_filter_le (silP t n) l
      simp only [silL, List.length_map]
      omega
    · obtain ⟨y, hy, rfl⟩ := List.mem_map.1 hx
      exact (h.2 y (List.mem_filter.1 hy).1).1
  · exact ⟨by simp, fun x hx => by cases hx⟩
abbrev RTE := ByteArray × List MT × List ByteArray × Int × Int × Int × List Int × Bool × Int × Unit
abbrev RTU : U := .pair .str (.pair (.sl false MU) (.pair (.sl false .str) (.pair (.int .i64) (.pair (.int .i64) (.pair (.int .i64) (.pair (.sl false (.int .i64)) (.pair .bool (.pair (.int .i64) .unit))))))))
def mutesB (l : List Int) : Bool := (List.range l.length).all fun i => decide (0 ≤ l.getD i default) && decide (l.getD i default < 20)
def posB (n : Int) : Bool := decide (1 ≤ n) && decide (n ≤ 1000000000000)
def routeB (r : RTE) : Bool := nameB r.1 && matchersB r.2.1 && namesB r.2.2.1 && timeB r.2.2.2.1 && posB r.2.2.2.2.1 && posB r.2.2.2.2.2.1 && (decide (r.2.2.2.2.2.2.1.length ≤ 20) && risingI r.2.2.2.2.2.2.1) && mutesB r.2.2.2.2.2.2.1
def kidsOf (l : List RTE) (i : Nat) : Int := (l.getD i default).2.2.2.2.2.2.2.2.1
def manyN (f : Nat → Option Nat) : Nat → Nat → Option Nat
  | 0, p => some p
  | k + 1, p => match f p with | some q => manyN f k q | none => none
def nodeN (l : List RTE) (g : RTE → Bool) : Nat → Nat → Option Nat
  | 0, _ => none
  | d + 1, i => if (decide (i < l.length) && decide (0 ≤ kidsOf l i) && g (l.getD i default)) = true then manyN (nodeN l g d) (kidsOf l i).toNat (i + 1) else none
theorem posB_time {n : Int} : posB n = (timeB n && !decide (n = 0)) := by
  simp only [posB, timeB]
  by_cases h : n = 0
  · subst h; rfl
  · by_cases h2 : 0 ≤ n
    · have : 1 ≤ n := by omega
      simp [h, h2, this]
    · have : ¬ 1 ≤ n := by omega
      simp [h2, this]
def smallB (r : RTE) : Bool := decide (r.2.2.2.2.2.2.2.2.1 ≤ 40)
theorem manyN_le {f : Nat → Option Nat} (hf : ∀ p q, f p = some q → p < q) : ∀ k p q, manyN f k p = some q → p + k ≤ q
  | 0, p, q, h => by simp only [manyN, Option.some.injEq] at h; omega
  | k + 1, p, q, h => by
    simp only [manyN] at h
    cases hp : f p with
    | none => rw [hp] at h; cases h
    | some r =>
      rw [hp] at h
      have := hf p r hp
      have := manyN_le hf k r q h
      omega
theorem manyN_top {f : Nat → Option Nat} {m : Nat} (hf : ∀ p q, f p = some q → q ≤ m) : ∀ k p q, p ≤ m → manyN f k p = some q → q ≤ m
  | 0, p, q, hp, h => by simp only [manyN, Option.some.injEq] at h; omega
  | k + 1, p, q, hp, h => by
    simp only [manyN] at h
    cases hp' : f p with
    | none => rw [hp'] at h; cases h
    | some r =>
      rw [hp'] at h
      exact manyN_top hf k r q (hf p r hp') h
theorem nodeN_lt {l : List RTE} {g : RTE → Bool} : ∀ d i n, nodeN l g d i = some n → i < n ∧ n ≤ l.length
  | 0, i, n, h => by simp [nodeN] at h
  | d + 1, i, n, h => by
    simp only [nodeN] at h
    split at h
    · rename_i hc
      simp only [Bool.and_eq_true, decide_eq_true_eq] at hc
      have h1 := manyN_le (fun p q hq => (nodeN_lt d p q hq).1) _ _ _ h
      have h2 := manyN_top (m := l.length) (fun p q hq => (nodeN_lt d p q hq).2) _ _ _ (by omega) h
      omega
    · cases h
def tkV : Option Nat → Int | some q => (q : Int) | none => -1
theorem manyN_SI {f g : Nat → Option Nat} {G : Nat → Prop} (hf : ∀ p q, f p = some q → p < q ∧ g p = some q ∧ ∀ j, p ≤ j → j < q → G j) : ∀ k p q, manyN f k p = some q → manyN g k p = some q ∧ ∀ j, p ≤ j → j < q → G j
  | 0, p, q, h => by
    simp only [manyN, Option.some.injEq] at h
    subst h
    exact ⟨rfl, fun j h1 h2 => by omega⟩
  | k + 1, p, q, h => by
    simp only [manyN] at h ⊢
    cases hp : f p with
    | none => rw [hp] at h; cases h
    | some r =>
      rw [hp] at h
      obtain ⟨h1, h2, h3⟩ := hf p r hp
      obtain ⟨h4, h5⟩ := manyN_SI hf k r q h
      rw [h2]
      exact ⟨h4, fun j j1 j2 => if hj : j < r then h3 j j1 hj else h5 j (by omega) j2⟩
theorem nodeN_SI {l : List RTE} (hl : l.length ≤ 40) : ∀ d i n, nodeN l routeB d i = some n → nodeN l smallB d i = some n ∧ ∀ j, i ≤ j → j < n → routeB (l.getD j default) = true
  | 0, i, n, h => by simp [nodeN] at h
  | d + 1, i, n, h => by
    have hn := nodeN_lt _ _ _ h
    simp only [nodeN] at h ⊢
    split at h
    · rename_i hc
      have hc' := hc
      simp only [Bool.and_eq_true, decide_eq_true_eq] at hc
      have h1 := manyN_le (fun p q hq => (nodeN_lt d p q hq).1) _ _ _ h
      have hs : smallB (l.getD i default) = true := decide_eq_true (show kidsOf l i ≤ 40 by omega)
      obtain ⟨h2, h3⟩ := manyN_SI (G := fun j => routeB (l.getD j default) = true) (g := nodeN l smallB d) (fun p q hq => ⟨(nodeN_lt d p q hq).1, nodeN_SI hl d p q hq⟩) _ _ _ h
      rw [if_pos (by rw [decide_eq_true hc.1.1, decide_eq_true hc.1.2, hs]; rfl)]
      refine ⟨h2, fun j j1 j2 => ?_⟩
      rcases Nat.eq_or_lt_of_le j1 with rfl | j1
      · exact hc.2
      · exact h3 j (by omega) j2
    · cases h
theorem manyN_IS {f g : Nat → Option Nat} {G : Nat → Prop} (hl : ∀ p q, g p = some q → p < q) (hg : ∀ p q, g p = some q → (∀ j, p ≤ j → j < q → G j) → f p = some q) : ∀ k p q, manyN g k p = some q → (∀ j, p ≤ j → j < q → G j) → manyN f k p = some q
  | 0, p, q, h, _ => by simpa only [manyN] using h
  | k + 1, p, q, h, hG => by
    simp only [manyN] at h ⊢
    cases hp : g p with
    | none => rw [hp] at h; cases h
    | some r =>
      rw [hp] at h
      have h1 := hl p r hp
      have h2 := manyN_le hl k r q h
      rw [hg p r hp (fun j j1 j2 => hG j j1 (by omega))]
      exact manyN_IS hl hg k r q h (fun j j1 j2 => hG j (by omega) j2)
theorem nodeN_IS {l : List RTE} : ∀ d i n, nodeN l smallB d i = some n → (∀ j, i ≤ j → j < n → routeB (l.getD j default) = true) → nodeN l routeB d i = some n
  | 0, i, n, h, _ => by simp [nodeN] at h
  | d + 1, i, n, h, hG => by
    have hn := nodeN_lt _ _ _ h
    simp only [nodeN] at h ⊢
    split at h
    · rename_i hc
      simp only [Bool.and_eq_true, decide_eq_true_eq] at hc
      rw [if_pos (by rw [decide_eq_true hc.1.1, decide_eq_true hc.1.2, hG i (Nat.le_refl _) hn.1]; rfl)]
      exact manyN_IS (fun p q hq => (nodeN_lt d p q hq).1) (fun p q hq => nodeN_IS d p q hq) _ _ _ h (fun j j1 j2 => hG j (by omega) j2)
    · cases h
def routesB (l : List RTE) : Bool := (decide (l.length ≠ 0) && decide (l.length ≤ 40) && decide (nodeN l routeB 8 0 = some l.length)) && (decide ((l.getD 0 default).2.1.length = 0) && !(l.getD 0 default).2.2.2.2.2.2.2.1)
theorem routes_eq {l : List RTE} (hl : l.length ≤ 40) : decide (nodeN l routeB 8 0 = some l.length) = (decide (nodeN l smallB 8 0 = some l.length) && (List.range l.length).all fun i => routeB (l.getD i default)) := by
  rw [Bool.eq_iff_iff]
  simp only [decide_eq_true_eq, Bool.and_eq_true, List.all_eq_true, List.mem_range]
  exact ⟨fun h => ⟨(nodeN_SI hl _ _ _ h).1, fun i hi => (nodeN_SI hl _ _ _ h).2 i (Nat.zero_le _) hi⟩, fun h => nodeN_IS _ _ _ h.1 fun j _ j2 => h.2 j j2⟩
theorem Ev.filt {P α : Type} [Inhabited α] {step : Nat → (P → Option (List α)) → P → Option (List α)} {l : List α} {p : α → Bool} {pt : Nat → List α → P}
    (hy : ∀ i out, i < l.length → out.length ≤ i → p (l.getD i default) = true → ∀ v, Ev (fun n => goRec step n (pt (i + 1) (out ++ [l.getD i default]))) v → Ev (fun n => goRec step n (pt i out)) v)
    (hn : ∀ i out, i < l.length → out.length ≤ i → p (l.getD i default) = false → ∀ v, Ev (fun n => goRec step n (pt (i + 1) out)) v → Ev (fun n => goRec step n (pt i out)) v)
    (he : ∀ out, Ev (fun n => goRec step n (pt l.length out)) out) : Ev (fun n => goRec step n (pt 0 [])) (l.filter p) := by
  have key : ∀ d i out, i + d = l.length → out.length ≤ i → Ev (fun n => goRec step n (pt i out)) (out ++ (l.drop i).filter p) := by
    intro d
    induction d with
    | zero =>
      intro i out h ho
      obtain rfl : i = l.length := by omega
      exact Ev.of_eq (he out) (by simp)
    | succ d ih =>
      intro i out h ho
      have hi : i < l.length := by omega
      rw [drop_getD hi, List.filter_cons]
      cases c : p (l.getD i default) with
      | true => exact hy i out hi ho c _ (Ev.of_eq (ih (i + 1) _ (by omega) (by simp; omega)) (by simp))
      | false => exact hn i out hi ho c _ (Ev.of_eq (ih (i + 1) _ (by omega) (by omega)) (by simp))
  exact key l.length 0 [] (by omega) (by simp)
theorem any_getD {α : Type} [Inhabited α] {l : List α} {p : α → Bool} : l.any p = (List.range l.length).any fun i => p (l.getD i default) := by
  rw [Bool.eq_iff_iff, List.any_eq_true, List.any_eq_true]
  constructor
  · rintro ⟨x, hx, hp⟩
    obtain ⟨i, hi, rfl⟩ := List.getElem_of_mem hx
    refine ⟨i, by simpa using hi, ?_⟩
    rwa [List.getD_eq_getElem?_getD, List.getElem?_eq_getElem hi]
  · rintro ⟨i, hi, hp⟩
    exact ⟨_, getD_mem (by simpa using hi), hp⟩
def hasB (l : List ByteArray) (x : ByteArray) : Bool := (List.range l.length).any fun i => decide (l.getD i default = x)
def groupF (l : List RTE) (k : Int) (t : List LB) : List LB := if (routesB l && decide (0 ≤ k) && decide (k < (l.length : Int)) && labelsB t) = true then t.filter (fun x => hasB (l.getD k.toNat default).2.2.1 x.1) else []
theorem groupF_small {l : List RTE} {k : Int} {t : List LB} (h : Sm 1048576 (.sl false LU) t) : Sm 1048576 (.sl false LU) (groupF l k t) := by
  have hl : t.length ≤ 1048576 := h.1
  rw [groupF]
  split
  · exact ⟨by have := List.length_filter_le (fun x => hasB (l.getD k.toNat default).2.2.1 x.1) t; omega, fun x hx => h.2 x (List.mem_filter.1 hx).1⟩
  · exact ⟨by simp, fun x hx => by cases hx⟩
/-- a loop that goes on while p holds, and something else behind it -/
theorem Ev.allK {P : Type} {step : Nat → (P → Option Bool) → P → Option Bool} {n : Nat} {p : Nat → Bool} {pt : Nat → P} {b : Bool}
    (hs : ∀ i, i < n → (p i = true → ∀ v, Ev (fun m => goRec step m (pt (i + 1))) v → Ev (fun m => goRec step m (pt i)) v) ∧ (p i = false → Ev (fun m => goRec step m (pt i)) false))
    (he : (List.range n).all p = true → Ev (fun m => goRec step m (pt n)) b) : Ev (fun m => goRec step m (pt 0)) ((List.range n).all p && b) := by
  have key : ∀ d i, i + d = n → (∀ j, j < i → p j = true) → Ev (fun m => goRec step m (pt i)) ((List.range' i d).all p && b) := by
    intro d
    induction d with
    | zero =>
      intro i h hj
      rw [Nat.add_zero] at h
      subst h
      exact he (by simpa using hj)
    | succ d ih =>
      intro i h hj
      obtain ⟨h1, h2⟩ := hs i (by omega)
      rw [List.range'_succ, List.all_cons]
      cases hp : p i with
      | false => rw [Bool.false_and, Bool.false_and]; exact h2 hp
      | true =>
        rw [Bool.true_and]
        refine h1 hp _ (ih (i + 1) (by omega) fun j h => ?_)
        rcases Nat.lt_succ_iff_lt_or_eq.1 h with h | rfl
        · exact hj j h
        · exact hp
  have := key n 0 (by omega) (by omega)
  rwa [List.range_eq_range']
abbrev NCE := List RTE × List ITV × List SIL × List INH × Unit
abbrev NCU : U := .pair (.sl false RTU) (.pair (.sl false ITU) (.pair (.sl false SIU) (.pair (.sl false INU) .unit)))
def mutesOK (m : Nat) (l : List Int) : Bool := (List.range l.length).all fun j => !decide ((m : Int) ≤ l.getD j default)
def itvsB (l : List ITV) : Bool := (List.range l.length).all fun i => itvB (l.getD i default)
def rmutesB (m : Nat) (l : List RTE) : Bool := (List.range l.length).all fun i => mutesOK m (l.getD i default).2.2.2.2.2.2.1
def notifyB (c : NCE) : Bool := (routesB c.1 && silsB c.2.2.1 && inhsB c.2.2.2.1) && decide (c.2.1.length ≤ 20) && itvsB c.2.1 && rmutesB c.2.1.length c.1
abbrev CUE := Int × Int × Int × Int × Unit
abbrev CUU : U := .pair (.int .i64) (.pair (.int .i64) (.pair (.int .i64) (.pair (.int .i64) .unit)))
abbrev MCE := Int × Int × List CUE × List CUE × Unit
abbrev MCU : U := .pair (.int .i64) (.pair (.int .i64) (.pair (.sl false CUU) (.pair (.sl false CUU) .unit)))
def cutB (m : Int) (d : Bool) (x : CUE) : Bool := timeB x.2.2.1 && timeB x.2.2.2.1 && decide (0 ≤ x.1) && decide (x.1 < m) && decide (0 ≤ x.2.1) && decide (x.2.1 < m) && !(d && !decide (x.2.1 = 0))
def cutsB (l : List CUE) (m : Int) (d : Bool) : Bool := decide (l.length ≤ 20) && (List.range l.length).all fun i => cutB m d (l.getD i default)
def slowB (l : List RTE) (k : Int) : Bool := (List.range l.length).all fun i => !decide ((l.getD i default).2.2.2.2.1 ≤ k)
def membersB (c : NCE) (m : MCE) : Bool := (notifyB c && decide (1 ≤ m.1) && decide (m.1 ≤ 5) && timeB m.2.1 && cutsB m.2.2.1 m.1 false && cutsB m.2.2.2.1 m.1 true) && slowB c.1 (IntKind.wrap .i64 ((IntKind.wrap .i64 (m.1 - (1 : Int))) * m.2.1))
theorem routesB_all {l : List RTE} (h : routesB l = true) : l.length ≤ 40 ∧ nodeN l routeB 8 0 = some l.length ∧ ∀ i, i < l.length → routeB (l.getD i default) = true := by
  simp only [routesB, Bool.and_eq_true, decide_eq_true_eq] at h
  exact ⟨h.1.1.2, h.1.2, fun i hi => (nodeN_SI h.1.1.2 _ _ _ h.1.2).2 i (Nat.zero_le _) hi⟩
noncomputable def mutedB (c : NCE) (l : List Int) (t : Int) : Bool := (List.range l.length).any fun j => inItvB (c.2.1.getD (l.getD j default).toNat default) t
noncomputable def mutedAtB (c : NCE) (r t : Int) : Bool := notifyB c && decide (0 ≤ r) && decide (r < (c.1.length : Int)) && timeB t && mutedB c (c.1.getD r.toNat default).2.2.2.2.2.2.1 t
/-- the mutes of a route of good routes name intervals -/
theorem mutes_in {c : NCE} (h : notifyB c = true) {i : Nat} (hi : i < c.1.length) {j : Nat} (hj : j < (c.1.getD i default).2.2.2.2.2.2.1.length) : 0 ≤ (c.1.getD i default).2.2.2.2.2.2.1.getD j default ∧ (c.1.getD i default).2.2.2.2.2.2.1.getD j default < (c.2.1.length : Int) := by
  simp only [notifyB, Bool.and_eq_true] at h
  have h1 := (routesB_all h.1.1.1.1.1).2.2 i hi
  have h2 := h.2
  simp only [rmutesB, List.all_eq_true, List.mem_range] at h2
  have h3 := h2 i hi
  simp only [mutesOK, List.all_eq_true, List.mem_range, Bool.not_eq_true', decide_eq_false_iff_not] at h3
  have h3 := h3 j hj
  simp only [routeB, Bool.and_eq_true] at h1
  have h4 := h1.2
  simp only [mutesB, List.all_eq_true, List.mem_range, Bool.and_eq_true, decide_eq_true_eq] at h4
  have h4 := h4 j hj
  exact ⟨h4.1, by omega⟩
theorem inB_of {i : Int} {n : Nat} (h : 0 ≤ i ∧ i < (n : Int)) : inB i n = true := by simpa [inB] using h
/-- a loop that goes on until p holds -/
theorem Ev.anyN {P : Type} {step : Nat → (P → Option Bool) → P → Option Bool} {n : Nat} {p : Nat → Bool} {pt : Nat → P}
    (hs : ∀ i, i < n → (p i = false → ∀ v, Ev (fun m => goRec step m (pt (i + 1))) v → Ev (fun m => goRec step m (pt i)) v) ∧ (p i = true → Ev (fun m => goRec step m (pt i)) true))
    (he : Ev (fun m => goRec step m (pt n)) false) : Ev (fun m => goRec step m (pt 0)) ((List.range n).any p) := by
  have key : ∀ d i, i + d = n → Ev (fun m => goRec step m (pt i)) ((List.range' i d).any p) := by
    intro d
    induction d with
    | zero => intro i h; rw [Nat.add_zero] at h; subst h; exact he
    | succ d ih =>
      intro i h
      obtain ⟨h1, h2⟩ := hs i (by omega)
      rw [List.range'_succ, List.any_cons]
      cases hp : p i with
      | true => rw [Bool.true_or]; exact h2 hp
      | false => rw [Bool.false_or]; exact h1 hp _ (ih (i + 1) (by omega))
  have := key n 0 (by omega)
  rwa [List.range_eq_range']
def onB (l : List RTE) (i : Nat) : Bool := (l.getD i default).2.2.2.2.2.2.2.1
def fitI (l : List RTE) (t : List LB) (i : Nat) : Bool := fitsB (l.getD i default).2.1 t
def takeK (f : Nat → Option Nat) (g : Nat → List Int) (fit on : Nat → Bool) : Nat → Nat → Bool → List Int
  | 0, _, _ => []
  | k + 1, p, go => if (go && fit p) = true then g p ++ takeK f g fit on k ((f p).getD 0) (on p) else takeK f g fit on k ((f p).getD 0) go
def takeN (l : List RTE) (t : List LB) : Nat → Nat → List Int
  | 0, _ => []
  | d + 1, i => if (takeK (nodeN l routeB d) (takeN l t d) (fitI l t) (onB l) (kidsOf l i).toNat (i + 1) true).isEmpty = true then [(i : Int)] else takeK (nodeN l routeB d) (takeN l t d) (fitI l t) (onB l) (kidsOf l i).toNat (i + 1) true
/-- in order, within bounds -/
def InO (r : List Int) (p q : Nat) : Prop := r.Pairwise (· ≤ ·) ∧ (∀ x ∈ r, (p : Int) ≤ x ∧ x < (q : Int)) ∧ r.length ≤ q - p
theorem InO.app {r s : List Int} {p q n : Nat} (h1 : InO r p q) (h2 : InO s q n) (hp : p ≤ q) (hq : q ≤ n) : InO (r ++ s) p n := by
  obtain ⟨a1, a2, a3⟩ := h1
  obtain ⟨b1, b2, b3⟩ := h2
  refine ⟨List.pairwise_append.2 ⟨a1, b1, fun x hx y hy => ?_⟩, fun x hx => ?_, by rw [List.length_append]; omega⟩
  · have := a2 x hx
    have := b2 y hy
    omega
  · rcases List.mem_append.1 hx with hx | hx
    · have := a2 x hx; omega
    · have := b2 x hx; omega
theorem InO.up {s : List Int} {p q n : Nat} (h : InO s q n) (hp : p ≤ q) : InO s p n := ⟨h.1, fun x hx => by have := h.2.1 x hx; omega, by have := h.2.2; omega⟩
theorem takeK_in {f : Nat → Option Nat} {g : Nat → List Int} {fit on : Nat → Bool} (hf : ∀ p q, f p = some q → p < q ∧ InO (g p) p q) : ∀ k p q go, manyN f k p = some q → p ≤ q ∧ InO (takeK f g fit on k p go) p q
  | 0, p, q, go, h => by
    simp only [manyN, Option.some.injEq] at h
    subst h
    exact ⟨Nat.le_refl _, by simp [takeK, InO]⟩
  | k + 1, p, q, go, h => by
    simp only [manyN] at h
    cases hp : f p with
    | none => rw [hp] at h; cases h
    | some r =>
      rw [hp] at h
      obtain ⟨h1, h2⟩ := hf p r hp
      simp only [takeK, hp, Option.getD_some]
      split
      · obtain ⟨h3, h4⟩ := takeK_in (fit := fit) (on := on) hf k r q (on p) h
        exact ⟨by omega, h2.app h4 (by omega) h3⟩
      · obtain ⟨h3, h4⟩ := takeK_in (fit := fit) (on := on) hf k r q go h
        exact ⟨by omega, h4.up (by omega)⟩
theorem takeN_in {l : List RTE} {t : List LB} : ∀ d i n, nodeN l routeB d i = some n → i < n ∧ InO (takeN l t d i) i n
  | 0, i, n, h => by simp [nodeN] at h
  | d + 1, i, n, h => by
    have hn := nodeN_lt _ _ _ h
    simp only [nodeN] at h
    split at h
    · have hk := takeK_in (fit := fitI l t) (on := onB l) (fun p q hq => takeN_in (t := t) d p q hq) _ _ _ true h
      refine ⟨hn.1, ?_⟩
      simp only [takeN]
      split
      · exact ⟨by simp, fun x hx => by simp at hx; omega, by simp; omega⟩
      · exact hk.2.up (by omega)
    · cases h
theorem manyN_mono {f g : Nat → Option Nat} (hf : ∀ p q, f p = some q → g p = some q) : ∀ k p q, manyN f k p = some q → manyN g k p = some q
  | 0, p, q, h => h
  | k + 1, p, q, h => by
    simp only [manyN] at h ⊢
    cases hp : f p with
    | none => rw [hp] at h; cases h
    | some r => rw [hp] at h; rw [hf p r hp]; exact manyN_mono hf k r q h
theorem nodeN_up {l : List RTE} {g : RTE → Bool} : ∀ d i n, nodeN l g d i = some n → nodeN l g (d + 1) i = some n
  | 0, i, n, h => by simp [nodeN] at h
  | d + 1, i, n, h => by
    rw [nodeN] at h ⊢
    split at h
    · rename_i hc
      rw [if_pos hc]
      exact manyN_mono (fun p q hq => nodeN_up d p q hq) _ _ _ h
    · cases h
theorem nodeN_to {l : List RTE} {g : RTE → Bool} {d i n : Nat} (h : nodeN l g d i = some n) {e : Nat} (he : d ≤ e) : nodeN l g e i = some n := by
  obtain ⟨k, rfl⟩ := Nat.le.dest he
  clear he
  induction k with
  | zero => exact h
  | succ k ih => exact nodeN_up _ _ _ ih
def forF (l : List RTE) (t : List LB) : List Int := if (routesB l && labelsB t) = true then takeN l t 8 0 else []
theorem forF_small {l : List RTE} {t : List LB} : Sm 1048576 (.sl false (.int .i64)) (forF l t) := by
  rw [forF]
  split
  · rename_i h
    simp only [Bool.and_eq_true] at h
    have := routesB_all h.1
    have h2 := (takeN_in (t := t) _ _ _ this.2.1).2.2.2
    exact ⟨by omega, fun _ _ => trivial⟩
  · exact ⟨by simp, fun x hx => by cases hx⟩
theorem takeN_sort {l : List RTE} {t : List LB} {d i n : Nat} (h : nodeN l routeB d i = some n) : (takeN l t d i).mergeSort (fun x y => decide (x ≤ y)) = takeN l t d i := by
  refine List.mergeSort_of_pairwise ?_
  exact ((takeN_in (t := t) _ _ _ h).2.1).imp fun h => by simpa using h
theorem laws_szMatcher.ev (x : (ByteArray) × ((Int) × ((ByteArray) × (Unit)))) (left : Int) (h0 : 0 ≤ left) (h1 : left ≤ 1048576) (hw : Wf (.pair .str (.pair (.int .i64) (.pair .str .unit))) x) : Sz (fun n => laws_szMatcher n x left) left (Sm 1048576 (.pair .str (.pair (.int .i64) (.pair .str .unit))) x) := by
  refine Sz.step ?_
  simp only [laws_szMatcher.step]
  have b1 : ByteArray.size x.1 ≤ 9223372036854775807 := by have := hw.1; simp only [Wf, maxLen] at this; omega
  have e1 : IntKind.wrap .i64 (left - ((ByteArray.size x.1) : Int)) = left - ((ByteArray.size x.1) : Int) := i64_ok (by omega) (by omega)
  simp only [e1]
  by_cases c1 : (left - ((ByteArray.size x.1) : Int)) < 0
  · exact Sz.yes (by simpa using c1) (Sz.neg h0)
  refine Sz.no (by simpa using c1) ?_
  have b2 : ByteArray.size x.2.2.1 ≤ 9223372036854775807 := by have := hw.2.2.1; simp only [Wf, maxLen] at this; omega
  have e2 : IntKind.wrap .i64 ((left - ((ByteArray.size x.1) : Int)) - ((ByteArray.size x.2.2.1) : Int)) = (left - ((ByteArray.size x.1) : Int)) - ((ByteArray.size x.2.2.1) : Int) := i64_ok (by omega) (by omega)
  simp only [e2]
  by_cases c2 : ((left - ((ByteArray.size x.1) : Int)) - ((ByteArray.size x.2.2.1) : Int)) < 0
  · exact Sz.yes (by simpa using c2) (Sz.neg h0)
  refine Sz.no (by simpa using c2) ?_
  exact ⟨((left - ((ByteArray.size x.1) : Int)) - ((ByteArray.size x.2.2.1) : Int)), Ev.pure, by omega, fun _ => ⟨(show ByteArray.size x.1 ≤ 1048576 by omega), ⟨trivial, ⟨(show ByteArray.size x.2.2.1 ≤ 1048576 by omega), trivial⟩⟩⟩⟩
theorem laws_szMatcherS.loop (l : List ((ByteArray) × ((Int) × ((ByteArray) × (Unit))))) (hl : l.length ≤ 1048576) (hw : ∀ x ∈ l, Wf (.pair .str (.pair (.int .i64) (.pair .str .unit))) x) : ∀ d i (left : Int), i + d = l.length → 0 ≤ left → left ≤ 1048576 → Sz (fun n => goRec laws_szMatcherS.step n (.p17 l left (i : Int))) left (∀ j, i ≤ j → j < l.length → Sm 1048576 (.pair .str (.pair (.int .i64) (.pair .str .unit))) (l.getD j default)) := by
  intro d
  induction d with
  | zero =>
    intro i left h h0 h1
    rw [Nat.add_zero] at h
    subst h
    refine Sz.step ?_
    simp only [laws_szMatcherS.step]
    exact Sz.no lt_no ⟨left, Ev.pure, Int.le_refl _, fun _ j h1 h2 => by omega⟩
  | succ d ih =>
    intro i left h h0 h1
    have hi : i < l.length := by omega
    refine Sz.step ?_
    simp only [laws_szMatcherS.step, toNat_cast]
    refine Sz.yes (lt_yes hi) (Sz.yes (inB_nat hi) ?_)
    obtain ⟨r1, k1, m1, q1⟩ := laws_szMatcher.ev (l.getD i default) left h0 h1 (hw _ (getD_mem hi))
    refine Sz.bind k1 ?_
    by_cases c1 : r1 < 0
    · exact Sz.yes (by simpa using c1) (Sz.neg h0)
    refine Sz.no (by simpa using c1) ?_
    rw [i64_nat (by omega)]
    have := ih (i + 1) r1 (by omega) (by omega) (by omega)
    refine (this.le m1).imp fun hq j h2 h3 => ?_
    rcases Nat.eq_or_lt_of_le h2 with rfl | h2
    · exact q1 (by omega)
    · exact hq j h2 h3
theorem laws_szMatcherS.ev (l : List ((ByteArray) × ((Int) × ((ByteArray) × (Unit))))) (left : Int) (h0 : 0 ≤ left) (h1 : left ≤ 1048576) (hw : Wf (.sl false (.pair .str (.pair (.int .i64) (.pair .str .unit)))) l) : Sz (fun n => laws_szMatcherS n l left) left (Sm 1048576 (.sl false (.pair .str (.pair (.int .i64) (.pair .str .unit)))) l) := by
  refine Sz.step ?_
  simp only [laws_szMatcherS.step]
  have b1 : l.length ≤ 9223372036854775807 := by have := hw.1; simp only [maxLen] at this; omega
  have e1 : IntKind.wrap .i64 (left - ((List.length l) : Int)) = left - ((List.length l) : Int) := i64_ok (by omega) (by omega)
  simp only [e1]
  by_cases c1 : left - ((List.length l) : Int) < 0
  · exact Sz.yes (by simpa using c1) (Sz.neg h0)
  refine Sz.no (by simpa using c1) ?_
  refine ((laws_szMatcherS.loop l (by omega) hw.2 l.length 0 _ (by omega) (by omega) (by omega)).le (by omega)).imp fun hq => ⟨by omega, fun x hx => ?_⟩
  obtain ⟨j, hj, rfl⟩ := List.getElem_of_mem hx
  have := hq j (by omega) hj
  rwa [List.getD_eq_getElem?_getD, List.getElem?_eq_getElem hj] at this
theorem laws_szStringS.loop (l : List (ByteArray)) (hl : l.length ≤ 1048576) (hw : ∀ x ∈ l, Wf .str x) : ∀ d i (left : Int), i + d = l.length → 0 ≤ left → left ≤ 1048576 → Sz (fun n => goRec laws_szStringS.step n (.p17 l left (i : Int))) left (∀ j, i ≤ j → j < l.length → Sm 1048576 .str (l.getD j default)) := by
  intro d
  induction d with
  | zero =>
    intro i left h h0 h1
    rw [Nat.add_zero] at h
    subst h
    refine Sz.step ?_
    simp only [laws_szStringS.step]
    exact Sz.no lt_no ⟨left, Ev.pure, Int.le_refl _, fun _ j h1 h2 => by omega⟩
  | succ d ih =>
    intro i left h h0 h1
    have hi : i < l.length := by omega
    refine Sz.step ?_
    simp only [laws_szStringS.step, toNat_cast]
    refine Sz.yes (lt_yes hi) (Sz.yes (inB_nat hi) ?_)
    have b1 : ByteArray.size (l.getD i default) ≤ 9223372036854775807 := by have := hw _ (getD_mem hi (d := default)); simp only [Wf, maxLen] at this; omega
    have e1 : IntKind.wrap .i64 (left - ((ByteArray.size (l.getD i default)) : Int)) = left - ((ByteArray.size (l.getD i default)) : Int) := i64_ok (by omega) (by omega)
    simp only [e1]
    by_cases c1 : (left - ((ByteArray.size (l.getD i default)) : Int)) < 0
    · exact Sz.yes (by simpa using c1) (Sz.neg h0)
    refine Sz.no (by simpa using c1) ?_
    rw [i64_nat (by omega)]
    have := ih (i + 1) (left - ((ByteArray.size (l.getD i default)) : Int)) (by omega) (by omega) (by omega)
    refine (this.le (by omega)).imp fun hq j h2 h3 => ?_
    rcases Nat.eq_or_lt_of_le h2 with rfl | h2
    · show ByteArray.size _ ≤ 1048576
      omega
    · exact hq j h2 h3
theorem laws_szStringS.ev (l : List (ByteArray)) (left : Int) (h0 : 0 ≤ left) (h1 : left ≤ 1048576) (hw : Wf (.sl false .str) l) : Sz (fun n => laws_szStringS n l left) left (Sm 1048576 (.sl false .str) l) := by
  refine Sz.step ?_
  simp only [laws_szStringS.step]
  have b1 : l.length ≤ 9223372036854775807 := by have := hw.1; simp only [maxLen] at this; omega
  have e1 : IntKind.wrap .i64 (left - ((List.length l) : Int)) = left - ((List.length l) : Int) := i64_ok (by omega) (by omega)
  simp only [e1]
  by_cases c1 : left - ((List.length l) : Int) < 0
  · exact Sz.yes (by simpa using c1) (Sz.neg h0)
  refine Sz.no (by simpa using c1) ?_
  refine ((laws_szStringS.loop l (by omega) hw.2 l.length 0 _ (by omega) (by omega) (by omega)).le (by omega)).imp fun hq => ⟨by omega, fun x hx => ?_⟩
  obtain ⟨j, hj, rfl⟩ := List.getElem_of_mem hx
  have := hq j (by omega) hj
  rwa [List.getD_eq_getElem?_getD, List.getElem?_eq_getElem hj] at this
theorem laws_szIntS.ev (l : List (Int)) (left : Int) (h0 : 0 ≤ left) (h1 : left ≤ 1048576) (hw : Wf (.sl false (.int .i64)) l) : Sz (fun n => laws_szIntS n l left) left (Sm 1048576 (.sl false (.int .i64)) l) := by
  refine Sz.step ?_
  simp only [laws_szIntS.step]
  have b1 : l.length ≤ 9223372036854775807 := by have := hw.1; simp only [maxLen] at this; omega
  have e1 : IntKind.wrap .i64 (left - ((List.length l) : Int)) = left - ((List.length l) : Int) := i64_ok (by omega) (by omega)
  simp only [e1]
  by_cases c1 : left - ((List.length l) : Int) < 0
  · exact Sz.yes (by simpa using c1) (Sz.neg h0)
  refine Sz.no (by simpa using c1) ?_
  exact ⟨_, Ev.pure, by omega, fun _ => ⟨by omega, fun x _ => trivial⟩⟩
theorem laws_szRoute.ev (x : (ByteArray) × ((List ((ByteArray) × ((Int) × ((ByteArray) × (Unit))))) × ((List (ByteArray)) × ((Int) × ((Int) × ((Int) × ((List (Int)) × ((Bool) × ((Int) × (Unit)))))))))) (left : Int) (h0 : 0 ≤ left) (h1 : left ≤ 1048576) (hw : Wf (.pair .str (.pair (.sl false (.pair .str (.pair (.int .i64) (.pair .str .unit)))) (.pair (.sl false .str) (.pair (.int .i64) (.pair (.int .i64) (.pair (.int .i64) (.pair (.sl false (.int .i64)) (.pair .bool (.pair (.int .i64) .unit))))))))) x) : Sz (fun n => laws_szRoute n x left) left (Sm 1048576 (.pair .str (.pair (.sl false (.pair .str (.pair (.int .i64) (.pair .str .unit)))) (.pair (.sl false .str) (.pair (.int .i64) (.pair (.int .i64) (.pair (.int .i64) (.pair (.sl false (.int .i64)) (.pair .bool (.pair (.int .i64) .unit))))))))) x) := by
  refine Sz.step ?_
  simp only [laws_szRoute.step]
  have b1 : ByteArray.size x.1 ≤ 9223372036854775807 := by have := hw.1; simp only [Wf, maxLen] at this; omega
  have e1 : IntKind.wrap .i64 (left - ((ByteArray.size x.1) : Int)) = left - ((ByteArray.size x.1) : Int) := i64_ok (by omega) (by omega)
  simp only [e1]
  by_cases c1 : (left - ((ByteArray.size x.1) : Int)) < 0
  · exact Sz.yes (by simpa using c1) (Sz.neg h0)
  refine Sz.no (by simpa using c1) ?_
  obtain ⟨r2, k2, m2, q2⟩ := laws_szMatcherS.ev x.2.1 (left - ((ByteArray.size x.1) : Int)) (by omega) (by omega) hw.2.1
  refine Sz.bind k2 ?_
  by_cases c2 : r2 < 0
  · exact Sz.yes (by simpa using c2) (Sz.neg h0)
  refine Sz.no (by simpa using c2) ?_
  obtain ⟨r3, k3, m3, q3⟩ := laws_szStringS.ev x.2.2.1 r2 (by omega) (by omega) hw.2.2.1
  refine Sz.bind k3 ?_
  by_cases c3 : r3 < 0
  · exact Sz.yes (by simpa using c3) (Sz.neg h0)
  refine Sz.no (by simpa using c3) ?_
  obtain ⟨r4, k4, m4, q4⟩ := laws_szIntS.ev x.2.2.2.2.2.2.1 r3 (by omega) (by omega) hw.2.2.2.2.2.2.1
  refine Sz.bind k4 ?_
  by_cases c4 : r4 < 0
  · exact Sz.yes (by simpa using c4) (Sz.neg h0)
  refine Sz.no (by simpa using c4) ?_
  exact ⟨r4, Ev.pure, by omega, fun _ => ⟨(show ByteArray.size x.1 ≤ 1048576 by omega), ⟨(q2 (by omega)), ⟨(q3 (by omega)), ⟨trivial, ⟨trivial, ⟨trivial, ⟨(q4 (by omega)), ⟨trivial, ⟨trivial, trivial⟩⟩⟩⟩⟩⟩⟩⟩⟩⟩
theorem laws_szRouteS.loop (l : List ((ByteArray) × ((List ((ByteArray) × ((Int) × ((ByteArray) × (Unit))))) × ((List (ByteArray)) × ((Int) × ((Int) × ((Int) × ((List (Int)) × ((Bool) × ((Int) × (Unit))))))))))) (hl : l.length ≤ 1048576) (hw : ∀ x ∈ l, Wf (.pair .str (.pair (.sl false (.pair .str (.pair (.int .i64) (.pair .str .unit)))) (.pair (.sl false .str) (.pair (.int .i64) (.pair (.int .i64) (.pair (.int .i64) (.pair (.sl false (.int .i64)) (.pair .bool (.pair (.int .i64) .unit))))))))) x) : ∀ d i (left : Int), i + d = l.length → 0 ≤ left → left ≤ 1048576 → Sz (fun n => goRec laws_szRouteS.step n (.p17 l left (i : Int))) left (∀ j, i ≤ j → j < l.length → Sm 1048576 (.pair .str (.pair (.sl false (.pair .str (.pair (.int .i64) (.pair .str .unit)))) (.pair (.sl false .str) (.pair (.int .i64) (.pair (.int .i64) (.pair (.int .i64) (.pair (.sl false (.int .i64)) (.pair .bool (.pair (.int .i64) .unit))))))))) (l.getD j default)) := by
  intro d
  induction d with
  | zero =>
    intro i left h h0 h1
    rw [Nat.add_zero] at h
    subst h
    refine Sz.step ?_
    simp only [laws_szRouteS.step]
    exact Sz.no lt_no ⟨left, Ev.pure, Int.le_refl _, fun _ j h1 h2 => by omega⟩
  | succ d ih =>
    intro i left h h0 h1
    have hi : i < l.length := by omega
    refine Sz.step ?_
    simp only [laws_szRouteS.step, toNat_cast]
    refine Sz.yes (lt_yes hi) (Sz.yes (inB_nat hi) ?_)
    obtain ⟨r1, k1, m1, q1⟩ := laws_szRoute.ev (l.getD i default) left h0 h1 (hw _ (getD_mem hi))
    refine Sz.bind k1 ?_
    by_cases c1 : r1 < 0
    · exact Sz.yes (by simpa using c1) (Sz.neg h0)
    refine Sz.no (by simpa using c1) ?_
    rw [i64_nat (by omega)]
    have := ih (i + 1) r1 (by omega) (by omega) (by omega)
    refine (this.le m1).imp fun hq j h2 h3 => ?_
    rcases Nat.eq_or_lt_of_le h2 with rfl | h2
    · exact q1 (by omega)
    · exact hq j h2 h3
theorem laws_szRouteS.ev (l : List ((ByteArray) × ((List ((ByteArray) × ((Int) × ((ByteArray) × (Unit))))) × ((List (ByteArray)) × ((Int) × ((Int) × ((Int) × ((List (Int)) × ((Bool) × ((Int) × (Unit))))))))))) (left : Int) (h0 : 0 ≤ left) (h1 : left ≤ 1048576) (hw : Wf (.sl false (.pair .str (.pair (.sl false (.pair .str (.pair (.int .i64) (.pair .str .unit)))) (.pair (.sl false .str) (.pair (.int .i64) (.pair (.int .i64) (.pair (.int .i64) (.pair (.sl false (.int .i64)) (.pair .bool (.pair (.int .i64) .unit)))))))))) l) : Sz (fun n => laws_szRouteS n l left) left (Sm 1048576 (.sl false (.pair .str (.pair (.sl false (.pair .str (.pair (.int .i64) (.pair .str .unit)))) (.pair (.sl false .str) (.pair (.int .i64) (.pair (.int .i64) (.pair (.int .i64) (.pair (.sl false (.int .i64)) (.pair .bool (.pair (.int .i64) .unit)))))))))) l) := by
  refine Sz.step ?_
  simp only [laws_szRouteS.step]
  have b1 : l.length ≤ 9223372036854775807 := by have := hw.1; simp only [maxLen] at this; omega
  have e1 : IntKind.wrap .i64 (left - ((List.length l) : Int)) = left - ((List.length l) : Int) := i64_ok (by omega) (by omega)
  simp only [e1]
  by_cases c1 : left - ((List.length l) : Int) < 0
  · exact Sz.yes (by simpa using c1) (Sz.neg h0)
  refine Sz.no (by simpa using c1) ?_
  refine ((laws_szRouteS.loop l (by omega) hw.2 l.length 0 _ (by omega) (by omega) (by omega)).le (by omega)).imp fun hq => ⟨by omega, fun x hx => ?_⟩
  obtain ⟨j, hj, rfl⟩ := List.getElem_of_mem hx
  have := hq j (by omega) hj
  rwa [List.getD_eq_getElem?_getD, List.getElem?_eq_getElem hj] at this
theorem laws_szLabel.ev (x : (ByteArray) × ((ByteArray) × (Unit))) (left : Int) (h0 : 0 ≤ left) (h1 : left ≤ 1048576) (hw : Wf (.pair .str (.pair .str .unit)) x) : Sz (fun n => laws_szLabel n x left) left (Sm 1048576 (.pair .str (.pair .str .unit)) x) := by
  refine Sz.step ?_
  simp only [laws_szLabel.step]
  have b1 : ByteArray.size x.1 ≤ 9223372036854775807 := by have := hw.1; simp only [Wf, maxLen] at this; omega
  have e1 : IntKind.wrap .i64 (left - ((ByteArray.size x.1) : Int)) = left - ((ByteArray.size x.1) : Int) := i64_ok (by omega) (by omega)
  simp only [e1]
  by_cases c1 : (left - ((ByteArray.size x.1) : Int)) < 0
  · exact Sz.yes (by simpa using c1) (Sz.neg h0)
  refine Sz.no (by simpa using c1) ?_
  have b2 : ByteArray.size x.2.1 ≤ 9223372036854775807 := by have := hw.2.1; simp only [Wf, maxLen] at this; omega
  have e2 : IntKind.wrap .i64 ((left - ((ByteArray.size x.1) : Int)) - ((ByteArray.size x.2.1) : Int)) = (left - ((ByteArray.size x.1) : Int)) - ((ByteArray.size x.2.1) : Int) := i64_ok (by omega) (by omega)
  simp only [e2]
  by_cases c2 : ((left - ((ByteArray.size x.1) : Int)) - ((ByteArray.size x.2.1) : Int)) < 0
  · exact Sz.yes (by simpa using c2) (Sz.neg h0)
  refine Sz.no (by simpa using c2) ?_
  exact ⟨((left - ((ByteArray.size x.1) : Int)) - ((ByteArray.size x.2.1) : Int)), Ev.pure, by omega, fun _ => ⟨(show ByteArray.size x.1 ≤ 1048576 by omega), ⟨(show ByteArray.size x.2.1 ≤ 1048576 by omega), trivial⟩⟩⟩
theorem laws_szLabelS.loop (l : List ((ByteArray) × ((ByteArray) × (Unit)))) (hl : l.length ≤ 1048576) (hw : ∀ x ∈ l, Wf (.pair .str (.pair .str .unit)) x) : ∀ d i (left : Int), i + d = l.length → 0 ≤ left → left ≤ 1048576 → Sz (fun n => goRec laws_szLabelS.step n (.p17 l left (i : Int))) left (∀ j, i ≤ j → j < l.length → Sm 1048576 (.pair .str (.pair .str .unit)) (l.getD j default)) := by
  intro d
  induction d with
  | zero =>
    intro i left h h0 h1
    rw [Nat.add_zero] at h
    subst h
    refine Sz.step ?_
    simp only [laws_szLabelS.step]
    exact Sz.no lt_no ⟨left, Ev.pure, Int.le_refl _, fun _ j h1 h2 => by omega⟩
  | succ d ih =>
    intro i left h h0 h1
    have hi : i < l.length := by omega
    refine Sz.step ?_
    simp only [laws_szLabelS.step, toNat_cast]
    refine Sz.yes (lt_yes hi) (Sz.yes (inB_nat hi) ?_)
    obtain ⟨r1, k1, m1, q1⟩ := laws_szLabel.ev (l.getD i default) left h0 h1 (hw _ (getD_mem hi))
    refine Sz.bind k1 ?_
    by_cases c1 : r1 < 0
    · exact Sz.yes (by simpa using c1) (Sz.neg h0)
    refine Sz.no (by simpa using c1) ?_
    rw [i64_nat (by omega)]
    have := ih (i + 1) r1 (by omega) (by omega) (by omega)
    refine (this.le m1).imp fun hq j h2 h3 => ?_
    rcases Nat.eq_or_lt_of_le h2 with rfl | h2
    · exact q1 (by omega)
    · exact hq j h2 h3
theorem laws_szLabelS.ev (l : List ((ByteArray) × ((ByteArray) × (Unit)))) (left : Int) (h0 : 0 ≤ left) (h1 : left ≤ 1048576) (hw : Wf (.sl false (.pair .str (.pair .str .unit))) l) : Sz (fun n => laws_szLabelS n l left) left (Sm 1048576 (.sl false (.pair .str (.pair .str .unit))) l) := by
  refine Sz.step ?_
  simp only [laws_szLabelS.step]
  have b1 : l.length ≤ 9223372036854775807 := by have := hw.1; simp only [maxLen] at this; omega
  have e1 : IntKind.wrap .i64 (left - ((List.length l) : Int)) = left - ((List.length l) : Int) := i64_ok (by omega) (by omega)
  simp only [e1]
  by_cases c1 : left - ((List.length l) : Int) < 0
  · exact Sz.yes (by simpa using c1) (Sz.neg h0)
  refine Sz.no (by simpa using c1) ?_
  refine ((laws_szLabelS.loop l (by omega) hw.2 l.length 0 _ (by omega) (by omega) (by omega)).le (by omega)).imp fun hq => ⟨by omega, fun x hx => ?_⟩
  obtain ⟨j, hj, rfl⟩ := List.getElem_of_mem hx
  have := hq j (by omega) hj
  rwa [List.getD_eq_getElem?_getD, List.getElem?_eq_getElem hj] at this
theorem laws_toMatcher.ev (x : (ByteArray) × ((Int) × ((ByteArray) × (Unit)))) (h : Sm 1048576 (.pair .str (.pair (.int .i64) (.pair .str .unit))) x) : Ev (fun n => laws_toMatcher n x) x := by
  refine Ev.step ?_
  simp only [laws_toMatcher.step]
  exact Ev.pure
theorem laws_toMatcherS.loop (l : List ((ByteArray) × ((Int) × ((ByteArray) × (Unit))))) (h : Sm 1048576 (.sl false (.pair .str (.pair (.int .i64) (.pair .str .unit)))) l) : ∀ d i (out : List ((ByteArray) × ((Int) × ((ByteArray) × (Unit))))), i + d = l.length → out.length = l.length → (∀ j, j < i → out.getD j default = l.getD j default) → Ev (fun n => goRec laws_toMatcherS.step n (.p9 l (i : Int) out)) l := by
  have hl : l.length ≤ 1048576 := h.1
  intro d
  induction d with
  | zero =>
    intro i out hd ho hj
    rw [Nat.add_zero] at hd
    subst hd
    refine Ev.step ?_
    simp only [laws_toMatcherS.step]
    exact Ev.no lt_no (Ev.pure' (ext_getD ho hj))
  | succ d ih =>
    intro i out hd ho hj
    have hi : i < l.length := by omega
    refine Ev.step ?_
    simp only [laws_toMatcherS.step, toNat_cast, Nat.zero_add]
    refine Ev.yes (lt_yes hi) (Ev.yes (inB_nat hi) ?_)
    refine Ev.bind (laws_toMatcher.ev (l.getD i default) (h.2 _ (getD_mem hi))) ?_
    refine Ev.yes (inB_nat (by omega)) ?_
    rw [i64_nat (by omega)]
    refine ih (i + 1) _ (by omega) (by simpa using ho) fun j hj2 => ?_
    by_cases e : j = i
    · subst e; rw [getD_set_same (by omega)]
    · rw [getD_set_other e]; exact hj j (by omega)
theorem laws_toMatcherS.ev (l : List ((ByteArray) × ((Int) × ((ByteArray) × (Unit))))) (h : Sm 1048576 (.sl false (.pair .str (.pair (.int .i64) (.pair .str .unit)))) l) : Ev (fun n => laws_toMatcherS n l) l := by
  have hl : l.length ≤ 1048576 := h.1
  refine Ev.step ?_
  simp only [laws_toMatcherS.step, toNat_cast]
  refine Ev.yes (inC_nat (Nat.le_refl _) (by omega)) ?_
  exact laws_toMatcherS.loop l h l.length 0 _ (by omega) (by simp) (by omega)
theorem laws_toStringS.loop (l : List (ByteArray)) (h : Sm 1048576 (.sl false .str) l) : ∀ d i (out : List (ByteArray)), i + d = l.length → out.length = l.length → (∀ j, j < i → out.getD j default = l.getD j default) → Ev (fun n => goRec laws_toStringS.step n (.p9 l (i : Int) out)) l := by
  have hl : l.length ≤ 1048576 := h.1
  intro d
  induction d with
  | zero =>
    intro i out hd ho hj
    rw [Nat.add_zero] at hd
    subst hd
    refine Ev.step ?_
    simp only [laws_toStringS.step]
    exact Ev.no lt_no (Ev.pure' (ext_getD ho hj))
  | succ d ih =>
    intro i out hd ho hj
    have hi : i < l.length := by omega
    refine Ev.step ?_
    simp only [laws_toStringS.step, toNat_cast, Nat.zero_add]
    refine Ev.yes (lt_yes hi) (Ev.yes (inB_nat hi) ?_)
    refine Ev.yes (inB_nat (by omega)) ?_
    rw [i64_nat (by omega)]
    refine ih (i + 1) _ (by omega) (by simpa using ho) fun j hj2 => ?_
    by_cases e : j = i
    · subst e; rw [getD_set_same (by omega)]
    · rw [getD_set_other e]; exact hj j (by omega)
theorem laws_toStringS.ev (l : List (ByteArray)) (h : Sm 1048576 (.sl false .str) l) : Ev (fun n => laws_toStringS n l) l := by
  have hl : l.length ≤ 1048576 := h.1
  refine Ev.step ?_
  simp only [laws_toStringS.step, toNat_cast]
  refine Ev.yes (inC_nat (Nat.le_refl _) (by omega)) ?_
  exact laws_toStringS.loop l h l.length 0 _ (by omega) (by simp) (by omega)
theorem laws_toIntS.loop (l : List (Int)) (h : Sm 1048576 (.sl false (.int .i64)) l) : ∀ d i (out : List (Int)), i + d = l.length → out.length = l.length → (∀ j, j < i → out.getD j default = l.getD j default) → Ev (fun n => goRec laws_toIntS.step n (.p9 l (i : Int) out)) l := by
  have hl : l.length ≤ 1048576 := h.1
  intro d
  induction d with
  | zero =>
    intro i out hd ho hj
    rw [Nat.add_zero] at hd
    subst hd
    refine Ev.step ?_
    simp only [laws_toIntS.step]
    exact Ev.no lt_no (Ev.pure' (ext_getD ho hj))
  | succ d ih =>
    intro i out hd ho hj
    have hi : i < l.length := by omega
    refine Ev.step ?_
    simp only [laws_toIntS.step, toNat_cast, Nat.zero_add]
    refine Ev.yes (lt_yes hi) (Ev.yes (inB_nat hi) ?_)
    refine Ev.yes (inB_nat (by omega)) ?_
    rw [i64_nat (by omega)]
    refine ih (i + 1) _ (by omega) (by simpa using ho) fun j hj2 => ?_
    by_cases e : j = i
    · subst e; rw [getD_set_same (by omega)]
    · rw [getD_set_other e]; exact hj j (by omega)
theorem laws_toIntS.ev (l : List (Int)) (h : Sm 1048576 (.sl false (.int .i64)) l) : Ev (fun n => laws_toIntS n l) l := by
  have hl : l.length ≤ 1048576 := h.1
  refine Ev.step ?_
  simp only [laws_toIntS.step, toNat_cast]
  refine Ev.yes (inC_nat (Nat.le_refl _) (by omega)) ?_
  exact laws_toIntS.loop l h l.length 0 _ (by omega) (by simp) (by omega)
theorem laws_toRoute.ev (x : (ByteArray) × ((List ((ByteArray) × ((Int) × ((ByteArray) × (Unit))))) × ((List (ByteArray)) × ((Int) × ((Int) × ((Int) × ((List (Int)) × ((Bool) × ((Int) × (Unit)))))))))) (h : Sm 1048576 (.pair .str (.pair (.sl false (.pair .str (.pair (.int .i64) (.pair .str .unit)))) (.pair (.sl false .str) (.pair (.int .i64) (.pair (.int .i64) (.pair (.int .i64) (.pair (.sl false (.int .i64)) (.pair .bool (.pair (.int .i64) .unit))))))))) x) : Ev (fun n => laws_toRoute n x) x := by
  refine Ev.step ?_
  simp only [laws_toRoute.step]
  refine Ev.bind (laws_toMatcherS.ev x.2.1 h.2.1) ?_
  refine Ev.bind (laws_toStringS.ev x.2.2.1 h.2.2.1) ?_
  refine Ev.bind (laws_toIntS.ev x.2.2.2.2.2.2.1 h.2.2.2.2.2.2.1) ?_
  exact Ev.pure
theorem laws_toRouteS.loop (l : List ((ByteArray) × ((List ((ByteArray) × ((Int) × ((ByteArray) × (Unit))))) × ((List (ByteArray)) × ((Int) × ((Int) × ((Int) × ((List (Int)) × ((Bool) × ((Int) × (Unit))))))))))) (h : Sm 1048576 (.sl false (.pair .str (.pair (.sl false (.pair .str (.pair (.int .i64) (.pair .str .unit)))) (.pair (.sl false .str) (.pair (.int .i64) (.pair (.int .i64) (.pair (.int .i64) (.pair (.sl false (.int .i64)) (.pair .bool (.pair (.int .i64) .unit)))))))))) l) : ∀ d i (out : List ((ByteArray) × ((List ((ByteArray) × ((Int) × ((ByteArray) × (Unit))))) × ((List (ByteArray)) × ((Int) × ((Int) × ((Int) × ((List (Int)) × ((Bool) × ((Int) × (Unit))))))))))), i + d = l.length → out.length = l.length → (∀ j, j < i → out.getD j default = l.getD j default) → Ev (fun n => goRec laws_toRouteS.step n (.p9 l (i : Int) out)) l := by
  have hl : l.length ≤ 1048576 := h.1
  intro d
  induction d with
  | zero =>
    intro i out hd ho hj
    rw [Nat.add_zero] at hd
    subst hd
    refine Ev.step ?_
    simp only [laws_toRouteS.step]
    exact Ev.no lt_no (Ev.pure' (ext_getD ho hj))
  | succ d ih =>
    intro i out hd ho hj
    have hi : i < l.length := by omega
    refine Ev.step ?_
    simp only [laws_toRouteS.step, toNat_cast, Nat.zero_add]
    refine Ev.yes (lt_yes hi) (Ev.yes (inB_nat hi) ?_)
    refine Ev.bind (laws_toRoute.ev (l.getD i default) (h.2 _ (getD_mem hi))) ?_
    refine Ev.yes (inB_nat (by omega)) ?_
    rw [i64_nat (by omega)]
    refine ih (i + 1) _ (by omega) (by simpa using ho) fun j hj2 => ?_
    by_cases e : j = i
    · subst e; rw [getD_set_same (by omega)]
    · rw [getD_set_other e]; exact hj j (by omega)
theorem laws_toRouteS.ev (l : List ((ByteArray) × ((List ((ByteArray) × ((Int) × ((ByteArray) × (Unit))))) × ((List (ByteArray)) × ((Int) × ((Int) × ((Int) × ((List (Int)) × ((Bool) × ((Int) × (Unit))))))))))) (h : Sm 1048576 (.sl false (.pair .str (.pair (.sl false (.pair .str (.pair (.int .i64) (.pair .str .unit)))) (.pair (.sl false .str) (.pair (.int .i64) (.pair (.int .i64) (.pair (.int .i64) (.pair (.sl false (.int .i64)) (.pair .bool (.pair (.int .i64) .unit)))))))))) l) : Ev (fun n => laws_toRouteS n l) l := by
  have hl : l.length ≤ 1048576 := h.1
  refine Ev.step ?_
  simp only [laws_toRouteS.step, toNat_cast]
  refine Ev.yes (inC_nat (Nat.le_refl _) (by omega)) ?_
  exact laws_toRouteS.loop l h l.length 0 _ (by omega) (by simp) (by omega)
theorem laws_toLabel.ev (x : (ByteArray) × ((ByteArray) × (Unit))) (h : Sm 1048576 (.pair .str (.pair .str .unit)) x) : Ev (fun n => laws_toLabel n x) x := by
  refine Ev.step ?_
  simp only [laws_toLabel.step]
  exact Ev.pure
theorem laws_toLabelS.loop (l : List ((ByteArray) × ((ByteArray) × (Unit)))) (h : Sm 1048576 (.sl false (.pair .str (.pair .str .unit))) l) : ∀ d i (out : List ((ByteArray) × ((ByteArray) × (Unit)))), i + d = l.length → out.length = l.length → (∀ j, j < i → out.getD j default = l.getD j default) → Ev (fun n => goRec laws_toLabelS.step n (.p9 l (i : Int) out)) l := by
  have hl : l.length ≤ 1048576 := h.1
  intro d
  induction d with
  | zero =>
    intro i out hd ho hj
    rw [Nat.add_zero] at hd
    subst hd
    refine Ev.step ?_
    simp only [laws_toLabelS.step]
    exact Ev.no lt_no (Ev.pure' (ext_getD ho hj))
  | succ d ih =>
    intro i out hd ho hj
    have hi : i < l.length := by omega
    refine Ev.step ?_
    simp only [laws_toLabelS.step, toNat_cast, Nat.zero_add]
    refine Ev.yes (lt_yes hi) (Ev.yes (inB_nat hi) ?_)
    refine Ev.bind (laws_toLabel.ev (l.getD i default) (h.2 _ (getD_mem hi))) ?_
    refine Ev.yes (inB_nat (by omega)) ?_
    rw [i64_nat (by omega)]
    refine ih (i + 1) _ (by omega) (by simpa using ho) fun j hj2 => ?_
    by_cases e : j = i
    · subst e; rw [getD_set_same (by omega)]
    · rw [getD_set_other e]; exact hj j (by omega)
theorem laws_toLabelS.ev (l : List ((ByteArray) × ((ByteArray) × (Unit)))) (h : Sm 1048576 (.sl false (.pair .str (.pair .str .unit))) l) : Ev (fun n => laws_toLabelS n l) l := by
  have hl : l.length ≤ 1048576 := h.1
  refine Ev.step ?_
  simp only [laws_toLabelS.step, toNat_cast]
  refine Ev.yes (inC_nat (Nat.le_refl _) (by omega)) ?_
  exact laws_toLabelS.loop l h l.length 0 _ (by omega) (by simp) (by omega)
theorem spec_l2Digit.ev (b : Int) : Ev (fun n => spec_l2Digit n b) (digitB b) := by
  refine Ev.step ?_
  simp only [spec_l2Digit.step]
  exact Ev.cnd (fun h => Ev.pure' (by simp [digitB, h])) fun h => Ev.pure' (by simp [digitB, h])
theorem spec_l2Letter.ev (b : Int) : Ev (fun n => spec_l2Letter n b) (letterB b) := by
  refine Ev.step ?_
  simp only [spec_l2Letter.step]
  refine Ev.cnd (fun h => Ev.cnd (fun h2 => Ev.pure' (by simp [letterB, h, h2])) fun h2 => Ev.cnd (fun h3 => Ev.pure' (by simp [letterB, h, h2, h3])) fun h3 => Ev.pure' (by simp [letterB, h, h2, h3])) fun h => Ev.cnd (fun h3 => Ev.pure' (by simp [letterB, h, h3])) fun h3 => Ev.pure' (by simp [letterB, h, h3])
theorem spec_l2Name.ev (s : ByteArray) (hs : s.size ≤ 1048576) : Ev (fun n => spec_l2Name n s) (nameB s) := by
  have go : Ev (fun n => goRec spec_l2Name.step n (spec_l2Name.Pt.p15 s 0)) (allB wordB s) := by
    refine Ev.allN (pt := fun i : Nat => spec_l2Name.Pt.p15 s (i : Int)) (fun i hi => ⟨fun hp v hv => ?_, fun hp => ?_⟩) ?_
    · refine Ev.step ?_
      simp only [spec_l2Name.step]
      have h24 : Ev (fun n => goRec spec_l2Name.step n (spec_l2Name.Pt.p24 s (i : Int) false)) v := by
        refine Ev.step ?_
        simp only [spec_l2Name.step, i64_nat (show i ≤ 4611686018427387904 by omega)]
        exact Ev.no rfl hv
      refine Ev.yes (lt_yes hi) (Ev.yes (inB_nat hi) (Ev.bind (spec_l2Letter.ev _) (Ev.cnd (fun h => Ev.yes (inB_nat hi) (Ev.bind (spec_l2Digit.ev _) (Ev.cnd (fun h2 => Ev.yes (inB_nat hi) ?_) fun h2 => h24))) fun h => h24)))
      have : (!decide (bt s i = 95)) = false := by simp [wordB] at hp h h2 ⊢; simp [h, h2] at hp; exact hp
      rw [this]; exact h24
    · refine Ev.step ?_
      simp only [spec_l2Name.step]
      simp [wordB] at hp
      refine Ev.yes (lt_yes hi) (Ev.yes (inB_nat hi) (Ev.bind (spec_l2Letter.ev _) (Ev.yes (by simp [hp]) (Ev.yes (inB_nat hi) (Ev.bind (spec_l2Digit.ev _) (Ev.yes (by simp [hp]) (Ev.yes (inB_nat hi) ?_)))))))
      refine Ev.step ?_
      simp only [spec_l2Name.step]
      exact Ev.yes (by simp [hp]) Ev.pure
    · refine Ev.step ?_
      simp only [spec_l2Name.step]
      exact Ev.no lt_no Ev.pure
  refine Ev.step ?_
  simp only [spec_l2Name.step]
  have bad : nameB s = false → Ev (fun n => goRec spec_l2Name.step n (spec_l2Name.Pt.p4 s true)) (nameB s) := fun h => by
    refine Ev.step ?_
    simp only [spec_l2Name.step]
    exact Ev.yes rfl (Ev.pure' h.symm)
  refine Ev.cnd (fun h => bad ?_) fun h => Ev.cnd (fun h2 => bad ?_) fun h2 => Ev.yes ?_ (Ev.bind (spec_l2Digit.ev _) (Ev.step ?_))
  · have : ¬ 1 ≤ s.size := by simp at h; omega
    simp [nameB, this]
  · have : ¬ s.size ≤ 40 := by simp at h2; omega
    simp [nameB, this]
  · simp at h; exact inB_zero (by omega)
  · have h1 : 1 ≤ s.size := by simp at h; omega
    have h3 : s.size ≤ 40 := by simp at h2; omega
    simp only [spec_l2Name.step]
    refine Ev.cnd (fun h4 => Ev.pure' (by simp [nameB, h4])) fun h4 => Ev.of_eq go ?_
    simp [nameB, h1, h3, h4]
theorem spec_l2Printed.ev (s : ByteArray) (hs : s.size ≤ 1048576) : Ev (fun n => spec_l2Printed n s) (printB s) := by
  refine Ev.step ?_
  simp only [spec_l2Printed.step]
  refine Ev.allN (pt := fun i : Nat => spec_l2Printed.Pt.p7 s (i : Int)) (fun i hi => ⟨fun hp v hv => ?_, fun hp => ?_⟩) ?_
  · refine Ev.step ?_
    simp only [Bool.and_eq_true, decide_eq_true_eq] at hp
    simp only [spec_l2Printed.step, i64_nat (show i ≤ 4611686018427387904 by omega)]
    exact Ev.yes (lt_yes hi) (Ev.yes (inB_nat hi) (Ev.no (by simp; omega) (Ev.yes (inB_nat hi) (Ev.no (by simp; omega) hv))))
  · refine Ev.step ?_
    simp only [spec_l2Printed.step]
    refine Ev.yes (lt_yes hi) (Ev.yes (inB_nat hi) (Ev.cnd (fun _ => Ev.pure) fun h => Ev.yes (inB_nat hi) (Ev.yes ?_ Ev.pure)))
    simp at hp h ⊢; omega
  · refine Ev.step ?_
    simp only [spec_l2Printed.step]
    exact Ev.no lt_no Ev.pure
theorem spec_l2Alternatives.loop (s : ByteArray) (hs : s.size ≤ 100) : ∀ d i out now, s.size ≤ i + d → i ≤ s.size → out.length ≤ i → now.length ≤ i → Ev (fun n => goRec spec_l2Alternatives.step n (spec_l2Alternatives.Pt.p19 s (i : Int) out now)) (altR (pat ((octs s).drop i) out now)) := by
  intro d
  induction d with
  | zero =>
    intro i out now h h1 h2 h3
    obtain rfl : i = s.size := by omega
    refine Ev.step ?_
    simp only [spec_l2Alternatives.step]
    refine Ev.no lt_no (Ev.yes (room_ok (by simp; omega)) (Ev.pure' ?_))
    rw [octs_nil, pat_nil]; rfl
  | succ d ih =>
    intro i out now h h1 h2 h3
    rcases Nat.eq_or_lt_of_le h1 with rfl | hi
    · refine Ev.step ?_
      simp only [spec_l2Alternatives.step]
      refine Ev.no lt_no (Ev.yes (room_ok (by simp; omega)) (Ev.pure' ?_))
      rw [octs_nil, pat_nil]; rfl
    refine Ev.step ?_
    simp only [spec_l2Alternatives.step, i64_bt, i64_nat (show i ≤ 4611686018427387904 by omega)]
    rw [octs_drop hi, pat_cons]
    refine Ev.yes (lt_yes hi) (Ev.yes (inB_nat hi) (Ev.cnd (fun c => ?_) fun c => Ev.cnd (fun c2 => ?_) fun c2 => Ev.cnd (fun c3 => ?_) fun c3 => Ev.cnd (fun c4 => ?_) fun c4 => ?_))
    · rw [if_pos (by simpa using c)]
      exact Ev.yes (room_ok (by simp; omega)) (ih (i + 1) _ _ (by omega) (by omega) (by simp; omega) (by simp))
    · rw [if_neg (by simpa using c), if_pos (by simpa using c2)]
      exact Ev.yes (room_ok (by simp; omega)) (ih (i + 1) _ _ (by omega) (by omega) (by omega) (by simp; omega))
    · rw [if_neg (by simpa using c), if_neg (by simpa using c2), if_pos (by simpa using c3)]
      exact Ev.yes (room_ok (by simp; omega)) (ih (i + 1) _ _ (by omega) (by omega) (by omega) (by simp; omega))
    · rw [if_neg (by simpa using c), if_neg (by simpa using c2), if_neg (by simpa using c3), if_pos (by simpa using c4)]
      have bad : ∀ j : Int, Ev (fun n => goRec spec_l2Alternatives.step n (spec_l2Alternatives.Pt.p51 s j true out now)) (altR none) := fun j => by
        refine Ev.step ?_
        simp only [spec_l2Alternatives.step]
        exact Ev.yes rfl Ev.pure
      refine Ev.cnd (fun e => ?_) fun e => ?_
      · have e : i + 1 = s.size := by simp at e; omega
        rw [show (octs s).drop (i + 1) = [] by rw [e, octs_nil]]
        exact bad _
      · have hi1 : i + 1 < s.size := by simp at e; omega
        rw [octs_drop hi1]
        simp only
        have hr := bt_range (s := s) (i := ((i + 1 : Nat) : Int))
        generalize hq : bt s ((i + 1 : Nat) : Int) = q at hr
        have good : (q = 42 ∨ q = 63 ∨ q = 124 ∨ q = 92) →
            Ev (fun n => goRec spec_l2Alternatives.step n (spec_l2Alternatives.Pt.p51 s ((i + 1 : Nat) : Int) false out now)) (altR (if q = 42 ∨ q = 63 ∨ q = 124 ∨ q = 92 then pat ((octs s).drop (i + 1 + 1)) out (now ++ [q]) else none)) := by
          intro hg
          rw [if_pos hg]
          refine Ev.step ?_
          simp only [spec_l2Alternatives.step, i64_bt]
          simp only [hq, i64_nat (show i + 1 ≤ 4611686018427387904 by omega)]
          exact Ev.no rfl (Ev.yes (inB_nat hi1) (Ev.yes (room_ok (by simp; omega)) (ih (i + 1 + 1) out (now ++ [q]) (by omega) (by omega) (by omega) (by simp; omega))))
        refine Ev.yes (inB_nat hi1) (Ev.cnd (fun e1 => Ev.yes (inB_nat hi1) (Ev.cnd (fun e2 => Ev.yes (inB_nat hi1) (Ev.cnd (fun e3 => Ev.yes (inB_nat hi1) ?_) fun e3 => good ?_)) fun e2 => good ?_)) fun e1 => good ?_)
        · by_cases e4 : q = 92
          · rw [show (!decide (q = 92)) = false by simp [e4]]
            exact good (.inr (.inr (.inr e4)))
          · rw [show (!decide (q = 92)) = true by simp [e4], if_neg (by simp at e1 e2 e3; simp [e1, e2, e3, e4])]
            exact bad _
        · exact .inr (.inr (.inl (by simpa using e3)))
        · exact .inr (.inl (by simpa using e2))
        · exact .inl (by simpa using e1)
    · rw [if_neg (by simpa using c), if_neg (by simpa using c2), if_neg (by simpa using c3), if_neg (by simpa using c4)]
      exact Ev.yes (inB_nat hi) (Ev.yes (room_ok (by simp; omega)) (ih (i + 1) _ _ (by omega) (by omega) (by omega) (by simp; omega)))
theorem spec_l2Alternatives.ev (s : ByteArray) (hs : s.size ≤ 1048576) : Ev (fun n => spec_l2Alternatives n s) (altR (alts s)) := by
  refine Ev.step ?_
  simp only [spec_l2Alternatives.step]
  refine Ev.cnd (fun h => ?_) fun h => Ev.bind (spec_l2Printed.ev s hs) (Ev.step ?_)
  · refine Ev.step ?_
    simp only [spec_l2Alternatives.step]
    refine Ev.yes rfl (Ev.pure' ?_)
    rw [alts, if_neg (by simp at h; omega)]; rfl
  · have h : s.size ≤ 100 := by simp at h; omega
    simp only [spec_l2Alternatives.step]
    refine Ev.cnd (fun h2 => Ev.pure' ?_) fun h2 => ?_
    · rw [alts, if_neg (by simp at h2; simp [h2])]; rfl
    · rw [alts, if_pos ⟨h, by simpa using h2⟩]
      exact spec_l2Alternatives.loop s h s.size 0 [] [] (by omega) (by omega) (by simp) (by simp)
theorem spec_GoodPattern.ev (s : ByteArray) (hs : s.size ≤ 1048576) : Ev (fun n => spec_GoodPattern n s) (alts s).isSome := by
  refine Ev.step ?_
  simp only [spec_GoodPattern.step]
  refine Ev.bind (spec_l2Alternatives.ev s hs) (Ev.pure' ?_)
  cases alts s <;> rfl
theorem spec_GoodMatchers.ev (l : List MT) (h : Sm 1048576 (.sl false MU) l) : Ev (fun n => spec_GoodMatchers n l) (matchersB l) := by
  have hl : l.length ≤ 1048576 := h.1
  refine Ev.step ?_
  simp only [spec_GoodMatchers.step]
  refine Ev.cnd (fun c => Ev.pure' ?_) fun c => ?_
  · have : ¬ l.length ≤ 10 := by simp at c; omega
    simp [matchersB, this]
  have h10 : l.length ≤ 10 := by simp at c; omega
  simp only [matchersB, h10, decide_true, Bool.true_and]
  have go : ∀ i v, i < l.length → (matcherB (l.getD i default) = true → Ev (fun n => goRec spec_GoodMatchers.step n (spec_GoodMatchers.Pt.p15 l (l.length : Int) ((i + 1 : Nat) : Int))) v) → (matcherB (l.getD i default) = false → v = false) →
      Ev (fun n => goRec spec_GoodMatchers.step n (spec_GoodMatchers.Pt.p15 l (l.length : Int) (i : Int))) v := by
    intro i v hi hv hv2
    have hx := h.2 _ (getD_mem (d := default) hi)
    generalize hxe : l.getD i default = x at hv hv2 hx
    have h26 : ∀ b, (b = !matcherB x) → Ev (fun n => goRec spec_GoodMatchers.step n (spec_GoodMatchers.Pt.p26 l (l.length : Int) (i : Int) b)) v := by
      rintro b rfl
      refine Ev.step ?_
      simp only [spec_GoodMatchers.step, i64_nat (show i ≤ 4611686018427387904 by omega)]
      refine Ev.cnd (fun e => Ev.pure' (hv2 (by simpa using e)).symm) fun e => hv (by simpa using e)
    refine Ev.step ?_
    simp only [spec_GoodMatchers.step, toNat_cast, hxe]
    refine Ev.yes (lt_yes hi) (Ev.yes (inB_nat hi) ?_)
    refine Ev.bind (spec_l2Name.ev _ hx.1) (Ev.cnd (fun e => h26 _ (by simp [matcherB]; simp at e; simp [e])) fun e1 => Ev.cnd (fun e => h26 _ (by simp [matcherB]; simp at e; omega)) fun e2 => Ev.cnd (fun e => h26 _ (by simp [matcherB]; simp at e; omega)) fun e3 => Ev.cnd (fun e => h26 _ (by simp [matcherB]; simp at e; omega)) fun e4 => ?_)
    refine Ev.bind (spec_l2Printed.ev _ hx.2.2.1) (Ev.cnd (fun e => h26 _ (by simp [matcherB]; simp at e; simp [e])) fun e5 => Ev.cnd (fun e6 => Ev.bind (spec_GoodPattern.ev _ hx.2.2.1) (h26 _ ?_)) fun e6 => h26 _ ?_)
    · simp at e1 e2 e3 e4 e5 e6
      have a1 : x.2.2.1.size ≤ 100 := by omega
      have a2 : ¬ x.2.1 < 3 := by omega
      simp [matcherB, e1, e2, e3, a1, e5, a2]
    · simp at e1 e2 e3 e4 e5 e6
      have a1 : x.2.2.1.size ≤ 100 := by omega
      simp [matcherB, e1, e2, e3, a1, e5, e6]
  refine Ev.allN (pt := fun i : Nat => spec_GoodMatchers.Pt.p15 l (l.length : Int) (i : Int)) (fun i hi => ⟨fun hp v hv => go i v hi (fun _ => hv) (fun h => by rw [hp] at h; cases h), fun hp => go i false hi (fun h => by rw [hp] at h; cases h) (fun _ => rfl)⟩) ?_
  refine Ev.step ?_
  simp only [spec_GoodMatchers.step]
  exact Ev.no lt_no Ev.pure
theorem spec_l2CmpNum.ev (a b : Int) : Ev (fun n => spec_l2CmpNum n a b) (cmpN a b) := by
  refine Ev.step ?_
  simp only [spec_l2CmpNum.step]
  exact Ev.cnd (fun h => Ev.pure' (by rw [cmpN, if_pos (of_decide_eq_true h)])) fun h => Ev.cnd (fun h2 => Ev.pure' (by rw [cmpN, if_neg (of_decide_eq_false h), if_pos (of_decide_eq_true h2)])) fun h2 => Ev.pure' (by rw [cmpN, if_neg (of_decide_eq_false h), if_neg (of_decide_eq_false h2)])
theorem spec_l2CmpText.loop (a b : ByteArray) (ha : a.size ≤ 1048576) (hb : b.size ≤ 1048576) : ∀ d i, i + d = a.size → i ≤ b.size → Ev (fun n => goRec spec_l2CmpText.step n (spec_l2CmpText.Pt.p7 a b (i : Int))) (cmpL ((octs a).drop i) ((octs b).drop i)) := by
  have out : ∀ i, i ≤ a.size → i ≤ b.size → (i = a.size ∨ i = b.size) → Ev (fun n => goRec spec_l2CmpText.step n (spec_l2CmpText.Pt.p9 a b (i : Int) false)) (cmpL ((octs a).drop i) ((octs b).drop i)) := by
    intro i h1 h2 h3
    refine Ev.step ?_
    simp only [spec_l2CmpText.step]
    refine Ev.no rfl (Ev.bind (spec_l2CmpNum.ev _ _) (Ev.pure' ?_))
    rcases h3 with rfl | rfl
    · rw [octs_nil]
      rcases Nat.eq_or_lt_of_le h2 with e | h2
      · rw [e, octs_nil]; simp [cmpN, cmpL]
      · rw [octs_drop h2]; simp only [cmpL, cmpN]; rw [if_pos (by omega)]
    · rw [octs_nil]
      rcases Nat.eq_or_lt_of_le h1 with e | h1
      · rw [e, octs_nil]; simp [cmpN, cmpL]
      · rw [octs_drop h1]; simp only [cmpL, cmpN]; rw [if_neg (by omega), if_pos (by omega)]
  intro d
  induction d with
  | zero =>
    intro i h hb'
    refine Ev.step ?_
    simp only [spec_l2CmpText.step]
    exact Ev.no (by simp; omega) (out i (by omega) hb' (by omega))
  | succ d ih =>
    intro i h hb'
    refine Ev.step ?_
    simp only [spec_l2CmpText.step]
    refine Ev.yes (lt_yes (by omega)) ?_
    rcases Nat.eq_or_lt_of_le hb' with e | hlt
    · rw [show decide ((i : Int) < (b.size : Int)) = false by simp; omega]
      exact out i (by omega) hb' (.inr e)
    · rw [lt_yes hlt]
      refine Ev.step ?_
      simp only [spec_l2CmpText.step, i64_bt]
      have hia : i < a.size := by omega
      refine Ev.yes rfl (Ev.yes (inB_nat hia) (Ev.yes (inB_nat hlt) ?_))
      rw [octs_drop hia, octs_drop hlt]
      simp only [cmpL]
      refine Ev.cnd (fun hc => Ev.yes (inB_nat hia) (Ev.yes (inB_nat hlt) (Ev.bind (spec_l2CmpNum.ev _ _) (Ev.pure' ?_)))) fun hc => ?_
      · simp at hc
        simp only [cmpN]
        by_cases c1 : bt a i < bt b i
        · simp [c1]
        · have c2 : bt b i < bt a i := by omega
          simp [c1, c2]
      · have hc : bt a i = bt b i := by simpa using hc
        rw [hc, if_neg (by omega), if_neg (by omega), i64_nat (by omega)]
        exact ih (i + 1) (by omega) (by omega)
theorem spec_l2CmpText.ev (a b : ByteArray) (ha : a.size ≤ 1048576) (hb : b.size ≤ 1048576) : Ev (fun n => spec_l2CmpText n a b) (cmpT a b) := by
  refine Ev.step ?_
  simp only [spec_l2CmpText.step]
  exact spec_l2CmpText.loop a b ha hb a.size 0 (by omega) (by omega)
theorem spec_l2Rising.ev (l : List ByteArray) (h : Sm 1048576 (.sl false .str) l) : Ev (fun n => spec_l2Rising n l) (risingB l) := by
  have hl : l.length ≤ 1048576 := h.1
  have hs : ∀ i, i < l.length → (l.getD i default).size ≤ 1048576 := fun i hi => h.2 _ (getD_mem hi)
  refine Ev.step ?_
  simp only [spec_l2Rising.step]
  refine Ev.allN (pt := fun i : Nat => spec_l2Rising.Pt.p7 l ((i + 1 : Nat) : Int)) (fun i hi => ⟨fun hp v hv => ?_, fun hp => ?_⟩) ?_
  · refine Ev.step ?_
    simp only [spec_l2Rising.step, i64_pred (show i ≤ 4611686018427387904 by omega), i64_nat (show i + 1 ≤ 4611686018427387904 by omega), toNat_cast]
    exact Ev.yes (lt_yes (by omega)) (Ev.yes (inB_nat (by omega)) (Ev.yes (inB_nat (by omega)) (Ev.bind (spec_l2CmpText.ev _ _ (hs _ (by omega)) (hs _ (by omega))) (Ev.no (by simp at hp; simp; omega) hv))))
  · refine Ev.step ?_
    simp only [spec_l2Rising.step, i64_pred (show i ≤ 4611686018427387904 by omega), toNat_cast]
    exact Ev.yes (lt_yes (by omega)) (Ev.yes (inB_nat (by omega)) (Ev.yes (inB_nat (by omega)) (Ev.bind (spec_l2CmpText.ev _ _ (hs _ (by omega)) (hs _ (by omega))) (Ev.yes (by simp at hp; simp; omega) Ev.pure))))
  · refine Ev.step ?_
    simp only [spec_l2Rising.step]
    exact Ev.no (by simp; omega) Ev.pure
theorem spec_l15Names.ev (l : List ByteArray) (h : Sm 1048576 (.sl false .str) l) : Ev (fun n => spec_l15Names n l) (namesB l) := by
  have hl : l.length ≤ 1048576 := h.1
  have hs : ∀ i, i < l.length → (l.getD i default).size ≤ 1048576 := fun i hi => h.2 _ (getD_mem hi)
  refine Ev.step ?_
  simp only [spec_l15Names.step]
  have go : ∀ d i, i + d = l.length → Ev (fun n => goRec spec_l15Names.step n (spec_l15Names.Pt.p7 l l (l.length : Int) (i : Int))) (decide (l.length ≤ 10) && risingB l && (List.range' i d).all fun i => nameB (l.getD i default)) := by
    intro d
    induction d with
    | zero =>
      intro i hi
      rw [Nat.add_zero] at hi; subst hi
      refine Ev.step ?_
      simp only [spec_l15Names.step]
      refine Ev.no lt_no (Ev.cnd (fun c => Ev.bind (spec_l2Rising.ev l h) (Ev.pure' ?_)) fun c => Ev.pure' ?_)
      · have : l.length ≤ 10 := by simp at c; omega
        simp [this]
      · have : ¬ l.length ≤ 10 := by simp at c; omega
        simp [this]
    | succ d ih =>
      intro i hi
      refine Ev.step ?_
      simp only [spec_l15Names.step, toNat_cast, i64_nat (show i ≤ 4611686018427387904 by omega)]
      refine Ev.yes (lt_yes (by omega)) (Ev.yes (inB_nat (by omega)) (Ev.bind (spec_l2Name.ev _ (hs _ (by omega))) (Ev.cnd (fun c => Ev.pure' ?_) fun c => ?_)))
      · rw [List.range'_succ, List.all_cons]; simp at c; simp [c]
      · rw [List.range'_succ, List.all_cons]; simp at c
        simp only [List.getD_eq_getElem?_getD, c, Bool.true_and]
        simpa only [List.getD_eq_getElem?_getD] using ih (i + 1) (by omega)
  have := go l.length 0 (by omega)
  rw [namesB, List.range_eq_range']
  exact this
theorem spec_l3Time.ev (b : Int) : Ev (fun n => spec_l3Time n b) (timeB b) := by
  refine Ev.step ?_
  simp only [spec_l3Time.step]
  exact Ev.cnd (fun h => Ev.pure' (by simp [timeB, h])) fun h => Ev.pure' (by simp [timeB, h])
theorem spec_l9Numbers.ev (l : List Int) (hl : l.length ≤ 1048576) : Ev (fun n => spec_l9Numbers n l) (decide (l.length ≤ 1000) && risingI l) := by
  have go : ∀ d i, i + 1 + d = l.length → Ev (fun n => goRec spec_l9Numbers.step n (spec_l9Numbers.Pt.p7 l (l.length : Int) ((i + 1 : Nat) : Int))) (decide (l.length ≤ 1000) && (List.range' i d).all fun i => decide (l.getD i default < l.getD (i + 1) default)) := by
    intro d
    induction d with
    | zero =>
      intro i h
      refine Ev.step ?_
      simp only [spec_l9Numbers.step]
      exact Ev.no (decide_eq_false (by omega)) (Ev.pure' (by rw [List.range'_zero, List.all_nil, Bool.and_true]; exact decide_eq_decide.2 (by omega)))
    | succ d ih =>
      intro i h
      refine Ev.step ?_
      simp only [spec_l9Numbers.step, i64_pred (show i ≤ 4611686018427387904 by omega), i64_nat (show i + 1 ≤ 4611686018427387904 by omega), toNat_cast]
      rw [List.range'_succ, List.all_cons]
      refine Ev.yes (lt_yes (by omega)) (Ev.yes (decide_eq_true (by omega)) (Ev.yes (inB_nat (by omega)) (Ev.yes (inB_nat (by omega)) (Ev.cnd (fun c => Ev.pure' ?_) fun c => Ev.of_eq (ih (i + 1) (by omega)) ?_))))
      · have c := of_decide_eq_true c
        rw [decide_eq_false (show ¬ l.getD i default < l.getD (i + 1) default by omega)]; simp
      · have c := of_decide_eq_false c
        rw [decide_eq_true (show l.getD i default < l.getD (i + 1) default by omega), Bool.true_and]
  refine Ev.step ?_
  simp only [spec_l9Numbers.step]
  cases hl0 : l.length with
  | zero =>
    refine Ev.step ?_
    simp only [spec_l9Numbers.step, hl0]
    exact Ev.no (by simp) (Ev.pure' (by simp [risingI, hl0]))
  | succ k =>
    refine Ev.step ?_
    simp only [spec_l9Numbers.step]
    refine Ev.yes (decide_eq_true (by omega)) (Ev.no (by simp) ?_)
    have e0 : IntKind.wrap .i64 ((0 : Int) + 1) = ((0 + 1 : Nat) : Int) := by rw [w64] <;> omega
    rw [e0, ← hl0]
    have := go k 0 (by omega)
    rw [risingI, List.range_eq_range', show l.length - 1 = k by omega]
    exact this
theorem spec_l20Route.ev (r : RTE) (h : Sm 1048576 RTU r) : Ev (fun n => spec_l20Route n r) (routeB r) := by
  have hml : r.2.2.2.2.2.2.1.length ≤ 1048576 := h.2.2.2.2.2.2.1.1
  have loop : r.2.2.2.2.2.2.1.length ≤ 20 → Ev (fun n => goRec spec_l20Route.step n (spec_l20Route.Pt.p15 r.2.2.2.2.2.2.1 (r.2.2.2.2.2.2.1.length : Int) 0)) (mutesB r.2.2.2.2.2.2.1) := by
    intro h20
    refine Ev.allN (pt := fun i : Nat => spec_l20Route.Pt.p15 r.2.2.2.2.2.2.1 (r.2.2.2.2.2.2.1.length : Int) (i : Int)) (fun i hi => ⟨fun hp v hv => ?_, fun hp => ?_⟩) ?_
    · refine Ev.step ?_
      simp only [Bool.and_eq_true, decide_eq_true_eq] at hp
      simp only [spec_l20Route.step, toNat_cast, i64_nat (show i ≤ 4611686018427387904 by omega)]
      exact Ev.yes (lt_yes hi) (Ev.yes (inB_nat hi) (Ev.no (by simp only [decide_eq_false_iff_not]; omega) (Ev.no (by simp only [decide_eq_false_iff_not]; omega) hv)))
    · refine Ev.step ?_
      simp only [spec_l20Route.step, toNat_cast]
      refine Ev.yes (lt_yes hi) (Ev.yes (inB_nat hi) (Ev.cnd (fun _ => Ev.pure) fun e => Ev.yes ?_ Ev.pure))
      have e := of_decide_eq_false e
      rw [show decide (0 ≤ r.2.2.2.2.2.2.1.getD i default) = true by simp only [decide_eq_true_eq]; omega, Bool.true_and] at hp
      have hp := of_decide_eq_false hp
      simp only [decide_eq_true_eq]; omega
    · refine Ev.step ?_
      simp only [spec_l20Route.step]
      exact Ev.no lt_no Ev.pure
  have p4 : ∀ b, (b = !(nameB r.1 && matchersB r.2.1 && namesB r.2.2.1 && timeB r.2.2.2.1 && posB r.2.2.2.2.1 && posB r.2.2.2.2.2.1 && (decide (r.2.2.2.2.2.2.1.length ≤ 20) && risingI r.2.2.2.2.2.2.1))) → Ev (fun n => goRec spec_l20Route.step n (spec_l20Route.Pt.p4 b r.1 r.2.1 r.2.2.1 r.2.2.2.1 r.2.2.2.2.1 r.2.2.2.2.2.1 r.2.2.2.2.2.2.1 r.2.2.2.2.2.2.2.1 r.2.2.2.2.2.2.2.2.1)) (routeB r) := by
    rintro b rfl
    refine Ev.step ?_
    simp only [spec_l20Route.step]
    refine Ev.cnd (fun e => Ev.pure' ?_) fun e => ?_
    · rw [Bool.not_eq_true'] at e
      rw [routeB, e]; rfl
    · rw [Bool.not_eq_false'] at e
      have h20 : r.2.2.2.2.2.2.1.length ≤ 20 := by
        simp only [Bool.and_eq_true, decide_eq_true_eq] at e
        exact e.2.1
      exact Ev.of_eq (loop h20) (by rw [routeB, e]; rfl)
  refine Ev.step ?_
  simp only [spec_l20Route.step]
  refine Ev.bind (spec_l2Name.ev _ h.1) (Ev.cnd (fun e => p4 _ (by rw [Bool.not_eq_true'] at e; simp [e])) fun e1 => ?_)
  refine Ev.bind (spec_GoodMatchers.ev _ h.2.1) (Ev.cnd (fun e => p4 _ (by rw [Bool.not_eq_true'] at e; simp [e])) fun e2 => ?_)
  refine Ev.bind (spec_l15Names.ev _ h.2.2.1) (Ev.cnd (fun e => p4 _ (by rw [Bool.not_eq_true'] at e; simp [e])) fun e3 => ?_)
  refine Ev.bind (spec_l3Time.ev _) (Ev.cnd (fun e => p4 _ (by rw [Bool.not_eq_true'] at e; simp [e])) fun e4 => ?_)
  refine Ev.cnd (fun e => p4 _ (by rw [posB.eq_1 r.2.2.2.2.1, show decide (1 ≤ r.2.2.2.2.1) = false by simp only [decide_eq_true_eq] at e; simp only [decide_eq_false_iff_not]; omega]; simp)) fun e5 => ?_
  refine Ev.cnd (fun e => p4 _ (by rw [posB.eq_1 r.2.2.2.2.1, show decide (r.2.2.2.2.1 ≤ 1000000000000) = false by simp only [decide_eq_true_eq] at e; simp only [decide_eq_false_iff_not]; omega]; simp)) fun e6 => ?_
  refine Ev.cnd (fun e => p4 _ (by rw [posB.eq_1 r.2.2.2.2.2.1, show decide (1 ≤ r.2.2.2.2.2.1) = false by simp only [decide_eq_true_eq] at e; simp only [decide_eq_false_iff_not]; omega]; simp)) fun e7 => ?_
  refine Ev.cnd (fun e => p4 _ (by rw [posB.eq_1 r.2.2.2.2.2.1, show decide (r.2.2.2.2.2.1 ≤ 1000000000000) = false by simp only [decide_eq_true_eq] at e; simp only [decide_eq_false_iff_not]; omega]; simp)) fun e8 => ?_
  have pa : posB r.2.2.2.2.1 = true := by simp only [decide_eq_false_iff_not] at e5 e6; simp only [posB, Bool.and_eq_true, decide_eq_true_eq]; omega
  have pb : posB r.2.2.2.2.2.1 = true := by simp only [decide_eq_false_iff_not] at e7 e8; simp only [posB, Bool.and_eq_true, decide_eq_true_eq]; omega
  refine Ev.cnd (fun e => p4 _ (by rw [show decide (r.2.2.2.2.2.2.1.length ≤ 20) = false by simp only [decide_eq_true_eq] at e; simp only [decide_eq_false_iff_not]; omega]; simp)) fun e9 => ?_
  have h20 : r.2.2.2.2.2.2.1.length ≤ 20 := by simp only [decide_eq_false_iff_not] at e9; omega
  refine Ev.bind (spec_l9Numbers.ev _ hml) (p4 _ ?_)
  rw [Bool.not_eq_false'] at e1 e2 e3 e4
  simp [e1, e2, e3, e4, pa, pb, h20]
  omega
theorem spec_l20Take.ev (l : List RTE) (hl : l.length ≤ 40) (h : Sm 1048576 (.sl false RTU) l) : ∀ d (deep i : Nat), deep + d = 9 → i ≤ l.length → Ev (fun n => spec_l20Take n l (i : Int) (deep : Int)) (tkV (nodeN l routeB d i)) := by
  intro d
  induction d with
  | zero =>
    intro deep i hd hi
    have fin : Ev (fun n => goRec (fun n K => spec_l20Take.step n (fun x => K (.p0 x.1 x.2.1 x.2.2.1)) K) n (spec_l20Take.Pt.p4 l (i : Int) (deep : Int) true)) (tkV (nodeN l routeB 0 i)) := by
      refine Ev.step ?_
      simp only [spec_l20Take.step]
      exact Ev.yes rfl Ev.pure
    refine Ev.step ?_
    simp only [spec_l20Take.step]
    exact Ev.cnd (fun _ => fin) fun _ => Ev.yes (by simp only [decide_eq_true_eq]; omega) fin
  | succ d ih =>
    intro deep i hd hi
    have bad : (decide (i < l.length) && decide (0 ≤ kidsOf l i) && routeB (l.getD i default)) = false → Ev (fun n => goRec (fun n K => spec_l20Take.step n (fun x => K (.p0 x.1 x.2.1 x.2.2.1)) K) n (spec_l20Take.Pt.p4 l (i : Int) (deep : Int) true)) (tkV (nodeN l routeB (d + 1) i)) := by
      intro hb
      refine Ev.step ?_
      simp only [spec_l20Take.step]
      exact Ev.yes rfl (Ev.pure' (by rw [nodeN, if_neg (by rw [hb]; simp)]; rfl))
    refine Ev.step ?_
    simp only [spec_l20Take.step, toNat_cast]
    refine Ev.cnd (fun c => bad (by rw [show decide (i < l.length) = false from decide_eq_false (by have := of_decide_eq_true c; omega)]; rfl)) fun c => ?_
    have hlt : i < l.length := by have := of_decide_eq_false c; omega
    refine Ev.no (by simp only [decide_eq_false_iff_not]; omega) (Ev.yes (inB_nat hlt) (Ev.cnd (fun c => bad ?_) fun c => Ev.yes (inB_nat hlt) (Ev.bind (spec_l20Route.ev _ (h.2 _ (getD_mem hlt))) ?_)))
    · rw [show decide (0 ≤ kidsOf l i) = false from decide_eq_false (Int.not_le.mpr (of_decide_eq_true c)), Bool.and_false]; rfl
    have k0 : 0 ≤ kidsOf l i := Int.not_lt.mp (of_decide_eq_false c)
    cases hr : routeB (l.getD i default) with
    | false => exact bad (by rw [hr, Bool.and_false])
    | true =>
      refine Ev.step ?_
      simp only [spec_l20Take.step, i64_nat (show i ≤ 4611686018427387904 by omega)]
      refine Ev.no rfl ?_
      rw [nodeN, if_pos (by rw [decide_eq_true hlt, decide_eq_true k0, hr]; rfl)]
      obtain ⟨m, hm⟩ : ∃ m : Nat, kidsOf l i = (m : Int) := ⟨(kidsOf l i).toNat, by omega⟩
      rw [hm]
      have hm2 : (l.getD i default).2.2.2.2.2.2.2.2.1 = (m : Int) := hm
      have key : ∀ e c p, c + e = m → c ≤ p → p ≤ l.length → Ev (fun n => goRec (fun n K => spec_l20Take.step n (fun x => K (.p0 x.1 x.2.1 x.2.2.1)) K) n (spec_l20Take.Pt.p17 l (i : Int) (deep : Int) (p : Int) (c : Int))) (tkV (manyN (nodeN l routeB d) e p)) := by
        intro e
        induction e with
        | zero =>
          intro c p hc hcp hp
          obtain rfl : c = m := by omega
          refine Ev.step ?_
          simp only [spec_l20Take.step, toNat_cast, hm2]
          exact Ev.yes (inB_nat hlt) (Ev.no lt_no Ev.pure)
        | succ e ihe =>
          intro c p hc hcp hp
          refine Ev.step ?_
          simp only [spec_l20Take.step, toNat_cast, hm2, i64_nat (show c ≤ 4611686018427387904 by omega), i64_nat (show deep ≤ 4611686018427387904 by omega)]
          refine Ev.yes (inB_nat hlt) (Ev.yes (lt_yes (by omega)) (Ev.bind (ih (deep + 1) p (by omega) hp) ?_))
          simp only [manyN]
          cases hn : nodeN l routeB d p with
          | none => exact Ev.yes rfl Ev.pure
          | some q =>
            have := nodeN_lt _ _ _ hn
            refine Ev.no (decide_eq_false (by show ¬ ((q : Int) < 0); omega)) ?_
            exact ihe (c + 1) q (by omega) (by omega) this.2
      exact key m 0 (i + 1) (by omega) (by omega) (by omega)
theorem spec_GoodRoutes.ev (l : List RTE) (h : Sm 1048576 (.sl false RTU) l) : Ev (fun n => spec_GoodRoutes n l) (routesB l) := by
  refine Ev.step ?_
  simp only [spec_GoodRoutes.step]
  refine Ev.cnd (fun c => ?_) fun c => Ev.pure' ?_
  case refine_2 =>
    have : l.length = 0 := by have := of_decide_eq_false c; omega
    simp [routesB, this]
  have h0 : l.length ≠ 0 := by have := of_decide_eq_true c; omega
  refine Ev.cnd (fun c => ?_) fun c => Ev.pure' ?_
  case refine_2 =>
    have : ¬ l.length ≤ 40 := by have := of_decide_eq_false c; omega
    simp [routesB, this]
  have h40 : l.length ≤ 40 := by have := of_decide_eq_true c; omega
  refine Ev.bind (spec_l20Take.ev l h40 h 8 1 0 rfl (by omega)) ?_
  have e : decide (tkV (nodeN l routeB 8 0) = (l.length : Int)) = decide (nodeN l routeB 8 0 = some l.length) := by
    cases nodeN l routeB 8 0 with
    | none =>
      refine decide_eq_decide.2 ⟨fun hh => ?_, fun hh => by cases hh⟩
      have hh : (-1 : Int) = (l.length : Int) := hh
      omega
    | some q =>
      refine decide_eq_decide.2 ?_
      show (q : Int) = (l.length : Int) ↔ some q = some l.length
      rw [Option.some.injEq]
      omega
  rw [e]
  simp only [show (0 : Int).toNat = 0 from rfl]
  refine Ev.cnd (fun c => Ev.yes (inB_zero (by omega)) (Ev.cnd (fun c2 => Ev.yes (inB_zero (by omega)) (Ev.pure' ?_)) fun c2 => Ev.pure' ?_)) fun c => Ev.pure' ?_
  · have c2 : (l.getD 0 default).2.1.length = 0 := by have := of_decide_eq_true c2; omega
    rw [routesB, c, decide_eq_true h0, decide_eq_true h40, decide_eq_true c2]; rfl
  · have c2 : ¬ (l.getD 0 default).2.1.length = 0 := by have := of_decide_eq_false c2; omega
    rw [routesB, decide_eq_false c2, Bool.false_and, Bool.and_false]
  · rw [routesB, c, Bool.and_false, Bool.false_and]
theorem spec_l2Value.ev (s : ByteArray) (hs : s.size ≤ 1048576) : Ev (fun n => spec_l2Value n s) (valueB s) := by
  refine Ev.step ?_
  simp only [spec_l2Value.step]
  refine Ev.cnd (fun e => Ev.cnd (fun e2 => Ev.bind (spec_l2Printed.ev _ hs) (Ev.pure' ?_)) fun e2 => Ev.pure' ?_) fun e => Ev.pure' ?_
  · have a1 : 1 ≤ s.size := by simp at e; omega
    have a2 : s.size ≤ 100 := by simp at e2; omega
    simp [valueB, a1, a2]
  · have a2 : ¬ s.size ≤ 100 := by simp at e2; omega
    simp [valueB, a2]
  · have a1 : ¬ 1 ≤ s.size := by simp at e; omega
    simp [valueB, a1]
theorem spec_GoodLabels.ev (l : List LB) (h : Sm 1048576 (.sl false LU) l) : Ev (fun n => spec_GoodLabels n l) (labelsB l) := by
  have hl : l.length ≤ 1048576 := h.1
  refine Ev.step ?_
  simp only [spec_GoodLabels.step]
  refine Ev.cnd (fun c => Ev.pure' ?_) fun c => ?_
  · have : ¬ l.length ≤ 20 := by simp at c; omega
    simp [labelsB, this]
  have h50 : l.length ≤ 20 := by simp at c; omega
  simp only [labelsB, h50, decide_true, Bool.true_and]
  have go : ∀ i v, i < l.length → (labB l i = true → Ev (fun n => goRec spec_GoodLabels.step n (spec_GoodLabels.Pt.p15 l l (l.length : Int) ((i + 1 : Nat) : Int))) v) → (labB l i = false → v = false) →
      Ev (fun n => goRec spec_GoodLabels.step n (spec_GoodLabels.Pt.p15 l l (l.length : Int) (i : Int))) v := by
    intro i v hi hv hv2
    have hx := h.2 _ (getD_mem (d := default) hi)
    have hs := (labB.eq_1 l i).symm
    have h26 : ∀ b, (b = !labB l i) → Ev (fun n => goRec spec_GoodLabels.step n (spec_GoodLabels.Pt.p26 l l (l.length : Int) (i : Int) b)) v := by
      rintro b rfl
      refine Ev.step ?_
      simp only [spec_GoodLabels.step, i64_nat (show i ≤ 4611686018427387904 by omega)]
      exact Ev.cnd (fun e => Ev.pure' (hv2 (by simpa using e)).symm) fun e => hv (by simpa using e)
    refine Ev.step ?_
    simp only [spec_GoodLabels.step, toNat_cast]
    generalize hxe : l.getD i default = x at hx hs
    have bad : labB l i = false → Ev (fun n => goRec spec_GoodLabels.step n (spec_GoodLabels.Pt.p26 l l (l.length : Int) (i : Int) true)) v := fun e => h26 _ (by rw [e]; rfl)
    refine Ev.yes (lt_yes hi) (Ev.yes (inB_nat hi) ?_)
    refine Ev.bind (spec_l2Name.ev _ hx.1) (Ev.cnd (fun e => bad (by rw [← hs]; simp at e; simp [e])) fun e1 => ?_)
    refine Ev.bind (spec_l2Value.ev _ hx.2.1) (Ev.cnd (fun e => bad (by rw [← hs]; simp at e; simp [e])) fun e2 => ?_)
    simp at e1 e2
    cases i with
    | zero => exact Ev.no (by simp) (h26 _ (by rw [← hs]; simp [e1, e2]))
    | succ k =>
      refine Ev.yes (by simp) ?_
      simp only [i64_pred (show k ≤ 4611686018427387904 by omega), toNat_cast]
      refine Ev.yes (inB_nat (by omega)) (Ev.bind (spec_l2CmpText.ev _ _ (h.2 _ (getD_mem (by omega))).1 hx.1) (h26 _ ?_))
      rw [← hs]; simp [e1, e2]
      rw [← decide_not]
      exact decide_eq_decide.2 (by omega)
  refine Ev.allN (pt := fun i : Nat => spec_GoodLabels.Pt.p15 l l (l.length : Int) (i : Int)) (fun i hi => ⟨fun hp v hv => go i v hi (fun _ => hv) (fun h => by rw [hp] at h; cases h), fun hp => go i false hi (fun h => by rw [hp] at h; cases h) (fun _ => rfl)⟩) ?_
  refine Ev.step ?_
  simp only [spec_GoodLabels.step]
  exact Ev.no lt_no Ev.pure
theorem spec_l2Of.loop (l : List LB) (k : ByteArray) (hl : l.length ≤ 1048576) : ∀ d i, i + d = l.length → Ev (fun n => goRec spec_l2Of.step n (spec_l2Of.Pt.p7 k l (l.length : Int) (i : Int))) (valL (l.drop i) k) := by
  intro d
  induction d with
  | zero =>
    intro i h
    obtain rfl : i = l.length := by omega
    refine Ev.step ?_
    simp only [spec_l2Of.step]
    exact Ev.no lt_no (Ev.pure' (by rw [List.drop_length]; rfl))
  | succ d ih =>
    intro i h
    have hi : i < l.length := by omega
    refine Ev.step ?_
    simp only [spec_l2Of.step, toNat_cast, i64_nat (show i ≤ 4611686018427387904 by omega)]
    rw [drop_getD hi]
    refine Ev.yes (lt_yes hi) (Ev.yes (inB_nat hi) (Ev.cnd (fun c => Ev.pure' ?_) fun c => Ev.of_eq (ih (i + 1) (by omega)) ?_))
    · simp only [valL, c, cond_true]
    · simp only [valL, c, cond_false]
theorem spec_l2Of.ev (l : List LB) (k : ByteArray) (hl : l.length ≤ 1048576) : Ev (fun n => spec_l2Of n l k) (valL l k) := by
  refine Ev.step ?_
  simp only [spec_l2Of.step]
  exact spec_l2Of.loop l k hl l.length 0 (by omega)
theorem spec_l2Rest.row (p : List Int) (s : ByteArray) (j : Nat) (hs : s.size ≤ 1048576) (hj : j < p.length) (hp : p.length ≤ 1048576) (y5 : List Bool) (h5 : y5.length = s.size + 1) (c5 : ∀ k, k ≤ s.size → y5.getD k default = cellM p s (j + 1) k)
    (v : List Bool) (hv : ∀ y6 : List Bool, y6.length = s.size + 1 → (∀ k, k ≤ s.size → y6.getD k default = cellM p s j k) → Ev (fun n => goRec spec_l2Rest.step n (spec_l2Rest.Pt.p11 p s ((j : Int) - 1) y6)) v) :
    ∀ i, i ≤ s.size + 1 → ∀ y6 : List Bool, y6.length = s.size + 1 → (∀ k, i ≤ k → k ≤ s.size → y6.getD k default = cellM p s j k) → Ev (fun n => goRec spec_l2Rest.step n (spec_l2Rest.Pt.p26 p s (j : Int) ((i : Int) - 1) y5 y6)) v := by
  intro i
  induction i with
  | zero =>
    intro _ y6 h6 c6
    refine Ev.step ?_
    simp only [spec_l2Rest.step, i64_down (show j ≤ 4611686018427387904 by omega)]
    exact Ev.no (by simp) (hv y6 h6 fun k hk => c6 k (by omega) hk)
  | succ i ih =>
    intro hi y6 h6 c6
    have e1 : ((i + 1 : Nat) : Int) - 1 = (i : Int) := by omega
    have his : i ≤ s.size := by omega
    rw [e1]
    have next : ∀ b, b = cellM p s j i → Ev (fun n => goRec spec_l2Rest.step n (spec_l2Rest.Pt.p26 p s (j : Int) ((i : Int) - 1) y5 (y6.set i b))) v := by
      rintro b rfl
      refine ih (by omega) _ (by simpa using h6) fun k hk1 hk2 => ?_
      by_cases e : k = i
      · subst e; rw [getD_set_same (by omega)]
      · rw [getD_set_other e]; exact c6 k (by omega) hk2
    refine Ev.step ?_
    simp only [spec_l2Rest.step, i64_down (show i ≤ 4611686018427387904 by omega), i64_nat (show i ≤ 4611686018427387904 by omega), toNat_cast, Nat.zero_add, i64_bt]
    refine Ev.yes (by simp) (Ev.yes (inB_nat hj) (Ev.cnd (fun c => ?_) fun c => ?_))
    · have c : p.getD j default = -1 := by simpa using c
      have hc := cell_star hj his c
      refine Ev.yes (inB_nat (by omega)) (Ev.cnd (fun d => Ev.yes (inB_nat (by omega)) (next _ ?_)) fun d => Ev.cnd (fun f => Ev.yes (inB_nat ?_) (Ev.yes (inB_nat (by omega)) (next _ ?_))) fun f => Ev.yes (inB_nat (by omega)) (next _ ?_))
      · rw [c5 i his] at d; rw [hc, d]; rfl
      · have : i < s.size := by simp at f; omega
        omega
      · have hf : i < s.size := by simp at f; omega
        rw [c5 i his] at d; rw [hc, d, c6 (i + 1) (by omega) (by omega)]; simp [hf]
      · have hf : ¬ i < s.size := by simp at f; omega
        rw [c5 i his] at d; rw [hc, d]; simp [hf]
    · have c : p.getD j default ≠ -1 := by simpa using c
      refine Ev.cnd (fun f => ?_) fun f => Ev.yes (inB_nat (by omega)) (next _ ?_)
      · have hf : i < s.size := by simp at f; omega
        have hc := cell_one hj hf c
        refine Ev.yes (inB_nat (by omega)) ?_
        rw [c5 (i + 1) (by omega)]
        refine Ev.cnd (fun d => Ev.yes (inB_nat hj) (Ev.cnd (fun g => Ev.yes (inB_nat (by omega)) (next _ ?_)) fun g => Ev.yes (inB_nat hj) (Ev.yes (inB_nat hf) (Ev.yes (inB_nat (by omega)) (next _ ?_))))) fun d => Ev.yes (inB_nat (by omega)) (next _ ?_)
        · rw [hc, d, g]; rfl
        · rw [hc, d, g]; simp
        · rw [hc, d]; simp
      · have hf : i = s.size := by simp at f; omega
        rw [hf, cell_no hj c]
theorem spec_l2Rest.rows (p : List Int) (s : ByteArray) (hs : s.size ≤ 1048576) (hp : p.length ≤ 1048576) : ∀ j, j ≤ p.length → ∀ y4 : List Bool, y4.length = s.size + 1 → (∀ k, k ≤ s.size → y4.getD k default = cellM p s j k) →
    ∃ r : List Bool, r.length = s.size + 1 ∧ r.getD 0 default = mt p (octs s) ∧ Ev (fun n => goRec spec_l2Rest.step n (spec_l2Rest.Pt.p11 p s ((j : Int) - 1) y4)) r := by
  intro j
  induction j with
  | zero =>
    intro _ y4 h4 c4
    refine ⟨y4, h4, by rw [c4 0 (by omega)]; rfl, Ev.step ?_⟩
    simp only [spec_l2Rest.step]
    exact Ev.no (by simp) Ev.pure
  | succ j ih =>
    intro hj y4 h4 c4
    obtain ⟨r, hr, hr0, he⟩ : ∃ r : List Bool, r.length = s.size + 1 ∧ r.getD 0 default = mt p (octs s) ∧ ∀ y6 : List Bool, y6.length = s.size + 1 → (∀ k, k ≤ s.size → y6.getD k default = cellM p s j k) → Ev (fun n => goRec spec_l2Rest.step n (spec_l2Rest.Pt.p11 p s ((j : Int) - 1) y6)) r := by
      obtain ⟨r, hr, hr0, he⟩ := ih (by omega) ((List.range (s.size + 1)).map fun k => cellM p s j k) (by simp) (fun k hk => by simp [List.getD_eq_getElem?_getD, List.getElem?_range (show k < s.size + 1 by omega)])
      refine ⟨r, hr, hr0, fun y6 h6 c6 => ?_⟩
      have : y6 = (List.range (s.size + 1)).map fun k => cellM p s j k := by
        refine ext_getD (d := default) (by simp [h6]) fun k hk => ?_
        simp only [List.length_map, List.length_range] at hk
        rw [c6 k (by omega)]
        simp [List.getD_eq_getElem?_getD, List.getElem?_range hk]
      rw [this]; exact he
    refine ⟨r, hr, hr0, Ev.step ?_⟩
    have e1 : ((j + 1 : Nat) : Int) - 1 = (j : Int) := by omega
    have e2 : IntKind.wrap .i64 ((s.size : Int) + 1) = ((s.size + 1 : Nat) : Int) := i64_nat (by omega)
    rw [e1]
    simp only [spec_l2Rest.step, e2, toNat_cast]
    refine Ev.yes (by simp) (Ev.yes (inC_eq (by omega)) ?_)
    have := spec_l2Rest.row p s j hs (by omega) hp y4 h4 c4 r he (s.size + 1) (Nat.le_refl _) (List.replicate (s.size + 1) default) (by simp) (fun k h1 h2 => by omega)
    rwa [show ((s.size + 1 : Nat) : Int) - 1 = (s.size : Int) by omega] at this
theorem spec_l2Rest.ev (p : List Int) (s : ByteArray) (hs : s.size ≤ 1048576) (hp : p.length ≤ 1048576) : ∃ r : List Bool, r.length = s.size + 1 ∧ r.getD 0 default = mt p (octs s) ∧ Ev (fun n => spec_l2Rest n p s) r := by
  obtain ⟨r, h1, h2, h3⟩ := spec_l2Rest.rows p s hs hp p.length (Nat.le_refl _) ((List.replicate (s.size + 1) default).set s.size true) (by simp) (fun k hk => by
    rw [cell_end hk]
    by_cases e : k = s.size
    · subst e; rw [getD_set_same (by simp)]; simp
    · rw [getD_set_other e]; simp [e, List.getD_eq_getElem?_getD, List.getElem?_replicate, show k < s.size + 1 by omega])
  refine ⟨r, h1, h2, Ev.step ?_⟩
  have e2 : IntKind.wrap .i64 ((s.size : Int) + 1) = ((s.size + 1 : Nat) : Int) := i64_nat (by omega)
  have e3 : IntKind.wrap .i64 ((p.length : Int) - 1) = (p.length : Int) - 1 := i64_down (by omega)
  simp only [spec_l2Rest.step, e2, e3, toNat_cast, Nat.zero_add]
  exact Ev.yes (inC_eq (by omega)) (Ev.yes (inB_nat (by simp)) h3)
theorem spec_l2Fits.ev (p s : ByteArray) (hp : p.size ≤ 1048576) (hs : s.size ≤ 1048576) : Ev (fun n => spec_l2Fits n p s) (fitsP p s) := by
  refine Ev.step ?_
  simp only [spec_l2Fits.step]
  refine Ev.bind (spec_l2Alternatives.ev p hp) ?_
  rw [fitsP]
  cases ha : alts p with
  | none =>
    refine Ev.step ?_
    simp only [spec_l2Fits.step, altR]
    exact Ev.no (by simp) Ev.pure
  | some l =>
    obtain ⟨hl, hl2⟩ := alts_len ha
    simp only [altR]
    have key : ∀ d i, i + d = l.length → Ev (fun n => goRec spec_l2Fits.step n (spec_l2Fits.Pt.p9 s (l.length : Int) (i : Int) l)) ((List.range' i d).any fun i => mt (l.getD i default) (octs s)) := by
      intro d
      induction d with
      | zero =>
        intro i h
        obtain rfl : i = l.length := by omega
        refine Ev.step ?_
        simp only [spec_l2Fits.step]
        exact Ev.no lt_no (Ev.pure' rfl)
      | succ d ih =>
        intro i h
        have hi : i < l.length := by omega
        refine Ev.step ?_
        simp only [spec_l2Fits.step, toNat_cast, Nat.zero_add, i64_nat (show i ≤ 4611686018427387904 by omega)]
        obtain ⟨r, h1, h2, h3⟩ := spec_l2Rest.ev (l.getD i default) s hs (by have := hl2 _ (getD_mem hi (d := default)); omega)
        refine Ev.yes (lt_yes hi) (Ev.yes (inB_nat hi) (Ev.bind h3 (Ev.yes (inB_zero (by omega)) ?_)))
        simp only [List.range'_succ, List.any_cons]
        rw [show (0 : Int).toNat = 0 from rfl, h2]
        refine Ev.cnd (fun c => Ev.pure' (by rw [c]; rfl)) fun c => Ev.of_eq (ih (i + 1) (by omega)) (by rw [c]; rfl)
    have := key l.length 0 (by omega)
    rwa [← List.range_eq_range'] at this
theorem spec_l2Match.ev (x : MT) (v : ByteArray) (hx : Sm 1048576 MU x) (hv : v.size ≤ 100) : Ev (fun n => spec_l2Match n x v) (matchOne x v) := by
  refine Ev.step ?_
  simp only [spec_l2Match.step]
  have hf := spec_l2Fits.ev x.2.2.1 v hx.2.2.1 (by omega)
  refine Ev.cnd (fun c => Ev.pure' ?_) fun c => Ev.cnd (fun c2 => Ev.pure' ?_) fun c2 => Ev.cnd (fun c3 => Ev.bind hf (Ev.pure' ?_)) fun c3 => Ev.bind hf (Ev.pure' ?_)
  · rw [matchOne, if_pos (of_decide_eq_true c)]
  · rw [matchOne, if_neg (of_decide_eq_false c), if_pos (of_decide_eq_true c2)]
  · rw [matchOne, if_neg (of_decide_eq_false c), if_neg (of_decide_eq_false c2), if_pos (of_decide_eq_true c3)]
  · rw [matchOne, if_neg (of_decide_eq_false c), if_neg (of_decide_eq_false c2), if_neg (of_decide_eq_false c3)]
theorem spec_l2All.ev (ms : List MT) (l : List LB) (hm : Sm 1048576 (.sl false MU) ms) (hl : l.length ≤ 1048576) (hv : labelsB l = true) : Ev (fun n => spec_l2All n ms l) (fitsB ms l) := by
  have hml : ms.length ≤ 1048576 := hm.1
  refine Ev.step ?_
  simp only [spec_l2All.step]
  refine Ev.allN (pt := fun i : Nat => spec_l2All.Pt.p7 l ms (ms.length : Int) (i : Int)) (fun i hi => ⟨fun hp v hv' => ?_, fun hp => ?_⟩) ?_
  · refine Ev.step ?_
    simp only [spec_l2All.step, toNat_cast, i64_nat (show i ≤ 4611686018427387904 by omega)]
    exact Ev.yes (lt_yes hi) (Ev.yes (inB_nat hi) (Ev.bind (spec_l2Of.ev _ _ hl) (Ev.bind (spec_l2Match.ev _ _ (hm.2 _ (getD_mem hi)) (labelsB_small hv)) (Ev.no (by rw [hp]; rfl) hv'))))
  · refine Ev.step ?_
    simp only [spec_l2All.step, toNat_cast]
    exact Ev.yes (lt_yes hi) (Ev.yes (inB_nat hi) (Ev.bind (spec_l2Of.ev _ _ hl) (Ev.bind (spec_l2Match.ev _ _ (hm.2 _ (getD_mem hi)) (labelsB_small hv)) (Ev.yes (by rw [hp]; rfl) Ev.pure))))
  · refine Ev.step ?_
    simp only [spec_l2All.step]
    exact Ev.no lt_no Ev.pure
theorem spec_l20For.ev (l : List RTE) (t : List LB) (hl : l.length ≤ 40) (h : Sm 1048576 (.sl false RTU) l) (ht : labelsB t = true) (ht2 : t.length ≤ 1048576) : ∀ d i n, d ≤ 8 → nodeN l routeB d i = some n → ∀ out : List Int, out.length ≤ i → Ev (fun m => spec_l20For m l (i : Int) t out) (out ++ takeN l t d i) := by
  intro d
  induction d with
  | zero => intro i n _ hn; simp [nodeN] at hn
  | succ d ih =>
    intro i n hd hn out ho
    have hlt := nodeN_lt _ _ _ hn
    have hn0 := hn
    simp only [nodeN] at hn
    split at hn
    case isFalse => cases hn
    rename_i hc
    simp only [Bool.and_eq_true, decide_eq_true_eq] at hc
    obtain ⟨m, hm⟩ : ∃ m : Nat, kidsOf l i = (m : Int) := ⟨(kidsOf l i).toNat, by omega⟩
    have hm2 : (l.getD i default).2.2.2.2.2.2.2.2.1 = (m : Int) := hm
    rw [hm, Int.toNat_natCast] at hn
    have key : ∀ e c p go (o : List Int), c + e = m → c ≤ p → i < p → o.length ≤ p → out.length ≤ o.length → manyN (nodeN l routeB d) e p = some n →
        Ev (fun k => goRec (fun n K => spec_l20For.step n (fun x => K (.p0 x.1 x.2.1 x.2.2.1 x.2.2.2.1)) K) k (spec_l20For.Pt.p13 l (i : Int) t (out.length : Int) (p : Int) go (c : Int) o))
          (if (o ++ takeK (nodeN l routeB d) (takeN l t d) (fitI l t) (onB l) e p go).length = out.length then (o ++ takeK (nodeN l routeB d) (takeN l t d) (fitI l t) (onB l) e p go) ++ [(i : Int)] else o ++ takeK (nodeN l routeB d) (takeN l t d) (fitI l t) (onB l) e p go) := by
      intro e
      induction e with
      | zero =>
        intro c p go o hce hcp hip hop hoo hp
        obtain rfl : c = m := by omega
        refine Ev.step ?_
        simp only [spec_l20For.step, toNat_cast, hm2, takeK, List.append_nil]
        refine Ev.yes (inB_nat hc.1.1) (Ev.no lt_no (Ev.cnd (fun e => Ev.yes (room_ok (by simp only [manyN, Option.some.injEq] at hp; simp; omega)) (Ev.pure' ?_)) fun e => Ev.pure' ?_))
        · simp only [decide_eq_true_eq] at e; rw [if_pos (by omega)]
        · simp only [decide_eq_false_iff_not] at e; rw [if_neg (by omega)]
      | succ e ihe =>
        intro c p go o hce hcp hip hop hoo hp
        simp only [manyN] at hp
        cases hq : nodeN l routeB d p with
        | none => rw [hq] at hp; cases hp
        | some q =>
          rw [hq] at hp
          have hpq := nodeN_lt _ _ _ hq
          have hp2 : p < l.length := by omega
          have take := spec_l20Take.ev l hl h 8 1 p rfl (by omega)
          rw [nodeN_to hq (show d ≤ 8 by omega)] at take
          have goOn : ∀ b, b = (go && fitI l t p) → Ev (fun k => goRec (fun n K => spec_l20For.step n (fun x => K (.p0 x.1 x.2.1 x.2.2.1 x.2.2.2.1)) K) k (spec_l20For.Pt.p25 l (i : Int) t (out.length : Int) (p : Int) go (c : Int) (q : Int) b o))
              (if (o ++ takeK (nodeN l routeB d) (takeN l t d) (fitI l t) (onB l) (e + 1) p go).length = out.length then (o ++ takeK (nodeN l routeB d) (takeN l t d) (fitI l t) (onB l) (e + 1) p go) ++ [(i : Int)] else o ++ takeK (nodeN l routeB d) (takeN l t d) (fitI l t) (onB l) (e + 1) p go) := by
            rintro b rfl
            refine Ev.step ?_
            simp only [spec_l20For.step, toNat_cast, i64_nat (show c ≤ 4611686018427387904 by omega), takeK, hq, Option.getD_some]
            refine Ev.cnd (fun e1 => ?_) fun e1 => ?_
            · have hin := (takeN_in (t := t) _ _ _ hq).2
              refine Ev.bind (ih p q (by omega) hq o hop) (Ev.yes (inB_nat hp2) ?_)
              have := ihe (c + 1) q (onB l p) (o ++ takeN l t d p) (by omega) (by omega) (by omega) (by have := hin.2.2; simp; omega) (by simp; omega) hp
              rw [if_pos e1, ← List.append_assoc]
              exact this
            · have := ihe (c + 1) q go o (by omega) (by omega) (by omega) (by omega) hoo hp
              rw [if_neg (show ¬ ((go && fitI l t p) = true) by rw [e1]; simp)]
              exact this
          refine Ev.step ?_
          simp only [spec_l20For.step, toNat_cast, hm2]
          refine Ev.yes (inB_nat hc.1.1) (Ev.yes (lt_yes (by omega)) (Ev.bind take (Ev.cnd (fun e1 => Ev.yes (inB_nat hp2) (Ev.bind (spec_l2All.ev _ t (h.2 _ (getD_mem hp2)).2.1 ht2 ht) (goOn _ (by rw [e1]; rfl)))) fun e1 => goOn _ (by rw [e1]; rfl))))
    refine Ev.step ?_
    simp only [spec_l20For.step, i64_nat (show i ≤ 4611686018427387904 by omega)]
    refine Ev.of_eq (key m 0 (i + 1) true out (by omega) (by omega) (by omega) (by omega) (Nat.le_refl _) hn) ?_
    rw [takeN, hm, Int.toNat_natCast]
    generalize takeK (nodeN l routeB d) (takeN l t d) (fitI l t) (onB l) m (i + 1) true = r
    cases r with
    | nil => simp
    | cons x r => simp
theorem spec_RoutesFor.ev (l : List RTE) (t : List LB) (hl : Sm 1048576 (.sl false RTU) l) (ht : Sm 1048576 (.sl false LU) t) : Ev (fun n => spec_RoutesFor n l t) (forF l t) := by
  refine Ev.step ?_
  simp only [spec_RoutesFor.step]
  refine Ev.bind (spec_GoodRoutes.ev _ hl) (Ev.cnd (fun e => Ev.pure' ?_) fun e1 => Ev.bind (spec_GoodLabels.ev _ ht) (Ev.cnd (fun e => Ev.pure' ?_) fun e2 => ?_))
  · rw [Bool.not_eq_true'] at e; rw [forF, e]; rfl
  · rw [Bool.not_eq_true'] at e; rw [forF, e]; simp
  rw [Bool.not_eq_false'] at e1 e2
  have ha := routesB_all e1
  refine Ev.bind (spec_l20For.ev l t ha.1 hl e2 ht.1 8 0 _ (Nat.le_refl _) ha.2.1 [] (by simp)) (Ev.pure' ?_)
  rw [forF, e1, e2]; rfl
theorem impl_depths_1.ev (l : List RTE) (hl : l.length ≤ 40) : ∀ d (deep : Nat) (out : List Int), deep + d = 8 → out.length ≤ l.length →
    EvP (fun n => impl_depths_1 n (deep : Int) out l ()) (fun r => match nodeN l smallB d out.length with | some q => r.1 = true ∧ r.2.length = q | none => r.1 = false) := by
  intro d
  induction d with
  | zero =>
    intro deep out hd ho
    have fin : ∀ b, b = true → EvP (fun n => goRec (fun n K => impl_depths_1.step n (fun x => K (.p0 x.1 x.2.1 x.2.2.1 x.2.2.2.1)) K) n (impl_depths_1.Pt.p4 (deep : Int) b l out)) (fun r => match nodeN l smallB 0 out.length with | some q => r.1 = true ∧ r.2.length = q | none => r.1 = false) := by
      rintro b rfl
      refine EvP.step ?_
      simp only [impl_depths_1.step]
      exact EvP.yes rfl (EvP.pure rfl)
    refine EvP.step ?_
    simp only [impl_depths_1.step]
    exact EvP.cnd (fun _ => fin _ rfl) fun _ => fin _ (by simp only [decide_eq_true_eq]; omega)
  | succ d ih =>
    intro deep out hd ho
    refine EvP.step ?_
    simp only [impl_depths_1.step]
    refine EvP.cnd (fun c => ?_) fun c => ?_
    · have c : out.length = l.length := by have := of_decide_eq_true c; omega
      refine EvP.step ?_
      simp only [impl_depths_1.step]
      refine EvP.yes rfl (EvP.pure ?_)
      rw [nodeN, if_neg (by simp; omega)]
    have hlt : out.length < l.length := by have := of_decide_eq_false c; omega
    rw [show decide ((8 : Int) ≤ (deep : Int)) = false by simp only [decide_eq_false_iff_not]; omega]
    refine EvP.step ?_
    simp only [impl_depths_1.step, toNat_cast]
    refine EvP.no rfl (EvP.yes (inB_nat hlt) (EvP.yes (room_ok (by simp; omega)) ?_))
    have bad : ∀ b, b = true → (decide (0 ≤ kidsOf l out.length) && smallB (l.getD out.length default)) = false → EvP (fun n => goRec (fun n K => impl_depths_1.step n (fun x => K (.p0 x.1 x.2.1 x.2.2.1 x.2.2.2.1)) K) n (impl_depths_1.Pt.p16 (deep : Int) (kidsOf l out.length) b l (out ++ [(deep : Int)]))) (fun r => match nodeN l smallB (d + 1) out.length with | some q => r.1 = true ∧ r.2.length = q | none => r.1 = false) := by
      rintro b rfl hb
      refine EvP.step ?_
      simp only [impl_depths_1.step]
      refine EvP.yes rfl (EvP.pure ?_)
      rw [nodeN, if_neg (by rw [Bool.and_assoc, hb]; simp)]
    refine EvP.cnd (fun c => bad _ rfl ?_) fun c => ?_
    · rw [show decide (0 ≤ kidsOf l out.length) = false from decide_eq_false (Int.not_le.mpr (of_decide_eq_true c))]; rfl
    have k0 : 0 ≤ kidsOf l out.length := by have := of_decide_eq_false c; simp only [kidsOf]; omega
    by_cases hs : smallB (l.getD out.length default) = true
    case neg =>
      rw [Bool.not_eq_true] at hs
      refine bad _ ?_ (by rw [hs]; simp)
      simp only [smallB, decide_eq_false_iff_not] at hs
      simp only [decide_eq_true_eq]; omega
    have hk : kidsOf l out.length ≤ 40 := of_decide_eq_true hs
    rw [show decide ((40 : Int) < (l.getD out.length default).2.2.2.2.2.2.2.2.1) = false from decide_eq_false (Int.not_lt.mpr hk)]
    refine EvP.step ?_
    simp only [impl_depths_1.step]
    refine EvP.no rfl ?_
    rw [nodeN, if_pos (by rw [decide_eq_true hlt, decide_eq_true k0, hs]; rfl)]
    obtain ⟨m, hm⟩ : ∃ m : Nat, kidsOf l out.length = (m : Int) := ⟨(kidsOf l out.length).toNat, by omega⟩
    have key : ∀ e i (o : List Int), i + e = m → o.length ≤ l.length → EvP (fun n => goRec (fun n K => impl_depths_1.step n (fun x => K (.p0 x.1 x.2.1 x.2.2.1 x.2.2.2.1)) K) n (impl_depths_1.Pt.p27 (deep : Int) (m : Int) (i : Int) l o)) (fun r => match manyN (nodeN l smallB d) e o.length with | some q => r.1 = true ∧ r.2.length = q | none => r.1 = false) := by
      intro e
      induction e with
      | zero =>
        intro i o hi ho
        obtain rfl : i = m := by omega
        refine EvP.step ?_
        simp only [impl_depths_1.step]
        exact EvP.no lt_no (EvP.pure ⟨rfl, rfl⟩)
      | succ e ihe =>
        intro i o hi ho
        refine EvP.step ?_
        simp only [impl_depths_1.step, i64_nat (show i ≤ 4611686018427387904 by omega), i64_nat (show deep ≤ 4611686018427387904 by omega)]
        refine EvP.yes (lt_yes (by omega)) (EvP.bindP (ih (deep + 1) o (by omega) ho) fun r hr => ?_)
        simp only [manyN]
        cases hn : nodeN l smallB d o.length with
        | none =>
          rw [hn] at hr
          exact EvP.yes (by rw [hr]; rfl) (EvP.pure rfl)
        | some q =>
          rw [hn] at hr
          obtain ⟨r1, r2⟩ := hr
          refine EvP.no (by rw [r1]; rfl) ?_
          have := ihe (i + 1) r.2 (by omega) (by rw [r2]; exact (nodeN_lt _ _ _ hn).2)
          rw [r2] at this
          exact this
    have := key m 0 (out ++ [(deep : Int)]) (by omega) (by simp; omega)
    rw [show (out ++ [(deep : Int)]).length = out.length + 1 by simp] at this
    rw [hm]
    have hm2 : (l.getD out.length default).2.2.2.2.2.2.2.2.1 = (m : Int) := hm
    rw [hm2]
    exact this
theorem impl_depths.ev (l : List RTE) : EvP (fun n => impl_depths n l) (fun r => r.isEmpty = !(decide (l.length ≠ 0) && decide (l.length ≤ 40) && decide (nodeN l smallB 8 0 = some l.length))) := by
  refine EvP.step ?_
  simp only [impl_depths.step]
  refine EvP.cnd (fun c => ?_) fun c => ?_
  · have c : l.length = 0 := by have := of_decide_eq_true c; omega
    refine EvP.step ?_
    simp only [impl_depths.step]
    exact EvP.yes rfl (EvP.pure (by simp [c]))
  have h0 : l.length ≠ 0 := by have := of_decide_eq_false c; omega
  refine EvP.step ?_
  simp only [impl_depths.step]
  refine EvP.cnd (fun c => EvP.pure ?_) fun c => ?_
  · have : ¬ l.length ≤ 40 := by have := of_decide_eq_true c; omega
    simp [this]
  have h40 : l.length ≤ 40 := by have := of_decide_eq_false c; omega
  refine EvP.bindP (impl_depths_1.ev l h40 8 0 [] rfl (by simp)) fun r hr => ?_
  simp only [List.length_nil] at hr
  cases hn : nodeN l smallB 8 0 with
  | none =>
    rw [hn] at hr
    exact EvP.yes (by rw [hr]; rfl) (EvP.pure (by simp))
  | some q =>
    rw [hn] at hr
    obtain ⟨r1, r2⟩ := hr
    refine EvP.no (by rw [r1]; rfl) (EvP.cnd (fun c => EvP.pure ?_) fun c => EvP.pure ?_)
    · rw [Bool.not_eq_true'] at c
      have c := of_decide_eq_false c
      have : q ≠ l.length := by omega
      simp [this]
    · rw [Bool.not_eq_false'] at c
      have c := of_decide_eq_true c
      have e : q = l.length := by omega
      have : r.2.isEmpty = false := by
        cases hr2 : r.2 with
        | nil => rw [hr2] at r2; simp at r2; omega
        | cons x y => rfl
      rw [this]
      simp [h0, h40, e]
theorem impl_digitByte.ev (b : Int) : Ev (fun n => impl_digitByte n b) (digitB b) := by
  refine Ev.step ?_
  simp only [impl_digitByte.step]
  exact Ev.cnd (fun h => Ev.pure' (by simp [digitB, h])) fun h => Ev.pure' (by simp [digitB, h])
theorem impl_letterByte.ev (b : Int) : Ev (fun n => impl_letterByte n b) (letterB b) := by
  refine Ev.step ?_
  simp only [impl_letterByte.step]
  refine Ev.cnd (fun h => Ev.cnd (fun h2 => Ev.pure' (by simp [letterB, h, h2])) fun h2 => Ev.cnd (fun h3 => Ev.pure' (by simp [letterB, h, h2, h3])) fun h3 => Ev.pure' (by simp [letterB, h, h2, h3])) fun h => Ev.cnd (fun h3 => Ev.pure' (by simp [letterB, h, h3])) fun h3 => Ev.pure' (by simp [letterB, h, h3])
theorem impl_wordByte.ev (b : Int) : Ev (fun n => impl_wordByte n b) (wordB b) := by
  refine Ev.step ?_
  simp only [impl_wordByte.step]
  refine Ev.bind (impl_letterByte.ev b) (Ev.cnd (fun h => Ev.pure' (by simp [wordB, h])) fun h => ?_)
  refine Ev.bind (impl_digitByte.ev b) (Ev.cnd (fun h2 => Ev.pure' (by simp [wordB, h2])) fun h2 => Ev.pure' (by simp [wordB, h, h2]))
theorem impl_isName.ev (s : ByteArray) (hs : s.size ≤ 1048576) : Ev (fun n => impl_isName n s) (nameB s) := by
  have go : Ev (fun n => goRec impl_isName.step n (impl_isName.Pt.p15 s (s.size : Int) 0)) (allB wordB s) := by
    refine Ev.allN (pt := fun i : Nat => impl_isName.Pt.p15 s (s.size : Int) (i : Int)) (fun i hi => ⟨fun hp v hv => ?_, fun hp => ?_⟩) ?_
    · refine Ev.step ?_
      simp only [impl_isName.step, i64_nat (show i ≤ 4611686018427387904 by omega)]
      exact Ev.yes (lt_yes hi) (Ev.yes (inB_nat hi) (Ev.bind (impl_wordByte.ev _) (Ev.no (by simp [hp]) hv)))
    · refine Ev.step ?_
      simp only [impl_isName.step]
      exact Ev.yes (lt_yes hi) (Ev.yes (inB_nat hi) (Ev.bind (impl_wordByte.ev _) (Ev.yes (by simp [hp]) Ev.pure)))
    · refine Ev.step ?_
      simp only [impl_isName.step]
      exact Ev.no lt_no Ev.pure
  refine Ev.step ?_
  simp only [impl_isName.step]
  have bad : nameB s = false → Ev (fun n => goRec impl_isName.step n (impl_isName.Pt.p4 s true)) (nameB s) := fun h => by
    refine Ev.step ?_
    simp only [impl_isName.step]
    exact Ev.yes rfl (Ev.pure' h.symm)
  refine Ev.cnd (fun h => bad ?_) fun h => Ev.cnd (fun h2 => bad ?_) fun h2 => Ev.yes ?_ (Ev.bind (impl_digitByte.ev _) (Ev.step ?_))
  · have : ¬ 1 ≤ s.size := by have := of_decide_eq_true (seq_empty.symm.trans h); omega
    simp [nameB, this]
  · have : ¬ s.size ≤ 40 := by simp at h2; omega
    simp [nameB, this]
  · exact inB_zero (by have := of_decide_eq_false (seq_empty.symm.trans h); omega)
  · have h1 : 1 ≤ s.size := by have := of_decide_eq_false (seq_empty.symm.trans h); omega
    have h3 : s.size ≤ 40 := by simp at h2; omega
    simp only [impl_isName.step]
    refine Ev.cnd (fun h4 => Ev.pure' (by simp [nameB, h4])) fun h4 => Ev.of_eq go ?_
    simp [nameB, h1, h3, h4]
theorem impl_printed.ev (s : ByteArray) (m : Nat) (hs : s.size ≤ 1048576) (hm : m ≤ 1000000) : Ev (fun n => impl_printed n s (m : Int)) (decide (s.size ≤ m) && printB s) := by
  refine Ev.step ?_
  simp only [impl_printed.step]
  refine Ev.cnd (fun h => Ev.pure' (by simp at h; simp; omega)) fun h => ?_
  have h2 : s.size ≤ m := by simp at h; omega
  simp only [h2, decide_true, Bool.true_and]
  refine Ev.allN (pt := fun i : Nat => impl_printed.Pt.p15 s (s.size : Int) (i : Int)) (fun i hi => ⟨fun hp v hv => ?_, fun hp => ?_⟩) ?_
  · refine Ev.step ?_
    simp only [Bool.and_eq_true, decide_eq_true_eq] at hp
    simp only [impl_printed.step, i64_nat (show i ≤ 4611686018427387904 by omega)]
    exact Ev.yes (lt_yes hi) (Ev.yes (inB_nat hi) (Ev.no (by simp; omega) (Ev.yes (inB_nat hi) (Ev.no (by simp; omega) hv))))
  · refine Ev.step ?_
    simp only [impl_printed.step]
    refine Ev.yes (lt_yes hi) (Ev.yes (inB_nat hi) (Ev.cnd (fun _ => Ev.pure) fun h => Ev.yes (inB_nat hi) (Ev.yes ?_ Ev.pure)))
    simp at hp h ⊢; omega
  · refine Ev.step ?_
    simp only [impl_printed.step]
    exact Ev.no lt_no Ev.pure
theorem strings_IndexByte.ev (s : ByteArray) (c : Int) : Ev (fun n => strings_IndexByte n s c) (Lib.indexByte s.data.toList c.toNat.toUInt8) := Ev.held rfl
theorem index_specials (c : Int) (h : 0 ≤ c ∧ c ≤ 255) : decide (Lib.indexByte (⟨#[42, 63, 124, 92]⟩ : ByteArray).data.toList c.toNat.toUInt8 < 0) = !decide (c = 42 ∨ c = 63 ∨ c = 124 ∨ c = 92) := by
  obtain ⟨k, rfl⟩ : ∃ k : Nat, c = (k : Int) := ⟨c.toNat, by omega⟩
  have hk : k < 256 := by omega
  have key : ∀ k : Fin 256, decide (Lib.indexByte (⟨#[42, 63, 124, 92]⟩ : ByteArray).data.toList (((k.val : Nat) : Int).toNat.toUInt8) < 0) = !decide (((k.val : Nat) : Int) = 42 ∨ ((k.val : Nat) : Int) = 63 ∨ ((k.val : Nat) : Int) = 124 ∨ ((k.val : Nat) : Int) = 92) := by decide +kernel
  exact key ⟨k, hk⟩
theorem impl_alternatives_1.ev (x : Int × Bool × Bool × Unit) (out : List (List (Int × Bool × Bool × Unit))) (now : List (Int × Bool × Bool × Unit)) (h1 : out.length ≤ 1000) (h2 : now.length ≤ 1000) : Ev (fun n => impl_alternatives_1 n x (out ++ [now])) (out ++ [now ++ [x]]) := by
  refine Ev.held ?_
  have hl : (out ++ [now]).length - 1 = out.length := by simp
  have hg : (out ++ [now]).getD out.length [] = now := by simp [List.getD_eq_getElem?_getD]
  rw [hl, hg, show decide (out ++ [now] ≠ [] ∧ (out ++ [now]).length ≤ 1000000 ∧ now.length ≤ 1000000) = true by simp; omega]
  simp
theorem impl_alternatives.loop (s : ByteArray) (hs : s.size ≤ 100) : ∀ d i (out : List (List Int)) (now : List Int), s.size ≤ i + d → i ≤ s.size → out.length ≤ i → now.length ≤ i →
    Ev (fun n => goRec impl_alternatives.step n (impl_alternatives.Pt.p19 s (i : Int) (out.map (List.map toP) ++ [now.map toP]))) (altP (pat ((octs s).drop i) out now)) := by
  intro d
  induction d with
  | zero =>
    intro i out now h h1 h2 h3
    obtain rfl : i = s.size := by omega
    refine Ev.step ?_
    simp only [impl_alternatives.step]
    refine Ev.no lt_no (Ev.pure' ?_)
    rw [octs_nil, pat_nil]; simp [altP]
  | succ d ih =>
    intro i out now h h1 h2 h3
    rcases Nat.eq_or_lt_of_le h1 with rfl | hi
    · refine Ev.step ?_
      simp only [impl_alternatives.step]
      refine Ev.no lt_no (Ev.pure' ?_)
      rw [octs_nil, pat_nil]; simp [altP]
    have one : ∀ (c : Int) (p : Int × Bool × Bool × Unit) (j : Nat), p = toP c → j ≤ s.size → i < j → s.size ≤ j + d → Ev (fun n => (impl_alternatives_1 n p (out.map (List.map toP) ++ [now.map toP])).bind fun r => goRec impl_alternatives.step n (impl_alternatives.Pt.p19 s (j : Int) r)) (altP (pat ((octs s).drop j) out (now ++ [c]))) := by
      rintro c p j rfl hj hij hjd
      refine Ev.bind (impl_alternatives_1.ev _ _ _ (by simp; omega) (by simp; omega)) ?_
      have := ih j out (now ++ [c]) (by omega) hj (by omega) (by simp; omega)
      rwa [List.map_append] at this
    refine Ev.step ?_
    simp only [impl_alternatives.step, i64_nat (show i ≤ 4611686018427387904 by omega)]
    rw [octs_drop hi, pat_cons]
    refine Ev.yes (lt_yes hi) (Ev.yes (inB_nat hi) (Ev.cnd (fun c => ?_) fun c => Ev.cnd (fun c2 => ?_) fun c2 => Ev.cnd (fun c3 => ?_) fun c3 => Ev.cnd (fun c4 => ?_) fun c4 => ?_))
    · rw [if_pos (by simpa using c)]
      refine Ev.yes (room_ok (by simp; omega)) ?_
      have := ih (i + 1) (out ++ [now]) [] (by omega) (by omega) (by simp; omega) (by simp)
      simpa using this
    · rw [if_neg (by simpa using c), if_pos (by simpa using c2)]
      exact one (-1) _ (i + 1) rfl (by omega) (by omega) (by omega)
    · rw [if_neg (by simpa using c), if_neg (by simpa using c2), if_pos (by simpa using c3)]
      exact one (-2) _ (i + 1) rfl (by omega) (by omega) (by omega)
    · rw [if_neg (by simpa using c), if_neg (by simpa using c2), if_neg (by simpa using c3), if_pos (by simpa using c4)]
      have bad : ∀ j : Int, Ev (fun n => goRec impl_alternatives.step n (impl_alternatives.Pt.p51 s j true (out.map (List.map toP) ++ [now.map toP]))) (altP none) := fun j => by
        refine Ev.step ?_
        simp only [impl_alternatives.step]
        exact Ev.yes rfl Ev.pure
      refine Ev.cnd (fun e => ?_) fun e => ?_
      · have e : i + 1 = s.size := by simp at e; omega
        rw [show (octs s).drop (i + 1) = [] by rw [e, octs_nil]]
        exact bad _
      · have hi1 : i + 1 < s.size := by simp at e; omega
        rw [octs_drop hi1]
        simp only
        have hr := bt_range (s := s) (i := ((i + 1 : Nat) : Int))
        generalize hq : bt s ((i + 1 : Nat) : Int) = q at hr
        refine Ev.yes (inB_nat hi1) (Ev.bind (strings_IndexByte.ev _ _) ?_)
        rw [index_specials _ hr]
        by_cases hg : q = 42 ∨ q = 63 ∨ q = 124 ∨ q = 92
        · rw [if_pos hg, show (!decide (q = 42 ∨ q = 63 ∨ q = 124 ∨ q = 92)) = false by simp [hg]]
          refine Ev.step ?_
          simp only [impl_alternatives.step, hq, i64_nat (show i + 1 ≤ 4611686018427387904 by omega)]
          refine Ev.no rfl (Ev.yes (inB_nat hi1) ?_)
          exact one q _ (i + 1 + 1) (by simp only [toP]; rw [if_neg (by omega), if_neg (by omega)]; rfl) (by omega) (by omega) (by omega)
        · rw [if_neg hg, show (!decide (q = 42 ∨ q = 63 ∨ q = 124 ∨ q = 92)) = true by simp [hg]]
          exact bad _
    · rw [if_neg (by simpa using c), if_neg (by simpa using c2), if_neg (by simpa using c3), if_neg (by simpa using c4)]
      have hr := bt_range (s := s) (i := (i : Int))
      exact one (bt s (i : Int)) _ (i + 1) (by simp only [toP]; rw [if_neg (by omega), if_neg (by omega)]; rfl) (by omega) (by omega) (by omega)
theorem impl_alternatives.ev (s : ByteArray) (hs : s.size ≤ 1048576) : Ev (fun n => impl_alternatives n s) (altP (alts s)) := by
  refine Ev.step ?_
  simp only [impl_alternatives.step]
  refine Ev.bind (impl_printed.ev s 100 hs (by omega)) (Ev.cnd (fun h => Ev.pure' ?_) fun h => ?_)
  · rw [alts, if_neg (by intro hh; simp [hh.1, hh.2] at h)]; rfl
  · have h : s.size ≤ 100 ∧ printB s = true := by simpa using h
    rw [alts, if_pos h]
    exact impl_alternatives.loop s h.1 s.size 0 [] [] (by omega) (by omega) (by simp) (by simp)
theorem impl_GoodPattern.ev (s : ByteArray) (hs : s.size ≤ 1048576) : Ev (fun n => impl_GoodPattern n s) (alts s).isSome := by
  refine Ev.step ?_
  simp only [impl_GoodPattern.step]
  refine Ev.bind (impl_alternatives.ev s hs) (Ev.pure' ?_)
  cases alts s <;> rfl
theorem impl_goodMatcher.ev (x : MT) (h : Sm 1048576 MU x) : Ev (fun n => impl_goodMatcher n x) (matcherB x) := by
  have h4 : ∀ b, b = !(nameB x.1 && decide (1 ≤ x.2.1) && decide (x.2.1 ≤ 4) && decide (x.2.2.1.size ≤ 100) && printB x.2.2.1) → Ev (fun n => goRec impl_goodMatcher.step n (impl_goodMatcher.Pt.p4 b x.1 x.2.1 x.2.2.1)) (matcherB x) := by
    rintro b rfl
    refine Ev.step ?_
    simp only [impl_goodMatcher.step]
    refine Ev.cnd (fun e => Ev.pure' ?_) fun e => Ev.cnd (fun e2 => Ev.pure' ?_) fun e2 => Ev.bind (impl_GoodPattern.ev _ h.2.2.1) (Ev.pure' ?_)
    · rw [Bool.not_eq_true'] at e
      rw [matcherB, e]; rfl
    · rw [Bool.not_eq_false'] at e
      rw [matcherB, e, e2]; rfl
    · rw [Bool.not_eq_false'] at e
      rw [matcherB, e, e2]; simp
  refine Ev.step ?_
  simp only [impl_goodMatcher.step]
  refine Ev.bind (impl_isName.ev _ h.1) (Ev.cnd (fun e => h4 _ (by simp at e; simp [e])) fun e1 => Ev.cnd (fun e => h4 _ (by simp at e; simp; omega)) fun e2 => Ev.cnd (fun e => h4 _ (by simp at e; simp; omega)) fun e3 => ?_)
  refine Ev.bind (impl_printed.ev _ 100 h.2.2.1 (by omega)) (h4 _ ?_)
  simp at e1 e2 e3
  simp [e1, e2, e3, Bool.and_assoc]
theorem impl_GoodMatchers_1.ev (x : MT) (h : Sm 1048576 MU x) : Ev (fun n => impl_GoodMatchers_1 n x) (!matcherB x) := by
  refine Ev.step ?_
  simp only [impl_GoodMatchers_1.step]
  exact Ev.bind (impl_goodMatcher.ev x h) Ev.pure
theorem slices_IndexFunc_Matcher_impl_GoodMatchers_1.ev (l : List ((ByteArray) × ((Int) × ((ByteArray) × (Unit)))))  (p : ((ByteArray) × ((Int) × ((ByteArray) × (Unit)))) → Bool) (hl : l.length ≤ 1048576) (hp : ∀ i, i < l.length → Ev (fun n => impl_GoodMatchers_1 n (l.getD i default)) (p (l.getD i default))) : Ev (fun n => slices_IndexFunc_Matcher_impl_GoodMatchers_1 n l) (match (List.range l.length).find? (fun i => p (l.getD i default)) with | some i => (i : Int) | none => -1) := by
  refine Ev.step ?_
  simp only [slices_IndexFunc_Matcher_impl_GoodMatchers_1.step]
  refine Ev.find (pt := fun i : Nat => slices_IndexFunc_Matcher_impl_GoodMatchers_1.Pt.p7 l ((List.length l) : Int) (i : Int)) (fun i hi => ⟨fun h v hv => ?_, fun h => ?_⟩) ?_
  · refine Ev.step ?_
    simp only [slices_IndexFunc_Matcher_impl_GoodMatchers_1.step, toNat_cast, i64_nat (show i ≤ 4611686018427387904 by omega)]
    exact Ev.yes (lt_yes hi) (Ev.yes (inB_nat hi) (Ev.bind (hp i hi) (Ev.no h hv)))
  · refine Ev.step ?_
    simp only [slices_IndexFunc_Matcher_impl_GoodMatchers_1.step, toNat_cast]
    exact Ev.yes (lt_yes hi) (Ev.yes (inB_nat hi) (Ev.bind (hp i hi) (Ev.yes h Ev.pure)))
  · refine Ev.step ?_
    simp only [slices_IndexFunc_Matcher_impl_GoodMatchers_1.step]
    exact Ev.no lt_no Ev.pure
theorem slices_ContainsFunc_Matcher_impl_GoodMatchers_1.ev (l : List ((ByteArray) × ((Int) × ((ByteArray) × (Unit)))))  (p : ((ByteArray) × ((Int) × ((ByteArray) × (Unit)))) → Bool) (hl : l.length ≤ 1048576) (hp : ∀ i, i < l.length → Ev (fun n => impl_GoodMatchers_1 n (l.getD i default)) (p (l.getD i default))) : Ev (fun n => slices_ContainsFunc_Matcher_impl_GoodMatchers_1 n l) ((List.range l.length).any fun i => p (l.getD i default)) := by
  refine Ev.step ?_
  simp only [slices_ContainsFunc_Matcher_impl_GoodMatchers_1.step]
  refine Ev.bind (slices_IndexFunc_Matcher_impl_GoodMatchers_1.ev l p hl hp) (Ev.pure' ?_)
  exact find_any
theorem impl_GoodMatchers.ev (l : List MT) (h : Sm 1048576 (.sl false MU) l) : Ev (fun n => impl_GoodMatchers n l) (matchersB l) := by
  refine Ev.step ?_
  simp only [impl_GoodMatchers.step]
  refine Ev.cnd (fun c => ?_) fun c => Ev.pure' (by simp at c; simp [matchersB]; omega)
  have h10 : l.length ≤ 10 := by simp at c; omega
  refine Ev.bind (slices_ContainsFunc_Matcher_impl_GoodMatchers_1.ev l (fun x => !matcherB x) (by omega) fun i hi => impl_GoodMatchers_1.ev _ (h.2 _ (getD_mem hi))) (Ev.pure' ?_)
  simp [matchersB, h10, List.all_eq_not_any_not]
theorem impl_rising_string.ev (l : List ByteArray) (h : Sm 1048576 (.sl false .str) l) : Ev (fun n => impl_rising_string n l) (risingB l) := by
  have hl : l.length ≤ 1048576 := h.1
  refine Ev.step ?_
  simp only [impl_rising_string.step]
  refine Ev.allN (pt := fun i : Nat => impl_rising_string.Pt.p7 l ((i + 1 : Nat) : Int)) (fun i hi => ⟨fun hp v hv => ?_, fun hp => ?_⟩) ?_
  · refine Ev.step ?_
    simp only [impl_rising_string.step, i64_pred (show i ≤ 4611686018427387904 by omega), i64_nat (show i + 1 ≤ 4611686018427387904 by omega), toNat_cast, slt_cmp]
    exact Ev.yes (lt_yes (by omega)) (Ev.yes (inB_nat (by omega)) (Ev.yes (inB_nat (by omega)) (Ev.no (by simp at hp; simp; omega) hv)))
  · refine Ev.step ?_
    simp only [impl_rising_string.step, i64_pred (show i ≤ 4611686018427387904 by omega), toNat_cast, slt_cmp]
    exact Ev.yes (lt_yes (by omega)) (Ev.yes (inB_nat (by omega)) (Ev.yes (inB_nat (by omega)) (Ev.yes (by simp at hp; simp; omega) Ev.pure)))
  · refine Ev.step ?_
    simp only [impl_rising_string.step]
    exact Ev.no (by simp; omega) Ev.pure
theorem impl_goodNames_1.ev (s : ByteArray) (h : s.size ≤ 1048576) : Ev (fun n => impl_goodNames_1 n s) (!nameB s) := by
  refine Ev.step ?_
  simp only [impl_goodNames_1.step]
  exact Ev.bind (impl_isName.ev s h) Ev.pure
theorem slices_IndexFunc_string_impl_goodNames_1.ev (l : List (ByteArray))  (p : (ByteArray) → Bool) (hl : l.length ≤ 1048576) (hp : ∀ i, i < l.length → Ev (fun n => impl_goodNames_1 n (l.getD i default)) (p (l.getD i default))) : Ev (fun n => slices_IndexFunc_string_impl_goodNames_1 n l) (match (List.range l.length).find? (fun i => p (l.getD i default)) with | some i => (i : Int) | none => -1) := by
  refine Ev.step ?_
  simp only [slices_IndexFunc_string_impl_goodNames_1.step]
  refine Ev.find (pt := fun i : Nat => slices_IndexFunc_string_impl_goodNames_1.Pt.p7 l ((List.length l) : Int) (i : Int)) (fun i hi => ⟨fun h v hv => ?_, fun h => ?_⟩) ?_
  · refine Ev.step ?_
    simp only [slices_IndexFunc_string_impl_goodNames_1.step, toNat_cast, i64_nat (show i ≤ 4611686018427387904 by omega)]
    exact Ev.yes (lt_yes hi) (Ev.yes (inB_nat hi) (Ev.bind (hp i hi) (Ev.no h hv)))
  · refine Ev.step ?_
    simp only [slices_IndexFunc_string_impl_goodNames_1.step, toNat_cast]
    exact Ev.yes (lt_yes hi) (Ev.yes (inB_nat hi) (Ev.bind (hp i hi) (Ev.yes h Ev.pure)))
  · refine Ev.step ?_
    simp only [slices_IndexFunc_string_impl_goodNames_1.step]
    exact Ev.no lt_no Ev.pure
theorem slices_ContainsFunc_string_impl_goodNames_1.ev (l : List (ByteArray))  (p : (ByteArray) → Bool) (hl : l.length ≤ 1048576) (hp : ∀ i, i < l.length → Ev (fun n => impl_goodNames_1 n (l.getD i default)) (p (l.getD i default))) : Ev (fun n => slices_ContainsFunc_string_impl_goodNames_1 n l) ((List.range l.length).any fun i => p (l.getD i default)) := by
  refine Ev.step ?_
  simp only [slices_ContainsFunc_string_impl_goodNames_1.step]
  refine Ev.bind (slices_IndexFunc_string_impl_goodNames_1.ev l p hl hp) (Ev.pure' ?_)
  exact find_any
theorem impl_goodNames.ev (l : List ByteArray) (h : Sm 1048576 (.sl false .str) l) : Ev (fun n => impl_goodNames n l) (namesB l) := by
  refine Ev.step ?_
  simp only [impl_goodNames.step]
  refine Ev.cnd (fun c => ?_) fun c => Ev.pure' (by have : ¬ l.length ≤ 10 := by simp at c; omega
                                                    simp [namesB, this])
  have h10 : l.length ≤ 10 := by simp at c; omega
  refine Ev.bind (impl_rising_string.ev l h) (Ev.cnd (fun c2 => ?_) fun c2 => Ev.pure' (by simp [namesB, c2]))
  refine Ev.bind (slices_ContainsFunc_string_impl_goodNames_1.ev l (fun x => !nameB x) (by omega) fun i hi => impl_goodNames_1.ev _ (h.2 _ (getD_mem hi))) (Ev.pure' ?_)
  simp [namesB, h10, c2, List.all_eq_not_any_not]
theorem impl_isTime.ev (b : Int) : Ev (fun n => impl_isTime n b) (timeB b) := by
  refine Ev.step ?_
  simp only [impl_isTime.step]
  exact Ev.cnd (fun h => Ev.pure' (by simp [timeB, h])) fun h => Ev.pure' (by simp [timeB, h])
theorem impl_rising_int.ev (l : List Int) (hl : l.length ≤ 1048576) : Ev (fun n => impl_rising_int n l) (risingI l) := by
  refine Ev.step ?_
  simp only [impl_rising_int.step]
  refine Ev.allN (pt := fun i : Nat => impl_rising_int.Pt.p7 l ((i + 1 : Nat) : Int)) (fun i hi => ⟨fun hp v hv => ?_, fun hp => ?_⟩) ?_
  · have hp := of_decide_eq_true hp
    refine Ev.step ?_
    simp only [impl_rising_int.step, i64_pred (show i ≤ 4611686018427387904 by omega), i64_nat (show i + 1 ≤ 4611686018427387904 by omega), toNat_cast]
    exact Ev.yes (lt_yes (by omega)) (Ev.yes (inB_nat (by omega)) (Ev.yes (inB_nat (by omega)) (Ev.no (decide_eq_false (by omega)) hv)))
  · have hp := of_decide_eq_false hp
    refine Ev.step ?_
    simp only [impl_rising_int.step, i64_pred (show i ≤ 4611686018427387904 by omega), toNat_cast]
    exact Ev.yes (lt_yes (by omega)) (Ev.yes (inB_nat (by omega)) (Ev.yes (inB_nat (by omega)) (Ev.yes (decide_eq_true (by omega)) Ev.pure)))
  · refine Ev.step ?_
    simp only [impl_rising_int.step]
    exact Ev.no (decide_eq_false (by omega)) Ev.pure
theorem impl_goodRoute.ev (r : RTE) (h : Sm 1048576 RTU r) : Ev (fun n => impl_goodRoute n r) (routeB r) := by
  have hml : r.2.2.2.2.2.2.1.length ≤ 1048576 := h.2.2.2.2.2.2.1.1
  have loop : r.2.2.2.2.2.2.1.length ≤ 20 → Ev (fun n => goRec impl_goodRoute.step n (impl_goodRoute.Pt.p15 r.2.2.2.2.2.2.1 (r.2.2.2.2.2.2.1.length : Int) 0)) (mutesB r.2.2.2.2.2.2.1) := by
    intro h20
    refine Ev.allN (pt := fun i : Nat => impl_goodRoute.Pt.p15 r.2.2.2.2.2.2.1 (r.2.2.2.2.2.2.1.length : Int) (i : Int)) (fun i hi => ⟨fun hp v hv => ?_, fun hp => ?_⟩) ?_
    · refine Ev.step ?_
      simp only [Bool.and_eq_true, decide_eq_true_eq] at hp
      simp only [impl_goodRoute.step, toNat_cast, i64_nat (show i ≤ 4611686018427387904 by omega)]
      exact Ev.yes (lt_yes hi) (Ev.yes (inB_nat hi) (Ev.no (by simp only [decide_eq_false_iff_not]; omega) (Ev.no (by simp only [decide_eq_false_iff_not]; omega) hv)))
    · refine Ev.step ?_
      simp only [impl_goodRoute.step, toNat_cast]
      refine Ev.yes (lt_yes hi) (Ev.yes (inB_nat hi) (Ev.cnd (fun _ => Ev.pure) fun e => Ev.yes ?_ Ev.pure))
      have e := of_decide_eq_false e
      rw [show decide (0 ≤ r.2.2.2.2.2.2.1.getD i default) = true by simp only [decide_eq_true_eq]; omega, Bool.true_and] at hp
      have hp := of_decide_eq_false hp
      simp only [decide_eq_true_eq]; omega
    · refine Ev.step ?_
      simp only [impl_goodRoute.step]
      exact Ev.no lt_no Ev.pure
  have p4 : ∀ b, (b = !(nameB r.1 && matchersB r.2.1 && namesB r.2.2.1 && timeB r.2.2.2.1 && posB r.2.2.2.2.1 && posB r.2.2.2.2.2.1 && (decide (r.2.2.2.2.2.2.1.length ≤ 20) && risingI r.2.2.2.2.2.2.1))) → Ev (fun n => goRec impl_goodRoute.step n (impl_goodRoute.Pt.p4 b r.1 r.2.1 r.2.2.1 r.2.2.2.1 r.2.2.2.2.1 r.2.2.2.2.2.1 r.2.2.2.2.2.2.1 r.2.2.2.2.2.2.2.1 r.2.2.2.2.2.2.2.2.1)) (routeB r) := by
    rintro b rfl
    refine Ev.step ?_
    simp only [impl_goodRoute.step]
    refine Ev.cnd (fun e => Ev.pure' ?_) fun e => ?_
    · rw [Bool.not_eq_true'] at e
      rw [routeB, e]; rfl
    · rw [Bool.not_eq_false'] at e
      have h20 : r.2.2.2.2.2.2.1.length ≤ 20 := by
        simp only [Bool.and_eq_true, decide_eq_true_eq] at e
        exact e.2.1
      exact Ev.of_eq (loop h20) (by rw [routeB, e]; rfl)
  refine Ev.step ?_
  simp only [impl_goodRoute.step]
  refine Ev.bind (impl_isName.ev _ h.1) (Ev.cnd (fun e => p4 _ (by rw [Bool.not_eq_true'] at e; simp [e])) fun e1 => ?_)
  refine Ev.bind (impl_GoodMatchers.ev _ h.2.1) (Ev.cnd (fun e => p4 _ (by rw [Bool.not_eq_true'] at e; simp [e])) fun e2 => ?_)
  refine Ev.bind (impl_goodNames.ev _ h.2.2.1) (Ev.cnd (fun e => p4 _ (by rw [Bool.not_eq_true'] at e; simp [e])) fun e3 => ?_)
  refine Ev.bind (impl_isTime.ev _) (Ev.cnd (fun e => p4 _ (by rw [Bool.not_eq_true'] at e; simp [e])) fun e4 => ?_)
  refine Ev.bind (impl_isTime.ev _) (Ev.cnd (fun e => p4 _ (by rw [Bool.not_eq_true'] at e; rw [posB_time, e]; simp)) fun e5 => ?_)
  refine Ev.cnd (fun e => p4 _ (by rw [posB_time, e]; simp)) fun e6 => ?_
  refine Ev.bind (impl_isTime.ev _) (Ev.cnd (fun e => p4 _ (by rw [Bool.not_eq_true'] at e; rw [posB_time (n := r.2.2.2.2.2.1), e]; simp)) fun e7 => ?_)
  refine Ev.cnd (fun e => p4 _ (by rw [posB_time (n := r.2.2.2.2.2.1), e]; simp)) fun e8 => ?_
  rw [Bool.not_eq_false'] at e5 e7
  have pa : posB r.2.2.2.2.1 = true := by rw [posB_time, e5, e6]; rfl
  have pb : posB r.2.2.2.2.2.1 = true := by rw [posB_time, e7, e8]; rfl
  refine Ev.cnd (fun e => p4 _ (by rw [show decide (r.2.2.2.2.2.2.1.length ≤ 20) = false by simp only [decide_eq_true_eq] at e; simp only [decide_eq_false_iff_not]; omega]; simp)) fun e9 => ?_
  have h20 : r.2.2.2.2.2.2.1.length ≤ 20 := by simp only [decide_eq_false_iff_not] at e9; omega
  refine Ev.bind (impl_rising_int.ev _ hml) (p4 _ ?_)
  rw [Bool.not_eq_false'] at e1 e2 e3 e4
  simp [e1, e2, e3, e4, pa, pb, h20]
theorem impl_GoodRoutes_1.ev (r : RTE) (h : Sm 1048576 RTU r) : Ev (fun n => impl_GoodRoutes_1 n r) (!routeB r) := by
  refine Ev.step ?_
  simp only [impl_GoodRoutes_1.step]
  exact Ev.bind (impl_goodRoute.ev r h) Ev.pure
theorem slices_IndexFunc_Route_impl_GoodRoutes_1.ev (l : List ((ByteArray) × ((List ((ByteArray) × ((Int) × ((ByteArray) × (Unit))))) × ((List (ByteArray)) × ((Int) × ((Int) × ((Int) × ((List (Int)) × ((Bool) × ((Int) × (Unit)))))))))))  (p : ((ByteArray) × ((List ((ByteArray) × ((Int) × ((ByteArray) × (Unit))))) × ((List (ByteArray)) × ((Int) × ((Int) × ((Int) × ((List (Int)) × ((Bool) × ((Int) × (Unit)))))))))) → Bool) (hl : l.length ≤ 1048576) (hp : ∀ i, i < l.length → Ev (fun n => impl_GoodRoutes_1 n (l.getD i default)) (p (l.getD i default))) : Ev (fun n => slices_IndexFunc_Route_impl_GoodRoutes_1 n l) (match (List.range l.length).find? (fun i => p (l.getD i default)) with | some i => (i : Int) | none => -1) := by
  refine Ev.step ?_
  simp only [slices_IndexFunc_Route_impl_GoodRoutes_1.step]
  refine Ev.find (pt := fun i : Nat => slices_IndexFunc_Route_impl_GoodRoutes_1.Pt.p7 l ((List.length l) : Int) (i : Int)) (fun i hi => ⟨fun h v hv => ?_, fun h => ?_⟩) ?_
  · refine Ev.step ?_
    simp only [slices_IndexFunc_Route_impl_GoodRoutes_1.step, toNat_cast, i64_nat (show i ≤ 4611686018427387904 by omega)]
    exact Ev.yes (lt_yes hi) (Ev.yes (inB_nat hi) (Ev.bind (hp i hi) (Ev.no h hv)))
  · refine Ev.step ?_
    simp only [slices_IndexFunc_Route_impl_GoodRoutes_1.step, toNat_cast]
    exact Ev.yes (lt_yes hi) (Ev.yes (inB_nat hi) (Ev.bind (hp i hi) (Ev.yes h Ev.pure)))
  · refine Ev.step ?_
    simp only [slices_IndexFunc_Route_impl_GoodRoutes_1.step]
    exact Ev.no lt_no Ev.pure
theorem slices_ContainsFunc_Route_impl_GoodRoutes_1.ev (l : List ((ByteArray) × ((List ((ByteArray) × ((Int) × ((ByteArray) × (Unit))))) × ((List (ByteArray)) × ((Int) × ((Int) × ((Int) × ((List (Int)) × ((Bool) × ((Int) × (Unit)))))))))))  (p : ((ByteArray) × ((List ((ByteArray) × ((Int) × ((ByteArray) × (Unit))))) × ((List (ByteArray)) × ((Int) × ((Int) × ((Int) × ((List (Int)) × ((Bool) × ((Int) × (Unit)))))))))) → Bool) (hl : l.length ≤ 1048576) (hp : ∀ i, i < l.length → Ev (fun n => impl_GoodRoutes_1 n (l.getD i default)) (p (l.getD i default))) : Ev (fun n => slices_ContainsFunc_Route_impl_GoodRoutes_1 n l) ((List.range l.length).any fun i => p (l.getD i default)) := by
  refine Ev.step ?_
  simp only [slices_ContainsFunc_Route_impl_GoodRoutes_1.step]
  refine Ev.bind (slices_IndexFunc_Route_impl_GoodRoutes_1.ev l p hl hp) (Ev.pure' ?_)
  exact find_any
theorem impl_GoodRoutes.ev (l : List RTE) (h : Sm 1048576 (.sl false RTU) l) : Ev (fun n => impl_GoodRoutes n l) (routesB l) := by
  refine Ev.step ?_
  simp only [impl_GoodRoutes.step]
  obtain ⟨r, h1, h2⟩ := impl_depths.ev l
  refine Ev.bind h1 ?_
  rw [h2, Bool.not_not]
  refine Ev.cnd (fun c => ?_) fun c => Ev.pure' ?_
  case refine_2 =>
    by_cases h40 : l.length ≤ 40
    · rw [routesB, routes_eq h40, ← Bool.and_assoc (decide (l.length ≠ 0) && decide (l.length ≤ 40)) (decide (nodeN l smallB 8 0 = some l.length)), c]; rfl
    · rw [routesB, decide_eq_false h40, Bool.and_false]; rfl
  have c' := c
  simp only [Bool.and_eq_true] at c'
  have h0 : l.length ≠ 0 := of_decide_eq_true c'.1.1
  have h40 : l.length ≤ 40 := of_decide_eq_true c'.1.2
  simp only [show (0 : Int).toNat = 0 from rfl]
  have ct := slices_ContainsFunc_Route_impl_GoodRoutes_1.ev l (fun r => !routeB r) (by omega) (fun i hi => impl_GoodRoutes_1.ev _ (h.2 _ (getD_mem hi)))
  refine Ev.yes (inB_zero (by omega)) (Ev.cnd (fun c2 => Ev.yes (inB_zero (by omega)) (Ev.cnd (fun c3 => Ev.bind ct (Ev.pure' ?_)) fun c3 => Ev.pure' ?_)) fun c2 => Ev.pure' ?_)
  · have c2 : (l.getD 0 default).2.1.length = 0 := by have := of_decide_eq_true c2; omega
    rw [routesB, routes_eq h40, ← Bool.and_assoc (decide (l.length ≠ 0) && decide (l.length ≤ 40)) (decide (nodeN l smallB 8 0 = some l.length)), c, c3, decide_eq_true c2, List.all_eq_not_any_not]
    simp
  · rw [routesB, c3, Bool.and_false, Bool.and_false]
  · have c2 : ¬ (l.getD 0 default).2.1.length = 0 := by have := of_decide_eq_false c2; omega
    rw [routesB, decide_eq_false c2, Bool.false_and, Bool.and_false]
theorem impl_isValue.ev (s : ByteArray) (hs : s.size ≤ 1048576) : Ev (fun n => impl_isValue n s) (valueB s) := by
  refine Ev.step ?_
  simp only [impl_isValue.step]
  refine Ev.cnd (fun e => Ev.bind (impl_printed.ev s 100 hs (by omega)) (Ev.pure' ?_)) fun e => Ev.pure' ?_
  · rw [seq_empty] at e
    have a1 : 1 ≤ s.size := by have := of_decide_eq_false ((Bool.not_eq_true' _).mp e); omega
    simp [valueB, a1]
  · rw [seq_empty] at e
    have a1 : ¬ 1 ≤ s.size := by have := of_decide_eq_true ((Bool.not_eq_false' _).mp e); omega
    simp [valueB, a1]
theorem impl_GoodLabels.ev (l : List LB) (h : Sm 1048576 (.sl false LU) l) : Ev (fun n => impl_GoodLabels n l) (labelsB l) := by
  have hl : l.length ≤ 1048576 := h.1
  refine Ev.step ?_
  simp only [impl_GoodLabels.step]
  refine Ev.cnd (fun c => Ev.pure' ?_) fun c => ?_
  · have : ¬ l.length ≤ 20 := by simp at c; omega
    simp [labelsB, this]
  have h50 : l.length ≤ 20 := by simp at c; omega
  simp only [labelsB, h50, decide_true, Bool.true_and]
  have go : ∀ i v, i < l.length → (labB l i = true → Ev (fun n => goRec impl_GoodLabels.step n (impl_GoodLabels.Pt.p15 l l (l.length : Int) ((i + 1 : Nat) : Int))) v) → (labB l i = false → v = false) →
      Ev (fun n => goRec impl_GoodLabels.step n (impl_GoodLabels.Pt.p15 l l (l.length : Int) (i : Int))) v := by
    intro i v hi hv hv2
    have hx := h.2 _ (getD_mem (d := default) hi)
    have hs := (labB.eq_1 l i).symm
    have h26 : ∀ b, (b = !labB l i) → Ev (fun n => goRec impl_GoodLabels.step n (impl_GoodLabels.Pt.p26 l l (l.length : Int) (i : Int) b)) v := by
      rintro b rfl
      refine Ev.step ?_
      simp only [impl_GoodLabels.step, i64_nat (show i ≤ 4611686018427387904 by omega)]
      exact Ev.cnd (fun e => Ev.pure' (hv2 (by simpa using e)).symm) fun e => hv (by simpa using e)
    refine Ev.step ?_
    simp only [impl_GoodLabels.step, toNat_cast]
    generalize hxe : l.getD i default = x at hx hs
    have bad : labB l i = false → Ev (fun n => goRec impl_GoodLabels.step n (impl_GoodLabels.Pt.p26 l l (l.length : Int) (i : Int) true)) v := fun e => h26 _ (by rw [e]; rfl)
    refine Ev.yes (lt_yes hi) (Ev.yes (inB_nat hi) ?_)
    refine Ev.bind (impl_isName.ev _ hx.1) (Ev.cnd (fun e => bad (by rw [← hs]; simp at e; simp [e])) fun e1 => ?_)
    refine Ev.bind (impl_isValue.ev _ hx.2.1) (Ev.cnd (fun e => bad (by rw [← hs]; simp at e; simp [e])) fun e2 => ?_)
    simp at e1 e2
    cases i with
    | zero => exact Ev.no (by simp) (h26 _ (by rw [← hs]; simp [e1, e2]))
    | succ k =>
      refine Ev.yes (by simp) ?_
      simp only [i64_pred (show k ≤ 4611686018427387904 by omega), toNat_cast]
      refine Ev.yes (inB_nat (by omega)) (h26 _ ?_)
      rw [← hs, slt_cmp]; simp [e1, e2]
  refine Ev.allN (pt := fun i : Nat => impl_GoodLabels.Pt.p15 l l (l.length : Int) (i : Int)) (fun i hi => ⟨fun hp v hv => go i v hi (fun _ => hv) (fun h => by rw [hp] at h; cases h), fun hp => go i false hi (fun h => by rw [hp] at h; cases h) (fun _ => rfl)⟩) ?_
  refine Ev.step ?_
  simp only [impl_GoodLabels.step]
  exact Ev.no lt_no Ev.pure
theorem impl_valueOf.loop (l : List LB) (k : ByteArray) (hl : l.length ≤ 1048576) : ∀ d i, i + d = l.length → Ev (fun n => goRec impl_valueOf.step n (impl_valueOf.Pt.p7 k l (l.length : Int) (i : Int))) (valL (l.drop i) k) := by
  intro d
  induction d with
  | zero =>
    intro i h
    obtain rfl : i = l.length := by omega
    refine Ev.step ?_
    simp only [impl_valueOf.step]
    exact Ev.no lt_no (Ev.pure' (by rw [List.drop_length]; rfl))
  | succ d ih =>
    intro i h
    have hi : i < l.length := by omega
    refine Ev.step ?_
    simp only [impl_valueOf.step, toNat_cast, i64_nat (show i ≤ 4611686018427387904 by omega)]
    rw [drop_getD hi]
    refine Ev.yes (lt_yes hi) (Ev.yes (inB_nat hi) (Ev.cnd (fun c => Ev.pure' ?_) fun c => Ev.of_eq (ih (i + 1) (by omega)) ?_))
    · simp only [valL, c, cond_true]
    · simp only [valL, c, cond_false]
theorem impl_valueOf.ev (l : List LB) (k : ByteArray) (hl : l.length ≤ 1048576) : Ev (fun n => impl_valueOf n l k) (valL l k) := by
  refine Ev.step ?_
  simp only [impl_valueOf.step]
  exact impl_valueOf.loop l k hl l.length 0 (by omega)
theorem impl_parts.walk (p : List Int) (s : ByteArray) (hs : s.size ≤ 1048576) (hp : p.length ≤ 1048576) (t : List (List Bool)) (ht : t.length = p.length + 1) (ct : ∀ j, j ≤ p.length → (t.getD j default).length = s.size + 1 ∧ ∀ k, k ≤ s.size → (t.getD j default).getD k default = cellM p s j k) :
    ∀ d j i out, j + d = p.length → i ≤ s.size → out.length ≤ j → cellM p s j i = true → EvP (fun n => goRec impl_parts.step n (impl_parts.Pt.p60 s (i : Int) (p.map toP) (p.length : Int) (j : Int) t out)) (fun r => r.2 = true) := by
  intro d
  induction d with
  | zero =>
    intro j i out hj hi ho hc
    obtain rfl : j = p.length := by omega
    refine EvP.step ?_
    simp only [impl_parts.step]
    exact EvP.no lt_no (EvP.pure rfl)
  | succ d ih =>
    intro j i out hj hi ho hc
    have hj' : j < p.length := by omega
    have hq : (p.map toP).getD j default = toP (p.getD j default) := by simp [List.getD_eq_getElem?_getD, hj']
    have look : ∀ m k, m + k = s.size → i ≤ k → p.getD j default = -1 → cellM p s j k = true → EvP (fun n => goRec impl_parts.step n (impl_parts.Pt.p83 s (i : Int) (j : Int) (k : Int) (p.map toP) (p.length : Int) (j : Int) t out)) (fun r => r.2 = true) := by
      intro m
      induction m with
      | zero =>
        intro k hk hik hst hck
        obtain ⟨c1, c2⟩ := ct (j + 1) (by omega)
        have hx := cell_star hj' (show k ≤ s.size by omega) hst
        rw [hck] at hx
        refine EvP.step ?_
        simp only [impl_parts.step, i64_nat (show j ≤ 4611686018427387904 by omega), toNat_cast, Nat.zero_add]
        refine EvP.yes (inB_nat (by omega)) (EvP.yes (inB_nat (by omega)) ?_)
        rw [c2 k (by omega)]
        have : cellM p s (j + 1) k = true := by
          have : decide (k < s.size) = false := by simp; omega
          rw [this] at hx; simpa using hx.symm
        refine EvP.no (by rw [this]; rfl) (EvP.yes (inC_nat hik (by omega)) (EvP.yes (room_ok (by simp; omega)) ?_))
        exact ih (j + 1) k _ (by omega) (by omega) (by simp; omega) this
      | succ m ihm =>
        intro k hk hik hst hck
        obtain ⟨c1, c2⟩ := ct (j + 1) (by omega)
        have hx := cell_star hj' (show k ≤ s.size by omega) hst
        rw [hck] at hx
        refine EvP.step ?_
        simp only [impl_parts.step, i64_nat (show j ≤ 4611686018427387904 by omega), i64_nat (show k ≤ 4611686018427387904 by omega), toNat_cast, Nat.zero_add]
        refine EvP.yes (inB_nat (by omega)) (EvP.yes (inB_nat (by omega)) ?_)
        rw [c2 k (by omega)]
        refine EvP.cnd (fun e => ?_) fun e => EvP.yes (inC_nat hik (by omega)) (EvP.yes (room_ok (by simp; omega)) ?_)
        · have e : cellM p s (j + 1) k = false := by simpa using e
          rw [e] at hx
          exact ihm (k + 1) (by omega) (by omega) hst (by simp at hx; exact hx.2)
        · exact ih (j + 1) k _ (by omega) (by omega) (by simp; omega) (by simpa using e)
    refine EvP.step ?_
    simp only [impl_parts.step, i64_nat (show j ≤ 4611686018427387904 by omega), i64_nat (show i ≤ 4611686018427387904 by omega), toNat_cast, hq, toP_star]
    refine EvP.yes (lt_yes hj') (EvP.yes (inB_nat (by simpa using hj')) (EvP.cnd (fun c => ?_) fun c => look (s.size - i) i (by omega) (Nat.le_refl _) (by simpa using c) hc))
    have c : p.getD j default ≠ -1 := by simpa using c
    have hi' : i < s.size := by
      rcases Nat.eq_or_lt_of_le hi with rfl | h
      · rw [cell_no hj' c] at hc; cases hc
      · exact h
    rw [cell_one hj' hi' c] at hc
    exact ih (j + 1) (i + 1) out (by omega) (by omega) (by omega) (by simp only [Bool.and_eq_true] at hc; exact hc.2)
theorem impl_parts.row (p : List Int) (s : ByteArray) (j : Nat) (hs : s.size ≤ 1048576) (hj : j ≤ p.length) (hp : p.length ≤ 1048576) (Q : List ByteArray × Bool → Prop)
    (hv : ∀ t : List (List Bool), t.length = p.length + 1 → (∀ j', j ≤ j' → j' ≤ p.length → (t.getD j' default).length = s.size + 1 ∧ ∀ k, k ≤ s.size → (t.getD j' default).getD k default = cellM p s j' k) → EvP (fun n => goRec impl_parts.step n (impl_parts.Pt.p9 (p.map toP) s ((j : Int) - 1) t)) Q) :
    ∀ i, i ≤ s.size + 1 → ∀ t : List (List Bool), t.length = p.length + 1 → (∀ j', j < j' → j' ≤ p.length → (t.getD j' default).length = s.size + 1 ∧ ∀ k, k ≤ s.size → (t.getD j' default).getD k default = cellM p s j' k) →
      (t.getD j default).length = s.size + 1 → (∀ k, i ≤ k → k ≤ s.size → (t.getD j default).getD k default = cellM p s j k) → EvP (fun n => goRec impl_parts.step n (impl_parts.Pt.p23 (p.map toP) s (j : Int) ((i : Int) - 1) t)) Q := by
  intro i
  induction i with
  | zero =>
    intro _ t ht ct h6 c6
    refine EvP.step ?_
    simp only [impl_parts.step, i64_down (show j ≤ 4611686018427387904 by omega)]
    refine EvP.no (by simp) (hv t ht fun j' h1 h2 => ?_)
    rcases Nat.eq_or_lt_of_le h1 with rfl | h1
    · exact ⟨h6, fun k hk => c6 k (by omega) hk⟩
    · exact ct j' h1 h2
  | succ i ih =>
    intro hi t ht ct h6 c6
    have e1 : ((i + 1 : Nat) : Int) - 1 = (i : Int) := by omega
    have his : i ≤ s.size := by omega
    rw [e1]
    have next : ∀ b, b = cellM p s j i → EvP (fun n => goRec impl_parts.step n (impl_parts.Pt.p23 (p.map toP) s (j : Int) ((i : Int) - 1) (t.set j ((t.getD j default).set i b)))) Q := by
      rintro b rfl
      refine ih (by omega) _ (by simpa using ht) (fun j' h1 h2 => ?_) ?_ fun k hk1 hk2 => ?_
      · rw [getD_set_other (by omega)]; exact ct j' h1 h2
      · rw [getD_set_same (by omega)]; simpa using h6
      · rw [getD_set_same (by omega)]
        by_cases e : k = i
        · subst e; rw [getD_set_same (by omega)]
        · rw [getD_set_other e]; exact c6 k (by omega) hk2
    refine EvP.step ?_
    simp only [impl_parts.step, i64_down (show i ≤ 4611686018427387904 by omega), i64_nat (show i ≤ 4611686018427387904 by omega), i64_nat (show j ≤ 4611686018427387904 by omega), toNat_cast, Nat.zero_add]
    refine EvP.yes (by simp) (EvP.cnd (fun c => ?_) fun c => ?_)
    · have c : j = p.length := by simp at c; omega
      subst c
      exact EvP.yes (inB_nat (by omega)) (EvP.yes (inB_nat (by omega)) (next _ (by rw [cell_end his]; simp; omega)))
    have hj' : j < p.length := by simp at c; omega
    have hq : (p.map toP).getD j default = toP (p.getD j default) := by simp [List.getD_eq_getElem?_getD, hj']
    obtain ⟨h5, c5⟩ := ct (j + 1) (by omega) (by omega)
    rw [hq, toP_star, toP_any]
    refine EvP.yes (inB_nat (by simpa using hj')) (EvP.cnd (fun c => ?_) fun c => ?_)
    · have c : p.getD j default = -1 := by simpa using c
      have hc := cell_star hj' his c
      refine EvP.yes (inB_nat (by omega)) (EvP.yes (inB_nat (by omega)) (EvP.yes (inB_nat (by omega)) ?_))
      rw [c5 i his]
      refine EvP.cnd (fun d => EvP.yes (inB_nat (by omega)) (next _ ?_)) fun d => EvP.cnd (fun f => ?_) fun f => EvP.yes (inB_nat (by omega)) (next _ ?_)
      · rw [hc, d]; rfl
      · have hf : i < s.size := by simp at f; omega
        refine EvP.yes (inB_nat (by omega)) (EvP.yes (inB_nat (by omega)) (EvP.yes (inB_nat (by omega)) (next _ ?_)))
        rw [hc, d, c6 (i + 1) (by omega) (by omega)]; simp [hf]
      · have hf : ¬ i < s.size := by simp at f; omega
        rw [hc, d]; simp [hf]
    · have c : p.getD j default ≠ -1 := by simpa using c
      refine EvP.yes (inB_nat (by omega)) (EvP.cnd (fun f => ?_) fun f => EvP.yes (inB_nat (by omega)) (next _ ?_))
      · have hf : i < s.size := by simp at f; omega
        have hc := cell_one hj' hf c
        refine EvP.yes (inB_nat (by simpa using hj')) (EvP.cnd (fun d => ?_) fun d => EvP.yes (inB_nat (by simpa using hj')) (EvP.yes (inB_nat hf) (EvP.cnd (fun g => ?_) fun g => EvP.yes (inB_nat (by omega)) (next _ ?_))))
        · refine EvP.yes (inB_nat (by omega)) (EvP.yes (inB_nat (by omega)) (EvP.yes (inB_nat (by omega)) (next _ ?_)))
          rw [c5 (i + 1) (by omega), hc, d]; simp
        · have d : p.getD j default ≠ -2 := by simpa using d
          rw [toP_byte c d] at g
          refine EvP.yes (inB_nat (by omega)) (EvP.yes (inB_nat (by omega)) (EvP.yes (inB_nat (by omega)) (next _ ?_)))
          rw [c5 (i + 1) (by omega), hc, g]; simp
        · have d' : p.getD j default ≠ -2 := by simpa using d
          rw [toP_byte c d'] at g
          rw [hc, d, g]; simp
      · have hf : i = s.size := by simp at f; omega
        rw [hf, cell_no hj' c]
theorem impl_parts.rows (p : List Int) (s : ByteArray) (hs : s.size ≤ 1048576) (hp : p.length ≤ 1048576) : ∀ j, j ≤ p.length + 1 → ∀ t : List (List Bool), t.length = p.length + 1 → (∀ j', j ≤ j' → j' ≤ p.length → (t.getD j' default).length = s.size + 1 ∧ ∀ k, k ≤ s.size → (t.getD j' default).getD k default = cellM p s j' k) →
    EvP (fun n => goRec impl_parts.step n (impl_parts.Pt.p9 (p.map toP) s ((j : Int) - 1) t)) (fun r => r.2 = mt p (octs s)) := by
  intro j
  induction j with
  | zero =>
    intro _ t ht ct
    obtain ⟨h0, c0⟩ := ct 0 (Nat.le_refl _) (by omega)
    refine EvP.step ?_
    simp only [impl_parts.step, Nat.zero_add, show (0 : Int).toNat = 0 from rfl, List.length_map]
    have hc := c0 0 (by omega)
    have hm : mt p (octs s) = cellM p s 0 0 := rfl
    refine EvP.no (by simp) (EvP.yes (inB_zero (by omega)) (EvP.yes (inB_zero (by omega)) ?_))
    rw [hc, hm]
    refine EvP.cnd (fun c => EvP.pure (by simp at c; rw [c])) fun c => ?_
    have c : cellM p s 0 0 = true := by simpa using c
    refine (impl_parts.walk p s hs hp t ht (fun j hj => ct j (by omega) hj) p.length 0 0 [] (by omega) (by omega) (by simp) c).imp fun v hv => by rw [hv, c]
  | succ j ih =>
    intro hj t ht ct
    have e1 : ((j + 1 : Nat) : Int) - 1 = (j : Int) := by omega
    have e2 : IntKind.wrap .i64 ((s.size : Int) + 1) = ((s.size + 1 : Nat) : Int) := i64_nat (by omega)
    rw [e1]
    refine EvP.step ?_
    simp only [impl_parts.step, e2, toNat_cast, Nat.zero_add]
    refine EvP.yes (by simp) (EvP.yes (inC_eq (by omega)) (EvP.yes (inB_nat (by omega)) ?_))
    have := impl_parts.row p s j hs (by omega) hp (fun r => r.2 = mt p (octs s)) (fun t ht ct => ih (by omega) t ht ct) (s.size + 1) (Nat.le_refl _) (t.set j (List.replicate (s.size + 1) default)) (by simpa using ht) (fun j' h1 h2 => by rw [getD_set_other (by omega)]; exact ct j' (by omega) h2) (by rw [getD_set_same (by omega)]; simp) (fun k h1 h2 => by omega)
    rwa [show ((s.size + 1 : Nat) : Int) - 1 = (s.size : Int) by omega] at this
theorem impl_parts.ev (p : List Int) (s : ByteArray) (hs : s.size ≤ 1048576) (hp : p.length ≤ 1048576) : EvP (fun n => impl_parts n (p.map toP) s) (fun r => r.2 = mt p (octs s)) := by
  refine EvP.step ?_
  have e2 : IntKind.wrap .i64 ((p.length : Int) + 1) = ((p.length + 1 : Nat) : Int) := i64_nat (by omega)
  simp only [impl_parts.step, List.length_map, e2, toNat_cast]
  refine EvP.yes (inC_eq (by omega)) ?_
  have := impl_parts.rows p s hs hp (p.length + 1) (Nat.le_refl _) (List.replicate (p.length + 1) default) (by simp) (fun j' h1 h2 => by omega)
  rwa [show ((p.length + 1 : Nat) : Int) - 1 = (p.length : Int) by omega] at this
theorem impl_PatternParts.ev (p s : ByteArray) (hp : p.size ≤ 1048576) (hs : s.size ≤ 100) : EvP (fun n => impl_PatternParts n p s) (fun r => r.2 = fitsP p s) := by
  have bad : ∀ y, fitsP p s = false → EvP (fun n => goRec impl_PatternParts.step n (impl_PatternParts.Pt.p6 s true y)) (fun r => r.2 = fitsP p s) := by
    intro y h
    refine EvP.step ?_
    simp only [impl_PatternParts.step]
    exact EvP.yes rfl (EvP.pure h.symm)
  refine EvP.step ?_
  simp only [impl_PatternParts.step]
  refine EvP.bind (impl_alternatives.ev p hp) ?_
  cases ha : alts p with
  | none => exact EvP.yes (by simp [altP]) (bad _ (by rw [fitsP, ha]))
  | some l =>
    obtain ⟨hl, hl2⟩ := alts_len ha
    simp only [altP]
    refine EvP.no rfl ?_
    rw [show decide ((100 : Int) < (s.size : Int)) = false by simp; omega]
    refine EvP.step ?_
    simp only [impl_PatternParts.step, List.length_map]
    refine EvP.no rfl ?_
    have key : ∀ d i, i + d = l.length → EvP (fun n => goRec impl_PatternParts.step n (impl_PatternParts.Pt.p17 s (l.length : Int) (i : Int) (l.map (List.map toP)))) (fun r => r.2 = ((List.range' i d).any fun i => mt (l.getD i default) (octs s))) := by
      intro d
      induction d with
      | zero =>
        intro i h
        obtain rfl : i = l.length := by omega
        refine EvP.step ?_
        simp only [impl_PatternParts.step]
        exact EvP.no lt_no (EvP.pure rfl)
      | succ d ih =>
        intro i h
        have hi : i < l.length := by omega
        have hq : (l.map (List.map toP)).getD i default = (l.getD i default).map toP := by simp [List.getD_eq_getElem?_getD, hi]
        refine EvP.step ?_
        simp only [impl_PatternParts.step, toNat_cast, Nat.zero_add, i64_nat (show i ≤ 4611686018427387904 by omega), hq]
        refine EvP.yes (lt_yes hi) (EvP.yes (inB_nat (by simpa using hi)) (EvP.bindP (impl_parts.ev (l.getD i default) s (by omega) (by have := hl2 _ (getD_mem hi (d := default)); omega)) fun r hr => ?_))
        simp only [List.range'_succ, List.any_cons]
        rw [← hr]
        refine EvP.cnd (fun c => EvP.pure (by rw [c]; rfl)) fun c => (ih (i + 1) (by omega)).imp fun v hv => by rw [hv, c]; rfl
    have := key l.length 0 (by omega)
    rw [← List.range_eq_range'] at this
    refine this.imp fun v hv => ?_
    rw [hv, fitsP, ha]
theorem impl_PatternFits.ev (p s : ByteArray) (hp : p.size ≤ 1048576) (hs : s.size ≤ 100) : Ev (fun n => impl_PatternFits n p s) (fitsP p s) := by
  refine Ev.step ?_
  simp only [impl_PatternFits.step]
  obtain ⟨r, h1, h2⟩ := impl_PatternParts.ev p s hp hs
  exact Ev.bind h1 (Ev.pure' h2)
theorem impl_fitsOne.ev (x : MT) (l : List LB) (hx : Sm 1048576 MU x) (hl : l.length ≤ 1048576) (hv : labelsB l = true) : Ev (fun n => impl_fitsOne n x l) (matchOne x (valL l x.1)) := by
  refine Ev.step ?_
  simp only [impl_fitsOne.step]
  have hf := impl_PatternFits.ev x.2.2.1 (valL l x.1) hx.2.2.1 (labelsB_small hv)
  refine Ev.bind (impl_valueOf.ev _ _ hl) (Ev.cnd (fun c => Ev.pure' ?_) fun c => Ev.cnd (fun c2 => Ev.pure' ?_) fun c2 => Ev.cnd (fun c3 => Ev.bind hf (Ev.pure' ?_)) fun c3 => Ev.bind hf (Ev.pure' ?_))
  · rw [matchOne, if_pos (of_decide_eq_true c)]
  · rw [matchOne, if_neg (of_decide_eq_false c), if_pos (of_decide_eq_true c2)]
  · rw [matchOne, if_neg (of_decide_eq_false c), if_neg (of_decide_eq_false c2), if_pos (of_decide_eq_true c3)]
  · rw [matchOne, if_neg (of_decide_eq_false c), if_neg (of_decide_eq_false c2), if_neg (of_decide_eq_false c3)]
theorem impl_fits.ev (ms : List MT) (l : List LB) (hm : Sm 1048576 (.sl false MU) ms) (hl : l.length ≤ 1048576) (hv : labelsB l = true) : Ev (fun n => impl_fits n ms l) (fitsB ms l) := by
  have hml : ms.length ≤ 1048576 := hm.1
  refine Ev.step ?_
  simp only [impl_fits.step]
  refine Ev.allN (pt := fun i : Nat => impl_fits.Pt.p7 l ms (ms.length : Int) (i : Int)) (fun i hi => ⟨fun hp v hv' => ?_, fun hp => ?_⟩) ?_
  · refine Ev.step ?_
    simp only [impl_fits.step, toNat_cast, i64_nat (show i ≤ 4611686018427387904 by omega)]
    exact Ev.yes (lt_yes hi) (Ev.yes (inB_nat hi) (Ev.bind (impl_fitsOne.ev _ _ (hm.2 _ (getD_mem hi)) hl hv) (Ev.no (by rw [hp]; rfl) hv')))
  · refine Ev.step ?_
    simp only [impl_fits.step, toNat_cast]
    exact Ev.yes (lt_yes hi) (Ev.yes (inB_nat hi) (Ev.bind (impl_fitsOne.ev _ _ (hm.2 _ (getD_mem hi)) hl hv) (Ev.yes (by rw [hp]; rfl) Ev.pure)))
  · refine Ev.step ?_
    simp only [impl_fits.step]
    exact Ev.no lt_no Ev.pure
theorem impl_behindRoute.node (l : List RTE) (hl : l.length ≤ 40) : ∀ d i n, nodeN l routeB d i = some n → ∀ (c : Nat) v, c + 40 * d ≤ 1000000 → Ev (fun k => goRec impl_behindRoute.step k (impl_behindRoute.Pt.p7 l (n : Int) (c : Int))) v → Ev (fun k => goRec impl_behindRoute.step k (impl_behindRoute.Pt.p7 l (i : Int) ((c + 1 : Nat) : Int))) v := by
  intro d
  induction d with
  | zero => intro i n hn; simp [nodeN] at hn
  | succ d ih =>
    intro i n hn c v hc hv
    have hlt := nodeN_lt _ _ _ hn
    simp only [nodeN] at hn
    split at hn
    case isFalse => cases hn
    rename_i hc2
    simp only [Bool.and_eq_true, decide_eq_true_eq] at hc2
    obtain ⟨m, hm⟩ : ∃ m : Nat, kidsOf l i = (m : Int) := ⟨(kidsOf l i).toNat, by omega⟩
    have hm2 : (l.getD i default).2.2.2.2.2.2.2.2.1 = (m : Int) := hm
    rw [hm, Int.toNat_natCast] at hn
    have hml := manyN_le (fun p q hq => (nodeN_lt d p q hq).1) _ _ _ hn
    have key : ∀ e p, manyN (nodeN l routeB d) e p = some n → e ≤ 40 → Ev (fun k => goRec impl_behindRoute.step k (impl_behindRoute.Pt.p7 l (p : Int) ((c + e : Nat) : Int))) v := by
      intro e
      induction e with
      | zero =>
        intro p hp _
        simp only [manyN, Option.some.injEq] at hp
        subst hp
        exact hv
      | succ e ihe =>
        intro p hp he
        simp only [manyN] at hp
        cases hq : nodeN l routeB d p with
        | none => rw [hq] at hp; cases hp
        | some q =>
          rw [hq] at hp
          exact ih p q hq (c + e) v (by omega) (ihe q hp (by omega))
    refine Ev.step ?_
    simp only [impl_behindRoute.step, toNat_cast, hm2, i64_nat (show i ≤ 4611686018427387904 by omega)]
    refine Ev.yes (by simp only [decide_eq_true_eq]; omega) (Ev.yes (inB_nat hc2.1.1) ?_)
    rw [i64_ok (show -9223372036854775808 ≤ (m : Int) - 1 by omega) (by omega), i64_ok (by omega) (by omega), show ((c + 1 : Nat) : Int) + ((m : Int) - 1) = ((c + m : Nat) : Int) by omega]
    exact key m (i + 1) hn (by omega)
theorem impl_behindRoute.ev (l : List RTE) (hl : l.length ≤ 40) (d i n : Nat) (hd : d ≤ 8) (hn : nodeN l routeB d i = some n) : Ev (fun k => impl_behindRoute k l (i : Int)) (n : Int) := by
  refine Ev.step ?_
  simp only [impl_behindRoute.step]
  refine impl_behindRoute.node l hl d i n hn 0 _ (by omega) ?_
  refine Ev.step ?_
  simp only [impl_behindRoute.step]
  exact Ev.no (by simp) Ev.pure
theorem impl_takers_1.ev (l : List RTE) (t : List LB) (hl : l.length ≤ 40) (h : Sm 1048576 (.sl false RTU) l) (ht : labelsB t = true) (ht2 : t.length ≤ 1048576) : ∀ d i n, d ≤ 8 → nodeN l routeB d i = some n → ∀ out : List Int, out.length ≤ i → Ev (fun m => impl_takers_1 m (i : Int) l t () out) (out ++ takeN l t d i) := by
  intro d
  induction d with
  | zero => intro i n _ hn; simp [nodeN] at hn
  | succ d ih =>
    intro i n hd hn out ho
    have hlt := nodeN_lt _ _ _ hn
    have hn0 := hn
    simp only [nodeN] at hn
    split at hn
    case isFalse => cases hn
    rename_i hc
    simp only [Bool.and_eq_true, decide_eq_true_eq] at hc
    obtain ⟨m, hm⟩ : ∃ m : Nat, kidsOf l i = (m : Int) := ⟨(kidsOf l i).toNat, by omega⟩
    have hm2 : (l.getD i default).2.2.2.2.2.2.2.2.1 = (m : Int) := hm
    rw [hm, Int.toNat_natCast] at hn
    have pos : ∀ d i n, nodeN l routeB d i = some n → (takeN l t d i).isEmpty = false := by
      intro d i n h
      cases d with
      | zero => simp [nodeN] at h
      | succ d =>
        simp only [takeN]
        split
        · rfl
        · rename_i h; simpa using h
    have key : ∀ e c p none stop (o : List Int), c + e = m → c ≤ p → i < p → o.length ≤ p → manyN (nodeN l routeB d) e p = some n →
        Ev (fun k => goRec (fun n K => impl_takers_1.step n (fun x => K (.p0 x.1 x.2.1 x.2.2.1 x.2.2.2.1 x.2.2.2.2.1)) K) k (impl_takers_1.Pt.p11 (i : Int) none (p : Int) stop (m : Int) (c : Int) l t o))
          (if (none && (takeK (nodeN l routeB d) (takeN l t d) (fitI l t) (onB l) e p (!stop)).isEmpty) = true then o ++ [(i : Int)] else o ++ takeK (nodeN l routeB d) (takeN l t d) (fitI l t) (onB l) e p (!stop)) := by
      intro e
      induction e with
      | zero =>
        intro c p none stop o hce hcp hip hop hp
        obtain rfl : c = m := by omega
        have hp' : p = n := by simpa [manyN] using hp
        refine Ev.step ?_
        simp only [impl_takers_1.step, takeK, List.append_nil, List.isEmpty_nil, Bool.and_true]
        refine Ev.no lt_no (Ev.cnd (fun e => Ev.yes (room_ok (by simp; omega)) (Ev.pure' ?_)) fun e => Ev.pure' ?_)
        · rw [if_pos e]
        · rw [if_neg (by rw [e]; simp)]
      | succ e ihe =>
        intro c p none stop o hce hcp hip hop hp
        simp only [manyN] at hp
        cases hq : nodeN l routeB d p with
        | none => rw [hq] at hp; cases hp
        | some q =>
          rw [hq] at hp
          have hpq := nodeN_lt _ _ _ hq
          have hp2 : p < l.length := by omega
          have beh := impl_behindRoute.ev l hl d p q (by omega) hq
          have goOn : ∀ b, b = (!stop && fitI l t p) → Ev (fun k => goRec (fun n K => impl_takers_1.step n (fun x => K (.p0 x.1 x.2.1 x.2.2.1 x.2.2.2.1 x.2.2.2.2.1)) K) k (impl_takers_1.Pt.p21 (i : Int) none (p : Int) stop (m : Int) (c : Int) b l t o))
              (if (none && (takeK (nodeN l routeB d) (takeN l t d) (fitI l t) (onB l) (e + 1) p (!stop)).isEmpty) = true then o ++ [(i : Int)] else o ++ takeK (nodeN l routeB d) (takeN l t d) (fitI l t) (onB l) (e + 1) p (!stop)) := by
            rintro b rfl
            refine Ev.step ?_
            simp only [impl_takers_1.step, toNat_cast, i64_nat (show c ≤ 4611686018427387904 by omega), takeK, hq, Option.getD_some]
            refine Ev.cnd (fun e1 => ?_) fun e1 => ?_
            · have hin := (takeN_in (t := t) _ _ _ hq).2
              refine Ev.bind (ih p q (by omega) hq o hop) (Ev.yes (inB_nat hp2) (Ev.bind beh ?_))
              have := ihe (c + 1) q false (!(onB l p)) (o ++ takeN l t d p) (by omega) (by omega) (by omega) (by have := hin.2.2; simp; omega) hp
              refine Ev.of_eq this ?_
              have hpos := pos d p q hq
              rw [if_pos e1, Bool.not_not]
              cases hA : takeN l t d p with
              | nil => rw [hA] at hpos; cases hpos
              | cons x r => simp
            · have := ihe (c + 1) q none stop o (by omega) (by omega) (by omega) (by omega) hp
              rw [if_neg (show ¬ ((!stop && fitI l t p) = true) by rw [e1]; simp)]
              exact Ev.bind beh this
          refine Ev.step ?_
          simp only [impl_takers_1.step, toNat_cast]
          refine Ev.yes (lt_yes (by omega)) (Ev.cnd (fun e1 => Ev.yes (inB_nat hp2) (Ev.bind (impl_fits.ev _ t (h.2 _ (getD_mem hp2)).2.1 ht2 ht) (goOn _ (by rw [e1]; rfl)))) fun e1 => goOn _ (by rw [e1]; rfl))
    refine Ev.step ?_
    simp only [impl_takers_1.step, toNat_cast, i64_nat (show i ≤ 4611686018427387904 by omega), hm2]
    refine Ev.yes (inB_nat hc.1.1) (Ev.of_eq (key m 0 (i + 1) true false out (by omega) (by omega) (by omega) (by omega) hn) ?_)
    rw [takeN, hm, Int.toNat_natCast, Bool.true_and, Bool.not_false]
    generalize takeK (nodeN l routeB d) (takeN l t d) (fitI l t) (onB l) m (i + 1) true = r
    cases r with
    | nil => simp
    | cons x r => simp
theorem impl_takers.ev (l : List RTE) (t : List LB) (hl : l.length ≤ 40) (h : Sm 1048576 (.sl false RTU) l) (ht : labelsB t = true) (ht2 : t.length ≤ 1048576) (n : Nat) (hn : nodeN l routeB 8 0 = some n) : Ev (fun m => impl_takers m l t) (takeN l t 8 0) := by
  refine Ev.step ?_
  simp only [impl_takers.step]
  exact Ev.bind (impl_takers_1.ev l t hl h ht ht2 8 0 n (Nat.le_refl _) hn [] (by simp)) Ev.pure
theorem slices_Sort_int.ev (l : List Int) (hl : l.length ≤ 1048576) : Ev (fun n => slices_Sort_int n l) (l.mergeSort fun x y => decide (x ≤ y)) := by
  refine Ev.held ?_
  rw [decide_eq_true (show l.length < 4611686018427387904 by omega)]
  rfl
theorem impl_RoutesFor.ev (l : List RTE) (t : List LB) (hl : Sm 1048576 (.sl false RTU) l) (ht : Sm 1048576 (.sl false LU) t) : Ev (fun n => impl_RoutesFor n l t) (forF l t) := by
  have bad : (routesB l && labelsB t) = false → Ev (fun m => goRec impl_RoutesFor.step m (impl_RoutesFor.Pt.p4 l t true)) (forF l t) := fun h => by
    refine Ev.step ?_
    simp only [impl_RoutesFor.step]
    exact Ev.yes rfl (Ev.pure' (by rw [forF, h]; rfl))
  refine Ev.step ?_
  simp only [impl_RoutesFor.step]
  refine Ev.bind (impl_GoodRoutes.ev _ hl) (Ev.cnd (fun e => bad (by rw [Bool.not_eq_true'] at e; rw [e]; rfl)) fun e1 => Ev.bind (impl_GoodLabels.ev _ ht) ?_)
  rw [Bool.not_eq_false'] at e1
  cases e2 : labelsB t with
  | false => exact bad (by rw [e2, Bool.and_false])
  | true =>
    have ha := routesB_all e1
    refine Ev.step ?_
    simp only [impl_RoutesFor.step]
    refine Ev.no rfl (Ev.bind (impl_takers.ev l t ha.1 hl e2 ht.1 _ ha.2.1) (Ev.bind (slices_Sort_int.ev _ (by have := (takeN_in (t := t) _ _ _ ha.2.1).2.2.2; omega)) (Ev.pure' ?_)))
    rw [forF, e1, e2, takeN_sort ha.2.1]; rfl
theorem laws_eqIntS.loop (l m : List (Int)) (hl : Sm 1048576 (.sl false (.int .i64)) l) (hm : Sm 1048576 (.sl false (.int .i64)) m) (hlm : l.length = m.length) : ∀ d i, i + d = l.length → (∀ j, j < i → l.getD j default = m.getD j default) → Ev (fun n => goRec laws_eqIntS.step n (.p15 l m (i : Int))) (eqB l m) := by
  have hk : l.length ≤ 1048576 := hl.1
  intro d
  induction d with
  | zero =>
    intro i hd hj
    rw [Nat.add_zero] at hd
    subst hd
    refine Ev.step ?_
    simp only [laws_eqIntS.step]
    exact Ev.no lt_no (Ev.pure' (eqB_yes (ext_getD (d := default) hlm (fun j hj2 => hj j (by omega)))).symm)
  | succ d ih =>
    intro i hd hj
    have hi : i < l.length := by omega
    refine Ev.step ?_
    simp only [laws_eqIntS.step, toNat_cast]
    refine Ev.yes (lt_yes hi) (Ev.yes (inB_nat hi) (Ev.yes (inB_nat (by omega)) ?_))
    refine Ev.cnd (fun h => Ev.pure' (eqB_no fun e => by subst e; simp [seq, eqB] at h).symm) fun h => ?_
    rw [i64_nat (by omega)]
    refine ih (i + 1) (by omega) fun j hj2 => ?_
    by_cases e : j = i
    · subst e; simpa [seq, eqB] using h
    · exact hj j (by omega)
theorem laws_eqIntS.ev (l m : List (Int)) (hl : Sm 1048576 (.sl false (.int .i64)) l) (hm : Sm 1048576 (.sl false (.int .i64)) m) : Ev (fun n => laws_eqIntS n l m) (eqB l m) := by
  refine Ev.step ?_
  simp only [laws_eqIntS.step]
  refine Ev.cnd (fun h => Ev.pure' (eqB_no fun e => by subst e; simp at h).symm) fun h => ?_
  replace h : l.length = m.length := by simp at h; omega
  exact laws_eqIntS.loop l m hl hm h l.length 0 (by omega) (by omega)
theorem laws_eqMatcher.ev (x y : (ByteArray) × ((Int) × ((ByteArray) × (Unit)))) (hx : Sm 1048576 (.pair .str (.pair (.int .i64) (.pair .str .unit))) x) (hy : Sm 1048576 (.pair .str (.pair (.int .i64) (.pair .str .unit))) y) : Ev (fun n => laws_eqMatcher n x y) (eqB x y) := by
  refine Ev.step ?_
  simp only [laws_eqMatcher.step]
  refine Ev.cnd (fun h => Ev.pure' (eqB_no fun e => by subst e; simp [seq, eqB] at h).symm) fun h1 => ?_
  replace h1 : x.1 = y.1 := by simpa [seq, eqB] using h1
  refine Ev.cnd (fun h => Ev.pure' (eqB_no fun e => by subst e; simp [seq, eqB] at h).symm) fun h2 => ?_
  replace h2 : x.2.1 = y.2.1 := by simpa [seq, eqB] using h2
  refine Ev.cnd (fun h => Ev.pure' (eqB_no fun e => by subst e; simp [seq, eqB] at h).symm) fun h3 => ?_
  replace h3 : x.2.2.1 = y.2.2.1 := by simpa [seq, eqB] using h3
  exact Ev.pure' (eqB_yes (Prod.ext h1 (Prod.ext h2 (Prod.ext h3 rfl)))).symm
theorem laws_eqMatcherS.loop (l m : List ((ByteArray) × ((Int) × ((ByteArray) × (Unit))))) (hl : Sm 1048576 (.sl false (.pair .str (.pair (.int .i64) (.pair .str .unit)))) l) (hm : Sm 1048576 (.sl false (.pair .str (.pair (.int .i64) (.pair .str .unit)))) m) (hlm : l.length = m.length) : ∀ d i, i + d = l.length → (∀ j, j < i → l.getD j default = m.getD j default) → Ev (fun n => goRec laws_eqMatcherS.step n (.p15 l m (i : Int))) (eqB l m) := by
  have hk : l.length ≤ 1048576 := hl.1
  intro d
  induction d with
  | zero =>
    intro i hd hj
    rw [Nat.add_zero] at hd
    subst hd
    refine Ev.step ?_
    simp only [laws_eqMatcherS.step]
    exact Ev.no lt_no (Ev.pure' (eqB_yes (ext_getD (d := default) hlm (fun j hj2 => hj j (by omega)))).symm)
  | succ d ih =>
    intro i hd hj
    have hi : i < l.length := by omega
    refine Ev.step ?_
    simp only [laws_eqMatcherS.step, toNat_cast]
    refine Ev.yes (lt_yes hi) (Ev.yes (inB_nat hi) (Ev.yes (inB_nat (by omega)) ?_))
    refine Ev.bind (laws_eqMatcher.ev (l.getD i default) (m.getD i default) (hl.2 _ (getD_mem hi)) (hm.2 _ (getD_mem (by omega)))) ?_
    refine Ev.cnd (fun h => Ev.pure' (eqB_no fun e => by subst e; simp [seq, eqB] at h).symm) fun h => ?_
    rw [i64_nat (by omega)]
    refine ih (i + 1) (by omega) fun j hj2 => ?_
    by_cases e : j = i
    · subst e; simpa [seq, eqB] using h
    · exact hj j (by omega)
theorem laws_eqMatcherS.ev (l m : List ((ByteArray) × ((Int) × ((ByteArray) × (Unit))))) (hl : Sm 1048576 (.sl false (.pair .str (.pair (.int .i64) (.pair .str .unit)))) l) (hm : Sm 1048576 (.sl false (.pair .str (.pair (.int .i64) (.pair .str .unit)))) m) : Ev (fun n => laws_eqMatcherS n l m) (eqB l m) := by
  refine Ev.step ?_
  simp only [laws_eqMatcherS.step]
  refine Ev.cnd (fun h => Ev.pure' (eqB_no fun e => by subst e; simp at h).symm) fun h => ?_
  replace h : l.length = m.length := by simp at h; omega
  exact laws_eqMatcherS.loop l m hl hm h l.length 0 (by omega) (by omega)
theorem laws_eqStringS.loop (l m : List (ByteArray)) (hl : Sm 1048576 (.sl false .str) l) (hm : Sm 1048576 (.sl false .str) m) (hlm : l.length = m.length) : ∀ d i, i + d = l.length → (∀ j, j < i → l.getD j default = m.getD j default) → Ev (fun n => goRec laws_eqStringS.step n (.p15 l m (i : Int))) (eqB l m) := by
  have hk : l.length ≤ 1048576 := hl.1
  intro d
  induction d with
  | zero =>
    intro i hd hj
    rw [Nat.add_zero] at hd
    subst hd
    refine Ev.step ?_
    simp only [laws_eqStringS.step]
    exact Ev.no lt_no (Ev.pure' (eqB_yes (ext_getD (d := default) hlm (fun j hj2 => hj j (by omega)))).symm)
  | succ d ih =>
    intro i hd hj
    have hi : i < l.length := by omega
    refine Ev.step ?_
    simp only [laws_eqStringS.step, toNat_cast]
    refine Ev.yes (lt_yes hi) (Ev.yes (inB_nat hi) (Ev.yes (inB_nat (by omega)) ?_))
    refine Ev.cnd (fun h => Ev.pure' (eqB_no fun e => by subst e; simp [seq, eqB] at h).symm) fun h => ?_
    rw [i64_nat (by omega)]
    refine ih (i + 1) (by omega) fun j hj2 => ?_
    by_cases e : j = i
    · subst e; simpa [seq, eqB] using h
    · exact hj j (by omega)
theorem laws_eqStringS.ev (l m : List (ByteArray)) (hl : Sm 1048576 (.sl false .str) l) (hm : Sm 1048576 (.sl false .str) m) : Ev (fun n => laws_eqStringS n l m) (eqB l m) := by
  refine Ev.step ?_
  simp only [laws_eqStringS.step]
  refine Ev.cnd (fun h => Ev.pure' (eqB_no fun e => by subst e; simp at h).symm) fun h => ?_
  replace h : l.length = m.length := by simp at h; omega
  exact laws_eqStringS.loop l m hl hm h l.length 0 (by omega) (by omega)
theorem laws_eqRoute.ev (x y : (ByteArray) × ((List ((ByteArray) × ((Int) × ((ByteArray) × (Unit))))) × ((List (ByteArray)) × ((Int) × ((Int) × ((Int) × ((List (Int)) × ((Bool) × ((Int) × (Unit)))))))))) (hx : Sm 1048576 (.pair .str (.pair (.sl false (.pair .str (.pair (.int .i64) (.pair .str .unit)))) (.pair (.sl false .str) (.pair (.int .i64) (.pair (.int .i64) (.pair (.int .i64) (.pair (.sl false (.int .i64)) (.pair .bool (.pair (.int .i64) .unit))))))))) x) (hy : Sm 1048576 (.pair .str (.pair (.sl false (.pair .str (.pair (.int .i64) (.pair .str .unit)))) (.pair (.sl false .str) (.pair (.int .i64) (.pair (.int .i64) (.pair (.int .i64) (.pair (.sl false (.int .i64)) (.pair .bool (.pair (.int .i64) .unit))))))))) y) : Ev (fun n => laws_eqRoute n x y) (eqB x y) := by
  refine Ev.step ?_
  simp only [laws_eqRoute.step]
  refine Ev.cnd (fun h => Ev.pure' (eqB_no fun e => by subst e; simp [seq, eqB] at h).symm) fun h1 => ?_
  replace h1 : x.1 = y.1 := by simpa [seq, eqB] using h1
  refine Ev.bind (laws_eqMatcherS.ev x.2.1 y.2.1 hx.2.1 hy.2.1) ?_
  refine Ev.cnd (fun h => Ev.pure' (eqB_no fun e => by subst e; simp [seq, eqB] at h).symm) fun h2 => ?_
  replace h2 : x.2.1 = y.2.1 := by simpa [seq, eqB] using h2
  refine Ev.bind (laws_eqStringS.ev x.2.2.1 y.2.2.1 hx.2.2.1 hy.2.2.1) ?_
  refine Ev.cnd (fun h => Ev.pure' (eqB_no fun e => by subst e; simp [seq, eqB] at h).symm) fun h3 => ?_
  replace h3 : x.2.2.1 = y.2.2.1 := by simpa [seq, eqB] using h3
  refine Ev.cnd (fun h => Ev.pure' (eqB_no fun e => by subst e; simp [seq, eqB] at h).symm) fun h4 => ?_
  replace h4 : x.2.2.2.1 = y.2.2.2.1 := by simpa [seq, eqB] using h4
  refine Ev.cnd (fun h => Ev.pure' (eqB_no fun e => by subst e; simp [seq, eqB] at h).symm) fun h5 => ?_
  replace h5 : x.2.2.2.2.1 = y.2.2.2.2.1 := by simpa [seq, eqB] using h5
  refine Ev.cnd (fun h => Ev.pure' (eqB_no fun e => by subst e; simp [seq, eqB] at h).symm) fun h6 => ?_
  replace h6 : x.2.2.2.2.2.1 = y.2.2.2.2.2.1 := by simpa [seq, eqB] using h6
  refine Ev.bind (laws_eqIntS.ev x.2.2.2.2.2.2.1 y.2.2.2.2.2.2.1 hx.2.2.2.2.2.2.1 hy.2.2.2.2.2.2.1) ?_
  refine Ev.cnd (fun h => Ev.pure' (eqB_no fun e => by subst e; simp [seq, eqB] at h).symm) fun h7 => ?_
  replace h7 : x.2.2.2.2.2.2.1 = y.2.2.2.2.2.2.1 := by simpa [seq, eqB] using h7
  refine Ev.cnd (fun h => Ev.pure' (eqB_no fun e => by subst e; simp [seq, eqB] at h).symm) fun h8 => ?_
  replace h8 : x.2.2.2.2.2.2.2.1 = y.2.2.2.2.2.2.2.1 := by simpa [seq, eqB] using h8
  refine Ev.cnd (fun h => Ev.pure' (eqB_no fun e => by subst e; simp [seq, eqB] at h).symm) fun h9 => ?_
  replace h9 : x.2.2.2.2.2.2.2.2.1 = y.2.2.2.2.2.2.2.2.1 := by simpa [seq, eqB] using h9
  exact Ev.pure' (eqB_yes (Prod.ext h1 (Prod.ext h2 (Prod.ext h3 (Prod.ext h4 (Prod.ext h5 (Prod.ext h6 (Prod.ext h7 (Prod.ext h8 (Prod.ext h9 rfl)))))))))).symm
theorem laws_eqRouteS.loop (l m : List ((ByteArray) × ((List ((ByteArray) × ((Int) × ((ByteArray) × (Unit))))) × ((List (ByteArray)) × ((Int) × ((Int) × ((Int) × ((List (Int)) × ((Bool) × ((Int) × (Unit))))))))))) (hl : Sm 1048576 (.sl false (.pair .str (.pair (.sl false (.pair .str (.pair (.int .i64) (.pair .str .unit)))) (.pair (.sl false .str) (.pair (.int .i64) (.pair (.int .i64) (.pair (.int .i64) (.pair (.sl false (.int .i64)) (.pair .bool (.pair (.int .i64) .unit)))))))))) l) (hm : Sm 1048576 (.sl false (.pair .str (.pair (.sl false (.pair .str (.pair (.int .i64) (.pair .str .unit)))) (.pair (.sl false .str) (.pair (.int .i64) (.pair (.int .i64) (.pair (.int .i64) (.pair (.sl false (.int .i64)) (.pair .bool (.pair (.int .i64) .unit)))))))))) m) (hlm : l.length = m.length) : ∀ d i, i + d = l.length → (∀ j, j < i → l.getD j default = m.getD j default) → Ev (fun n => goRec laws_eqRouteS.step n (.p15 l m (i : Int))) (eqB l m) := by
  have hk : l.length ≤ 1048576 := hl.1
  intro d
  induction d with
  | zero =>
    intro i hd hj
    rw [Nat.add_zero] at hd
    subst hd
    refine Ev.step ?_
    simp only [laws_eqRouteS.step]
    exact Ev.no lt_no (Ev.pure' (eqB_yes (ext_getD (d := default) hlm (fun j hj2 => hj j (by omega)))).symm)
  | succ d ih =>
    intro i hd hj
    have hi : i < l.length := by omega
    refine Ev.step ?_
    simp only [laws_eqRouteS.step, toNat_cast]
    refine Ev.yes (lt_yes hi) (Ev.yes (inB_nat hi) (Ev.yes (inB_nat (by omega)) ?_))
    refine Ev.bind (laws_eqRoute.ev (l.getD i default) (m.getD i default) (hl.2 _ (getD_mem hi)) (hm.2 _ (getD_mem (by omega)))) ?_
    refine Ev.cnd (fun h => Ev.pure' (eqB_no fun e => by subst e; simp [seq, eqB] at h).symm) fun h => ?_
    rw [i64_nat (by omega)]
    refine ih (i + 1) (by omega) fun j hj2 => ?_
    by_cases e : j = i
    · subst e; simpa [seq, eqB] using h
    · exact hj j (by omega)
theorem laws_eqRouteS.ev (l m : List ((ByteArray) × ((List ((ByteArray) × ((Int) × ((ByteArray) × (Unit))))) × ((List (ByteArray)) × ((Int) × ((Int) × ((Int) × ((List (Int)) × ((Bool) × ((Int) × (Unit))))))))))) (hl : Sm 1048576 (.sl false (.pair .str (.pair (.sl false (.pair .str (.pair (.int .i64) (.pair .str .unit)))) (.pair (.sl false .str) (.pair (.int .i64) (.pair (.int .i64) (.pair (.int .i64) (.pair (.sl false (.int .i64)) (.pair .bool (.pair (.int .i64) .unit)))))))))) l) (hm : Sm 1048576 (.sl false (.pair .str (.pair (.sl false (.pair .str (.pair (.int .i64) (.pair .str .unit)))) (.pair (.sl false .str) (.pair (.int .i64) (.pair (.int .i64) (.pair (.int .i64) (.pair (.sl false (.int .i64)) (.pair .bool (.pair (.int .i64) .unit)))))))))) m) : Ev (fun n => laws_eqRouteS n l m) (eqB l m) := by
  refine Ev.step ?_
  simp only [laws_eqRouteS.step]
  refine Ev.cnd (fun h => Ev.pure' (eqB_no fun e => by subst e; simp at h).symm) fun h => ?_
  replace h : l.length = m.length := by simp at h; omega
  exact laws_eqRouteS.loop l m hl hm h l.length 0 (by omega) (by omega)
theorem laws_eqLabel.ev (x y : (ByteArray) × ((ByteArray) × (Unit))) (hx : Sm 1048576 (.pair .str (.pair .str .unit)) x) (hy : Sm 1048576 (.pair .str (.pair .str .unit)) y) : Ev (fun n => laws_eqLabel n x y) (eqB x y) := by
  refine Ev.step ?_
  simp only [laws_eqLabel.step]
  refine Ev.cnd (fun h => Ev.pure' (eqB_no fun e => by subst e; simp [seq, eqB] at h).symm) fun h1 => ?_
  replace h1 : x.1 = y.1 := by simpa [seq, eqB] using h1
  refine Ev.cnd (fun h => Ev.pure' (eqB_no fun e => by subst e; simp [seq, eqB] at h).symm) fun h2 => ?_
  replace h2 : x.2.1 = y.2.1 := by simpa [seq, eqB] using h2
  exact Ev.pure' (eqB_yes (Prod.ext h1 (Prod.ext h2 rfl))).symm
theorem laws_eqLabelS.loop (l m : List ((ByteArray) × ((ByteArray) × (Unit)))) (hl : Sm 1048576 (.sl false (.pair .str (.pair .str .unit))) l) (hm : Sm 1048576 (.sl false (.pair .str (.pair .str .unit))) m) (hlm : l.length = m.length) : ∀ d i, i + d = l.length → (∀ j, j < i → l.getD j default = m.getD j default) → Ev (fun n => goRec laws_eqLabelS.step n (.p15 l m (i : Int))) (eqB l m) := by
  have hk : l.length ≤ 1048576 := hl.1
  intro d
  induction d with
  | zero =>
    intro i hd hj
    rw [Nat.add_zero] at hd
    subst hd
    refine Ev.step ?_
    simp only [laws_eqLabelS.step]
    exact Ev.no lt_no (Ev.pure' (eqB_yes (ext_getD (d := default) hlm (fun j hj2 => hj j (by omega)))).symm)
  | succ d ih =>
    intro i hd hj
    have hi : i < l.length := by omega
    refine Ev.step ?_
    simp only [laws_eqLabelS.step, toNat_cast]
    refine Ev.yes (lt_yes hi) (Ev.yes (inB_nat hi) (Ev.yes (inB_nat (by omega)) ?_))
    refine Ev.bind (laws_eqLabel.ev (l.getD i default) (m.getD i default) (hl.2 _ (getD_mem hi)) (hm.2 _ (getD_mem (by omega)))) ?_
    refine Ev.cnd (fun h => Ev.pure' (eqB_no fun e => by subst e; simp [seq, eqB] at h).symm) fun h => ?_
    rw [i64_nat (by omega)]
    refine ih (i + 1) (by omega) fun j hj2 => ?_
    by_cases e : j = i
    · subst e; simpa [seq, eqB] using h
    · exact hj j (by omega)
theorem laws_eqLabelS.ev (l m : List ((ByteArray) × ((ByteArray) × (Unit)))) (hl : Sm 1048576 (.sl false (.pair .str (.pair .str .unit))) l) (hm : Sm 1048576 (.sl false (.pair .str (.pair .str .unit))) m) : Ev (fun n => laws_eqLabelS n l m) (eqB l m) := by
  refine Ev.step ?_
  simp only [laws_eqLabelS.step]
  refine Ev.cnd (fun h => Ev.pure' (eqB_no fun e => by subst e; simp at h).symm) fun h => ?_
  replace h : l.length = m.length := by simp at h; omega
  exact laws_eqLabelS.loop l m hl hm h l.length 0 (by omega) (by omega)
theorem laws_markText.loop : ∀ d (y : Nat) (s : ByteArray), y < 10 ^ d → y ≤ 4611686018427387904 → s.size + d ≤ 1000 → EvP (fun n => goRec laws_markText.step n (laws_markText.Pt.p15 (y : Int) s)) (fun _ => True) := by
  intro d
  induction d with
  | zero =>
    intro y s h h1 h2
    obtain rfl : y = 0 := by simp at h; omega
    refine EvP.step ?_
    simp only [laws_markText.step]
    refine EvP.no (by simp) (EvP.yes (room_ok ?_) (EvP.pure trivial))
    show 1 + s.size ≤ 1000000000
    omega
  | succ d ih =>
    intro y s h h1 h2
    refine EvP.step ?_
    simp only [laws_markText.step]
    have e : IntKind.wrap .i64 (Int.tdiv (y : Int) 10) = ((y / 10 : Nat) : Int) := by
      rw [Int.tdiv_eq_ediv_of_nonneg (by omega), i64_ok (by omega) (by omega)]
      omega
    rw [e]
    refine EvP.cnd (fun c => EvP.yes (room_ok ?_) (ih (y / 10) _ ?_ (by omega) ?_)) fun c => EvP.yes (room_ok ?_) (EvP.pure trivial)
    · show 1 + s.size ≤ 1000000000
      omega
    · rw [Nat.pow_succ] at h; omega
    · rw [ByteArray.size_append]
      show 1 + s.size + d ≤ 1000
      omega
    · show 1 + s.size ≤ 1000000000
      omega
theorem laws_markText.ex (k : Nat) (hk : k ≤ 4611686018427387904) : ∃ s, Ev (fun n => laws_markText n (k : Int)) s := by
  obtain ⟨v, h, _⟩ : EvP (fun n => laws_markText n (k : Int)) (fun _ => True) := by
    refine EvP.step ?_
    simp only [laws_markText.step]
    exact EvP.cnd (fun _ => EvP.pure trivial) fun _ => laws_markText.loop 19 k _ (by omega) hk (by simp [size_empty])
  exact ⟨v, h⟩
noncomputable def markT (k : Nat) : ByteArray := Classical.epsilon fun s => Ev (fun n => laws_markText n (k : Int)) s
theorem laws_markText.ev (k : Nat) (hk : k ≤ 4611686018427387904) : Ev (fun n => laws_markText n (k : Int)) (markT k) := Classical.epsilon_spec (laws_markText.ex k hk)
theorem laws_markMatcherS.loop (l : List ((ByteArray) × ((Int) × ((ByteArray) × (Unit))))) (h : Sm 1048576 (.sl false (.pair .str (.pair (.int .i64) (.pair .str .unit)))) l) : ∀ d i (k : Nat) (m : List ((ByteArray) × ((Int) × ((ByteArray) × (Unit))))), i + d = l.length → m.length = l.length → (∀ j, i ≤ j → j < l.length → m.getD j default = l.getD j default) → k + d * 3 ≤ 1152921504606846976 →
    EvP (fun n => goRec laws_markMatcherS.step n (laws_markMatcherS.Pt.p7 (k : Int) (i : Int) m)) (fun r => ∃ k2 : Nat, r.1 = (k2 : Int) ∧ k ≤ k2 ∧ k2 ≤ k + d * 3 ∧ r.2.length = l.length) := by
  have hl : l.length ≤ 1048576 := h.1
  intro d
  induction d with
  | zero =>
    intro i k m hd h1 h2 hb
    refine EvP.step ?_
    simp only [laws_markMatcherS.step]
    exact EvP.no (by simp; omega) (EvP.pure ⟨k, rfl, by omega, by omega, h1⟩)
  | succ d ih =>
    intro i k m hd h1 h2 hb
    have hi : i < m.length := by omega
    have hx := h.2 _ (getD_mem (d := default) (show i < l.length by omega))
    refine EvP.step ?_
    simp only [laws_markMatcherS.step, toNat_cast, Nat.zero_add, List.length_set, getD_set_same hi, List.set_set, i64_nat (show i ≤ 4611686018427387904 by omega), i64_nat (show k ≤ 4611686018427387904 by omega), i64_nat (show k + 1 ≤ 4611686018427387904 by omega), i64_nat (show k + 1 + 1 ≤ 4611686018427387904 by omega), i64_nat (show k + 1 + 1 + 1 ≤ 4611686018427387904 by omega)]
    refine EvP.yes (lt_yes hi) ?_
    refine EvP.bind (laws_markText.ev (k) (by omega)) ?_
    refine EvP.yes (inB_nat hi) ?_
    refine EvP.yes (inB_nat hi) ?_
    refine EvP.bind (laws_markText.ev (k + 1 + 1) (by omega)) ?_
    refine EvP.yes (inB_nat hi) ?_
    refine (ih (i + 1) (k + 1 + 1 + 1) _ (by omega) (by simpa using h1) (fun j hj1 hj2 => ?_) (by omega)).imp fun r hr => ?_
    · rw [getD_set_other (by omega)]; exact h2 j (by omega) hj2
    · obtain ⟨k9, e9, m9, n9, o9⟩ := hr
      exact ⟨k9, e9, by omega, by omega, o9⟩
theorem laws_markMatcherS.ev (l : List ((ByteArray) × ((Int) × ((ByteArray) × (Unit))))) (k : Nat) (h : Sm 1048576 (.sl false (.pair .str (.pair (.int .i64) (.pair .str .unit)))) l) (hk : k + 3145728 ≤ 1152921504606846976) : EvP (fun n => laws_markMatcherS n l (k : Int)) (fun r => ∃ k2 : Nat, r.1 = (k2 : Int) ∧ k ≤ k2 ∧ k2 ≤ k + 3145728 ∧ r.2.length = l.length) := by
  have hl : l.length ≤ 1048576 := h.1
  refine EvP.step ?_
  simp only [laws_markMatcherS.step]
  refine (laws_markMatcherS.loop l h l.length 0 k l (by omega) rfl (fun _ _ _ => rfl) (by omega)).imp fun r hr => ?_
  obtain ⟨k9, e9, m9, n9, o9⟩ := hr
  exact ⟨k9, e9, m9, by omega, o9⟩
theorem laws_markStringS.loop (l : List ByteArray) (k : Nat) (hl : l.length ≤ 1048576) (hk : k ≤ 1152921504606846976) : ∀ d i (m : List ByteArray), i + d = l.length → m.length = l.length → (∀ j, j < i → m.getD j default = markT (k + j)) →
    EvP (fun n => goRec laws_markStringS.step n (laws_markStringS.Pt.p7 ((k + i : Nat) : Int) (i : Int) m)) (fun r => r.1 = ((k + l.length : Nat) : Int) ∧ r.2.length = l.length ∧ ∀ j, j < l.length → r.2.getD j default = markT (k + j)) := by
  intro d
  induction d with
  | zero =>
    intro i m h h1 h2
    obtain rfl : i = l.length := by omega
    refine EvP.step ?_
    simp only [laws_markStringS.step]
    exact EvP.no (by simp; omega) (EvP.pure ⟨rfl, h1, h2⟩)
  | succ d ih =>
    intro i m h h1 h2
    have hi : i < m.length := by omega
    refine EvP.step ?_
    simp only [laws_markStringS.step, toNat_cast, Nat.zero_add, i64_nat (show i ≤ 4611686018427387904 by omega), i64_nat (show k + i ≤ 4611686018427387904 by omega)]
    refine EvP.yes (lt_yes hi) (EvP.bind (laws_markText.ev (k + i) (by omega)) (EvP.yes (inB_nat hi) ?_))
    refine ih (i + 1) _ (by omega) (by simpa using h1) fun j hj => ?_
    by_cases e : j = i
    · subst e; rw [getD_set_same hi]
    · rw [getD_set_other e]; exact h2 j (by omega)
theorem laws_markStringS.ev (l : List ByteArray) (k : Nat) (hl : l.length ≤ 1048576) (hk : k ≤ 1152921504606846976) : EvP (fun n => laws_markStringS n l (k : Int)) (fun r => r.1 = ((k + l.length : Nat) : Int) ∧ r.2.length = l.length ∧ ∀ j, j < l.length → r.2.getD j default = markT (k + j)) := by
  refine EvP.step ?_
  simp only [laws_markStringS.step]
  exact laws_markStringS.loop l k hl hk l.length 0 l (by omega) rfl (fun j hj => by omega)
theorem laws_markIntS.loop (l : List Int) (k : Nat) (hl : l.length ≤ 1048576) (hk : k ≤ 1152921504606846976) : ∀ d i (m : List Int), i + d = l.length → m.length = l.length → (∀ j, j < i → m.getD j default = ((k + j : Nat) : Int)) →
    EvP (fun n => goRec laws_markIntS.step n (laws_markIntS.Pt.p7 ((k + i : Nat) : Int) (i : Int) m)) (fun r => r.1 = ((k + l.length : Nat) : Int) ∧ r.2.length = l.length ∧ ∀ j, j < l.length → r.2.getD j default = ((k + j : Nat) : Int)) := by
  intro d
  induction d with
  | zero =>
    intro i m h h1 h2
    obtain rfl : i = l.length := by omega
    refine EvP.step ?_
    simp only [laws_markIntS.step]
    exact EvP.no (by simp; omega) (EvP.pure ⟨rfl, h1, h2⟩)
  | succ d ih =>
    intro i m h h1 h2
    have hi : i < m.length := by omega
    refine EvP.step ?_
    simp only [laws_markIntS.step, toNat_cast, Nat.zero_add, i64_nat (show i ≤ 4611686018427387904 by omega), i64_nat (show k + i ≤ 4611686018427387904 by omega)]
    refine EvP.yes (lt_yes hi) (EvP.yes (inB_nat hi) ?_)
    refine ih (i + 1) _ (by omega) (by simpa using h1) fun j hj => ?_
    by_cases e : j = i
    · subst e; rw [getD_set_same hi]
    · rw [getD_set_other e]; exact h2 j (by omega)
theorem laws_markIntS.ev (l : List Int) (k : Nat) (hl : l.length ≤ 1048576) (hk : k ≤ 1152921504606846976) : EvP (fun n => laws_markIntS n l (k : Int)) (fun r => r.1 = ((k + l.length : Nat) : Int) ∧ r.2.length = l.length ∧ ∀ j, j < l.length → r.2.getD j default = ((k + j : Nat) : Int)) := by
  refine EvP.step ?_
  simp only [laws_markIntS.step]
  exact laws_markIntS.loop l k hl hk l.length 0 l (by omega) rfl (fun j hj => by omega)
theorem laws_markRouteS.loop (l : List ((ByteArray) × ((List ((ByteArray) × ((Int) × ((ByteArray) × (Unit))))) × ((List (ByteArray)) × ((Int) × ((Int) × ((Int) × ((List (Int)) × ((Bool) × ((Int) × (Unit))))))))))) (h : Sm 1048576 (.sl false (.pair .str (.pair (.sl false (.pair .str (.pair (.int .i64) (.pair .str .unit)))) (.pair (.sl false .str) (.pair (.int .i64) (.pair (.int .i64) (.pair (.int .i64) (.pair (.sl false (.int .i64)) (.pair .bool (.pair (.int .i64) .unit)))))))))) l) : ∀ d i (k : Nat) (m : List ((ByteArray) × ((List ((ByteArray) × ((Int) × ((ByteArray) × (Unit))))) × ((List (ByteArray)) × ((Int) × ((Int) × ((Int) × ((List (Int)) × ((Bool) × ((Int) × (Unit))))))))))), i + d = l.length → m.length = l.length → (∀ j, i ≤ j → j < l.length → m.getD j default = l.getD j default) → k + d * 5242886 ≤ 1152921504606846976 →
    EvP (fun n => goRec laws_markRouteS.step n (laws_markRouteS.Pt.p7 (k : Int) (i : Int) m)) (fun r => ∃ k2 : Nat, r.1 = (k2 : Int) ∧ k ≤ k2 ∧ k2 ≤ k + d * 5242886 ∧ r.2.length = l.length) := by
  have hl : l.length ≤ 1048576 := h.1
  intro d
  induction d with
  | zero =>
    intro i k m hd h1 h2 hb
    refine EvP.step ?_
    simp only [laws_markRouteS.step]
    exact EvP.no (by simp; omega) (EvP.pure ⟨k, rfl, by omega, by omega, h1⟩)
  | succ d ih =>
    intro i k m hd h1 h2 hb
    have hi : i < m.length := by omega
    have hx := h.2 _ (getD_mem (d := default) (show i < l.length by omega))
    refine EvP.step ?_
    simp only [laws_markRouteS.step, toNat_cast, Nat.zero_add, List.length_set, getD_set_same hi, List.set_set, i64_nat (show i ≤ 4611686018427387904 by omega), i64_nat (show k ≤ 4611686018427387904 by omega), i64_nat (show k + 1 ≤ 4611686018427387904 by omega), i64_nat (show k + 1 + 1 ≤ 4611686018427387904 by omega), i64_nat (show k + 1 + 1 + 1 ≤ 4611686018427387904 by omega), i64_nat (show k + 1 + 1 + 1 + 1 ≤ 4611686018427387904 by omega), i64_nat (show k + 1 + 1 + 1 + 1 + 1 ≤ 4611686018427387904 by omega), i64_nat (show k + 1 + 1 + 1 + 1 + 1 + 1 ≤ 4611686018427387904 by omega), i64_nat (show k + 1 + 1 + 1 + 1 + 1 + 1 + 1 ≤ 4611686018427387904 by omega), i64_nat (show k + 1 + 1 + 1 + 1 + 1 + 1 + 1 + 1 ≤ 4611686018427387904 by omega), i64_nat (show k + 1 + 1 + 1 + 1 + 1 + 1 + 1 + 1 + 1 ≤ 4611686018427387904 by omega)]
    rw [h2 i (Nat.le_refl _) (by omega)]
    refine EvP.yes (lt_yes hi) ?_
    refine EvP.bind (laws_markText.ev (k) (by omega)) ?_
    refine EvP.yes (inB_nat hi) ?_
    refine EvP.yes (inB_nat hi) ?_
    refine EvP.bindP (laws_markMatcherS.ev (l.getD i default).2.1 (k + 1) hx.2.1 (by omega)) ?_
    intro r1 hr1
    obtain ⟨k1, e1, n1', n1, _⟩ := hr1
    rw [e1]
    try simp only [i64_nat (show k1 ≤ 4611686018427387904 by omega), i64_nat (show k1 + 1 ≤ 4611686018427387904 by omega), i64_nat (show k1 + 1 + 1 ≤ 4611686018427387904 by omega), i64_nat (show k1 + 1 + 1 + 1 ≤ 4611686018427387904 by omega), i64_nat (show k1 + 1 + 1 + 1 + 1 ≤ 4611686018427387904 by omega), i64_nat (show k1 + 1 + 1 + 1 + 1 + 1 ≤ 4611686018427387904 by omega), i64_nat (show k1 + 1 + 1 + 1 + 1 + 1 + 1 ≤ 4611686018427387904 by omega), i64_nat (show k1 + 1 + 1 + 1 + 1 + 1 + 1 + 1 ≤ 4611686018427387904 by omega), i64_nat (show k1 + 1 + 1 + 1 + 1 + 1 + 1 + 1 + 1 ≤ 4611686018427387904 by omega), i64_nat (show k1 + 1 + 1 + 1 + 1 + 1 + 1 + 1 + 1 + 1 ≤ 4611686018427387904 by omega)]
    refine EvP.yes (inB_nat hi) ?_
    refine EvP.bindP (laws_markStringS.ev (l.getD i default).2.2.1 (k1) (hx.2.2.1).1 (by omega)) ?_
    intro r2 hr2
    obtain ⟨e2, _, _⟩ := hr2
    have b2 := (hx.2.2.1).1
    rw [e2]
    generalize hk2 : (k1) + (l.getD i default).2.2.1.length = k2
    have n2 : k2 ≤ (k1) + 1048576 := by omega
    have n2' : (k1) ≤ k2 := by omega
    try simp only [i64_nat (show k2 ≤ 4611686018427387904 by omega), i64_nat (show k2 + 1 ≤ 4611686018427387904 by omega), i64_nat (show k2 + 1 + 1 ≤ 4611686018427387904 by omega), i64_nat (show k2 + 1 + 1 + 1 ≤ 4611686018427387904 by omega), i64_nat (show k2 + 1 + 1 + 1 + 1 ≤ 4611686018427387904 by omega), i64_nat (show k2 + 1 + 1 + 1 + 1 + 1 ≤ 4611686018427387904 by omega), i64_nat (show k2 + 1 + 1 + 1 + 1 + 1 + 1 ≤ 4611686018427387904 by omega), i64_nat (show k2 + 1 + 1 + 1 + 1 + 1 + 1 + 1 ≤ 4611686018427387904 by omega), i64_nat (show k2 + 1 + 1 + 1 + 1 + 1 + 1 + 1 + 1 ≤ 4611686018427387904 by omega), i64_nat (show k2 + 1 + 1 + 1 + 1 + 1 + 1 + 1 + 1 + 1 ≤ 4611686018427387904 by omega)]
    refine EvP.yes (inB_nat hi) ?_
    refine EvP.yes (inB_nat hi) ?_
    refine EvP.yes (inB_nat hi) ?_
    refine EvP.yes (inB_nat hi) ?_
    refine EvP.bindP (laws_markIntS.ev (l.getD i default).2.2.2.2.2.2.1 (k2 + 1 + 1 + 1) (hx.2.2.2.2.2.2.1).1 (by omega)) ?_
    intro r3 hr3
    obtain ⟨e3, _, _⟩ := hr3
    have b3 := (hx.2.2.2.2.2.2.1).1
    rw [e3]
    generalize hk3 : (k2 + 1 + 1 + 1) + (l.getD i default).2.2.2.2.2.2.1.length = k3
    have n3 : k3 ≤ (k2 + 1 + 1 + 1) + 1048576 := by omega
    have n3' : (k2 + 1 + 1 + 1) ≤ k3 := by omega
    try simp only [i64_nat (show k3 ≤ 4611686018427387904 by omega), i64_nat (show k3 + 1 ≤ 4611686018427387904 by omega), i64_nat (show k3 + 1 + 1 ≤ 4611686018427387904 by omega), i64_nat (show k3 + 1 + 1 + 1 ≤ 4611686018427387904 by omega), i64_nat (show k3 + 1 + 1 + 1 + 1 ≤ 4611686018427387904 by omega), i64_nat (show k3 + 1 + 1 + 1 + 1 + 1 ≤ 4611686018427387904 by omega), i64_nat (show k3 + 1 + 1 + 1 + 1 + 1 + 1 ≤ 4611686018427387904 by omega), i64_nat (show k3 + 1 + 1 + 1 + 1 + 1 + 1 + 1 ≤ 4611686018427387904 by omega), i64_nat (show k3 + 1 + 1 + 1 + 1 + 1 + 1 + 1 + 1 ≤ 4611686018427387904 by omega), i64_nat (show k3 + 1 + 1 + 1 + 1 + 1 + 1 + 1 + 1 + 1 ≤ 4611686018427387904 by omega)]
    refine EvP.yes (inB_nat hi) ?_
    refine EvP.yes (inB_nat hi) ?_
    refine (ih (i + 1) (k3 + 1 + 1) _ (by omega) (by simpa using h1) (fun j hj1 hj2 => ?_) (by omega)).imp fun r hr => ?_
    · rw [getD_set_other (by omega)]; exact h2 j (by omega) hj2
    · obtain ⟨k9, e9, m9, n9, o9⟩ := hr
      exact ⟨k9, e9, by omega, by omega, o9⟩
theorem laws_markRouteS.ev (l : List ((ByteArray) × ((List ((ByteArray) × ((Int) × ((ByteArray) × (Unit))))) × ((List (ByteArray)) × ((Int) × ((Int) × ((Int) × ((List (Int)) × ((Bool) × ((Int) × (Unit))))))))))) (k : Nat) (h : Sm 1048576 (.sl false (.pair .str (.pair (.sl false (.pair .str (.pair (.int .i64) (.pair .str .unit)))) (.pair (.sl false .str) (.pair (.int .i64) (.pair (.int .i64) (.pair (.int .i64) (.pair (.sl false (.int .i64)) (.pair .bool (.pair (.int .i64) .unit)))))))))) l) (hk : k + 5497564430336 ≤ 1152921504606846976) : EvP (fun n => laws_markRouteS n l (k : Int)) (fun r => ∃ k2 : Nat, r.1 = (k2 : Int) ∧ k ≤ k2 ∧ k2 ≤ k + 5497564430336 ∧ r.2.length = l.length) := by
  have hl : l.length ≤ 1048576 := h.1
  refine EvP.step ?_
  simp only [laws_markRouteS.step]
  refine (laws_markRouteS.loop l h l.length 0 k l (by omega) rfl (fun _ _ _ => rfl) (by omega)).imp fun r hr => ?_
  obtain ⟨k9, e9, m9, n9, o9⟩ := hr
  exact ⟨k9, e9, m9, by omega, o9⟩
theorem laws_markLabelS.loop (l : List ((ByteArray) × ((ByteArray) × (Unit)))) (h : Sm 1048576 (.sl false (.pair .str (.pair .str .unit))) l) : ∀ d i (k : Nat) (m : List ((ByteArray) × ((ByteArray) × (Unit)))), i + d = l.length → m.length = l.length → (∀ j, i ≤ j → j < l.length → m.getD j default = l.getD j default) → k + d * 2 ≤ 1152921504606846976 →
    EvP (fun n => goRec laws_markLabelS.step n (laws_markLabelS.Pt.p7 (k : Int) (i : Int) m)) (fun r => ∃ k2 : Nat, r.1 = (k2 : Int) ∧ k ≤ k2 ∧ k2 ≤ k + d * 2 ∧ r.2.length = l.length) := by
  have hl : l.length ≤ 1048576 := h.1
  intro d
  induction d with
  | zero =>
    intro i k m hd h1 h2 hb
    refine EvP.step ?_
    simp only [laws_markLabelS.step]
    exact EvP.no (by simp; omega) (EvP.pure ⟨k, rfl, by omega, by omega, h1⟩)
  | succ d ih =>
    intro i k m hd h1 h2 hb
    have hi : i < m.length := by omega
    have hx := h.2 _ (getD_mem (d := default) (show i < l.length by omega))
    refine EvP.step ?_
    simp only [laws_markLabelS.step, toNat_cast, Nat.zero_add, List.length_set, getD_set_same hi, List.set_set, i64_nat (show i ≤ 4611686018427387904 by omega), i64_nat (show k ≤ 4611686018427387904 by omega), i64_nat (show k + 1 ≤ 4611686018427387904 by omega), i64_nat (show k + 1 + 1 ≤ 4611686018427387904 by omega)]
    refine EvP.yes (lt_yes hi) ?_
    refine EvP.bind (laws_markText.ev (k) (by omega)) ?_
    refine EvP.yes (inB_nat hi) ?_
    refine EvP.bind (laws_markText.ev (k + 1) (by omega)) ?_
    refine EvP.yes (inB_nat hi) ?_
    refine (ih (i + 1) (k + 1 + 1) _ (by omega) (by simpa using h1) (fun j hj1 hj2 => ?_) (by omega)).imp fun r hr => ?_
    · rw [getD_set_other (by omega)]; exact h2 j (by omega) hj2
    · obtain ⟨k9, e9, m9, n9, o9⟩ := hr
      exact ⟨k9, e9, by omega, by omega, o9⟩
theorem laws_markLabelS.ev (l : List ((ByteArray) × ((ByteArray) × (Unit)))) (k : Nat) (h : Sm 1048576 (.sl false (.pair .str (.pair .str .unit))) l) (hk : k + 2097152 ≤ 1152921504606846976) : EvP (fun n => laws_markLabelS n l (k : Int)) (fun r => ∃ k2 : Nat, r.1 = (k2 : Int) ∧ k ≤ k2 ∧ k2 ≤ k + 2097152 ∧ r.2.length = l.length) := by
  have hl : l.length ≤ 1048576 := h.1
  refine EvP.step ?_
  simp only [laws_markLabelS.step]
  refine (laws_markLabelS.loop l h l.length 0 k l (by omega) rfl (fun _ _ _ => rfl) (by omega)).imp fun r hr => ?_
  obtain ⟨k9, e9, m9, n9, o9⟩ := hr
  exact ⟨k9, e9, m9, by omega, o9⟩
theorem laws_heldIntS.loop (l : List Int) (k : Nat) (hl : l.length ≤ 1048576) (hk : k ≤ 1152921504606846976) (hm : ∀ j, j < l.length → l.getD j default = ((k + j : Nat) : Int)) : ∀ d i, i + d = l.length → Ev (fun n => goRec laws_heldIntS.step n (laws_heldIntS.Pt.p7 l ((k + i : Nat) : Int) (i : Int))) ((k + l.length : Nat) : Int) := by
  intro d
  induction d with
  | zero =>
    intro i h
    obtain rfl : i = l.length := by omega
    refine Ev.step ?_
    simp only [laws_heldIntS.step]
    exact Ev.no lt_no Ev.pure
  | succ d ih =>
    intro i h
    have hi : i < l.length := by omega
    refine Ev.step ?_
    simp only [laws_heldIntS.step, toNat_cast, i64_nat (show i ≤ 4611686018427387904 by omega), i64_nat (show k + i ≤ 4611686018427387904 by omega), hm i hi]
    refine Ev.yes (lt_yes hi) (Ev.yes (inB_nat hi) ?_)
    exact Ev.no (by simp) (ih (i + 1) (by omega))
theorem laws_heldIntS.ev (l : List Int) (k : Nat) (hl : l.length ≤ 1048576) (hk : k ≤ 1152921504606846976) (hm : ∀ j, j < l.length → l.getD j default = ((k + j : Nat) : Int)) : Ev (fun n => laws_heldIntS n l (k : Int)) ((k + l.length : Nat) : Int) := by
  refine Ev.step ?_
  simp only [laws_heldIntS.step]
  exact laws_heldIntS.loop l k hl hk hm l.length 0 (by omega)
theorem laws_FnExactRoutesFor.ev (a0 : List RTE) (a1 : List LB) (hw0 : Wf (.sl false RTU) a0) (hw1 : Wf (.sl false LU) a1) : Ev (fun n => laws_FnExactRoutesFor n a0 a1) true := by
  refine Ev.step ?_
  simp only [laws_FnExactRoutesFor.step]
  obtain ⟨q0, g0, i0, s0⟩ := laws_szRouteS.ev a0 1048576 (by omega) (by omega) hw0
  refine Ev.bind g0 (Ev.cnd (fun _ => Ev.pure) fun c0 => ?_)
  have b0 : 0 ≤ q0 := by simpa using c0
  have t0 := s0 b0
  obtain ⟨q1, g1, i1, s1⟩ := laws_szLabelS.ev a1 q0 b0 (by omega) hw1
  refine Ev.bind g1 (Ev.cnd (fun _ => Ev.pure) fun c1 => ?_)
  have b1 : 0 ≤ q1 := by simpa using c1
  have t1 := s1 b1
  have tF := forF_small (l := a0) (t := a1)
  have to0 := laws_toRouteS.ev a0 t0
  have to1 := laws_toLabelS.ev a1 t1
  have im := impl_RoutesFor.ev a0 a1 t0 t1
  have eqF := laws_eqIntS.ev (forF a0 a1) (forF a0 a1) tF tF
  refine Ev.bind to0 (Ev.bind to1 (Ev.bind (spec_RoutesFor.ev a0 a1 t0 t1) (Ev.bind to0 (Ev.bind to1 (Ev.bind im (Ev.bind eqF (Ev.no (by simp [eqB]) ?_)))))))
  refine Ev.bind to0 (Ev.bind (laws_eqRouteS.ev a0 a0 t0 t0) (Ev.no (by simp [eqB]) (Ev.bind to1 (Ev.bind (laws_eqLabelS.ev a1 a1 t1 t1) (Ev.no (by simp [eqB]) ?_)))))
  refine Ev.bindP (laws_markRouteS.ev a0 1 t0 (by omega)) ?_
  rintro r ⟨k, e, k1, k2, _⟩
  rw [e]
  refine Ev.bindP (laws_markLabelS.ev a1 k t1 (by omega)) ?_
  rintro r2 ⟨k', e', k1', k2', _⟩
  rw [e']
  refine Ev.no (by simp) (Ev.bind eqF ?_)
  rw [show (!eqB (forF a0 a1) (forF a0 a1)) = false by simp [eqB]]
  refine Ev.step ?_
  simp only [laws_FnExactRoutesFor.step]
  refine Ev.no rfl (Ev.bindP (laws_markIntS.ev (forF a0 a1) 1 tF.1 (by omega)) ?_)
  rintro r3 ⟨e3, l3, m3⟩
  have held := laws_heldIntS.ev r3.2 1 (by rw [l3]; exact tF.1) (by omega) (fun j hj => m3 j (by omega))
  rw [l3] at held
  rw [e3]
  refine Ev.bind held (Ev.no (by simp; omega) (Ev.no (by simp) ?_))
  refine Ev.bind to0 (Ev.bind to1 (Ev.bind im (Ev.bind eqF (Ev.no (by simp [eqB]) ?_))))
  exact Ev.bind held (Ev.no (by simp; omega) (Ev.no (by simp) Ev.pure))
end Go.RF
