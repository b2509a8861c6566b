/- What these functions come to, part 1. -/
import Derived.Test.YtomceidbdkdmlaaGreatDoorV1
import Derived.Test.YtomceidbdkdmlaaGreatDoorV2
import Derived.Test.YtomceidbdkdmlaaGreatDoorV3
import Derived.Test.YtomceidbdkdmlaaGreatDoorFExactRoutesText1
import Derived.Test.YtomceidbdkdmlaaGreatDoorFExactRoutesText2
open Go Go.VM
set_option maxRecDepth 100000
namespace Go.RX
set_option linter.unusedVariables false
set_option linter.unusedSimpArgs false
abbrev MT := ByteArray × Int × ByteArray × Unit
def matcherB (x : MT) : Bool := nameB x.1 && decide (1 ≤ x.2.1) && decide (x.2.1 ≤ 4) && decide (x.2.2.1.size ≤ 100) && printB x.2.2.1 && (decide (x.2.1 < 3) || (alts x.2.2.1).isSome)
def matchersB (l : List MT) : Bool := decide (l.length ≤ 10) && (List.range l.length).all fun i => matcherB (l.getD i default)
abbrev MU : U := .pair .str (.pair (.int .i64) (.pair .str .unit))
abbrev SIL := ByteArray × List MT × Int × Int × Unit
abbrev SIU : U := .pair .str (.pair (.sl false MU) (.pair (.int .i64) (.pair (.int .i64) .unit)))
def silB (l : List SIL) (i : Nat) : Bool := nameB (l.getD i default).1 && matchersB (l.getD i default).2.1 && decide ((l.getD i default).2.1.length ≠ 0) && timeB (l.getD i default).2.2.1 && timeB (l.getD i default).2.2.2.1 &&
  decide ((l.getD i default).2.2.1 ≤ (l.getD i default).2.2.2.1) && (decide (i = 0) || decide (cmpT (l.getD (i - 1) default).1 (l.getD i default).1 < 0))
def silsB (l : List SIL) : Bool := decide (l.length ≤ 50) && (List.range l.length).all (silB l)
/-- texts that rise -/
def risingB (l : List ByteArray) : Bool := (List.range (l.length - 1)).all fun i => decide (cmpT (l.getD i default) (l.getD (i + 1) default) < 0)
def namesB (l : List ByteArray) : Bool := decide (l.length ≤ 10) && risingB l && (List.range l.length).all fun i => nameB (l.getD i default)
abbrev INH := List MT × List MT × List ByteArray × Unit
abbrev INU : U := .pair (.sl false MU) (.pair (.sl false MU) (.pair (.sl false .str) .unit))
def inhB (x : INH) : Bool := matchersB x.1 && matchersB x.2.1 && decide (x.1.length ≠ 0) && decide (x.2.1.length ≠ 0) && namesB x.2.2.1
def inhsB (l : List INH) : Bool := decide (l.length ≤ 20) && (List.range l.length).all fun i => inhB (l.getD i default)
def lp (y : Int) : Int := if y % 4 = 0 ∧ (y % 100 ≠ 0 ∨ y % 400 = 0) then 1 else 0
def yl (y : Int) : Int := 365 + lp y
def dto (y : Int) : Int := (y - 1970) * 365 + ((y - 1) / 4 - (y - 1) / 100 + (y - 1) / 400) - 477
def mon (y m : Int) : Int := if m = 2 then 28 + lp y else if m = 4 ∨ m = 6 ∨ m = 9 ∨ m = 11 then 30 else 31
def cumd (y m : Int) : Int := if m ≤ 1 then 0 else if m = 2 then 31 else if m = 3 then 59 + lp y else if m = 4 then 90 + lp y else if m = 5 then 120 + lp y else if m = 6 then 151 + lp y else if m = 7 then 181 + lp y else if m = 8 then 212 + lp y else if m = 9 then 243 + lp y else if m = 10 then 273 + lp y else if m = 11 then 304 + lp y else if m = 12 then 334 + lp y else 365 + lp y
noncomputable def yearOf (day : Int) : Int := @dite _ (∃ y, 1970 ≤ y ∧ dto y ≤ day ∧ day < dto (y + 1)) (Classical.propDecidable _) (fun h => h.choose) (fun _ => 0)
noncomputable def monthOf (y n : Int) : Int := @dite _ (∃ m, 1 ≤ m ∧ m ≤ 12 ∧ cumd y m ≤ n ∧ n < cumd y m + mon y m) (Classical.propDecidable _) (fun h => h.choose) (fun _ => 0)
abbrev DTE := Int × Int × Int × Int × Int × Int × Unit
noncomputable def dateOfDay (day mi : Int) : DTE := (yearOf day, monthOf (yearOf day) (day - dto (yearOf day)), day - dto (yearOf day) - cumd (yearOf day) (monthOf (yearOf day) (day - dto (yearOf day))) + 1, mon (yearOf day) (monthOf (yearOf day) (day - dto (yearOf day))), (day + 4) % 7, mi, ())
def dateIn (t z : Int) : Bool := timeB t && decide (-1440 ≤ z) && decide (z ≤ 1440) && decide (0 ≤ t + 60 * z)
noncomputable def dateV (t z : Int) : DTE := if dateIn t z = true then dateOfDay ((t + 60 * z) / 86400) ((t + 60 * z) / 60 % 1440) else (0, 0, 0, 0, 0, 0, ())
def dayIn (y m d : Int) : Bool := decide (1970 ≤ y) && decide (y ≤ 40000) && decide (1 ≤ m) && decide (m ≤ 12) && decide (1 ≤ d) && decide (d ≤ mon y m)
def dayV (y m d : Int) : Int := if dayIn y m d = true then dto y + d - 1 + cumd y m else -1
theorem lp_01 (y : Int) : lp y = 0 ∨ lp y = 1 := by unfold lp; split <;> simp
theorem dto_succ (y : Int) : dto (y + 1) = dto y + yl y := by unfold dto yl lp; split <;> omega
theorem dto_1970 : dto 1970 = 0 := by decide
theorem mon_bd (y m : Int) : 28 ≤ mon y m ∧ mon y m ≤ 31 := by
  have := lp_01 y
  unfold mon; split
  · omega
  · split <;> omega
theorem dto_bd (y : Int) (h : 1970 ≤ y) : 365 * (y - 1970) ≤ dto y ∧ dto y ≤ 366 * (y - 1970) := by unfold dto; omega
theorem dto_mono (a : Int) (d : Nat) : dto a + 365 * d ≤ dto (a + d) := by
  induction d with
  | zero => simp
  | succ d ih =>
    have h := dto_succ (a + d)
    have hl := lp_01 (a + d)
    have hyl : yl (a + d) = 365 + lp (a + d) := rfl
    rw [show a + ((d + 1 : Nat) : Int) = a + d + 1 by omega]
    omega
theorem dto_lt (a b : Int) (h : a ≤ b) : dto a + 365 * (b - a) ≤ dto b := by
  have := dto_mono a (b - a).toNat
  rw [show a + ((b - a).toNat : Int) = b by omega] at this
  omega
theorem year_of (day : Int) (h : 0 ≤ day) : ∃ y, 1970 ≤ y ∧ dto y ≤ day ∧ day < dto (y + 1) := by
  have key : ∀ d : Nat, dto 1970 ≤ day ∧ day < dto (1970 + d) → ∃ y, 1970 ≤ y ∧ dto y ≤ day ∧ day < dto (y + 1) := by
    intro d
    induction d with
    | zero => intro ⟨h1, h2⟩; simp at h2; omega
    | succ d ih =>
      intro ⟨h1, h2⟩
      by_cases c : day < dto (1970 + d)
      · exact ih ⟨h1, c⟩
      · exact ⟨1970 + d, by omega, by omega, by rw [show (1970 : Int) + d + 1 = 1970 + ((d + 1 : Nat) : Int) by omega]; exact h2⟩
  refine key (day.toNat + 1) ⟨by rw [dto_1970]; exact h, ?_⟩
  have := dto_mono 1970 (day.toNat + 1)
  rw [dto_1970] at this
  omega
theorem yearOf_spec (day : Int) (h : 0 ≤ day) : 1970 ≤ yearOf day ∧ dto (yearOf day) ≤ day ∧ day < dto (yearOf day + 1) := by
  unfold yearOf
  rw [dif_pos (year_of day h)]
  exact (year_of day h).choose_spec
theorem cumd_succ (y m : Int) (h1 : 1 ≤ m) (h2 : m ≤ 12) : cumd y (m + 1) = cumd y m + mon y m := by
  have hm : m = 1 ∨ m = 2 ∨ m = 3 ∨ m = 4 ∨ m = 5 ∨ m = 6 ∨ m = 7 ∨ m = 8 ∨ m = 9 ∨ m = 10 ∨ m = 11 ∨ m = 12 := by omega
  rcases hm with rfl | rfl | rfl | rfl | rfl | rfl | rfl | rfl | rfl | rfl | rfl | rfl <;> simp [cumd, mon] <;> omega
theorem ite_nn {c : Prop} [Decidable c] {a b : Int} (ha : 0 ≤ a) (hb : 0 ≤ b) : 0 ≤ (if c then a else b) := by split <;> assumption
theorem cumd_nn (y m : Int) : 0 ≤ cumd y m := by
  have := lp_01 y
  unfold cumd
  iterate 12 (refine ite_nn (by omega) ?_)
  omega
theorem ite_le {c : Prop} [Decidable c] {a b k : Int} (ha : a ≤ k) (hb : b ≤ k) : (if c then a else b) ≤ k := by split <;> assumption
theorem cumd_le (y m : Int) : cumd y m ≤ 366 := by
  have := lp_01 y
  unfold cumd
  iterate 12 (refine ite_le (by omega) ?_)
  omega
theorem month_of (y n : Int) (h : 0 ≤ n) (h' : n < yl y) : ∃ m, 1 ≤ m ∧ m ≤ 12 ∧ cumd y m ≤ n ∧ n < cumd y m + mon y m := by
  have h13 : cumd y 13 = yl y := by simp [cumd, yl]
  have h1 : cumd y 1 = 0 := by simp [cumd]
  have key : ∀ d : Nat, d ≤ 12 → n < cumd y (1 + d) → ∃ m, 1 ≤ m ∧ m ≤ 12 ∧ cumd y m ≤ n ∧ n < cumd y m + mon y m := by
    intro d
    induction d with
    | zero => intro _ h2; simp at h2; omega
    | succ d ih =>
      intro hd h2
      by_cases c : n < cumd y (1 + d)
      · exact ih (by omega) c
      · refine ⟨1 + d, by omega, by omega, by omega, ?_⟩
        rw [← cumd_succ y (1 + d) (by omega) (by omega), show (1 : Int) + d + 1 = 1 + ((d + 1 : Nat) : Int) by omega]; exact h2
  exact key 12 (Nat.le_refl _) (by rw [show (1 : Int) + ((12 : Nat) : Int) = 13 from rfl, h13]; exact h')
theorem monthOf_spec (y n : Int) (h : 0 ≤ n) (h' : n < yl y) : 1 ≤ monthOf y n ∧ monthOf y n ≤ 12 ∧ cumd y (monthOf y n) ≤ n ∧ n < cumd y (monthOf y n) + mon y (monthOf y n) := by
  unfold monthOf
  rw [dif_pos (month_of y n h h')]
  exact (month_of y n h h').choose_spec
theorem mon_lt (y m i n : Int) (h1 : 1 ≤ i) (hi : i < m) (h2 : m ≤ 12) (hm : cumd y m ≤ n) : mon y i ≤ n - cumd y i := by
  have key : ∀ d : Nat, i + d + 1 ≤ m → cumd y (i + 1) ≤ cumd y (i + 1 + d) := by
    intro d
    induction d with
    | zero => intro _; simp
    | succ d ih =>
      intro hd
      have := cumd_succ y (i + 1 + d) (by omega) (by omega)
      have hb := mon_bd y (i + 1 + d)
      rw [show i + 1 + ((d + 1 : Nat) : Int) = i + 1 + d + 1 by omega]
      have := ih (by omega)
      omega
  have a := key (m - i - 1).toNat (by omega)
  rw [show i + 1 + ((m - i - 1).toNat : Int) = m by omega] at a
  have b := cumd_succ y i h1 (by omega)
  omega
theorem w64 {n : Int} (h : -9223372036854775808 ≤ n) (h' : n ≤ 9223372036854775807) : IntKind.wrap .i64 n = n := i64_ok h h'
abbrev RG := Int × Int × Unit
abbrev RGU : U := .pair (.int .i64) (.pair (.int .i64) .unit)
abbrev ITV := Int × List RG × List RG × List RG × List RG × List RG × List Int × Unit
abbrev ITU : U := .pair (.int .i64) (.pair (.sl false RGU) (.pair (.sl false RGU) (.pair (.sl false RGU) (.pair (.sl false RGU) (.pair (.sl false RGU) (.pair (.sl false (.int .i64)) .unit))))))
def rangeB (lo hi : Int) (r : RG) : Bool := decide (r.1 ≤ r.2.1) && decide (lo ≤ r.1) && decide (r.2.1 ≤ hi)
def rangesB (l : List RG) (lo hi : Int) : Bool := decide (l.length ≤ 10) && (List.range l.length).all fun i => rangeB lo hi (l.getD i default)
/-- numbers that rise -/
def risingI (l : List Int) : Bool := (List.range (l.length - 1)).all fun i => decide (l.getD i default < l.getD (i + 1) default)
def freeB (n : Int) : Bool := decide (0 ≤ n) && decide (n ≤ 20000000)
def dayRB (r : RG) : Bool := decide (0 < r.1) || decide (r.2.1 < 0)
def dayRS (r : RG) : Bool := !decide (r.1 = 0) && !decide (r.2.1 = 0) && (decide (r.1 < 0) == decide (r.2.1 < 0))
def allG {α : Type} [Inhabited α] (p : α → Bool) (l : List α) : Bool := (List.range l.length).all fun i => p (l.getD i default)
def itvB (x : ITV) : Bool := decide (-1440 ≤ x.1) && decide (x.1 ≤ 1440) && rangesB x.2.1 0 1439 && rangesB x.2.2.1 0 6 && rangesB x.2.2.2.1 (-31) 31 && rangesB x.2.2.2.2.1 1 12 && rangesB x.2.2.2.2.2.1 1970 40000 &&
  decide (x.2.2.2.2.2.2.1.length ≤ 10) && risingI x.2.2.2.2.2.2.1 && allG dayRB x.2.2.2.1 && allG freeB x.2.2.2.2.2.2.1
def inRB (l : List RG) (n : Int) : Bool := decide (l.length = 0) || (List.range l.length).any fun i => decide ((l.getD i default).1 ≤ n) && decide (n ≤ (l.getD i default).2.1)
def inIB (l : List Int) (n : Int) : Bool := (List.range l.length).any fun i => decide (l.getD i default = n)
noncomputable def inItvB (x : ITV) (t : Int) : Bool := itvB x && timeB t && !decide ((dateV t x.1).1 = 0) && inRB x.2.1 (dateV t x.1).2.2.2.2.2.1 && inRB x.2.2.1 (dateV t x.1).2.2.2.2.1 &&
  (inRB x.2.2.2.1 (dateV t x.1).2.2.1 || inRB x.2.2.2.1 (IntKind.wrap .i64 ((IntKind.wrap .i64 ((dateV t x.1).2.2.1 - (dateV t x.1).2.2.2.1)) - (1 : Int)))) && inRB x.2.2.2.2.1 (dateV t x.1).2.1 && inRB x.2.2.2.2.2.1 (dateV t x.1).1 &&
  !inIB x.2.2.2.2.2.2.1 (dayV (dateV t x.1).1 (dateV t x.1).2.1 (dateV t x.1).2.2.1)
theorem days_same (l : List RG) (lo hi : Int) : (allG dayRS l && rangesB l lo hi) = (allG dayRB l && rangesB l lo hi) := by
  cases h : rangesB l lo hi with
  | false => simp
  | true =>
    simp only [rangesB, Bool.and_eq_true, List.all_eq_true] at h
    rw [Bool.and_true, Bool.and_true, allG, allG, Bool.eq_iff_iff, List.all_eq_true, List.all_eq_true]
    have key : ∀ i ∈ List.range l.length, dayRS (l.getD i default) = dayRB (l.getD i default) := by
      intro i hi
      have := h.2 i hi
      simp only [rangeB, Bool.and_eq_true, decide_eq_true_eq] at this
      generalize l.getD i default = r at this
      simp only [dayRS, dayRB]
      have e1 : (r.1 = 0) = (¬ r.1 < 0 ∧ ¬ 0 < r.1) := propext (by omega)
      have e2 : (r.2.1 = 0) = (¬ r.2.1 < 0 ∧ ¬ 0 < r.2.1) := propext (by omega)
      by_cases a : r.1 < 0 <;> by_cases a' : 0 < r.1 <;> by_cases b : r.2.1 < 0 <;> by_cases b' : 0 < r.2.1 <;> first | (exfalso; omega) | simp [e1, e2, a, a', b, b']
    exact ⟨fun hh i hi => by rw [← key i hi]; exact hh i hi, fun hh i hi => by rw [key i hi]; exact hh i hi⟩
theorem wf_i64 {n : Int} (h : (Lit.int .i64 n).wf = true) : -9223372036854775808 ≤ n ∧ n ≤ 9223372036854775807 := by
  have h2 : decide (IntKind.i64.min ≤ n) && decide (n ≤ IntKind.i64.max) := h
  rw [Bool.and_eq_true] at h2
  have a : IntKind.i64.min ≤ n := of_decide_eq_true h2.1
  have b : n ≤ IntKind.i64.max := of_decide_eq_true h2.2
  have ea : IntKind.i64.min = -9223372036854775808 := by decide
  have eb : IntKind.i64.max = 9223372036854775807 := by decide
  omega
abbrev LB := ByteArray × ByteArray × Unit
abbrev LU : U := .pair .str (.pair .str .unit)
def valueB (s : ByteArray) : Bool := decide (1 ≤ s.size) && decide (s.size ≤ 100) && printB s
def labB (l : List LB) (i : Nat) : Bool := nameB (l.getD i default).1 && valueB (l.getD i default).2.1 && (decide (i = 0) || decide (cmpT (l.getD (i - 1) default).1 (l.getD i default).1 < 0))
def labelsB (l : List LB) : Bool := decide (l.length ≤ 20) && (List.range l.length).all (labB l)
def valL : List LB → ByteArray → ByteArray
  | [], _ => ⟨#[]⟩
  | x :: r, k => bif seq x.1 k then x.2.1 else valL r k
theorem drop_getD {α : Type} [Inhabited α] {l : List α} {i : Nat} (h : i < l.length) : l.drop i = l.getD i default :: l.drop (i + 1) := by
  rw [List.drop_eq_getElem_cons h, List.getD_eq_getElem?_getD, List.getElem?_eq_getElem h]; rfl
theorem labelsB_value {l : List LB} (h : labelsB l = true) : ∀ i, i < l.length → (l.getD i default).2.1.size ≤ 100 := by
  intro i hi
  simp only [labelsB, Bool.and_eq_true, List.all_eq_true, List.mem_range] at h
  have := h.2 i hi
  simp only [labB, valueB, Bool.and_eq_true, decide_eq_true_eq] at this
  exact this.1.2.1.2
theorem valL_small {l : List LB} {k : ByteArray} (h : ∀ x ∈ l, x.2.1.size ≤ 100) : (valL l k).size ≤ 100 := by
  induction l with
  | nil => simp [valL, size_empty]
  | cons x l ih =>
    simp only [valL]
    cases seq x.1 k with
    | true => exact h x (by simp)
    | false => exact ih fun y hy => h y (by simp [hy])
theorem labelsB_small {l : List LB} (h : labelsB l = true) {k : ByteArray} : (valL l k).size ≤ 100 := valL_small fun x hx => by
  obtain ⟨j, hj, rfl⟩ := List.getElem_of_mem hx
  have := labelsB_value h j hj
  rwa [List.getD_eq_getElem?_getD, List.getElem?_eq_getElem hj] at this
/-- whether a pattern's codes fit bytes -/
def mt : List Int → List Int → Bool
  | [], s => s.isEmpty
  | c :: p, s => if c = -1 then mt p s || (match s with | [] => false | _ :: r => mt (c :: p) r) else match s with | [] => false | x :: r => (decide (c = -2) || decide (c = x)) && mt p r
termination_by p s => p.length + s.length
decreasing_by all_goals simp_wf; try omega
def fitsP (p s : ByteArray) : Bool := match alts p with | some l => (List.range l.length).any fun i => mt (l.getD i default) (octs s) | none => false
def cellM (p : List Int) (s : ByteArray) (j i : Nat) : Bool := mt (p.drop j) ((octs s).drop i)
theorem cell_end {p : List Int} {s : ByteArray} {i : Nat} (hi : i ≤ s.size) : cellM p s p.length i = decide (i = s.size) := by
  rw [cellM, List.drop_length, mt.eq_def]
  rcases Nat.eq_or_lt_of_le hi with rfl | hi
  · rw [octs_nil]; simp
  · rw [octs_drop hi]; simp; omega
theorem dropI {p : List Int} {j : Nat} (h : j < p.length) : p.drop j = p.getD j default :: p.drop (j + 1) := drop_getD h
theorem cell_star {p : List Int} {s : ByteArray} {j i : Nat} (hj : j < p.length) (hi : i ≤ s.size) (h : p.getD j default = -1) : cellM p s j i = (cellM p s (j + 1) i || (decide (i < s.size) && cellM p s j (i + 1))) := by
  simp only [cellM]
  rw [dropI hj, h]
  rw [mt.eq_def]
  simp only [if_true]
  rcases Nat.eq_or_lt_of_le hi with rfl | hi
  · rw [octs_nil]; simp
  · rw [octs_drop hi]; simp [hi]
theorem cell_one {p : List Int} {s : ByteArray} {j i : Nat} (hj : j < p.length) (hi : i < s.size) (h : p.getD j default ≠ -1) : cellM p s j i = ((decide (p.getD j default = -2) || decide (p.getD j default = bt s i)) && cellM p s (j + 1) (i + 1)) := by
  simp only [cellM]
  rw [dropI hj, mt.eq_def]
  simp only [if_neg h]
  rw [octs_drop hi]
theorem cell_no {p : List Int} {s : ByteArray} {j : Nat} (hj : j < p.length) (h : p.getD j default ≠ -1) : cellM p s j s.size = false := by
  simp only [cellM]
  rw [dropI hj, mt.eq_def]
  simp only [if_neg h]
  rw [octs_nil]
theorem i64_down {k : Nat} (h : k ≤ 4611686018427387904) : IntKind.wrap .i64 ((k : Int) - 1) = (k : Int) - 1 := by rw [i64_ok] <;> omega
theorem inC_eq {n : Nat} (h : n ≤ 1000000000) : inC (n : Int) (n : Int) 1000000000 = true := by simp only [inC, decide_eq_true_eq]; omega
/-- comes to something of which this holds -/
def EvP {α : Type} (f : Nat → Option α) (Q : α → Prop) : Prop := ∃ v, Ev f v ∧ Q v
namespace EvP
variable {α β : Type} {Q : α → Prop}
theorem pure {v : α} (h : Q v) : EvP (fun _ => some v) Q := ⟨v, Ev.pure, h⟩
theorem of {f : Nat → Option α} {v : α} (h : Ev f v) (q : Q v) : EvP f Q := ⟨v, h, q⟩
theorem imp {f : Nat → Option α} {R : α → Prop} (h : EvP f Q) (q : ∀ v, Q v → R v) : EvP f R := ⟨h.choose, h.choose_spec.1, q _ h.choose_spec.2⟩
theorem bind {f : Nat → Option β} {g : Nat → β → Option α} {a : β} (h : Ev f a) (h' : EvP (fun n => g n a) Q) : EvP (fun n => (f n).bind (g n)) Q := ⟨h'.choose, Ev.bind h h'.choose_spec.1, h'.choose_spec.2⟩
theorem bindP {f : Nat → Option β} {g : Nat → β → Option α} {R : β → Prop} (h : EvP f R) (h' : ∀ a, R a → EvP (fun n => g n a) Q) : EvP (fun n => (f n).bind (g n)) Q := by
  obtain ⟨a, h1, h2⟩ := h
  exact bind h1 (h' a h2)
theorem cnd {c : Bool} {f g : Nat → Option α} (ht : c = true → EvP f Q) (hf : c = false → EvP g Q) : EvP (fun n => cond c (f n) (g n)) Q := by
  cases c with
  | true => exact ht rfl
  | false => exact hf rfl
theorem yes {c : Bool} {f g : Nat → Option α} (hc : c = true) (h : EvP f Q) : EvP (fun n => cond c (f n) (g n)) Q := by subst hc; exact h
theorem no {c : Bool} {f g : Nat → Option α} (hc : c = false) (h : EvP g Q) : EvP (fun n => cond c (f n) (g n)) Q := by subst hc; exact h
theorem step {P : Type} {s : Nat → (P → Option α) → P → Option α} {p : P} (h : EvP (fun n => s n (goRec s n) p) Q) : EvP (fun n => goRec s n p) Q := ⟨h.choose, Ev.step h.choose_spec.1, h.choose_spec.2⟩
end EvP
theorem toP_star (c : Int) : (toP c).2.2.1 = decide (c = -1) := by
  simp only [toP]
  by_cases h : c = -1
  · simp [h]
  · by_cases h2 : c = -2 <;> simp [h, h2]
theorem toP_any {c : Int} : (toP c).2.1 = decide (c = -2) := by
  simp only [toP]
  by_cases h : c = -1
  · simp [h]
  · by_cases h2 : c = -2 <;> simp [h, h2]
theorem toP_byte {c : Int} (h : c ≠ -1) (h2 : c ≠ -2) : (toP c).1 = c := by simp [toP, h, h2]
theorem pat_len : ∀ (n : Nat) (r : List Int) (out : List (List Int)) (now : List Int) (l : List (List Int)), r.length ≤ n → pat r out now = some l → l.length ≤ out.length + 1 + r.length ∧ ∀ a ∈ l, a ∈ out ∨ a.length ≤ now.length + r.length := by
  intro n
  induction n with
  | zero =>
    intro r out now l hr h
    obtain rfl : r = [] := List.length_eq_zero_iff.1 (by omega)
    rw [pat_nil] at h
    cases h
    refine ⟨by simp, fun a ha => ?_⟩
    rcases List.mem_append.1 ha with ha | ha
    · exact .inl ha
    · right; simp at ha; subst ha; simp
  | succ n ih =>
    intro r out now l hr h
    match r, hr, h with
    | [], hr, h =>
      rw [pat_nil] at h
      cases h
      refine ⟨by simp, fun a ha => ?_⟩
      rcases List.mem_append.1 ha with ha | ha
      · exact .inl ha
      · right; simp at ha; subst ha; simp
    | c :: r, hr, h =>
      simp only [List.length_cons] at hr ⊢
      have one : ∀ e, pat r out (now ++ [e]) = some l → l.length ≤ out.length + 1 + (r.length + 1) ∧ ∀ a ∈ l, a ∈ out ∨ a.length ≤ now.length + (r.length + 1) := by
        intro e h
        obtain ⟨h1, h2⟩ := ih r out _ l (by omega) h
        refine ⟨by omega, fun a ha => ?_⟩
        rcases h2 a ha with h3 | h3
        · exact .inl h3
        · right; simp at h3; omega
      rw [pat_cons] at h
      split at h
      · obtain ⟨h1, h2⟩ := ih r _ _ l (by omega) h
        refine ⟨by simp at h1; omega, fun a ha => ?_⟩
        rcases h2 a ha with h3 | h3
        · rcases List.mem_append.1 h3 with h3 | h3
          · exact .inl h3
          · right; simp at h3; subst h3; omega
        · right; simp at h3; omega
      · split at h
        · exact one _ h
        · split at h
          · exact one _ h
          · split at h
            · match r, h with
              | e :: r', h =>
                simp only at h
                split at h
                · obtain ⟨h1, h2⟩ := ih r' out _ l (by simp only [List.length_cons] at hr; omega) h
                  refine ⟨by simp only [List.length_cons]; omega, fun a ha => ?_⟩
                  rcases h2 a ha with h3 | h3
                  · exact .inl h3
                  · right; simp at h3; simp only [List.length_cons]; omega
                · cases h
            · exact one _ h
theorem alts_len {s : ByteArray} {l : List (List Int)} (h : alts s = some l) : l.length ≤ 101 ∧ ∀ a ∈ l, a.length ≤ 100 := by
  rw [alts] at h
  split at h
  · rename_i hs
    obtain ⟨h1, h2⟩ := pat_len _ (octs s) [] [] l (Nat.le_refl _) h
    rw [octs_len] at h1 h2
    refine ⟨by simp at h1; omega, fun a ha => ?_⟩
    rcases h2 a ha with h3 | h3
    · cases h3
    · simp at h3; omega
  · cases h
def matchOne (x : MT) (v : ByteArray) : Bool := if x.2.1 = 1 then seq v x.2.2.1 else if x.2.1 = 2 then !seq v x.2.2.1 else if x.2.1 = 3 then fitsP x.2.2.1 v else !fitsP x.2.2.1 v
def fitsB (ms : List MT) (l : List LB) : Bool := (List.range ms.length).all fun i => matchOne (ms.getD i default) (valL l (ms.getD i default).1)
theorem range_map_getD {α : Type} [Inhabited α] (l : List α) : (List.range l.length).map (fun i => l.getD i default) = l := by
  refine ext_getD (d := default) (by simp) fun j hj => ?_
  simp [List.getD_eq_getElem?_getD, hj]
theorem any_range {α : Type} [Inhabited α] (l : List α) (p : α → Bool) : ((List.range l.length).any fun i => p (l.getD i default)) = l.any p := by
  conv => rhs; rw [← range_map_getD l, List.any_map]
  rfl
theorem all_range {α : Type} [Inhabited α] (l : List α) (p : α → Bool) : ((List.range l.length).all fun i => p (l.getD i default)) = l.all p := by
  conv => rhs; rw [← range_map_getD l, List.all_map]
  rfl
def inhOne (x : INH) (s t : List LB) : Bool := (fitsB x.1 s && !(fitsB x.2.1 s && fitsB x.1 t)) && x.2.2.1.all fun k => seq (valL s k) (valL t k)
def inhibitedB (l : List INH) (ss : List (List LB)) (t : List LB) : Bool := l.any fun x => fitsB x.2.1 t && ss.any fun s => inhOne x s t
def inhibitedF (l : List INH) (ss : List (List LB)) (t : List LB) : Bool := (inhsB l && decide (ss.length ≤ 200) && labelsB t && ss.all labelsB) && inhibitedB l ss t
theorem Ev.bindP {α β : Type} {f : Nat → Option β} {g : Nat → β → Option α} {R : β → Prop} {v : α} (h : EvP f R) (h' : ∀ a, R a → Ev (fun n => g n a) v) : Ev (fun n => (f n).bind (g n)) v := by
  obtain ⟨a, h1, h2⟩ := h
  exact Ev.bind h1 (h' a h2)
def silP (t : List LB) (n : Int) (x : SIL) : Bool := fitsB x.2.1 t && decide (x.2.2.1 ≤ n) && decide (n ≤ x.2.2.2.1)
def silL (l : List SIL) (t : List LB) (n : Int) : List ByteArray := (l.filter (silP t n)).map fun x => x.1
def silencedF (l : List SIL) (t : List LB) (n : Int) : List ByteArray := if (silsB l && labelsB t && timeB n) = true then silL l t n else []
theorem silencedF_small {l : List SIL} {t : List LB} {n : Int} (h : Sm 1048576 (.sl false SIU) l) : Sm 1048576 (.sl false .str) (silencedF l t n) := by
  have hl : l.length ≤ 1048576 := h.1
  rw [silencedF]
  split
  · refine ⟨?_, fun x hx => ?_⟩
    · have := List.length_filter_le (silP t n) l
      simp only [silL, List.length_map]
      omega
    · obtain ⟨y, hy, rfl⟩ := List.mem_map.1 hx
      exact (h.2 y (List.mem_filter.1 hy).1).1
  · exact ⟨by simp, fun x hx => by cases hx⟩
abbrev RTE := ByteArray × List MT × List ByteArray × Int × Int × Int × List Int × Bool × Int × Unit
abbrev RTU : U := .pair .str (.pair (.sl false MU) (.pair (.sl false .str) (.pair (.int .i64) (.pair (.int .i64) (.pair (.int .i64) (.pair (.sl false (.int .i64)) (.pair .bool (.pair (.int .i64) .unit))))))))
def mutesB (l : List Int) : Bool := (List.range l.length).all fun i => decide (0 ≤ l.getD i default) && decide (l.getD i default < 20)
def posB (n : Int) : Bool := decide (1 ≤ n) && decide (n ≤ 1000000000000)
def routeB (r : RTE) : Bool := nameB r.1 && matchersB r.2.1 && namesB r.2.2.1 && timeB r.2.2.2.1 && posB r.2.2.2.2.1 && posB r.2.2.2.2.2.1 && (decide (r.2.2.2.2.2.2.1.length ≤ 20) && risingI r.2.2.2.2.2.2.1) && mutesB r.2.2.2.2.2.2.1
def kidsOf (l : List RTE) (i : Nat) : Int := (l.getD i default).2.2.2.2.2.2.2.2.1
def manyN (f : Nat → Option Nat) : Nat → Nat → Option Nat
  | 0, p => some p
  | k + 1, p => match f p with | some q => manyN f k q | none => none
def nodeN (l : List RTE) (g : RTE → Bool) : Nat → Nat → Option Nat
  | 0, _ => none
  | d + 1, i => if (decide (i < l.length) && decide (0 ≤ kidsOf l i) && g (l.getD i default)) = true then manyN (nodeN l g d) (kidsOf l i).toNat (i + 1) else none
theorem posB_time {n : Int} : posB n = (timeB n && !decide (n = 0)) := by
  simp only [posB, timeB]
  by_cases h : n = 0
  · subst h; rfl
  · by_cases h2 : 0 ≤ n
    · have : 1 ≤ n := by omega
      simp [h, h2, this]
    · have : ¬ 1 ≤ n := by omega
      simp [h2, this]
def smallB (r : RTE) : Bool := decide (r.2.2.2.2.2.2.2.2.1 ≤ 40)
theorem manyN_le {f : Nat → Option Nat} (hf : ∀ p q, f p = some q → p < q) : ∀ k p q, manyN f k p = some q → p + k ≤ q
  | 0, p, q, h => by simp only [manyN, Option.some.injEq] at h; omega
  | k + 1, p, q, h => by
    simp only [manyN] at h
    cases hp : f p with
    | none => rw [hp] at h; cases h
    | some r =>
      rw [hp] at h
      have := hf p r hp
      have := manyN_le hf k r q h
      omega
theorem manyN_top {f : Nat → Option Nat} {m : Nat} (hf : ∀ p q, f p = some q → q ≤ m) : ∀ k p q, p ≤ m → manyN f k p = some q → q ≤ m
  | 0, p, q, hp, h => by simp only [manyN, Option.some.injEq] at h; omega
  | k + 1, p, q, hp, h => by
    simp only [manyN] at h
    cases hp' : f p with
    | none => rw [hp'] at h; cases h
    | some r =>
      rw [hp'] at h
      exact manyN_top hf k r q (hf p r hp') h
theorem nodeN_lt {l : List RTE} {g : RTE → Bool} : ∀ d i n, nodeN l g d i = some n → i < n ∧ n ≤ l.length
  | 0, i, n, h => by simp [nodeN] at h
  | d + 1, i, n, h => by
    simp only [nodeN] at h
    split at h
    · rename_i hc
      simp only [Bool.and_eq_true, decide_eq_true_eq] at hc
      have h1 := manyN_le (fun p q hq => (nodeN_lt d p q hq).1) _ _ _ h
      have h2 := manyN_top (m := l.length) (fun p q hq => (nodeN_lt d p q hq).2) _ _ _ (by omega) h
      omega
    · cases h
def tkV : Option Nat → Int | some q => (q : Int) | none => -1
theorem manyN_SI {f g : Nat → Option Nat} {G : Nat → Prop} (hf : ∀ p q, f p = some q → p < q ∧ g p = some q ∧ ∀ j, p ≤ j → j < q → G j) : ∀ k p q, manyN f k p = some q → manyN g k p = some q ∧ ∀ j, p ≤ j → j < q → G j
  | 0, p, q, h => by
    simp only [manyN, Option.some.injEq] at h
    subst h
    exact ⟨rfl, fun j h1 h2 => by omega⟩
  | k + 1, p, q, h => by
    simp only [manyN] at h ⊢
    cases hp : f p with
    | none => rw [hp] at h; cases h
    | some r =>
      rw [hp] at h
      obtain ⟨h1, h2, h3⟩ := hf p r hp
      obtain ⟨h4, h5⟩ := manyN_SI hf k r q h
      rw [h2]
      exact ⟨h4, fun j j1 j2 => if hj : j < r then h3 j j1 hj else h5 j (by omega) j2⟩
theorem nodeN_SI {l : List RTE} (hl : l.length ≤ 40) : ∀ d i n, nodeN l routeB d i = some n → nodeN l smallB d i = some n ∧ ∀ j, i ≤ j → j < n → routeB (l.getD j default) = true
  | 0, i, n, h => by simp [nodeN] at h
  | d + 1, i, n, h => by
    have hn := nodeN_lt _ _ _ h
    simp only [nodeN] at h ⊢
    split at h
    · rename_i hc
      have hc' := hc
      simp only [Bool.and_eq_true, decide_eq_true_eq] at hc
      have h1 := manyN_le (fun p q hq => (nodeN_lt d p q hq).1) _ _ _ h
      have hs : smallB (l.getD i default) = true := decide_eq_true (show kidsOf l i ≤ 40 by omega)
      obtain ⟨h2, h3⟩ := manyN_SI (G := fun j => routeB (l.getD j default) = true) (g := nodeN l smallB d) (fun p q hq => ⟨(nodeN_lt d p q hq).1, nodeN_SI hl d p q hq⟩) _ _ _ h
      rw [if_pos (by rw [decide_eq_true hc.1.1, decide_eq_true hc.1.2, hs]; rfl)]
      refine ⟨h2, fun j j1 j2 => ?_⟩
      rcases Nat.eq_or_lt_of_le j1 with rfl | j1
      · exact hc.2
      · exact h3 j (by omega) j2
    · cases h
theorem manyN_IS {f g : Nat → Option Nat} {G : Nat → Prop} (hl : ∀ p q, g p = some q → p < q) (hg : ∀ p q, g p = some q → (∀ j, p ≤ j → j < q → G j) → f p = some q) : ∀ k p q, manyN g k p = some q → (∀ j, p ≤ j → j < q → G j) → manyN f k p = some q
  | 0, p, q, h, _ => by simpa only [manyN] using h
  | k + 1, p, q, h, hG => by
    simp only [manyN] at h ⊢
    cases hp : g p with
    | none => rw [hp] at h; cases h
    | some r =>
      rw [hp] at h
      have h1 := hl p r hp
      have h2 := manyN_le hl k r q h
      rw [hg p r hp (fun j j1 j2 => hG j j1 (by omega))]
      exact manyN_IS hl hg k r q h (fun j j1 j2 => hG j (by omega) j2)
theorem nodeN_IS {l : List RTE} : ∀ d i n, nodeN l smallB d i = some n → (∀ j, i ≤ j → j < n → routeB (l.getD j default) = true) → nodeN l routeB d i = some n
  | 0, i, n, h, _ => by simp [nodeN] at h
  | d + 1, i, n, h, hG => by
    have hn := nodeN_lt _ _ _ h
    simp only [nodeN] at h ⊢
    split at h
    · rename_i hc
      simp only [Bool.and_eq_true, decide_eq_true_eq] at hc
      rw [if_pos (by rw [decide_eq_true hc.1.1, decide_eq_true hc.1.2, hG i (Nat.le_refl _) hn.1]; rfl)]
      exact manyN_IS (fun p q hq => (nodeN_lt d p q hq).1) (fun p q hq => nodeN_IS d p q hq) _ _ _ h (fun j j1 j2 => hG j (by omega) j2)
    · cases h
def routesB (l : List RTE) : Bool := (decide (l.length ≠ 0) && decide (l.length ≤ 40) && decide (nodeN l routeB 8 0 = some l.length)) && (decide ((l.getD 0 default).2.1.length = 0) && !(l.getD 0 default).2.2.2.2.2.2.2.1)
theorem routes_eq {l : List RTE} (hl : l.length ≤ 40) : decide (nodeN l routeB 8 0 = some l.length) = (decide (nodeN l smallB 8 0 = some l.length) && (List.range l.length).all fun i => routeB (l.getD i default)) := by
  rw [Bool.eq_iff_iff]
  simp only [decide_eq_true_eq, Bool.and_eq_true, List.all_eq_true, List.mem_range]
  exact ⟨fun h => ⟨(nodeN_SI hl _ _ _ h).1, fun i hi => (nodeN_SI hl _ _ _ h).2 i (Nat.zero_le _) hi⟩, fun h => nodeN_IS _ _ _ h.1 fun j _ j2 => h.2 j j2⟩
theorem Ev.filt {P α : Type} [Inhabited α] {step : Nat → (P → Option (List α)) → P → Option (List α)} {l : List α} {p : α → Bool} {pt : Nat → List α → P}
    (hy : ∀ i out, i < l.length → out.length ≤ i → p (l.getD i default) = true → ∀ v, Ev (fun n => goRec step n (pt (i + 1) (out ++ [l.getD i default]))) v → Ev (fun n => goRec step n (pt i out)) v)
    (hn : ∀ i out, i < l.length → out.length ≤ i → p (l.getD i default) = false → ∀ v, Ev (fun n => goRec step n (pt (i + 1) out)) v → Ev (fun n => goRec step n (pt i out)) v)
    (he : ∀ out, Ev (fun n => goRec step n (pt l.length out)) out) : Ev (fun n => goRec step n (pt 0 [])) (l.filter p) := by
  have key : ∀ d i out, i + d = l.length → out.length ≤ i → Ev (fun n => goRec step n (pt i out)) (out ++ (l.drop i).filter p) := by
    intro d
    induction d with
    | zero =>
      intro i out h ho
      obtain rfl : i = l.length := by omega
      exact Ev.of_eq (he out) (by simp)
    | succ d ih =>
      intro i out h ho
      have hi : i < l.length := by omega
      rw [drop_getD hi, List.filter_cons]
      cases c : p (l.getD i default) with
      | true => exact hy i out hi ho c _ (Ev.of_eq (ih (i + 1) _ (by omega) (by simp; omega)) (by simp))
      | false => exact hn i out hi ho c _ (Ev.of_eq (ih (i + 1) _ (by omega) (by omega)) (by simp))
  exact key l.length 0 [] (by omega) (by simp)
theorem any_getD {α : Type} [Inhabited α] {l : List α} {p : α → Bool} : l.any p = (List.range l.length).any fun i => p (l.getD i default) := by
  rw [Bool.eq_iff_iff, List.any_eq_true, List.any_eq_true]
  constructor
  · rintro ⟨x, hx, hp⟩
    obtain ⟨i, hi, rfl⟩ := List.getElem_of_mem hx
    refine ⟨i, by simpa using hi, ?_⟩
    rwa [List.getD_eq_getElem?_getD, List.getElem?_eq_getElem hi]
  · rintro ⟨i, hi, hp⟩
    exact ⟨_, getD_mem (by simpa using hi), hp⟩
def hasB (l : List ByteArray) (x : ByteArray) : Bool := (List.range l.length).any fun i => decide (l.getD i default = x)
def groupF (l : List RTE) (k : Int) (t : List LB) : List LB := if (routesB l && decide (0 ≤ k) && decide (k < (l.length : Int)) && labelsB t) = true then t.filter (fun x => hasB (l.getD k.toNat default).2.2.1 x.1) else []
theorem groupF_small {l : List RTE} {k : Int} {t : List LB} (h : Sm 1048576 (.sl false LU) t) : Sm 1048576 (.sl false LU) (groupF l k t) := by
  have hl : t.length ≤ 1048576 := h.1
  rw [groupF]
  split
  · exact ⟨by have := List.length_filter_le (fun x => hasB (l.getD k.toNat default).2.2.1 x.1) t; omega, fun x hx => h.2 x (List.mem_filter.1 hx).1⟩
  · exact ⟨by simp, fun x hx => by cases hx⟩
/-- a loop that goes on while p holds, and something else behind it -/
theorem Ev.allK {P : Type} {step : Nat → (P → Option Bool) → P → Option Bool} {n : Nat} {p : Nat → Bool} {pt : Nat → P} {b : Bool}
    (hs : ∀ i, i < n → (p i = true → ∀ v, Ev (fun m => goRec step m (pt (i + 1))) v → Ev (fun m => goRec step m (pt i)) v) ∧ (p i = false → Ev (fun m => goRec step m (pt i)) false))
    (he : (List.range n).all p = true → Ev (fun m => goRec step m (pt n)) b) : Ev (fun m => goRec step m (pt 0)) ((List.range n).all p && b) := by
  have key : ∀ d i, i + d = n → (∀ j, j < i → p j = true) → Ev (fun m => goRec step m (pt i)) ((List.range' i d).all p && b) := by
    intro d
    induction d with
    | zero =>
      intro i h hj
      rw [Nat.add_zero] at h
      subst h
      exact he (by simpa using hj)
    | succ d ih =>
      intro i h hj
      obtain ⟨h1, h2⟩ := hs i (by omega)
      rw [List.range'_succ, List.all_cons]
      cases hp : p i with
      | false => rw [Bool.false_and, Bool.false_and]; exact h2 hp
      | true =>
        rw [Bool.true_and]
        refine h1 hp _ (ih (i + 1) (by omega) fun j h => ?_)
        rcases Nat.lt_succ_iff_lt_or_eq.1 h with h | rfl
        · exact hj j h
        · exact hp
  have := key n 0 (by omega) (by omega)
  rwa [List.range_eq_range']
abbrev NCE := List RTE × List ITV × List SIL × List INH × Unit
abbrev NCU : U := .pair (.sl false RTU) (.pair (.sl false ITU) (.pair (.sl false SIU) (.pair (.sl false INU) .unit)))
def mutesOK (m : Nat) (l : List Int) : Bool := (List.range l.length).all fun j => !decide ((m : Int) ≤ l.getD j default)
def itvsB (l : List ITV) : Bool := (List.range l.length).all fun i => itvB (l.getD i default)
def rmutesB (m : Nat) (l : List RTE) : Bool := (List.range l.length).all fun i => mutesOK m (l.getD i default).2.2.2.2.2.2.1
def notifyB (c : NCE) : Bool := (routesB c.1 && silsB c.2.2.1 && inhsB c.2.2.2.1) && decide (c.2.1.length ≤ 20) && itvsB c.2.1 && rmutesB c.2.1.length c.1
abbrev CUE := Int × Int × Int × Int × Unit
abbrev CUU : U := .pair (.int .i64) (.pair (.int .i64) (.pair (.int .i64) (.pair (.int .i64) .unit)))
abbrev MCE := Int × Int × List CUE × List CUE × Unit
abbrev MCU : U := .pair (.int .i64) (.pair (.int .i64) (.pair (.sl false CUU) (.pair (.sl false CUU) .unit)))
def cutB (m : Int) (d : Bool) (x : CUE) : Bool := timeB x.2.2.1 && timeB x.2.2.2.1 && decide (0 ≤ x.1) && decide (x.1 < m) && decide (0 ≤ x.2.1) && decide (x.2.1 < m) && !(d && !decide (x.2.1 = 0))
def cutsB (l : List CUE) (m : Int) (d : Bool) : Bool := decide (l.length ≤ 20) && (List.range l.length).all fun i => cutB m d (l.getD i default)
def slowB (l : List RTE) (k : Int) : Bool := (List.range l.length).all fun i => !decide ((l.getD i default).2.2.2.2.1 ≤ k)
def membersB (c : NCE) (m : MCE) : Bool := (notifyB c && decide (1 ≤ m.1) && decide (m.1 ≤ 5) && timeB m.2.1 && cutsB m.2.2.1 m.1 false && cutsB m.2.2.2.1 m.1 true) && slowB c.1 (IntKind.wrap .i64 ((IntKind.wrap .i64 (m.1 - (1 : Int))) * m.2.1))
theorem routesB_all {l : List RTE} (h : routesB l = true) : l.length ≤ 40 ∧ nodeN l routeB 8 0 = some l.length ∧ ∀ i, i < l.length → routeB (l.getD i default) = true := by
  simp only [routesB, Bool.and_eq_true, decide_eq_true_eq] at h
  exact ⟨h.1.1.2, h.1.2, fun i hi => (nodeN_SI h.1.1.2 _ _ _ h.1.2).2 i (Nat.zero_le _) hi⟩
noncomputable def mutedB (c : NCE) (l : List Int) (t : Int) : Bool := (List.range l.length).any fun j => inItvB (c.2.1.getD (l.getD j default).toNat default) t
noncomputable def mutedAtB (c : NCE) (r t : Int) : Bool := notifyB c && decide (0 ≤ r) && decide (r < (c.1.length : Int)) && timeB t && mutedB c (c.1.getD r.toNat default).2.2.2.2.2.2.1 t
/-- the mutes of a route of good routes name intervals -/
theorem mutes_in {c : NCE} (h : notifyB c = true) {i : Nat} (hi : i < c.1.length) {j : Nat} (hj : j < (c.1.getD i default).2.2.2.2.2.2.1.length) : 0 ≤ (c.1.getD i default).2.2.2.2.2.2.1.getD j default ∧ (c.1.getD i default).2.2.2.2.2.2.1.getD j default < (c.2.1.length : Int) := by
  simp only [notifyB, Bool.and_eq_true] at h
  have h1 := (routesB_all h.1.1.1.1.1).2.2 i hi
  have h2 := h.2
  simp only [rmutesB, List.all_eq_true, List.mem_range] at h2
  have h3 := h2 i hi
  simp only [mutesOK, List.all_eq_true, List.mem_range, Bool.not_eq_true', decide_eq_false_iff_not] at h3
  have h3 := h3 j hj
  simp only [routeB, Bool.and_eq_true] at h1
  have h4 := h1.2
  simp only [mutesB, List.all_eq_true, List.mem_range, Bool.and_eq_true, decide_eq_true_eq] at h4
  have h4 := h4 j hj
  exact ⟨h4.1, by omega⟩
theorem inB_of {i : Int} {n : Nat} (h : 0 ≤ i ∧ i < (n : Int)) : inB i n = true := by simpa [inB] using h
/-- a loop that goes on until p holds -/
theorem Ev.anyN {P : Type} {step : Nat → (P → Option Bool) → P → Option Bool} {n : Nat} {p : Nat → Bool} {pt : Nat → P}
    (hs : ∀ i, i < n → (p i = false → ∀ v, Ev (fun m => goRec step m (pt (i + 1))) v → Ev (fun m => goRec step m (pt i)) v) ∧ (p i = true → Ev (fun m => goRec step m (pt i)) true))
    (he : Ev (fun m => goRec step m (pt n)) false) : Ev (fun m => goRec step m (pt 0)) ((List.range n).any p) := by
  have key : ∀ d i, i + d = n → Ev (fun m => goRec step m (pt i)) ((List.range' i d).any p) := by
    intro d
    induction d with
    | zero => intro i h; rw [Nat.add_zero] at h; subst h; exact he
    | succ d ih =>
      intro i h
      obtain ⟨h1, h2⟩ := hs i (by omega)
      rw [List.range'_succ, List.any_cons]
      cases hp : p i with
      | true => rw [Bool.true_or]; exact h2 hp
      | false => rw [Bool.false_or]; exact h1 hp _ (ih (i + 1) (by omega))
  have := key n 0 (by omega)
  rwa [List.range_eq_range']
def onB (l : List RTE) (i : Nat) : Bool := (l.getD i default).2.2.2.2.2.2.2.1
def fitI (l : List RTE) (t : List LB) (i : Nat) : Bool := fitsB (l.getD i default).2.1 t
def takeK (f : Nat → Option Nat) (g : Nat → List Int) (fit on : Nat → Bool) : Nat → Nat → Bool → List Int
  | 0, _, _ => []
  | k + 1, p, go => if (go && fit p) = true then g p ++ takeK f g fit on k ((f p).getD 0) (on p) else takeK f g fit on k ((f p).getD 0) go
def takeN (l : List RTE) (t : List LB) : Nat → Nat → List Int
  | 0, _ => []
  | d + 1, i => if (takeK (nodeN l routeB d) (takeN l t d) (fitI l t) (onB l) (kidsOf l i).toNat (i + 1) true).isEmpty = true then [(i : Int)] else takeK (nodeN l routeB d) (takeN l t d) (fitI l t) (onB l) (kidsOf l i).toNat (i + 1) true
/-- in order, within bounds -/
def InO (r : List Int) (p q : Nat) : Prop := r.Pairwise (· ≤ ·) ∧ (∀ x ∈ r, (p : Int) ≤ x ∧ x < (q : Int)) ∧ r.length ≤ q - p
theorem InO.app {r s : List Int} {p q n : Nat} (h1 : InO r p q) (h2 : InO s q n) (hp : p ≤ q) (hq : q ≤ n) : InO (r ++ s) p n := by
  obtain ⟨a1, a2, a3⟩ := h1
  obtain ⟨b1, b2, b3⟩ := h2
  refine ⟨List.pairwise_append.2 ⟨a1, b1, fun x hx y hy => ?_⟩, fun x hx => ?_, by rw [List.length_append]; omega⟩
  · have := a2 x hx
    have := b2 y hy
    omega
  · rcases List.mem_append.1 hx with hx | hx
    · have := a2 x hx; omega
    · have := b2 x hx; omega
theorem InO.up {s : List Int} {p q n : Nat} (h : InO s q n) (hp : p ≤ q) : InO s p n := ⟨h.1, fun x hx => by have := h.2.1 x hx; omega, by have := h.2.2; omega⟩
theorem takeK_in {f : Nat → Option Nat} {g : Nat → List Int} {fit on : Nat → Bool} (hf : ∀ p q, f p = some q → p < q ∧ InO (g p) p q) : ∀ k p q go, manyN f k p = some q → p ≤ q ∧ InO (takeK f g fit on k p go) p q
  | 0, p, q, go, h => by
    simp only [manyN, Option.some.injEq] at h
    subst h
    exact ⟨Nat.le_refl _, by simp [takeK, InO]⟩
  | k + 1, p, q, go, h => by
    simp only [manyN] at h
    cases hp : f p with
    | none => rw [hp] at h; cases h
    | some r =>
      rw [hp] at h
      obtain ⟨h1, h2⟩ := hf p r hp
      simp only [takeK, hp, Option.getD_some]
      split
      · obtain ⟨h3, h4⟩ := takeK_in (fit := fit) (on := on) hf k r q (on p) h
        exact ⟨by omega, h2.app h4 (by omega) h3⟩
      · obtain ⟨h3, h4⟩ := takeK_in (fit := fit) (on := on) hf k r q go h
        exact ⟨by omega, h4.up (by omega)⟩
theorem takeN_in {l : List RTE} {t : List LB} : ∀ d i n, nodeN l routeB d i = some n → i < n ∧ InO (takeN l t d i) i n
  | 0, i, n, h => by simp [nodeN] at h
  | d + 1, i, n, h => by
    have hn := nodeN_lt _ _ _ h
    simp only [nodeN] at h
    split at h
    · have hk := takeK_in (fit := fitI l t) (on := onB l) (fun p q hq => takeN_in (t := t) d p q hq) _ _ _ true h
      refine ⟨hn.1, ?_⟩
      simp only [takeN]
      split
      · exact ⟨by simp, fun x hx => by simp at hx; omega, by simp; omega⟩
      · exact hk.2.up (by omega)
    · cases h
theorem manyN_mono {f g : Nat → Option Nat} (hf : ∀ p q, f p = some q → g p = some q) : ∀ k p q, manyN f k p = some q → manyN g k p = some q
  | 0, p, q, h => h
  | k + 1, p, q, h => by
    simp only [manyN] at h ⊢
    cases hp : f p with
    | none => rw [hp] at h; cases h
    | some r => rw [hp] at h; rw [hf p r hp]; exact manyN_mono hf k r q h
theorem nodeN_up {l : List RTE} {g : RTE → Bool} : ∀ d i n, nodeN l g d i = some n → nodeN l g (d + 1) i = some n
  | 0, i, n, h => by simp [nodeN] at h
  | d + 1, i, n, h => by
    rw [nodeN] at h ⊢
    split at h
    · rename_i hc
      rw [if_pos hc]
      exact manyN_mono (fun p q hq => nodeN_up d p q hq) _ _ _ h
    · cases h
theorem nodeN_to {l : List RTE} {g : RTE → Bool} {d i n : Nat} (h : nodeN l g d i = some n) {e : Nat} (he : d ≤ e) : nodeN l g e i = some n := by
  obtain ⟨k, rfl⟩ := Nat.le.dest he
  clear he
  induction k with
  | zero => exact h
  | succ k ih => exact nodeN_up _ _ _ ih
def forF (l : List RTE) (t : List LB) : List Int := if (routesB l && labelsB t) = true then takeN l t 8 0 else []
theorem forF_small {l : List RTE} {t : List LB} : Sm 1048576 (.sl false (.int .i64)) (forF l t) := by
  rw [forF]
  split
  · rename_i h
    simp only [Bool.and_eq_true] at h
    have := routesB_all h.1
    have h2 := (takeN_in (t := t) _ _ _ this.2.1).2.2.2
    exact ⟨by omega, fun _ _ => trivial⟩
  · exact ⟨by simp, fun x hx => by cases hx⟩
theorem takeN_sort {l : List RTE} {t : List LB} {d i n : Nat} (h : nodeN l routeB d i = some n) : (takeN l t d i).mergeSort (fun x y => decide (x ≤ y)) = takeN l t d i := by
  refine List.mergeSort_of_pairwise ?_
  exact ((takeN_in (t := t) _ _ _ h).2.1).imp fun h => by simpa using h
theorem wrapu {x : Int} : IntKind.wrap .u64 x = x % 18446744073709551616 := rfl
theorem wrapu_nat {n : Nat} (h : n < 18446744073709551616) : IntKind.wrap .u64 (n : Int) = (n : Int) := by rw [wrapu]; omega
theorem i64_id {n : Nat} (h : n ≤ 4611686018427387904) : IntKind.wrap .i64 (n : Int) = (n : Int) := i64_ok (by omega) (by omega)
theorem tmod_nat {s k : Nat} : Int.tmod (s : Int) (k : Int) = ((s % k : Nat) : Int) := by rw [Int.tmod_eq_emod_of_nonneg (by omega)]; rfl
theorem tdiv_nat {s k : Nat} : Int.tdiv (s : Int) (k : Int) = ((s / k : Nat) : Int) := by rw [Int.tdiv_eq_ediv_of_nonneg (by omega)]; rfl
theorem band1 {z : Nat} : band .u64 (z : Int) 1 = ((z % 2 : Nat) : Int) := by
  have e : (BitVec.ofInt 64 (z : Int) &&& BitVec.ofInt 64 1).toNat = z % 2 := by
    rw [BitVec.toNat_and]
    have h1 : (BitVec.ofInt 64 1).toNat = 1 := by decide
    have h2 : (BitVec.ofInt 64 (z : Int)).toNat = z % 2 ^ 64 := by rw [BitVec.toNat_ofInt]; omega
    rw [h1, h2, Nat.and_one_is_mod]
    omega
  show IntKind.wrap .u64 ((BitVec.ofInt 64 (z : Int) &&& BitVec.ofInt 64 1).toNat : Int) = _
  rw [e]
  exact wrapu_nat (by omega)
theorem shr_nat {y k : Nat} (hk : k ≤ 64) : shr .u64 (y : Int) (k : Int) = ((y / 2 ^ k : Nat) : Int) := by
  show Int.fdiv (y : Int) (2 ^ (min (Int.toNat (k : Int)) 64)) = _
  rw [Int.toNat_natCast, Nat.min_eq_left hk, Int.fdiv_eq_ediv_of_nonneg _ (Int.pow_nonneg (by decide))]
  rw [show ((2 : Int) ^ k) = ((2 ^ k : Nat) : Int) by simp]
  rfl
def bitN (y k : Nat) : Nat := y / 2 ^ k % 2
theorem bit_eq {y k : Nat} (hk : k ≤ 64) : band .u64 (shr .u64 (y : Int) (k : Int)) 1 = (bitN y k : Int) := by rw [shr_nat hk, band1]; rfl
theorem bitN_test {y k : Nat} : y.testBit k = decide (bitN y k = 1) := Nat.testBit_eq_decide_div_mod_eq
theorem bitN_lt {y k : Nat} : bitN y k < 2 := Nat.mod_lt _ (by decide)
def lzN (y : Nat) : Nat := 63 - Nat.log2 y
def tzN (y : Nat) : Nat := ((List.range 64).find? fun i => y.testBit i).getD 64
theorem log2_le {y : Nat} (h0 : y ≠ 0) (h : y < 18446744073709551616) : Nat.log2 y ≤ 63 := by
  have := (Nat.log2_lt h0 (k := 64)).2 h
  omega
theorem tz_spec {y : Nat} (h0 : y ≠ 0) (h : y < 18446744073709551616) : tzN y < 64 ∧ y.testBit (tzN y) = true ∧ ∀ j, j < tzN y → y.testBit j = false := by
  have hl := log2_le h0 h
  have hb : y.testBit (Nat.log2 y) = true := Nat.testBit_log2 h0
  cases hf : (List.range 64).find? fun i => y.testBit i with
  | none =>
    have := List.find?_eq_none.1 hf (Nat.log2 y) (by simp; omega)
    exact absurd hb this
  | some b =>
    rw [tzN, hf, Option.getD_some]
    have h1 := List.find?_some hf
    have h2 := List.mem_of_find?_eq_some hf
    refine ⟨by simpa using h2, h1, fun j hj => ?_⟩
    rw [List.find?_eq_some_iff_append] at hf
    obtain ⟨_, l1, l2, e, h3⟩ := hf
    have hlen : l1.length = b := by
      have := congrArg (fun l => l[l1.length]?) e
      simp only [List.getElem?_append_right (Nat.le_refl _), Nat.sub_self, List.getElem?_cons_zero] at this
      have := List.getElem?_eq_some_iff.1 this
      obtain ⟨_, h5⟩ := this
      simpa using h5
    have hj1 : l1[j]? = some j := by
      have := congrArg (fun l => l[j]?) e
      simp only [List.getElem?_append_left (show j < l1.length by omega)] at this
      rw [← this]
      have hb64 : b < 64 := by simpa using h2
      exact List.getElem?_range (by omega)
    have := h3 j (List.mem_of_getElem? hj1)
    simpa using this
theorem lz_tz {y : Nat} (h0 : y ≠ 0) (h : y < 18446744073709551616) : lzN y + tzN y ≤ 63 := by
  have hl := log2_le h0 h
  obtain ⟨h1, h2, h3⟩ := tz_spec h0 h
  have : tzN y ≤ Nat.log2 y := by
    rcases Nat.lt_or_ge (Nat.log2 y) (tzN y) with h4 | h4
    · have := h3 _ h4; rw [Nat.testBit_log2 h0] at this; cases this
    · exact h4
  rw [lzN]; omega
theorem log2_shift {y k : Nat} (h : 2 ^ k ≤ y) : Nat.log2 y = Nat.log2 (y / 2 ^ k) + k := by
  have hp : 0 < 2 ^ k := Nat.pos_of_ne_zero (by simp)
  have h0 : y ≠ 0 := by omega
  have h1 : y / 2 ^ k ≠ 0 := by have := Nat.div_pos h hp; omega
  obtain ⟨a, b⟩ := (Nat.log2_eq_iff h1).1 rfl
  refine (Nat.log2_eq_iff h0).2 ⟨?_, ?_⟩
  · rw [Nat.pow_add]; exact (Nat.le_div_iff_mul_le hp).1 a
  · rw [show Nat.log2 (y / 2 ^ k) + k + 1 = Nat.log2 (y / 2 ^ k) + 1 + k by omega, Nat.pow_add]; exact (Nat.div_lt_iff_lt_mul hp).1 b
def len8T : ByteArray := ⟨#[0, 1, 2, 2, 3, 3, 3, 3, 4, 4, 4, 4, 4, 4, 4, 4, 5, 5, 5, 5, 5, 5, 5, 5, 5, 5, 5, 5, 5, 5, 5, 5, 6, 6, 6, 6, 6, 6, 6, 6, 6, 6, 6, 6, 6, 6, 6, 6, 6, 6, 6, 6, 6, 6, 6, 6, 6, 6, 6, 6, 6, 6, 6, 6, 7, 7, 7, 7, 7, 7, 7, 7, 7, 7, 7, 7, 7, 7, 7, 7, 7, 7, 7, 7, 7, 7, 7, 7, 7, 7, 7, 7, 7, 7, 7, 7, 7, 7, 7, 7, 7, 7, 7, 7, 7, 7, 7, 7, 7, 7, 7, 7, 7, 7, 7, 7, 7, 7, 7, 7, 7, 7, 7, 7, 7, 7, 7, 7, 8, 8, 8, 8, 8, 8, 8, 8, 8, 8, 8, 8, 8, 8, 8, 8, 8, 8, 8, 8, 8, 8, 8, 8, 8, 8, 8, 8, 8, 8, 8, 8, 8, 8, 8, 8, 8, 8, 8, 8, 8, 8, 8, 8, 8, 8, 8, 8, 8, 8, 8, 8, 8, 8, 8, 8, 8, 8, 8, 8, 8, 8, 8, 8, 8, 8, 8, 8, 8, 8, 8, 8, 8, 8, 8, 8, 8, 8, 8, 8, 8, 8, 8, 8, 8, 8, 8, 8, 8, 8, 8, 8, 8, 8, 8, 8, 8, 8, 8, 8, 8, 8, 8, 8, 8, 8, 8, 8, 8, 8, 8, 8, 8, 8, 8, 8, 8, 8, 8, 8, 8, 8, 8, 8, 8, 8, 8, 8]⟩
theorem len8_ok : ∀ z : Nat, z < 256 → z = 0 ∨ IntKind.wrap .i64 (bt len8T (z : Int)) = ((Nat.log2 z + 1 : Nat) : Int) := by decide +kernel
theorem u8_id {z : Nat} (h : z < 256) : IntKind.wrap .u8 (z : Int) = (z : Int) := by
  show (z : Int) % 256 = _
  omega
def tzT : List Int := [0, 1, 56, 2, 57, 49, 28, 3, 61, 58, 42, 50, 38, 29, 17, 4, 62, 47, 59, 36, 45, 43, 51, 22, 53, 39, 33, 30, 24, 18, 12, 5, 63, 55, 48, 27, 60, 41, 37, 16, 46, 35, 44, 21, 52, 32, 23, 11, 54, 26, 40, 15, 34, 20, 31, 10, 25, 14, 19, 9, 13, 8, 7, 6]
theorem tz_tab : ∀ t : Nat, t < 64 → inB (shr .u64 (IntKind.wrap .u64 ((285870213051353865 : Int) * ((2 ^ t : Nat) : Int))) (58 : Int)) 64 = true ∧ IntKind.wrap .i64 (List.getD (List.getD [tzT] 0 default) (Int.toNat (shr .u64 (IntKind.wrap .u64 ((285870213051353865 : Int) * ((2 ^ t : Nat) : Int))) (58 : Int))) default) = (t : Int) := by decide +kernel
theorem low_bit {y : Nat} (h0 : y ≠ 0) (h : y < 18446744073709551616) : band .u64 (y : Int) (IntKind.wrap .u64 ((0 : Int) - (y : Int))) = ((2 ^ tzN y : Nat) : Int) := by
  obtain ⟨t1, t2, t3⟩ := tz_spec h0 h
  have hy : BitVec.ofInt 64 (y : Int) = BitVec.ofNat 64 y := BitVec.ofInt_natCast _ _
  have hn : BitVec.ofInt 64 (IntKind.wrap .u64 ((0 : Int) - (y : Int))) = -BitVec.ofNat 64 y := by
    apply BitVec.eq_of_toNat_eq
    rw [BitVec.toNat_ofInt, BitVec.toNat_neg, BitVec.toNat_ofNat, wrapu]
    omega
  have key : BitVec.ofNat 64 y &&& -BitVec.ofNat 64 y = BitVec.twoPow 64 (tzN y) := by
    apply BitVec.eq_of_getLsbD_eq
    intro i hi
    rw [BitVec.getLsbD_and, BitVec.getLsbD_neg, BitVec.getLsbD_twoPow, BitVec.getLsbD_ofNat]
    simp only [hi, decide_true, Bool.true_and]
    rcases Nat.lt_trichotomy i (tzN y) with h1 | h1 | h1
    · rw [t3 i h1, Bool.false_and]
      rw [decide_eq_false (show ¬ tzN y = i by omega), Bool.and_false]
    · subst h1
      rw [t2]
      have : ¬ ∃ j, j < tzN y ∧ (BitVec.ofNat 64 y).getLsbD j = true := by
        rintro ⟨j, hj, h5⟩
        rw [BitVec.getLsbD_ofNat, t3 j hj] at h5
        simp at h5
      simp [this, t1]
    · have : ∃ j, j < i ∧ (BitVec.ofNat 64 y).getLsbD j = true := ⟨tzN y, h1, by rw [BitVec.getLsbD_ofNat, t2]; simp [t1]⟩
      simp only [this, decide_true]
      have hne : decide (tzN y = i) = false := by simp only [decide_eq_false_iff_not]; omega
      cases y.testBit i <;> simp [hne]
  show IntKind.wrap .u64 ((BitVec.ofInt 64 (y : Int) &&& BitVec.ofInt 64 (IntKind.wrap .u64 ((0 : Int) - (y : Int)))).toNat : Int) = _
  rw [hy, hn, key, BitVec.toNat_twoPow]
  have : 2 ^ tzN y < 2 ^ 64 := Nat.pow_lt_pow_right (by decide) t1
  rw [Nat.mod_eq_of_lt this]
  exact wrapu_nat this
abbrev SME := Int × Int × Unit
abbrev SMU : U := .pair (.int .i64) (.pair (.int .i64) .unit)
abbrev BBE := List Int × Nat
theorem tmod8 {s : Nat} : Int.tmod (s : Int) 8 = ((s % 8 : Nat) : Int) := tmod_nat (k := 8)
theorem tdiv8 {s : Nat} : Int.tdiv (s : Int) 8 = ((s / 8 : Nat) : Int) := tdiv_nat (k := 8)
def bitAt (v : Int) (k : Nat) : Bool := decide (band .u64 (shr .u64 (IntKind.wrap .u64 v) (k : Int)) (1 : Int) = 1)
theorem bit_val {v : Int} {k : Nat} (hk : k ≤ 64) : band .u64 (shr .u64 (IntKind.wrap .u64 v) (k : Int)) (1 : Int) = if bitAt v k = true then 1 else 0 := by
  obtain ⟨w, hw⟩ : ∃ w : Nat, IntKind.wrap .u64 v = (w : Int) := ⟨(v % 18446744073709551616).toNat, by rw [wrapu]; omega⟩
  rw [bitAt, hw, bit_eq hk]
  have := @bitN_lt w k
  by_cases h : bitN w k = 1
  · rw [h]; rfl
  · rw [if_neg (by simp only [decide_eq_true_eq]; omega)]; omega
def growB (b : BBE) : List Int := if b.2 % 8 = 0 then b.1 ++ [0] else b.1
def put1 (b : BBE) (x : Bool) : BBE := (if x = true then (growB b).set (b.2 / 8) (bor .u8 ((growB b).getD (b.2 / 8) default) (shr .u8 (128 : Int) ((b.2 % 8 : Nat) : Int))) else growB b, b.2 + 1)
def puts (v : Int) : Nat → BBE → BBE
  | 0, b => b
  | k + 1, b => puts v k (put1 b (bitAt v k))
def OKB (b : BBE) : Prop := b.1.length = (b.2 + 7) / 8
theorem growB_len {b : BBE} (h : OKB b) : (growB b).length = b.2 / 8 + 1 := by
  simp only [OKB] at h
  rw [growB]
  split
  · rw [List.length_append, h, List.length_singleton]; omega
  · rw [h]; omega
theorem put1_ok {b : BBE} {x : Bool} (h : OKB b) : OKB (put1 b x) := by
  have := growB_len h
  simp only [OKB, put1]
  split
  · rw [List.length_set, this]; omega
  · rw [this]; omega
theorem puts_ok {v : Int} : ∀ {n : Nat} {b : BBE}, OKB b → OKB (puts v n b)
  | 0, b, h => h
  | n + 1, b, h => puts_ok (n := n) (put1_ok h)
theorem puts_sz {v : Int} : ∀ {n : Nat} {b : BBE}, (puts v n b).2 = b.2 + n
  | 0, b => rfl
  | n + 1, b => by rw [puts, puts_sz, put1]; omega
def outB (b : BBE) : List Int × Int × Unit := (b.1, ((b.2 : Nat) : Int), ())
def bendB (b : BBE) (e : Int) : BBE :=
  if e = 0 then puts 0 1 b else if -63 ≤ e ∧ e ≤ 64 then puts (IntKind.wrap .i64 (e + 63)) 7 (puts 2 2 b) else if -255 ≤ e ∧ e ≤ 256 then puts (IntKind.wrap .i64 (e + 255)) 9 (puts 6 3 b)
  else if -2047 ≤ e ∧ e ≤ 2048 then puts (IntKind.wrap .i64 (e + 2047)) 12 (puts 14 4 b) else puts e 64 (puts 15 4 b)
theorem bendB_ok {b : BBE} {e : Int} (h : OKB b) : OKB (bendB b e) ∧ (bendB b e).2 ≤ b.2 + 68 := by
  simp only [bendB]
  split
  · exact ⟨puts_ok h, by rw [puts_sz]; omega⟩
  split
  · exact ⟨puts_ok (puts_ok h), by rw [puts_sz, puts_sz]; omega⟩
  split
  · exact ⟨puts_ok (puts_ok h), by rw [puts_sz, puts_sz]; omega⟩
  split
  · exact ⟨puts_ok (puts_ok h), by rw [puts_sz, puts_sz]; omega⟩
  · exact ⟨puts_ok (puts_ok h), by rw [puts_sz, puts_sz]; omega⟩
def turnN (a p : Int) : Nat := (BitVec.ofInt 64 a ^^^ BitVec.ofInt 64 p).toNat
theorem turn_lt {a p : Int} : turnN a p < 18446744073709551616 := (BitVec.ofInt 64 a ^^^ BitVec.ofInt 64 p).isLt
theorem turn_i {a p : Int} : IntKind.wrap .u64 (bxor .i64 a p) = (turnN a p : Int) := by
  have := @turn_lt a p
  show IntKind.wrap .u64 (IntKind.wrap .i64 (turnN a p : Int)) = _
  rw [wrapu]
  show (if (true && decide ((turnN a p : Int) % 18446744073709551616 ≥ 9223372036854775808)) = true then (turnN a p : Int) % 18446744073709551616 - 18446744073709551616 else (turnN a p : Int) % 18446744073709551616) % 18446744073709551616 = _
  split <;> omega
theorem ofInt_wrapu {a : Int} : BitVec.ofInt 64 (IntKind.wrap .u64 a) = BitVec.ofInt 64 a := by
  apply BitVec.eq_of_toNat_eq
  rw [BitVec.toNat_ofInt, BitVec.toNat_ofInt, wrapu]
  omega
theorem turn_u {a p : Int} : bxor .u64 (IntKind.wrap .u64 a) (IntKind.wrap .u64 p) = (turnN a p : Int) := by
  show IntKind.wrap .u64 ((BitVec.ofInt 64 (IntKind.wrap .u64 a) ^^^ BitVec.ofInt 64 (IntKind.wrap .u64 p)).toNat : Int) = _
  rw [ofInt_wrapu, ofInt_wrapu]
  exact wrapu_nat turn_lt
abbrev FRE := Option (Nat × Nat)
def frB (st : FRE) (y : Nat) : Bool := match st with | some (ld, tr) => decide (ld ≤ lzN y) && decide (tr ≤ tzN y) | none => false
def leadN (st : FRE) : Nat := (st.getD (0, 0)).1
def leadI (st : FRE) : Int := match st with | some p => (p.1 : Int) | none => -1
def trailN (st : FRE) : Nat := (st.getD (0, 0)).2
def oldB (b : BBE) (st : FRE) (y : Nat) : BBE := puts (IntKind.wrap .i64 ((y / 2 ^ trailN st : Nat) : Int)) (64 - leadN st - trailN st) (puts 2 2 b)
def newB (b : BBE) (y : Nat) : BBE := puts (IntKind.wrap .i64 ((y / 2 ^ tzN y : Nat) : Int)) (64 - lzN y - tzN y) (puts ((64 - lzN y - tzN y - 1 : Nat) : Int) 6 (puts (lzN y : Int) 6 (puts 3 2 b)))
def valB (b : BBE) (st : FRE) (y : Nat) : BBE × FRE := if y = 0 then (puts 0 1 b, st) else if frB st y = true then (oldB b st y, st) else (newB b y, some (lzN y, tzN y))
def nowI (l : List SME) (i : Nat) : Int := IntKind.wrap .i64 ((l.getD i default).1 - (l.getD (i - 1) default).1)
def bendI (l : List SME) (i : Nat) (step : Int) : Int := if i = 1 then nowI l i else IntKind.wrap .i64 (nowI l i - step)
def turnI (l : List SME) (i : Nat) : Nat := turnN (l.getD i default).2.1 (l.getD (i - 1) default).2.1
def packR (l : List SME) : Nat → Nat → BBE → FRE → Int → BBE
  | 0, _, b, _, _ => b
  | d + 1, i, b, st, step => if i = 0 then packR l d (i + 1) (puts (l.getD i default).2.1 64 (puts (l.getD i default).1 40 b)) st step
    else packR l d (i + 1) (valB (bendB b (bendI l i step)) st (turnI l i)).1 (valB (bendB b (bendI l i step)) st (turnI l i)).2 (nowI l i)
def packV (l : List SME) : BBE := packR l l.length 0 (puts (l.length : Int) 8 ([], 0)) none 0
def FrOK (st : FRE) : Prop := leadN st + trailN st ≤ 63
theorem valB_ok {b : BBE} {st : FRE} {y : Nat} (h : OKB b) (hs : FrOK st) (hy : y < 18446744073709551616) : OKB (valB b st y).1 ∧ (valB b st y).1.2 ≤ b.2 + 78 ∧ FrOK (valB b st y).2 := by
  simp only [valB]
  split
  · exact ⟨puts_ok h, by rw [puts_sz]; omega, hs⟩
  rename_i h0
  split
  · exact ⟨puts_ok (puts_ok h), by rw [oldB, puts_sz, puts_sz]; omega, hs⟩
  · exact ⟨puts_ok (puts_ok (puts_ok (puts_ok h))), by rw [newB, puts_sz, puts_sz, puts_sz, puts_sz]; omega, lz_tz h0 hy⟩
theorem packR_ok {l : List SME} : ∀ d i b st step, OKB b → FrOK st → OKB (packR l d i b st step) ∧ (packR l d i b st step).2 ≤ b.2 + 150 * d
  | 0, i, b, st, step, h, hs => ⟨h, by simp [packR]⟩
  | d + 1, i, b, st, step, h, hs => by
    simp only [packR]
    split
    · have := packR_ok (l := l) d (i + 1) (puts (l.getD i default).2.1 64 (puts (l.getD i default).1 40 b)) st step (puts_ok (puts_ok h)) hs
      rw [puts_sz, puts_sz] at this
      exact ⟨this.1, by omega⟩
    · obtain ⟨h1, h2⟩ := bendB_ok (e := bendI l i step) h
      obtain ⟨h3, h4, h5⟩ := valB_ok h1 hs (turn_lt (a := (l.getD i default).2.1) (p := (l.getD (i - 1) default).2.1))
      have := packR_ok (l := l) d (i + 1) _ _ (nowI l i) h3 h5
      exact ⟨this.1, by have := this.2; simp only [turnI] at *; omega⟩
def samplesB (l : List SME) : Bool := ((List.range l.length).all fun i => timeB (l.getD i default).1 && !(decide (0 < i) && decide ((l.getD i default).1 ≤ (l.getD (i - 1) default).1))) && decide (l.length ≤ 2000)
def chunkF (l : List SME) : BBE := if (samplesB l && decide (l.length ≤ 120)) = true then packV l else ([], 0)
theorem chunkF_ok {l : List SME} : OKB (chunkF l) ∧ (chunkF l).2 ≤ 100000 := by
  rw [chunkF]
  split
  · rename_i h
    simp only [Bool.and_eq_true, decide_eq_true_eq] at h
    have := packR_ok (l := l) l.length 0 (puts (l.length : Int) 8 ([], 0)) none 0 (puts_ok rfl) (by simp [FrOK, leadN, trailN])
    rw [puts_sz] at this
    exact ⟨this.1, by rw [packV]; omega⟩
  · exact ⟨rfl, by decide⟩
theorem len_lt {a b : Nat} (h : a + b ≤ 63) : IntKind.wrap .i64 (IntKind.wrap .i64 ((64 : Int) - (a : Int)) - (b : Int)) = ((64 - a - b : Nat) : Int) := by
  rw [i64_ok (x := (64 : Int) - (a : Int)) (by omega) (by omega), i64_ok (by omega) (by omega)]; omega
theorem len_pred {a b : Nat} (h : a + b ≤ 63) : IntKind.wrap .i64 (((64 - a - b : Nat) : Int) - 1) = ((64 - a - b - 1 : Nat) : Int) := by
  rw [i64_ok (by omega) (by omega)]; omega
theorem pred_i64 {i : Nat} (h : i ≠ 0) (h2 : i ≤ 4611686018427387904) : IntKind.wrap .i64 ((i : Int) - 1) = ((i - 1 : Nat) : Int) := by
  rw [i64_ok (by omega) (by omega)]; omega
def bitD (D : List Int) (i : Nat) : Bool := decide ((D.getD (i / 8) default).toNat / 2 ^ (7 - i % 8) % 2 = 1)
def BYB (D : List Int) : Prop := ∀ j, 0 ≤ D.getD j default ∧ D.getD j default < 256
structure GB (b : BBE) : Prop where
  ok : OKB b
  by_ : BYB b.1
  z : ∀ i, b.2 ≤ i → bitD b.1 i = false
structure ExB (b c : BBE) : Prop where
  le : b.2 ≤ c.2
  eq : ∀ i, i < b.2 → bitD c.1 i = bitD b.1 i
theorem ExB.refl {b : BBE} : ExB b b := ⟨Nat.le_refl _, fun _ _ => rfl⟩
theorem ExB.trans {a b c : BBE} (h : ExB a b) (h' : ExB b c) : ExB a c := ⟨Nat.le_trans h.le h'.le, fun i hi => by rw [h'.eq i (Nat.lt_of_lt_of_le hi h.le), h.eq i hi]⟩
theorem bor_tab : ∀ x : Nat, x < 256 → ∀ k : Nat, k < 8 → (0 ≤ bor .u8 (x : Int) (shr .u8 (128 : Int) (k : Int)) ∧ bor .u8 (x : Int) (shr .u8 (128 : Int) (k : Int)) < 256) ∧ ∀ j : Nat, j < 8 → decide ((bor .u8 (x : Int) (shr .u8 (128 : Int) (k : Int))).toNat / 2 ^ (7 - j) % 2 = 1) = (decide (x / 2 ^ (7 - j) % 2 = 1) || decide (j = k)) := by decide +kernel
theorem growB_get {b : BBE} {j : Nat} : (growB b).getD j default = b.1.getD j default := by
  rw [growB]
  split
  · simp only [List.getD_eq_getElem?_getD]
    rcases Nat.lt_or_ge j b.1.length with h | h
    · rw [List.getElem?_append_left h]
    · rw [List.getElem?_append_right h, List.getElem?_eq_none h]
      rcases Nat.eq_zero_or_pos (j - b.1.length) with h2 | h2
      · rw [h2]; rfl
      · rw [List.getElem?_eq_none (by simp; omega)]
  · rfl
theorem growB_bit {b : BBE} {i : Nat} : bitD (growB b) i = bitD b.1 i := by rw [bitD, growB_get]; rfl
theorem put1_gb {b : BBE} {x : Bool} (h : GB b) : GB (put1 b x) ∧ ExB b (put1 b x) ∧ bitD (put1 b x).1 b.2 = x := by
  have hl := growB_len h.ok
  have hok := put1_ok (x := x) h.ok
  cases x with
  | false =>
    have e : put1 b false = (growB b, b.2 + 1) := by simp [put1]
    rw [e] at hok ⊢
    exact ⟨⟨hok, fun j => by rw [growB_get]; exact h.by_ j, fun i hi => by show bitD (growB b) i = false; rw [growB_bit]; exact h.z i (by have : b.2 + 1 ≤ i := hi; omega)⟩, ⟨Nat.le_succ _, fun i _ => growB_bit⟩, by show bitD (growB b) b.2 = false; rw [growB_bit]; exact h.z _ (Nat.le_refl _)⟩
  | true =>
    obtain ⟨g0, g1⟩ := h.by_ (b.2 / 8)
    obtain ⟨w, hw⟩ : ∃ w : Nat, b.1.getD (b.2 / 8) default = (w : Int) := ⟨(b.1.getD (b.2 / 8) default).toNat, by omega⟩
    obtain ⟨⟨t0, t1⟩, t2⟩ := bor_tab w (by omega) (b.2 % 8) (by omega)
    have e : put1 b true = ((growB b).set (b.2 / 8) (bor .u8 (w : Int) (shr .u8 (128 : Int) ((b.2 % 8 : Nat) : Int))), b.2 + 1) := by rw [put1, growB_get, hw]; simp
    rw [e] at hok ⊢
    have hat : ∀ i, i / 8 = b.2 / 8 → bitD ((growB b).set (b.2 / 8) (bor .u8 (w : Int) (shr .u8 (128 : Int) ((b.2 % 8 : Nat) : Int)))) i = (bitD b.1 i || decide (i = b.2)) := by
      intro i hi
      rw [bitD, hi, getD_set_same (by omega), t2 (i % 8) (by omega), bitD, hi, hw]
      congr 1
      exact decide_eq_decide.2 (by omega)
    have hno : ∀ i, i / 8 ≠ b.2 / 8 → bitD ((growB b).set (b.2 / 8) (bor .u8 (w : Int) (shr .u8 (128 : Int) ((b.2 % 8 : Nat) : Int)))) i = bitD b.1 i := by
      intro i hi
      rw [bitD, getD_set_other hi, growB_get]; rfl
    have all : ∀ i, bitD ((growB b).set (b.2 / 8) (bor .u8 (w : Int) (shr .u8 (128 : Int) ((b.2 % 8 : Nat) : Int)))) i = (bitD b.1 i || decide (i = b.2)) := by
      intro i
      by_cases hi : i / 8 = b.2 / 8
      · exact hat i hi
      · rw [hno i hi, decide_eq_false (show ¬ i = b.2 by intro h; exact hi (by rw [h])), Bool.or_false]
    refine ⟨⟨hok, fun j => ?_, fun i hi => ?_⟩, ⟨Nat.le_succ _, fun i hi => ?_⟩, ?_⟩
    · by_cases hj : j = b.2 / 8
      · subst hj; rw [getD_set_same (by omega)]; exact ⟨t0, t1⟩
      · rw [getD_set_other hj, growB_get]; exact h.by_ j
    · have hi : b.2 + 1 ≤ i := hi
      show bitD ((growB b).set _ _) i = false
      rw [all, h.z i (by omega), decide_eq_false (show ¬ i = b.2 by omega)]; rfl
    · show bitD ((growB b).set _ _) i = _
      rw [all, decide_eq_false (show ¬ i = b.2 by omega), Bool.or_false]
    · show bitD ((growB b).set _ _) b.2 = true
      rw [all, decide_eq_true rfl, Bool.or_true]
/-- from at on there stand the n last bits of v -/
def HasB (D : List Int) (at_ : Nat) (v : Int) (n : Nat) : Prop := ∀ j, j < n → bitD D (at_ + j) = bitAt v (n - 1 - j)
theorem puts_gb {v : Int} : ∀ {n : Nat} {b : BBE}, GB b → GB (puts v n b) ∧ ExB b (puts v n b) ∧ HasB (puts v n b).1 b.2 v n
  | 0, b, h => ⟨h, ExB.refl, fun j hj => absurd hj (Nat.not_lt_zero _)⟩
  | n + 1, b, h => by
    obtain ⟨h1, h2, h3⟩ := put1_gb (x := bitAt v n) h
    obtain ⟨h4, h5, h6⟩ := puts_gb (v := v) (n := n) h1
    refine ⟨h4, h2.trans h5, fun j hj => ?_⟩
    have e2 : (put1 b (bitAt v n)).2 = b.2 + 1 := rfl
    rcases Nat.eq_zero_or_pos j with h0 | h0
    · subst h0
      rw [Nat.add_zero, Nat.sub_zero]
      show bitD (puts v n (put1 b (bitAt v n))).1 b.2 = bitAt v (n + 1 - 1)
      rw [h5.eq b.2 (by omega), h3]; rfl
    · have := h6 (j - 1) (by omega)
      rw [e2, show b.2 + 1 + (j - 1) = b.2 + j by omega, show n - 1 - (j - 1) = n + 1 - 1 - j by omega] at this
      exact this
theorem HasB.ext {b c : BBE} {a n : Nat} {v : Int} (h : HasB b.1 a v n) (hx : ExB b c) (hn : a + n ≤ b.2) : HasB c.1 a v n := fun j hj => by rw [hx.eq _ (by omega)]; exact h j hj
def rdN (D : List Int) (at_ : Nat) : Nat → Nat
  | 0 => 0
  | n + 1 => rdN D at_ n * 2 + (bitD D (at_ + n)).toNat
theorem rdN_lt {D : List Int} {a : Nat} : ∀ {n : Nat}, rdN D a n < 2 ^ n
  | 0 => by simp [rdN]
  | n + 1 => by
    have := rdN_lt (D := D) (a := a) (n := n)
    have h2 : (bitD D (a + n)).toNat ≤ 1 := by cases bitD D (a + n) <;> decide
    rw [rdN, Nat.pow_succ]; omega
theorem rdN_has {D : List Int} {a n w : Nat} {v : Int} (hw : IntKind.wrap .u64 v = (w : Int)) (hn : n ≤ 64) (h : HasB D a v n) : rdN D a n = w % 2 ^ n := by
  have key : ∀ k, k ≤ n → rdN D a k = w / 2 ^ (n - k) % 2 ^ k := by
    intro k
    induction k with
    | zero => intro _; simp [rdN, Nat.mod_one]
    | succ k ih =>
      intro hk
      rw [rdN, ih (by omega), h k (by omega), bitAt, hw, bit_eq (by omega), Nat.pow_succ, Nat.mul_comm (2 ^ k) 2, Nat.mod_mul]
      have e : n - k = (n - (k + 1)) + 1 := by omega
      rw [e, Nat.pow_succ, ← Nat.div_div_eq_div_mul, show n - 1 - k = n - (k + 1) by omega, bitN]
      have h2 : w / 2 ^ (n - (k + 1)) % 2 < 2 := Nat.mod_lt _ (by decide)
      have h3 : (decide (((w / 2 ^ (n - (k + 1)) % 2 : Nat) : Int) = 1)).toNat = w / 2 ^ (n - (k + 1)) % 2 := by
        rcases (show w / 2 ^ (n - (k + 1)) % 2 = 0 ∨ w / 2 ^ (n - (k + 1)) % 2 = 1 by omega) with h4 | h4 <;> rw [h4] <;> rfl
      rw [h3]; omega
  have := key n (Nat.le_refl _)
  rwa [Nat.sub_self, Nat.pow_zero, Nat.div_one] at this
/-- what a reader takes: nothing behind the end -/
def rdT (D : List Int) (S at_ n : Nat) : Nat := if at_ + n ≤ S then rdN D at_ n else 0
theorem rdT_lt {D : List Int} {S a n : Nat} : rdT D S a n < 2 ^ n := by
  rw [rdT]; split
  · exact rdN_lt
  · exact Nat.pos_of_ne_zero (by simp)
def onesT (D : List Int) (S : Nat) : Nat → Nat → Nat × Nat
  | 0, a => (0, a)
  | k + 1, a => if rdT D S a 1 = 1 then ((onesT D S k (a + 1)).1 + 1, (onesT D S k (a + 1)).2) else (0, a + 1)
theorem onesT_le {D : List Int} {S : Nat} : ∀ {k a : Nat}, a ≤ (onesT D S k a).2 ∧ (onesT D S k a).2 ≤ a + k ∧ (onesT D S k a).1 ≤ k
  | 0, a => ⟨Nat.le_refl _, Nat.le_refl _, Nat.le_refl _⟩
  | k + 1, a => by
    have := onesT_le (D := D) (S := S) (k := k) (a := a + 1)
    rw [onesT]; split <;> simp only <;> omega
def bendT (D : List Int) (S a : Nat) : Int × Nat :=
  if (onesT D S 4 a).1 = 0 then (0, (onesT D S 4 a).2) else if (onesT D S 4 a).1 = 1 then ((rdT D S (onesT D S 4 a).2 7 : Int) - 63, (onesT D S 4 a).2 + 7)
  else if (onesT D S 4 a).1 = 2 then ((rdT D S (onesT D S 4 a).2 9 : Int) - 255, (onesT D S 4 a).2 + 9) else if (onesT D S 4 a).1 = 3 then ((rdT D S (onesT D S 4 a).2 12 : Int) - 2047, (onesT D S 4 a).2 + 12)
  else (IntKind.wrap .i64 (rdT D S (onesT D S 4 a).2 64 : Int), (onesT D S 4 a).2 + 64)
theorem bendT_le {D : List Int} {S a : Nat} : (onesT D S 4 a).2 ≤ (bendT D S a).2 ∧ (bendT D S a).2 ≤ a + 68 := by
  have := onesT_le (D := D) (S := S) (k := 4) (a := a)
  simp only [bendT]
  repeat' split
  all_goals simp only; omega
def xorI (p : Int) (y : Nat) : Int := bxor .i64 p (IntKind.wrap .i64 (y : Int))
/-- one value: which, the frame behind it, where it ends -/
def valT (imp : Bool) (D : List Int) (S a : Nat) (st : FRE) : Option (Nat × FRE × Nat) :=
  if (onesT D S 2 a).1 = 0 then some (0, st, (onesT D S 2 a).2)
  else if (onesT D S 2 a).1 = 1 then
    if st.isSome || imp then some (rdT D S (onesT D S 2 a).2 (64 - leadN st - trailN st) * 2 ^ trailN st, st, (onesT D S 2 a).2 + (64 - leadN st - trailN st)) else none
  else if 64 < rdT D S (onesT D S 2 a).2 6 + (rdT D S ((onesT D S 2 a).2 + 6) 6 + 1) then none
  else some (rdT D S ((onesT D S 2 a).2 + 12) (rdT D S ((onesT D S 2 a).2 + 6) 6 + 1) * 2 ^ (64 - rdT D S (onesT D S 2 a).2 6 - (rdT D S ((onesT D S 2 a).2 + 6) 6 + 1)),
    some (rdT D S (onesT D S 2 a).2 6, 64 - rdT D S (onesT D S 2 a).2 6 - (rdT D S ((onesT D S 2 a).2 + 6) 6 + 1)), (onesT D S 2 a).2 + 12 + (rdT D S ((onesT D S 2 a).2 + 6) 6 + 1))
def nextT (e : Int) (p : SME) (step : Int) (y : Nat) : SME := (IntKind.wrap .i64 (p.1 + IntKind.wrap .i64 (step + e)), xorI p.2.1 y, ())
def unR (imp : Bool) (D : List Int) (S : Nat) : Nat → Nat → Nat → FRE → Int → List SME → Option (List SME × Nat)
  | 0, _, a, _, _, out => some (out, a)
  | d + 1, i, a, st, step, out => if S < a then some (out, a)
    else if i = 0 then unR imp D S d (i + 1) (a + 104) st step (out ++ [((rdT D S a 40 : Int), IntKind.wrap .i64 (rdT D S (a + 40) 64 : Int), ())])
    else match valT imp D S (bendT D S a).2 st with
      | none => none
      | some r => unR imp D S d (i + 1) r.2.2 r.2.1 (IntKind.wrap .i64 (step + (bendT D S a).1)) (out ++ [nextT (bendT D S a).1 (out.getD (i - 1) default) step r.1])
def unF (imp : Bool) (D : List Int) (S : Nat) : Option (List SME × Nat) := unR imp D S (rdT D S 0 8) 0 8 none 0 []
theorem rdT_has {b F : BBE} {a n w : Nat} {v : Int} (h : HasB F.1 a v n) (hw : IntKind.wrap .u64 v = (w : Int)) (hn : n ≤ 64) (hle : a + n ≤ F.2) : rdT F.1 F.2 a n = w % 2 ^ n := by
  rw [rdT, if_pos hle]; exact rdN_has hw hn h
theorem rdT_one {D : List Int} {S a : Nat} (h : a + 1 ≤ S) : rdT D S a 1 = (bitD D a).toNat := by
  rw [rdT, if_pos h, rdN, rdN, Nat.zero_mul, Nat.zero_add, Nat.add_zero]
theorem ones_yes {D : List Int} {S a k : Nat} (h : a + 1 ≤ S) (hb : bitD D a = true) : onesT D S (k + 1) a = ((onesT D S k (a + 1)).1 + 1, (onesT D S k (a + 1)).2) := by
  rw [onesT, rdT_one h, hb, if_pos (by decide)]
theorem ones_no {D : List Int} {S a k : Nat} (hb : bitD D a = false) : onesT D S (k + 1) a = (0, a + 1) := by
  rw [onesT, if_neg]
  rw [rdT]; split
  · rw [rdN, rdN, Nat.add_zero, hb]; decide
  · decide
theorem puts_has {b F : BBE} {v : Int} {n : Nat} (h : GB b) (hx : ExB (puts v n b) F) : HasB F.1 b.2 v n ∧ b.2 + n ≤ F.2 := by
  have hle := hx.le
  rw [puts_sz] at hle
  exact ⟨(puts_gb h).2.2.ext hx (by rw [puts_sz]; exact Nat.le_refl _), hle⟩
theorem puts_ex {b F : BBE} {v : Int} {n : Nat} (h : GB b) (hx : ExB (puts v n b) F) : ExB b F := (puts_gb h).2.1.trans hx
theorem bendB_gb {b : BBE} {e : Int} (h : GB b) : GB (bendB b e) ∧ ExB b (bendB b e) := by
  have two : ∀ v q w k, GB (puts w k (puts v q b)) ∧ ExB b (puts w k (puts v q b)) := fun v q w k => ⟨(puts_gb (puts_gb h).1).1, (puts_gb h).2.1.trans (puts_gb (puts_gb h).1).2.1⟩
  simp only [bendB]
  split
  · exact ⟨(puts_gb h).1, (puts_gb h).2.1⟩
  repeat' split
  all_goals exact two _ _ _ _
theorem wrapu_i {x : Int} : IntKind.wrap .u64 (IntKind.wrap .i64 x) = IntKind.wrap .u64 x := by
  show (if (true && decide (x % 18446744073709551616 ≥ 9223372036854775808)) = true then x % 18446744073709551616 - 18446744073709551616 else x % 18446744073709551616) % 18446744073709551616 = x % 18446744073709551616
  split <;> omega
theorem wrapi_u {x : Int} : IntKind.wrap .i64 (IntKind.wrap .u64 x) = IntKind.wrap .i64 x := by
  rw [IntKind.wrap_i64, IntKind.wrap_i64, wrapu]; omega
theorem bend_rt {b F : BBE} {e : Int} (h : GB b) (hx : ExB (bendB b e) F) (he : -9223372036854775808 ≤ e ∧ e ≤ 9223372036854775807) : bendT F.1 F.2 b.2 = (e, (bendB b e).2) := by
  have small : ∀ (k n : Nat) (z : Int), n ≤ 64 → -9223372036854775808 ≤ z ∧ 0 ≤ z ∧ z < 4096 → z.toNat < 2 ^ n → ∀ a, HasB F.1 a (IntKind.wrap .i64 z) n → a + n ≤ F.2 → (rdT F.1 F.2 a n : Int) = z := by
    intro k n z hn hz hz2 a ha hle
    rw [rdT_has (b := b) ha (w := z.toNat) (by rw [wrapu_i, wrapu]; omega) hn hle, Nat.mod_eq_of_lt hz2]; omega
  rw [bendB] at hx ⊢
  by_cases c0 : e = 0
  · rw [if_pos c0] at hx ⊢
    obtain ⟨h1, h2⟩ := puts_has h hx
    have b0 : bitD F.1 b.2 = _ := h1 0 (by decide)
    have o : onesT F.1 F.2 4 b.2 = (0, b.2 + 1) := ones_no (b0.trans (by decide +kernel))
    rw [bendT, o, if_pos rfl, puts_sz, c0]
  rw [if_neg c0] at hx ⊢
  by_cases c1 : -63 ≤ e ∧ e ≤ 64
  · rw [if_pos c1] at hx ⊢
    obtain ⟨h1, h2⟩ := puts_has (puts_gb h).1 hx
    obtain ⟨h3, h4⟩ := puts_has h (puts_ex (puts_gb h).1 hx)
    rw [puts_sz] at h1 h2
    have b0 : bitD F.1 b.2 = _ := h3 0 (by decide)
    have b1 := h3 1 (by decide)
    have o : onesT F.1 F.2 4 b.2 = (1, b.2 + 2) := by rw [ones_yes (by omega) (b0.trans (by decide +kernel)), ones_no (b1.trans (by decide +kernel))]
    rw [bendT, o, if_neg (by simp), if_pos rfl, puts_sz, puts_sz, small 1 7 (e + 63) (by decide) (by omega) (by omega) _ h1 h2]
    simp only [Prod.mk.injEq, and_true]; omega
  rw [if_neg c1] at hx ⊢
  by_cases c2 : -255 ≤ e ∧ e ≤ 256
  · rw [if_pos c2] at hx ⊢
    obtain ⟨h1, h2⟩ := puts_has (puts_gb h).1 hx
    obtain ⟨h3, h4⟩ := puts_has h (puts_ex (puts_gb h).1 hx)
    rw [puts_sz] at h1 h2
    have b0 : bitD F.1 b.2 = _ := h3 0 (by decide)
    have b1 := h3 1 (by decide)
    have b2 := h3 2 (by decide)
    have o : onesT F.1 F.2 4 b.2 = (2, b.2 + 3) := by rw [ones_yes (by omega) (b0.trans (by decide +kernel)), ones_yes (by omega) (b1.trans (by decide +kernel)), ones_no (b2.trans (by decide +kernel))]
    rw [bendT, o, if_neg (by simp), if_neg (by simp), if_pos rfl, puts_sz, puts_sz, small 1 9 (e + 255) (by decide) (by omega) (by omega) _ h1 h2]
    simp only [Prod.mk.injEq, and_true]; omega
  rw [if_neg c2] at hx ⊢
  by_cases c3 : -2047 ≤ e ∧ e ≤ 2048
  · rw [if_pos c3] at hx ⊢
    obtain ⟨h1, h2⟩ := puts_has (puts_gb h).1 hx
    obtain ⟨h3, h4⟩ := puts_has h (puts_ex (puts_gb h).1 hx)
    rw [puts_sz] at h1 h2
    have b0 : bitD F.1 b.2 = _ := h3 0 (by decide)
    have b1 := h3 1 (by decide)
    have b2 := h3 2 (by decide)
    have b3 := h3 3 (by decide)
    have o : onesT F.1 F.2 4 b.2 = (3, b.2 + 4) := by rw [ones_yes (by omega) (b0.trans (by decide +kernel)), ones_yes (by omega) (b1.trans (by decide +kernel)), ones_yes (by omega) (b2.trans (by decide +kernel)), ones_no (b3.trans (by decide +kernel))]
    rw [bendT, o, if_neg (by simp), if_neg (by simp), if_neg (by simp), if_pos rfl, puts_sz, puts_sz, small 1 12 (e + 2047) (by decide) (by omega) (by omega) _ h1 h2]
    simp only [Prod.mk.injEq, and_true]; omega
  rw [if_neg c3] at hx ⊢
  obtain ⟨h1, h2⟩ := puts_has (puts_gb h).1 hx
  obtain ⟨h3, h4⟩ := puts_has h (puts_ex (puts_gb h).1 hx)
  rw [puts_sz] at h1 h2
  have b0 : bitD F.1 b.2 = _ := h3 0 (by decide)
  have b1 := h3 1 (by decide)
  have b2 := h3 2 (by decide)
  have b3 := h3 3 (by decide)
  have o : onesT F.1 F.2 4 b.2 = (4, b.2 + 4) := by rw [ones_yes (by omega) (b0.trans (by decide +kernel)), ones_yes (by omega) (b1.trans (by decide +kernel)), ones_yes (by omega) (b2.trans (by decide +kernel)), ones_yes (by omega) (b3.trans (by decide +kernel))]; rfl
  obtain ⟨w, hw⟩ : ∃ w : Nat, IntKind.wrap .u64 e = (w : Int) := ⟨(e % 18446744073709551616).toNat, by rw [wrapu]; omega⟩
  rw [bendT, o, if_neg (by simp), if_neg (by simp), if_neg (by simp), if_neg (by simp), puts_sz, puts_sz, rdT_has (b := b) h1 hw (by decide) h2]
  have hw2 : w < 2 ^ 64 := by rw [wrapu] at hw; omega
  rw [Nat.mod_eq_of_lt hw2, ← hw, wrapi_u, i64_ok he.1 he.2]
theorem lz_lt {y : Nat} (h0 : y ≠ 0) (h : y < 18446744073709551616) : y < 2 ^ (64 - lzN y) := by
  have := log2_le h0 h
  rw [lzN, show 64 - (63 - Nat.log2 y) = Nat.log2 y + 1 by omega]
  exact Nat.lt_log2_self
theorem tz_dvd {y t : Nat} (h0 : y ≠ 0) (h : y < 18446744073709551616) (ht : t ≤ tzN y) : y / 2 ^ t * 2 ^ t = y := by
  have h2 : y % 2 ^ t = 0 := by
    apply Nat.eq_of_testBit_eq
    intro j
    rw [Nat.testBit_mod_two_pow, Nat.zero_testBit]
    by_cases hj : j < t
    · rw [(tz_spec h0 h).2.2 j (by omega), Bool.and_false]
    · rw [decide_eq_false hj, Bool.false_and]
  exact Nat.div_mul_cancel (Nat.dvd_of_mod_eq_zero h2)
theorem valB_gb {b : BBE} {st : FRE} {y : Nat} (h : GB b) : GB (valB b st y).1 ∧ ExB b (valB b st y).1 := by
  have two : ∀ v q w k, GB (puts w k (puts v q b)) ∧ ExB b (puts w k (puts v q b)) := fun v q w k => ⟨(puts_gb (puts_gb h).1).1, (puts_gb h).2.1.trans (puts_gb (puts_gb h).1).2.1⟩
  simp only [valB]
  split
  · exact ⟨(puts_gb h).1, (puts_gb h).2.1⟩
  split
  · exact two _ _ _ _
  · obtain ⟨h1, h2⟩ := two 3 2 (lzN y : Int) 6
    exact ⟨(puts_gb (puts_gb h1).1).1, (h2.trans (puts_gb h1).2.1).trans (puts_gb (puts_gb h1).1).2.1⟩
theorem val_rt {b F : BBE} {st : FRE} {y : Nat} {imp : Bool} (h : GB b) (hx : ExB (valB b st y).1 F) (hs : FrOK st) (hy : y < 18446744073709551616) : valT imp F.1 F.2 b.2 st = some (y, (valB b st y).2, (valB b st y).1.2) := by
  simp only [FrOK] at hs
  rw [valB] at hx ⊢
  by_cases c0 : y = 0
  · rw [if_pos c0] at hx ⊢
    obtain ⟨h1, h2⟩ := puts_has h hx
    have b0 : bitD F.1 b.2 = _ := h1 0 (by decide)
    have o : onesT F.1 F.2 2 b.2 = (0, b.2 + 1) := ones_no (b0.trans (by decide +kernel))
    rw [valT, o, if_pos rfl, puts_sz, c0]
  rw [if_neg c0] at hx ⊢
  have hlt := lz_lt c0 hy
  by_cases c1 : frB st y = true
  · rw [if_pos c1] at hx ⊢
    rw [oldB] at hx ⊢
    obtain ⟨h1, h2⟩ := puts_has (puts_gb h).1 hx
    obtain ⟨h3, h4⟩ := puts_has h (puts_ex (puts_gb h).1 hx)
    rw [puts_sz] at h1 h2
    have b0 : bitD F.1 b.2 = _ := h3 0 (by decide)
    have b1 := h3 1 (by decide)
    have o : onesT F.1 F.2 2 b.2 = (1, b.2 + 2) := by rw [ones_yes (by omega) (b0.trans (by decide +kernel)), ones_no (b1.trans (by decide +kernel))]
    obtain ⟨p, rfl⟩ : ∃ p, st = some p := by cases st with | none => simp [frB] at c1 | some p => exact ⟨p, rfl⟩
    obtain ⟨ld, tr⟩ := p
    simp only [frB, Bool.and_eq_true, decide_eq_true_eq] at c1
    simp only [leadN, trailN, Option.getD_some] at h1 h2 hs ⊢
    have hd := tz_dvd c0 hy c1.2
    have hq : y / 2 ^ tr < 2 ^ (64 - ld - tr) := by
      refine (Nat.div_lt_iff_lt_mul (Nat.pos_of_ne_zero (by simp))).2 ?_
      rw [← Nat.pow_add, show 64 - ld - tr + tr = 64 - ld by omega]
      exact Nat.lt_of_lt_of_le hlt (Nat.pow_le_pow_right (by decide) (by omega))
    have hq2 : y / 2 ^ tr < 18446744073709551616 := Nat.lt_of_le_of_lt (Nat.div_le_self _ _) hy
    have hr := rdT_has (b := b) h1 (w := y / 2 ^ tr) (by rw [wrapu_i]; exact wrapu_nat hq2) (by omega) h2
    rw [Nat.mod_eq_of_lt hq] at hr
    rw [valT, o, if_neg (by simp), if_pos rfl, if_pos (by simp)]
    simp only [leadN, trailN, Option.getD_some]
    rw [hr, hd, puts_sz, puts_sz]
  · rw [if_neg c1] at hx ⊢
    rw [newB] at hx ⊢
    have g1 := puts_gb (v := 3) (n := 2) h
    have g2 := puts_gb (v := (lzN y : Int)) (n := 6) g1.1
    have g3 := puts_gb (v := ((64 - lzN y - tzN y - 1 : Nat) : Int)) (n := 6) g2.1
    obtain ⟨h1, h2⟩ := puts_has g3.1 hx
    have x3 := puts_ex g3.1 hx
    obtain ⟨h3, h4⟩ := puts_has g2.1 x3
    have x2 := puts_ex g2.1 x3
    obtain ⟨h5, h6⟩ := puts_has g1.1 x2
    obtain ⟨h7, h8⟩ := puts_has h (puts_ex g1.1 x2)
    simp only [puts_sz] at h1 h2 h3 h4 h5 h6 h7 h8 ⊢
    have b0 : bitD F.1 b.2 = _ := h7 0 (by decide)
    have b1 := h7 1 (by decide)
    have o : onesT F.1 F.2 2 b.2 = (2, b.2 + 2) := by rw [ones_yes (by omega) (b0.trans (by decide +kernel)), ones_yes (by omega) (b1.trans (by decide +kernel))]; rfl
    have hz := lz_tz c0 hy
    have r1 := rdT_has (b := b) h5 (w := lzN y) (wrapu_nat (by omega)) (by decide) h6
    have r2 := rdT_has (b := b) h3 (w := 64 - lzN y - tzN y - 1) (wrapu_nat (by omega)) (by decide) h4
    rw [Nat.mod_eq_of_lt (by omega)] at r1 r2
    have hd := tz_dvd c0 hy (Nat.le_refl _)
    have hq : y / 2 ^ tzN y < 2 ^ (64 - lzN y - tzN y) := by
      refine (Nat.div_lt_iff_lt_mul (Nat.pos_of_ne_zero (by simp))).2 ?_
      rw [← Nat.pow_add, show 64 - lzN y - tzN y + tzN y = 64 - lzN y by omega]
      exact hlt
    have hq2 : y / 2 ^ tzN y < 18446744073709551616 := Nat.lt_of_le_of_lt (Nat.div_le_self _ _) hy
    have r3 := rdT_has (b := b) h1 (w := y / 2 ^ tzN y) (by rw [wrapu_i]; exact wrapu_nat hq2) (by omega) h2
    rw [Nat.mod_eq_of_lt hq] at r3
    rw [valT, o, if_neg (by simp), if_neg (by simp)]
    simp only
    rw [r1, show b.2 + 2 + 6 = b.2 + 2 + 6 from rfl, r2, show 64 - lzN y - tzN y - 1 + 1 = 64 - lzN y - tzN y by omega, if_neg (by omega), show b.2 + 2 + 12 = b.2 + 2 + 6 + 6 by omega, r3, show 64 - lzN y - (64 - lzN y - tzN y) = tzN y by omega, hd]
theorem xorI_turn {a p : Int} (ha : -9223372036854775808 ≤ a ∧ a ≤ 9223372036854775807) : xorI p (turnN a p) = a := by
  have e : BitVec.ofInt 64 (IntKind.wrap .i64 (turnN a p : Int)) = BitVec.ofInt 64 a ^^^ BitVec.ofInt 64 p := by
    apply BitVec.eq_of_toNat_eq
    have := @turn_lt a p
    rw [BitVec.toNat_ofInt, IntKind.wrap_i64]
    have h2 : (BitVec.ofInt 64 a ^^^ BitVec.ofInt 64 p).toNat = turnN a p := rfl
    rw [h2]; omega
  show IntKind.wrap .i64 ((BitVec.ofInt 64 p ^^^ BitVec.ofInt 64 (IntKind.wrap .i64 (turnN a p : Int))).toNat : Int) = a
  rw [e, BitVec.xor_comm, BitVec.xor_assoc, BitVec.xor_self, BitVec.xor_zero, BitVec.toNat_ofInt, IntKind.wrap_i64]
  omega
theorem i64_rng {x : Int} : -9223372036854775808 ≤ IntKind.wrap .i64 x ∧ IntKind.wrap .i64 x ≤ 9223372036854775807 := by rw [IntKind.wrap_i64]; omega
def ValsOK (l : List SME) : Prop := ∀ i, i < l.length → -9223372036854775808 ≤ (l.getD i default).2.1 ∧ (l.getD i default).2.1 ≤ 9223372036854775807
theorem packR_gb {l : List SME} : ∀ d i b st step, GB b → GB (packR l d i b st step) ∧ ExB b (packR l d i b st step)
  | 0, _, b, _, _, h => ⟨h, ExB.refl⟩
  | d + 1, i, b, st, step, h => by
    rw [packR]
    split
    · have h1 := puts_gb (v := (l.getD i default).1) (n := 40) h
      have h2 := puts_gb (v := (l.getD i default).2.1) (n := 64) h1.1
      obtain ⟨h3, h4⟩ := packR_gb (l := l) d (i + 1) _ st step h2.1
      exact ⟨h3, (h1.2.1.trans h2.2.1).trans h4⟩
    · obtain ⟨h1, h2⟩ := bendB_gb (e := bendI l i step) h
      obtain ⟨h3, h4⟩ := valB_gb (st := st) (y := turnI l i) h1
      obtain ⟨h5, h6⟩ := packR_gb (l := l) d (i + 1) _ (valB (bendB b (bendI l i step)) st (turnI l i)).2 (nowI l i) h3
      exact ⟨h5, (h2.trans h4).trans h6⟩
theorem samples_at {l : List SME} (h : samplesB l = true) {i : Nat} (hi : i < l.length) : 0 ≤ (l.getD i default).1 ∧ (l.getD i default).1 ≤ 1000000000000 := by
  simp only [samplesB, Bool.and_eq_true, List.all_eq_true, List.mem_range] at h
  have := (h.1 i hi).1
  simpa [timeB] using this
theorem take_next {α : Type} {l : List α} {i : Nat} {d : α} (h : i < l.length) : l.take (i + 1) = l.take i ++ [l.getD i d] := by
  rw [List.take_add_one, List.getD_eq_getElem?_getD, List.getElem?_eq_getElem h]; rfl
theorem take_getD {α : Type} {l : List α} {i j : Nat} {d : α} (h : j < i) : (l.take i).getD j d = l.getD j d := by
  rw [List.getD_eq_getElem?_getD, List.getD_eq_getElem?_getD, List.getElem?_take_of_lt h]
theorem unR_rt {l : List SME} {imp : Bool} (hg : samplesB l = true) (hv : ValsOK l) : ∀ d i b st step, i + d = l.length → GB b → FrOK st → (i ≤ 1 → step = 0) → (-1000000000000 ≤ step ∧ step ≤ 1000000000000) →
    unR imp (packR l d i b st step).1 (packR l d i b st step).2 d i b.2 st step (l.take i) = some (l, (packR l d i b st step).2) := by
  intro d
  induction d with
  | zero =>
    intro i b st step hi _ _ _ _
    rw [unR, packR, List.take_of_length_le (by omega)]
  | succ d ih =>
    intro i b st step hi hb hs h0 hstep
    have hlt : i < l.length := by omega
    have hle := (packR_gb (l := l) (d + 1) i b st step hb).2.le
    have ht := samples_at hg hlt
    rw [unR, if_neg (by omega)]
    by_cases e : i = 0
    · rw [if_pos e]
      have h1 := puts_gb (v := (l.getD i default).1) (n := 40) hb
      have h2 := puts_gb (v := (l.getD i default).2.1) (n := 64) h1.1
      have hF : packR l (d + 1) i b st step = packR l d (i + 1) (puts (l.getD i default).2.1 64 (puts (l.getD i default).1 40 b)) st step := by rw [packR, if_pos e]
      have hx := (packR_gb (l := l) d (i + 1) _ st step h2.1).2
      have := ih (i + 1) _ st step (by omega) h2.1 hs (fun _ => h0 (by omega)) hstep
      rw [hF]
      generalize packR l d (i + 1) (puts (l.getD i default).2.1 64 (puts (l.getD i default).1 40 b)) st step = F at this hx ⊢
      obtain ⟨k1, k2⟩ := puts_has h1.1 hx
      obtain ⟨k3, k4⟩ := puts_has hb (puts_ex h1.1 hx)
      rw [puts_sz] at k1 k2
      have r1 := rdT_has (b := b) k3 (w := (l.getD i default).1.toNat) (by rw [wrapu]; omega) (by decide) k4
      rw [Nat.mod_eq_of_lt (by omega)] at r1
      obtain ⟨w, hw⟩ : ∃ w : Nat, IntKind.wrap .u64 (l.getD i default).2.1 = (w : Int) := ⟨((l.getD i default).2.1 % 18446744073709551616).toNat, by rw [wrapu]; omega⟩
      have r2 := rdT_has (b := b) k1 hw (by decide) k2
      have hw2 : w < 2 ^ 64 := by rw [wrapu] at hw; omega
      have hr := hv i hlt
      rw [Nat.mod_eq_of_lt hw2] at r2
      rw [puts_sz, puts_sz, take_next (d := default) hlt] at this
      rw [r1, r2, ← hw, wrapi_u, i64_ok hr.1 hr.2, show (((l.getD i default).1.toNat : Nat) : Int) = (l.getD i default).1 by omega]
      exact this
    · rw [if_neg e]
      have hp := samples_at hg (show i - 1 < l.length by omega)
      obtain ⟨h1, h2⟩ := bendB_gb (e := bendI l i step) hb
      obtain ⟨h3, h4⟩ := valB_gb (st := st) (y := turnI l i) h1
      have hy : turnI l i < 18446744073709551616 := turn_lt
      have hF : packR l (d + 1) i b st step = packR l d (i + 1) (valB (bendB b (bendI l i step)) st (turnI l i)).1 (valB (bendB b (bendI l i step)) st (turnI l i)).2 (nowI l i) := by rw [packR, if_neg e]
      have hx := (packR_gb (l := l) d (i + 1) _ (valB (bendB b (bendI l i step)) st (turnI l i)).2 (nowI l i) h3).2
      have hnow : nowI l i = (l.getD i default).1 - (l.getD (i - 1) default).1 := i64_ok (by omega) (by omega)
      have this := ih (i + 1) _ (valB (bendB b (bendI l i step)) st (turnI l i)).2 (nowI l i) (by omega) h3 (valB_ok h1.ok hs hy).2.2 (fun h => absurd h (by omega)) (by rw [hnow]; omega)
      rw [hF]
      generalize packR l d (i + 1) (valB (bendB b (bendI l i step)) st (turnI l i)).1 (valB (bendB b (bendI l i step)) st (turnI l i)).2 (nowI l i) = F at this hx ⊢
      have hbend : -9223372036854775808 ≤ bendI l i step ∧ bendI l i step ≤ 9223372036854775807 := by
        rw [bendI]; split
        · exact i64_rng
        · exact i64_rng
      have hnext : IntKind.wrap .i64 (step + bendI l i step) = nowI l i := by
        rw [bendI]; split
        · rw [h0 (by omega), Int.zero_add, nowI, i64_ok i64_rng.1 i64_rng.2]
        · rw [i64_ok (x := nowI l i - step) (by omega) (by omega), show step + (nowI l i - step) = nowI l i by omega, i64_ok (by omega) (by omega)]
      rw [bend_rt hb (h4.trans hx) hbend, val_rt h1 hx hs hy]
      simp only [nextT]
      rw [hnext, take_getD (by omega), hnow, show (l.getD (i - 1) default).1 + ((l.getD i default).1 - (l.getD (i - 1) default).1) = (l.getD i default).1 by omega, i64_ok (x := (l.getD i default).1) (by omega) (by omega), turnI, xorI_turn (hv i hlt)]
      rw [take_next (d := default) hlt, hnow, turnI] at this
      exact this
theorem gb0 : GB ([], 0) := ⟨rfl, fun j => by simp, fun i _ => by simp [bitD]⟩
theorem unF_rt {l : List SME} {imp : Bool} (hg : samplesB l = true) (hv : ValsOK l) (hl : l.length ≤ 120) : unF imp (packV l).1 (packV l).2 = some (l, (packV l).2) := by
  have g := puts_gb (v := (l.length : Int)) (n := 8) gb0
  have := unR_rt (imp := imp) hg hv l.length 0 _ none 0 (by omega) g.1 (by simp [FrOK, leadN, trailN]) (fun _ => rfl) (by decide)
  have hx := (packR_gb (l := l) l.length 0 _ none 0 g.1).2
  rw [← packV] at this hx
  obtain ⟨k1, k2⟩ := puts_has gb0 hx
  have r := rdT_has (b := ([], 0)) k1 (w := l.length) (wrapu_nat (by omega)) (by decide) k2
  rw [Nat.mod_eq_of_lt (by omega)] at r
  rw [unF]
  have r : rdT (packV l).1 (packV l).2 0 8 = l.length := r
  rw [r]
  rw [puts_sz] at this
  exact this
theorem valT_le {imp : Bool} {D : List Int} {S a : Nat} {st : FRE} {r : Nat × FRE × Nat} (h : valT imp D S a st = some r) : (onesT D S 2 a).2 ≤ r.2.2 := by
  simp only [valT] at h
  repeat' split at h
  all_goals first | (injection h with h; subst h; dsimp only; omega) | cases h
theorem unR_le {imp : Bool} {D : List Int} {S : Nat} {l : List SME} {z : Nat} : ∀ d i a st step out, unR imp D S d i a st step out = some (l, z) → a ≤ z ∧ (z ≤ S → l.length = out.length + d) ∧ (ValsOK out → ValsOK l)
  | 0, i, a, st, step, out, h => by
    rw [unR] at h
    injection h with h
    injection h with h1 h2
    subst h1 h2
    exact ⟨Nat.le_refl _, fun _ => rfl, id⟩
  | d + 1, i, a, st, step, out, h => by
    have app : ∀ x : SME, (-9223372036854775808 ≤ x.2.1 ∧ x.2.1 ≤ 9223372036854775807) → ValsOK out → ValsOK (out ++ [x]) := by
      intro x hx ho j hj
      rw [List.length_append, List.length_singleton] at hj
      rcases Nat.lt_or_ge j out.length with h1 | h1
      · have := ho j h1
        rw [List.getD_eq_getElem?_getD, List.getElem?_append_left h1, ← List.getD_eq_getElem?_getD]; exact this
      · obtain rfl : j = out.length := by omega
        rw [List.getD_eq_getElem?_getD, List.getElem?_append_right (Nat.le_refl _), Nat.sub_self]; exact hx
    rw [unR] at h
    by_cases e1 : S < a
    · rw [if_pos e1] at h
      injection h with h
      injection h with h1 h2
      subst h1 h2
      exact ⟨Nat.le_refl _, fun h => absurd h (by omega), id⟩
    rw [if_neg e1] at h
    by_cases e2 : i = 0
    · rw [if_pos e2] at h
      obtain ⟨k1, k2, k3⟩ := unR_le _ _ _ _ _ _ h
      exact ⟨by omega, fun hz => by rw [k2 hz, List.length_append, List.length_singleton]; omega, fun ho => k3 (app _ i64_rng ho)⟩
    rw [if_neg e2] at h
    cases hq : valT imp D S (bendT D S a).2 st with
    | none => rw [hq] at h; cases h
    | some r =>
      rw [hq] at h
      obtain ⟨k1, k2, k3⟩ := unR_le _ _ _ _ _ _ h
      have l1 := valT_le hq
      have l2 := bendT_le (D := D) (S := S) (a := a)
      have l3 := onesT_le (D := D) (S := S) (k := 4) (a := a)
      have l4 := onesT_le (D := D) (S := S) (k := 2) (a := (bendT D S a).2)
      exact ⟨by omega, fun hz => by rw [k2 hz, List.length_append, List.length_singleton]; omega, fun ho => k3 (app _ i64_rng ho)⟩
def ChunkOf (D : List Int) (S : Nat) (l : List SME) : Prop := samplesB l = true ∧ l.length ≤ 120 ∧ ValsOK l ∧ packV l = (D, S)
theorem chunkOf_un {D : List Int} {S : Nat} {l : List SME} (h : ChunkOf D S l) (imp : Bool) : unF imp D S = some (l, S) := by
  obtain ⟨h1, h2, h3, h4⟩ := h
  have := unF_rt (imp := imp) h1 h3 h2
  rwa [h4] at this
open Classical in
noncomputable def unV (D : List Int) (S : Nat) : List SME × Bool := if h : ∃ l, ChunkOf D S l then (h.choose, true) else ([], false)
theorem unV_yes {D : List Int} {S : Nat} {l : List SME} (h : ChunkOf D S l) : unV D S = (l, true) := by
  have hx : ∃ l, ChunkOf D S l := ⟨l, h⟩
  rw [unV, dif_pos hx]
  have := chunkOf_un hx.choose_spec true
  rw [chunkOf_un h true] at this
  injection this with this
  injection this with this
  rw [this]
theorem unV_no {D : List Int} {S : Nat} (h : ∀ l, ¬ ChunkOf D S l) : unV D S = ([], false) := by
  rw [unV, dif_neg (fun hx => h hx.choose hx.choose_spec)]
theorem eq_yes {n k : Nat} (h : decide ((n : Int) = (k : Int)) = true) : n = k := by have := of_decide_eq_true h; omega
theorem eq_no {n k : Nat} (h : decide ((n : Int) = (k : Int)) = false) : ¬ n = k := by have := of_decide_eq_false h; omega
theorem not_neg {n : Nat} : decide ((n : Int) < 0) = false := decide_eq_false (by omega)
theorem nn_nat {n : Nat} : decide (0 ≤ (n : Int)) = true := decide_eq_true (by omega)
theorem nn_wrapu {x : Int} : decide (0 ≤ IntKind.wrap .u64 x) = true := decide_eq_true (by rw [wrapu]; omega)
abbrev RSE := (List Int × Int × Unit) × Int × Bool × Unit
abbrev RS (D : List Int) (S a : Nat) : RSE := ((D, ((S : Int), ())), ((a : Int), (decide (a ≤ S), ())))
theorem unR_len {imp : Bool} {D : List Int} {S : Nat} {l : List SME} {z : Nat} : ∀ d i a st step out, unR imp D S d i a st step out = some (l, z) → l.length ≤ out.length + d
  | 0, i, a, st, step, out, h => by
    rw [unR] at h
    injection h with h
    injection h with h1 h2
    subst h1 h2
    exact Nat.le_refl _
  | d + 1, i, a, st, step, out, h => by
    rw [unR] at h
    by_cases e1 : S < a
    · rw [if_pos e1] at h
      injection h with h
      injection h with h1 h2
      subst h1 h2
      exact Nat.le_add_right _ _
    rw [if_neg e1] at h
    by_cases e2 : i = 0
    · rw [if_pos e2] at h
      have := unR_len _ _ _ _ _ _ h
      rw [List.length_append, List.length_singleton] at this; omega
    rw [if_neg e2] at h
    cases hq : valT imp D S (bendT D S a).2 st with
    | none => rw [hq] at h; cases h
    | some r =>
      rw [hq] at h
      have := unR_len _ _ _ _ _ _ h
      rw [List.length_append, List.length_singleton] at this; omega
theorem bit_tab : ∀ x : Nat, x < 256 → ∀ k : Nat, k < 8 → band .i64 (IntKind.wrap .i64 (shr .u8 (x : Int) ((7 - k : Nat) : Int))) 1 = ((decide (x / 2 ^ (7 - k) % 2 = 1)).toNat : Int) ∧ IntKind.wrap .u64 (band .u8 (shr .u8 (x : Int) ((7 - k : Nat) : Int)) 1) = ((decide (x / 2 ^ (7 - k) % 2 = 1)).toNat : Int) := by decide +kernel
theorem shl_tab : ∀ x : Nat, x < 256 → ∀ k : Nat, k < 8 → decide (shl .u8 (x : Int) (k : Int) = 0) = (List.range (8 - k)).all (fun j => !decide (x / 2 ^ (7 - (k + j)) % 2 = 1)) := by decide +kernel
theorem wrap_bit {b : Bool} : IntKind.wrap .u64 ((b.toNat : Nat) : Int) = ((b.toNat : Nat) : Int) := by cases b <;> rfl
theorem bor_shl {v : Nat} {b : Bool} (h : v < 9223372036854775808) : bor .u64 (shl .u64 (v : Int) 1) ((b.toNat : Nat) : Int) = ((v * 2 + b.toNat : Nat) : Int) := by
  have hb : b.toNat < 2 := by cases b <;> decide
  have e1 : shl .u64 (v : Int) 1 = ((v * 2 : Nat) : Int) := by
    show IntKind.wrap .u64 ((v : Int) * 2 ^ 1) = _
    rw [wrapu]; omega
  rw [e1]
  show IntKind.wrap .u64 ((BitVec.ofInt 64 ((v * 2 : Nat) : Int) ||| BitVec.ofInt 64 ((b.toNat : Nat) : Int)).toNat : Int) = _
  rw [BitVec.ofInt_natCast, BitVec.ofInt_natCast, BitVec.toNat_or, BitVec.toNat_ofNat, BitVec.toNat_ofNat, Nat.mod_eq_of_lt (by omega), Nat.mod_eq_of_lt (by omega)]
  have := Nat.two_pow_add_eq_or_of_lt (i := 1) (b := b.toNat) hb v
  rw [Nat.mul_comm v 2, show 2 * v ||| b.toNat = 2 * v + b.toNat by rw [show 2 * v = 2 ^ 1 * v by omega]; exact this.symm]
  exact wrapu_nat (by omega)
theorem wrap_mul {x c : Int} : IntKind.wrap .i64 (IntKind.wrap .i64 x * c) = IntKind.wrap .i64 (x * c) := by
  obtain ⟨k, hk⟩ : ∃ k : Int, IntKind.wrap .i64 x = x - k * 18446744073709551616 := ⟨(x + 9223372036854775808) / 18446744073709551616, by rw [IntKind.wrap_i64]; omega⟩
  rw [hk, Int.sub_mul, show k * 18446744073709551616 * c = k * c * 18446744073709551616 by rw [Int.mul_assoc, Int.mul_comm 18446744073709551616 c, ← Int.mul_assoc], IntKind.wrap_i64, IntKind.wrap_i64]
  omega
theorem wrap_mulu {x c : Int} : IntKind.wrap .u64 (IntKind.wrap .u64 x * c) = IntKind.wrap .u64 (x * c) := by
  obtain ⟨k, hk⟩ : ∃ k : Int, IntKind.wrap .u64 x = x - k * 18446744073709551616 := ⟨x / 18446744073709551616, by rw [wrapu]; omega⟩
  rw [hk, Int.sub_mul, show k * 18446744073709551616 * c = k * c * 18446744073709551616 by rw [Int.mul_assoc, Int.mul_comm 18446744073709551616 c, ← Int.mul_assoc], wrapu, wrapu]
  omega
theorem shl_i {r t : Nat} (ht : t ≤ 64) : shl .i64 (IntKind.wrap .i64 (r : Int)) (t : Int) = IntKind.wrap .i64 ((r * 2 ^ t : Nat) : Int) := by
  show IntKind.wrap .i64 (IntKind.wrap .i64 (r : Int) * 2 ^ (min (Int.toNat (t : Int)) 64)) = _
  rw [Int.toNat_natCast, Nat.min_eq_left ht, wrap_mul]; simp
theorem shl_u {r t : Nat} (ht : t ≤ 64) : IntKind.wrap .i64 (shl .u64 (IntKind.wrap .u64 (IntKind.wrap .i64 (r : Int))) (t : Int)) = IntKind.wrap .i64 ((r * 2 ^ t : Nat) : Int) := by
  show IntKind.wrap .i64 (IntKind.wrap .u64 (IntKind.wrap .u64 (IntKind.wrap .i64 (r : Int)) * 2 ^ (min (Int.toNat (t : Int)) 64))) = _
  rw [Int.toNat_natCast, Nat.min_eq_left ht, wrapu_i, wrap_mulu, wrapi_u]; simp
theorem byb_of {D : List Int} (h : ∀ x ∈ D, 0 ≤ x ∧ x < 256) : BYB D := fun j => by
  rcases Nat.lt_or_ge j D.length with hj | hj
  · exact h _ (getD_mem hj)
  · rw [List.getD_eq_getElem?_getD, List.getElem?_eq_none hj]; decide
theorem ofOcts_inj {a b : List Int} (ha : BYB a) (hb : BYB b) (h : ofOcts a = ofOcts b) : a = b := by
  have h : (a.map fun n => UInt8.ofNat n.toNat) = b.map fun n => UInt8.ofNat n.toNat := by
    have := congrArg (fun x : ByteArray => x.data.toList) h
    simpa [ofOcts] using this
  have hl : a.length = b.length := by simpa using congrArg List.length h
  refine ext_getD hl (d := default) fun j hj => ?_
  have h2 := congrArg (fun l => l[j]?) h
  simp only [List.getElem?_map, List.getElem?_eq_getElem hj, List.getElem?_eq_getElem (show j < a.length by omega), Option.map_some, Option.some.injEq] at h2
  have k1 := ha j; have k2 := hb j
  rw [List.getD_eq_getElem?_getD, List.getElem?_eq_getElem (show j < a.length by omega), Option.getD_some] at k1 ⊢
  rw [List.getD_eq_getElem?_getD, List.getElem?_eq_getElem hj, Option.getD_some] at k2 ⊢
  have h3 := congrArg UInt8.toNat h2
  simp only [UInt8.toNat_ofNat'] at h3
  omega
theorem all_same {α : Type} {p q : α → Bool} : ∀ {l : List α}, (∀ x, x ∈ l → p x = q x) → l.all p = l.all q
  | [], _ => rfl
  | a :: l, h => by rw [List.all_cons, List.all_cons, h a (List.mem_cons_self ..), all_same fun x hx => h x (List.mem_cons_of_mem _ hx)]
def tailB (D : List Int) (S : Nat) : Bool := (List.range (8 * D.length - S)).all fun j => !bitD D (S + j)
def goodBB (D : List Int) (S : Int) : Bool := decide (0 ≤ S) && decide (S ≤ 80000) && decide ((D.length : Int) = (S + 7) / 8) && tailB D S.toNat
noncomputable def upV (D : List Int) (S : Int) : List SME × Bool := if goodBB D S = true then unV D S.toNat else ([], false)
def cntV (r : List SME × Bool) : Int := if r.2 = true then (r.1.length : Int) else -1
/-- what unpacking comes to, of what the reader read -/
def finU (S : Nat) (r : Option (List SME × Nat)) : List SME × Bool := match r with | none => ([], false) | some p => (p.1, decide ((p.2 : Int) = (S : Int)))
theorem packV_by {l : List SME} : BYB (packV l).1 := (packR_gb (l := l) _ _ _ _ _ (puts_gb gb0).1).1.by_
theorem wf_byb {D : List Int} (h : Wf (.sl false (.int .u8)) D) : BYB D := byb_of fun x hx => by
  have h1 : IntKind.min .u8 ≤ x ∧ x ≤ IntKind.max .u8 := by have := h.2 x hx; simpa only [Wf, Lit.wf, Bool.and_eq_true, decide_eq_true_eq] using this
  have e1 : IntKind.min .u8 = 0 := by decide
  have e2 : IntKind.max .u8 = 255 := by decide
  omega
theorem upV_len {D : List Int} {S : Int} : (upV D S).1.length ≤ 120 := by
  rw [upV]
  split
  · rw [unV]
    split
    · rename_i h; exact h.choose_spec.2.1
    · exact Nat.zero_le _
  · exact Nat.zero_le _
theorem rd1_wrap {D : List Int} {S a k : Nat} (hk : k ≤ 62) : IntKind.wrap .i64 (rdT D S a k : Int) = (rdT D S a k : Int) := by
  have h := rdT_lt (D := D) (S := S) (a := a) (n := k)
  have h2 : (2 : Nat) ^ k ≤ 2 ^ 62 := Nat.pow_le_pow_right (by decide) hk
  exact i64_ok (by omega) (by omega)
theorem goodBB_of {D : List Int} {S : Int} (h : goodBB D S = true) : ∃ s : Nat, S = (s : Int) ∧ s ≤ 80000 ∧ D.length = (s + 7) / 8 := by
  simp only [goodBB, Bool.and_eq_true, decide_eq_true_eq] at h
  exact ⟨S.toNat, by omega, by omega, by omega⟩
theorem unF_rng {imp : Bool} {D : List Int} {S : Nat} {l : List SME} {z : Nat} (h : unF imp D S = some (l, z)) : l.length ≤ 256 ∧ ValsOK l ∧ (z ≤ S → l.length = rdT D S 0 8) := by
  have h1 := unR_len _ _ _ _ _ _ h
  have h2 := unR_le _ _ _ _ _ _ h
  have q := rdT_lt (D := D) (S := S) (a := 0) (n := 8)
  refine ⟨by simp at h1; omega, h2.2.2 fun j hj => absurd hj (Nat.not_lt_zero _), fun hz => by have := h2.2.1 hz; simpa using this⟩
noncomputable def apF (D : List Int) (S : Int) (s : SME) : BBE := if (upV D S).2 = true then chunkF ((upV D S).1 ++ [s]) else ([], 0)
theorem getD_one {α : Type} {x d : α} : List.getD [x] 0 d = x := rfl
abbrev CRE := List Int × Int × Int × Unit
def CurOK (code : List Int) (m : Int) (c : CRE) : Prop := c.1 = code ∧ 0 ≤ c.2.1 ∧ c.2.1 ≤ m
def CodeOK (code : List Int) : Prop := code.length ≤ 1048576 ∧ ∀ x ∈ code, 0 ≤ x ∧ x ≤ 255
theorem CurOK.up {code : List Int} {m m' : Int} {c : CRE} (h : CurOK code m c) (hm : m ≤ m') : CurOK code m' c := ⟨h.1, h.2.1, Int.le_trans h.2.2 hm⟩
theorem band255 {x : Int} : ∃ z : Nat, band .u64 x 255 = (z : Int) ∧ z ≤ 255 := by
  have h : (BitVec.ofInt 64 x &&& BitVec.ofInt 64 255).toNat ≤ 255 := by
    rw [BitVec.toNat_and]
    exact Nat.le_trans Nat.and_le_right (by decide)
  refine ⟨_, ?_, h⟩
  show IntKind.wrap .u64 ((BitVec.ofInt 64 x &&& BitVec.ofInt 64 255).toNat : Int) = _
  exact wrapu_nat (by omega)
theorem wrap_range {x : Int} : -9223372036854775808 ≤ IntKind.wrap .i64 x ∧ IntKind.wrap .i64 x ≤ 9223372036854775807 := by
  have e : IntKind.wrap .i64 x = (if (true && decide (x % 18446744073709551616 ≥ 9223372036854775808)) = true then x % 18446744073709551616 - 18446744073709551616 else x % 18446744073709551616) := rfl
  rw [e]
  split <;> rename_i h <;> simp only [Bool.true_and, decide_eq_true_eq, Bool.not_eq_true] at h <;> omega
def PickOK (code : List Int) (m k : Int) (r : Int × CRE) : Prop := 0 ≤ r.1 ∧ r.1 ≤ 65535 ∧ (1 ≤ k → r.1 < k) ∧ CurOK code m r.2
/-- any int64 -/
def InR (x : Int) : Prop := -9223372036854775808 ≤ x ∧ x ≤ 9223372036854775807
def VR (l : List SME) : Prop := ∀ x ∈ l, InR x.2.1
theorem VR.vals {l : List SME} (h : VR l) : ValsOK l := fun i hi => h _ (getD_mem hi)
theorem VR.app {l m : List SME} (h : VR l) (h' : VR m) : VR (l ++ m) := fun x hx => by
  rcases List.mem_append.1 hx with hx | hx
  · exact h x hx
  · exact h' x hx
theorem VR.one {x : SME} (h : InR x.2.1) : VR [x] := fun y hy => by rw [List.mem_singleton.1 hy]; exact h
theorem VR.set {l : List SME} {i : Nat} {x : SME} (h : VR l) (hx : InR x.2.1) : VR (l.set i x) := fun y hy => by
  rcases List.mem_or_eq_of_mem_set hy with hy | rfl
  · exact h y hy
  · exact hx
theorem VR.at {l : List SME} (h : VR l) (i : Nat) : InR (l.getD i default).2.1 := by
  rcases Nat.lt_or_ge i l.length with hi | hi
  · exact h _ (getD_mem hi)
  · rw [List.getD_eq_getElem?_getD, List.getElem?_eq_none hi]; exact ⟨by decide, by decide⟩
theorem wrapR {x : Int} : InR (IntKind.wrap .i64 x) := wrap_range
theorem shrR {x y : Int} (h : InR x) : InR (shr .i64 x y) := by
  show InR (Int.fdiv x (2 ^ (min y.toNat 64)))
  obtain ⟨d, hd⟩ : ∃ d : Nat, (2 : Int) ^ (min y.toNat 64) = (d : Int) ∧ 1 ≤ d := ⟨2 ^ (min y.toNat 64), by simp, Nat.one_le_two_pow⟩
  rw [hd.1, Int.fdiv_eq_ediv_of_nonneg _ (by omega)]
  have h1 : (d : Int) ≠ 0 := by omega
  have h2 := Int.emod_nonneg x h1
  have h3 := Int.emod_lt_of_pos x (show (0 : Int) < d by omega)
  have h4 := Int.mul_ediv_add_emod x d
  obtain ⟨h5, h6⟩ := h
  have pos : (1 : Int) ≤ d := by omega
  generalize x / (d : Int) = q at *
  constructor
  · by_cases hq : q < -9223372036854775808
    · have : (d : Int) * q ≤ 1 * q := Int.mul_le_mul_of_nonpos_right pos (by omega)
      have e : (d : Int) * q = x - x % d := by omega
      have : (d : Int) * q ≤ (d : Int) * (-9223372036854775809) := Int.mul_le_mul_of_nonneg_left (by omega) (by omega)
      omega
    · omega
  · by_cases hq : 9223372036854775807 < q
    · have : 1 * q ≤ (d : Int) * q := Int.mul_le_mul_of_nonneg_right pos (by omega)
      omega
    · omega
def stL (s v : Int) (n : Nat) : List SME := (List.range n).map fun (i : Nat) => ((i : Int) * s, (v, ()))
theorem stL_len {s v : Int} {n : Nat} : (stL s v n).length = n := by simp [stL]
theorem stL_get {s v : Int} {n i : Nat} (h : i < n) : (stL s v n).getD i default = ((i : Int) * s, (v, ())) := by
  rw [List.getD_eq_getElem?_getD, stL, List.getElem?_map, List.getElem?_range h]; rfl
theorem stL_succ {s v : Int} {n : Nat} : stL s v (n + 1) = stL s v n ++ [((n : Int) * s, (v, ()))] := by simp [stL, List.range_succ]
theorem stL_size {s v : Int} (h0 : 1 ≤ s) (h1 : s ≤ 64) : (chunkF (stL s v 120)).2 = 358 := by
  have mono : ∀ i j : Nat, i ≤ j → (i : Int) * s ≤ (j : Int) * s := fun i j h => Int.mul_le_mul_of_nonneg_right (by omega) (by omega)
  have top : ∀ i : Nat, i < 120 → 0 ≤ (i : Int) * s ∧ (i : Int) * s ≤ 7680 := fun i hi => by
    have a := mono 0 i (Nat.zero_le _)
    have b := mono i 120 (by omega)
    rw [show ((0 : Nat) : Int) * s = 0 by simp] at a
    have : ((120 : Nat) : Int) * s ≤ 120 * 64 := Int.mul_le_mul_of_nonneg_left h1 (by decide)
    omega
  have stepE : ∀ i : Nat, ((i + 1 : Nat) : Int) * s = (i : Int) * s + s := fun i => by rw [Int.natCast_add, Int.add_mul]; simp
  have hg : samplesB (stL s v 120) = true := by
    rw [samplesB, stL_len, Bool.and_eq_true]
    refine ⟨List.all_eq_true.2 fun i hi => ?_, by decide⟩
    have hi := List.mem_range.1 hi
    have ht := top i hi
    rw [stL_get hi, Bool.and_eq_true, timeB, Bool.and_eq_true, decide_eq_true_eq, decide_eq_true_eq]
    refine ⟨⟨ht.1, Int.le_trans ht.2 (by decide)⟩, ?_⟩
    rw [Bool.not_eq_true', Bool.and_eq_false_iff, decide_eq_false_iff_not, decide_eq_false_iff_not]
    by_cases h : 0 < i
    · right
      rw [stL_get (by omega)]
      have := stepE (i - 1)
      rw [show i - 1 + 1 = i by omega] at this
      show ¬ (i : Int) * s ≤ ((i - 1 : Nat) : Int) * s
      omega
    · left; exact h
  have hnow : ∀ i, 1 ≤ i → i < 120 → nowI (stL s v 120) i = s := fun i h1 h2 => by
    have := stepE (i - 1)
    rw [show i - 1 + 1 = i by omega] at this
    rw [nowI, stL_get h2, stL_get (by omega)]
    show IntKind.wrap .i64 ((i : Int) * s - ((i - 1 : Nat) : Int) * s) = s
    rw [show (i : Int) * s - ((i - 1 : Nat) : Int) * s = s by omega, i64_ok (by omega) (by omega)]
  have hturn : ∀ i, 1 ≤ i → i < 120 → turnI (stL s v 120) i = 0 := fun i h1 h2 => by
    rw [turnI, stL_get h2, stL_get (by omega), turnN, BitVec.xor_self]; rfl
  have rest : ∀ d i b st, i + d = 120 → 2 ≤ i → (packR (stL s v 120) d i b st s).2 = b.2 + 2 * d := by
    intro d
    induction d with
    | zero => intro i b st _ _; rfl
    | succ d ih =>
      intro i b st hi h2
      have hb : bendI (stL s v 120) i s = 0 := by rw [bendI, if_neg (by omega), hnow i (by omega) (by omega), Int.sub_self]; rfl
      rw [packR, if_neg (by omega), hb, hturn i (by omega) (by omega), hnow i (by omega) (by omega), ih (i + 1) _ _ (by omega) (by omega), valB, if_pos rfl]
      simp only [puts_sz, bendB, if_true]
      omega
  have e : chunkF (stL s v 120) = packV (stL s v 120) := by rw [chunkF, hg, stL_len, if_pos (by decide)]
  have hb : bendI (stL s v 120) 1 0 = s := by rw [bendI, if_pos rfl, hnow 1 (by omega) (by omega)]
  have key : ∀ n, n = 118 + 1 + 1 → ∀ b : BBE, b.2 = 8 → (packR (stL s v 120) n 0 b none 0).2 = 358 := by
    rintro n rfl b hb8
    rw [packR, if_pos rfl, packR, if_neg (by decide), Nat.zero_add, hb, hturn 1 (by omega) (by omega), hnow 1 (by omega) (by omega), rest 118 (1 + 1) _ _ (by omega) (by omega), valB, if_pos rfl, bendB, if_neg (by omega), if_pos (by omega)]
    simp only [puts_sz, hb8]
  rw [e, packV, stL_len]
  exact key 120 rfl _ (by rw [puts_sz])
theorem pack_good {l : List SME} (hl : l.length ≤ 120) : goodBB (packV l).1 ((packV l).2 : Int) = true := by
  have g := (packR_gb (l := l) l.length 0 _ none 0 (puts_gb (v := (l.length : Int)) (n := 8) gb0).1).1
  have sz := (packR_ok (l := l) l.length 0 (puts (l.length : Int) 8 ([], 0)) none 0 (puts_ok rfl) (by simp [FrOK, leadN, trailN])).2
  rw [puts_sz] at sz
  rw [← packV] at g sz
  have ok : (packV l).1.length = _ := g.ok
  have hm : 150 * l.length ≤ 18000 := by omega
  rw [goodBB, decide_eq_true (show (0 : Int) ≤ ((packV l).2 : Int) by omega), decide_eq_true (show ((packV l).2 : Int) ≤ 80000 by simp only at sz; omega), decide_eq_true (show (((packV l).1.length : Nat) : Int) = (((packV l).2 : Int) + 7) / 8 by rw [ok]; omega), Int.toNat_natCast]
  rw [tailB, Bool.true_and, Bool.true_and, Bool.true_and, List.all_eq_true]
  intro j _
  rw [g.z _ (by omega)]; rfl
theorem upV_pack {l : List SME} (hg : samplesB l = true) (hv : ValsOK l) (hl : l.length ≤ 120) : upV (packV l).1 ((packV l).2 : Int) = (l, true) := by
  rw [upV, if_pos (pack_good hl), Int.toNat_natCast]
  exact unV_yes ⟨hg, hl, hv, rfl⟩
theorem samples_take {l : List SME} {k : Nat} (h : samplesB l = true) : samplesB (l.take k) = true := by
  simp only [samplesB, Bool.and_eq_true, List.all_eq_true, List.mem_range, decide_eq_true_eq] at h ⊢
  refine ⟨fun i hi => ?_, by rw [List.length_take]; omega⟩
  rw [List.length_take] at hi
  have := h.1 i (by omega)
  rw [take_getD (by omega), take_getD (by omega)]
  exact this
abbrev SRE := List LB × List SME × Unit
abbrev SRU : U := .pair (.sl false LU) (.pair (.sl false SMU) .unit)
abbrev NDE := List MT × Int × Int × Unit
abbrev NDU : U := .pair (.sl false MU) (.pair (.int .i64) (.pair (.int .i64) .unit))
theorem cmpL_rng : ∀ a b : List Int, cmpL a b = -1 ∨ cmpL a b = 0 ∨ cmpL a b = 1
  | [], [] => by simp [cmpL]
  | [], _ :: _ => by simp [cmpL]
  | _ :: _, [] => by simp [cmpL]
  | x :: a, y :: b => by
    have := cmpL_rng a b
    simp only [cmpL]
    split
    · simp
    · split
      · simp
      · exact this
theorem cmpL_swap : ∀ a b : List Int, cmpL b a = -cmpL a b
  | [], [] => by simp [cmpL]
  | [], _ :: _ => by simp [cmpL]
  | _ :: _, [] => by simp [cmpL]
  | x :: a, y :: b => by
    have := cmpL_swap a b
    simp only [cmpL]
    by_cases h1 : x < y
    · rw [if_neg (by omega), if_pos h1, if_pos h1]; rfl
    · by_cases h2 : y < x
      · rw [if_pos h2, if_neg h1, if_pos h2]
      · rw [if_neg h2, if_neg h1, if_neg h1, if_neg h2]; exact this
theorem cmpT_three {a b : ByteArray} : (if slt a b = true then (-1 : Int) else if slt b a = true then 1 else 0) = cmpT a b := by
  have h1 : cmpT a b = -1 ∨ cmpT a b = 0 ∨ cmpT a b = 1 := cmpL_rng (octs a) (octs b)
  have h2 : cmpT b a = -cmpT a b := cmpL_swap (octs a) (octs b)
  rw [slt_cmp, slt_cmp]
  rcases h1 with h | h | h <;> simp [h2, h]
def cmpLs : List LB → List LB → Int
  | x :: a, y :: b => if cmpT x.1 y.1 ≠ 0 then cmpT x.1 y.1 else if cmpT x.2.1 y.2.1 ≠ 0 then cmpT x.2.1 y.2.1 else cmpLs a b
  | [], [] => 0 | [], _ :: _ => -1 | _ :: _, [] => 1
theorem cmpLs_end {a b : List LB} {i : Nat} (h : ¬ (i < a.length ∧ i < b.length)) (ha : i ≤ a.length) (hb : i ≤ b.length) : cmpLs (a.drop i) (b.drop i) = cmpN (a.length : Int) (b.length : Int) := by
  rcases Nat.lt_or_ge i a.length with h1 | h1
  · have h2 : i = b.length := by omega
    have e1 : b.drop i = [] := List.drop_eq_nil_of_le (by omega)
    rw [e1, drop_getD h1, cmpN, if_neg (by omega), if_pos (by omega)]; rfl
  · have e1 : a.drop i = [] := List.drop_eq_nil_of_le h1
    rw [e1]
    rcases Nat.lt_or_ge i b.length with h2 | h2
    · rw [drop_getD h2, cmpN, if_pos (by omega)]; rfl
    · have e2 : b.drop i = [] := List.drop_eq_nil_of_le h2
      rw [e2, cmpN, if_neg (by omega), if_neg (by omega)]; rfl
theorem cmpLs_next {a b : List LB} {i : Nat} (h1 : i < a.length) (h2 : i < b.length) : cmpLs (a.drop i) (b.drop i) = if cmpT (a.getD i default).1 (b.getD i default).1 ≠ 0 then cmpT (a.getD i default).1 (b.getD i default).1 else if cmpT (a.getD i default).2.1 (b.getD i default).2.1 ≠ 0 then cmpT (a.getD i default).2.1 (b.getD i default).2.1 else cmpLs (a.drop (i + 1)) (b.drop (i + 1)) := by
  rw [drop_getD h1, drop_getD h2]; rfl
def nameK : ByteArray := ⟨#[95, 110, 97, 109, 101]⟩
def namedB (l : List LB) : Bool := labelsB l && !seq (valL l nameK) ⟨#[]⟩
def serB (l : List SRE) (i : Nat) : Bool := namedB (l.getD i default).1 && samplesB (l.getD i default).2.1 && decide ((l.getD i default).2.1.length ≠ 0) && (decide (i = 0) || decide (cmpLs (l.getD (i - 1) default).1 (l.getD i default).1 < 0))
def seriesB (l : List SRE) : Bool := decide (l.length ≤ 200) && (List.range l.length).all (serB l)
theorem seriesB_at {l : List SRE} (h : seriesB l = true) {i : Nat} (hi : i < l.length) : labelsB (l.getD i default).1 = true ∧ (l.getD i default).1 ≠ [] ∧ (l.getD i default).1.length ≤ 20 ∧ (l.getD i default).2.1.length ≤ 2000 := by
  simp only [seriesB, Bool.and_eq_true, List.all_eq_true, List.mem_range] at h
  have h1 := h.2 i hi
  simp only [serB, namedB, Bool.and_eq_true] at h1
  have h2 : labelsB (l.getD i default).1 = true := h1.1.1.1.1
  have h3 := h1.1.1.2
  simp only [samplesB, Bool.and_eq_true, decide_eq_true_eq] at h3
  have h4 := h2
  simp only [labelsB, Bool.and_eq_true, decide_eq_true_eq] at h4
  refine ⟨h2, fun e => ?_, h4.1, h3.2⟩
  have h5 := h1.1.1.1.2
  rw [e] at h5
  simp [valL, seq] at h5
def rngB (nd : NDE) (x : SME) : Bool := decide (nd.2.1 ≤ x.1) && decide (x.1 ≤ nd.2.2.1)
def trimOne (needs : List NDE) (s : SRE) : List SME := s.2.1.filter fun x => needs.any fun nd => fitsB nd.1 s.1 && rngB nd x
def trimV (needs : List NDE) (l : List SRE) : List SRE := l.flatMap fun s => if (trimOne needs s).length = 0 then [] else [(s.1, (trimOne needs s, ()))]
theorem trimV_cons {needs : List NDE} {l : List SRE} {i : Nat} (h : i < l.length) (out : List SRE) : out ++ trimV needs (l.drop i) = (if (trimOne needs (l.getD i default)).length = 0 then out else out ++ [((l.getD i default).1, (trimOne needs (l.getD i default), ()))]) ++ trimV needs (l.drop (i + 1)) := by
  rw [drop_getD h, trimV, List.flatMap_cons]
  split
  · simp [trimV]
  · simp [trimV]
def trimF (l : List SRE) (needs : List NDE) : List SRE := if (seriesB l && decide (needs.length ≤ 60) && (List.range needs.length).all fun i => matchersB (needs.getD i default).1) = true then trimV needs l else []
theorem filter_next {α : Type} [Inhabited α] {p : α → Bool} {l : List α} {i : Nat} (h : i < l.length) (out : List α) : out ++ (l.drop i).filter p = (if p (l.getD i default) = true then out ++ [l.getD i default] else out) ++ (l.drop (i + 1)).filter p := by
  rw [drop_getD h, List.filter_cons]
  split
  · simp
  · rfl
/-- where a word ends -/
def wEndD (s : ByteArray) : Nat → Nat → Nat
  | 0, i => i
  | d + 1, i => bif wordB (bt s (i : Int)) then wEndD s d (i + 1) else i
def wEnd (s : ByteArray) (i : Nat) : Nat := wEndD s (s.size - i) i
theorem wEnd_end {s : ByteArray} {i : Nat} (h : s.size ≤ i) : wEnd s i = i := by
  rw [wEnd, show s.size - i = 0 by omega]; rfl
theorem wEnd_step {s : ByteArray} {i : Nat} (h : i < s.size) : wEnd s i = bif wordB (bt s (i : Int)) then wEnd s (i + 1) else i := by
  rw [wEnd, show s.size - i = (s.size - (i + 1)) + 1 by omega]; rfl
theorem wEnd_range {s : ByteArray} : ∀ (d i : Nat), s.size - i ≤ d → i ≤ s.size → i ≤ wEnd s i ∧ wEnd s i ≤ s.size := by
  intro d
  induction d with
  | zero => intro i h h2; rw [wEnd_end (by omega)]; omega
  | succ d ih =>
    intro i h h2
    rcases Nat.lt_or_ge i s.size with hi | hi
    · rw [wEnd_step hi]
      cases wordB (bt s (i : Int)) with
      | true => have := ih (i + 1) (by omega) (by omega); simp only [cond_true]; omega
      | false => simp only [cond_false]; omega
    · rw [wEnd_end hi]; omega
theorem wEnd_ge {s : ByteArray} {i : Nat} (h : i ≤ s.size) : i ≤ wEnd s i := (wEnd_range _ i (Nat.le_refl _) h).1
theorem wEnd_le {s : ByteArray} {i : Nat} (h : i ≤ s.size) : wEnd s i ≤ s.size := (wEnd_range _ i (Nat.le_refl _) h).2
theorem size_ext {s : ByteArray} {a b : Nat} (h : b ≤ s.size) : (s.extract a b).size = b - a := by rw [ByteArray.size_extract]; omega
theorem bt_ext {s : ByteArray} {a b j : Nat} (h : a + j < b) (hb : b ≤ s.size) : bt (s.extract a b) (j : Int) = bt s ((a + j : Nat) : Int) := by
  unfold bt
  simp only [Int.toNat_natCast, ByteArray.data_extract]
  congr 2
  have hs : s.data.size = s.size := rfl
  simp only [Array.getD_eq_getD_getElem?]
  rw [Array.getElem?_extract, if_pos (by omega)]
theorem ext_ext {s : ByteArray} {a c d : Nat} (hd : a + d ≤ s.size) : (s.extract a s.size).extract c d = s.extract (a + c) (a + d) := by
  rw [ByteArray.extract_extract]; congr 1; omega
theorem wEnd_ext {s : ByteArray} {a : Nat} (ha : a ≤ s.size) : ∀ (d j : Nat), s.size - (a + j) ≤ d → a + j ≤ s.size → a + wEnd (s.extract a s.size) j = wEnd s (a + j) := by
  have hs : (s.extract a s.size).size = s.size - a := size_ext (Nat.le_refl _)
  intro d
  induction d with
  | zero => intro j h1 h2; rw [wEnd_end (by omega), wEnd_end (by omega)]
  | succ d ih =>
    intro j h1 h2
    rcases Nat.lt_or_ge (a + j) s.size with hi | hi
    · rw [wEnd_step (i := j) (by omega), wEnd_step hi, bt_ext hi (Nat.le_refl _)]
      cases wordB (bt s ((a + j : Nat) : Int)) with
      | true => simp only [cond_true]; exact ih (j + 1) (by omega) (by omega)
      | false => rfl
    · rw [wEnd_end (by omega), wEnd_end (by omega)]
/-- a template's parts, from a place on: whether a part is a name -/
def tp (s : ByteArray) (i : Nat) : Option (List (Bool × ByteArray)) :=
  if h : i < s.size then
    if bt s (i : Int) ≠ 123 then (tp s (i + 1)).map ((false, s.extract i (i + 1)) :: ·)
    else if i + 1 < s.size ∧ bt s ((i + 1 : Nat) : Int) = 123 then (tp s (i + 2)).map ((false, ⟨#[123]⟩) :: ·)
    else if wEnd s (i + 1) < s.size ∧ bt s (wEnd s (i + 1) : Int) = 125 ∧ nameB (s.extract (i + 1) (wEnd s (i + 1))) = true then (tp s (wEnd s (i + 1) + 1)).map ((true, s.extract (i + 1) (wEnd s (i + 1))) :: ·)
    else none
  else some []
termination_by s.size - i
decreasing_by
  · omega
  · omega
  · have := wEnd_ge (s := s) (i := i + 1) (by omega); omega
theorem tp_end {s : ByteArray} {i : Nat} (h : s.size ≤ i) : tp s i = some [] := by rw [tp, dif_neg (by omega)]
theorem tp_char {s : ByteArray} {i : Nat} (h : i < s.size) (hc : bt s (i : Int) ≠ 123) : tp s i = (tp s (i + 1)).map ((false, s.extract i (i + 1)) :: ·) := by rw [tp, dif_pos h, if_pos hc]
theorem tp_two {s : ByteArray} {i : Nat} (h : i + 1 < s.size) (hc : bt s (i : Int) = 123) (h2 : bt s ((i + 1 : Nat) : Int) = 123) : tp s i = (tp s (i + 2)).map ((false, ⟨#[123]⟩) :: ·) := by
  rw [tp, dif_pos (by omega), if_neg (by simp [hc]), if_pos ⟨h, h2⟩]
theorem tp_name {s : ByteArray} {i : Nat} (h : i < s.size) (hc : bt s (i : Int) = 123) (h2 : ¬ (i + 1 < s.size ∧ bt s ((i + 1 : Nat) : Int) = 123)) :
    tp s i = if wEnd s (i + 1) < s.size ∧ bt s (wEnd s (i + 1) : Int) = 125 ∧ nameB (s.extract (i + 1) (wEnd s (i + 1))) = true then (tp s (wEnd s (i + 1) + 1)).map ((true, s.extract (i + 1) (wEnd s (i + 1))) :: ·) else none := by
  rw [tp, dif_pos h, if_neg (by simp [hc]), if_neg h2]
def goodTB (s : ByteArray) : Bool := decide (s.size ≤ 200) && printB s && (tp s 0).isSome
def partsR (a : List ByteArray) (b : List Bool) : Option (List (Bool × ByteArray)) → List ByteArray × List Bool × Bool
  | some r => (a ++ r.map (·.2), b ++ r.map (·.1), true) | none => ([], [], false)
theorem partsR_cons {a : List ByteArray} {b : List Bool} {x : Bool × ByteArray} {o : Option (List (Bool × ByteArray))} : partsR a b (o.map (x :: ·)) = partsR (a ++ [x.2]) (b ++ [x.1]) o := by
  cases o <;> simp [partsR]
theorem tp_ok {s : ByteArray} : ∀ (d i : Nat) (r : List (Bool × ByteArray)), s.size - i ≤ d → tp s i = some r → r.length ≤ s.size - i ∧ ∀ x ∈ r, x.1 = false → x.2.size ≤ 1 := by
  intro d
  induction d with
  | zero =>
    intro i r h hr
    rw [tp_end (by omega)] at hr
    cases hr
    exact ⟨by simp, by simp⟩
  | succ d ih =>
    intro i r h hr
    have one : ∀ (k : Nat) (x : Bool × ByteArray), i < k → k ≤ s.size → (x.1 = false → x.2.size ≤ 1) → (tp s k).map (x :: ·) = some r → r.length ≤ s.size - i ∧ ∀ x ∈ r, x.1 = false → x.2.size ≤ 1 := by
      intro k x hk hks hx hm
      obtain ⟨q, hq, rfl⟩ := Option.map_eq_some_iff.1 hm
      obtain ⟨h1, h2⟩ := ih k q (by omega) hq
      refine ⟨by simp only [List.length_cons]; omega, fun y hy => ?_⟩
      rcases List.mem_cons.1 hy with rfl | hy
      · exact hx
      · exact h2 y hy
    rcases Nat.lt_or_ge i s.size with hi | hi
    · by_cases hc : bt s (i : Int) = 123
      · by_cases h2 : i + 1 < s.size ∧ bt s ((i + 1 : Nat) : Int) = 123
        · rw [tp_two h2.1 hc h2.2] at hr
          exact one _ (false, ⟨#[123]⟩) (by omega) (by omega) (fun _ => Nat.le_refl 1) hr
        · rw [tp_name hi hc h2] at hr
          have hw := wEnd_ge (s := s) (i := i + 1) (by omega)
          split at hr
          · rename_i h3
            exact one _ _ (by omega) (by omega) (fun h => by cases h) hr
          · cases hr
      · rw [tp_char hi hc] at hr
        exact one _ _ (by omega) (by omega) (fun _ => by simp only; rw [size_ext (by omega)]; omega) hr
    · rw [tp_end hi] at hr
      cases hr
      exact ⟨by simp, by simp⟩
def itoaB (v : Int) : ByteArray := ⟨(Lib.itoa v).toArray⟩
def fpart (l : List LB) (v : Int) (x : Bool × ByteArray) : ByteArray := bif x.1 then (bif seq x.2 ⟨#[118, 97, 108, 117, 101]⟩ then itoaB v else valL l x.2) else x.2
def fillF (l : List LB) (v : Int) : List (Bool × ByteArray) → ByteArray
  | [] => ⟨#[]⟩
  | x :: r => fpart l v x ++ fillF l v r
theorem dec_len : ∀ (k u : Nat), u < 10 ^ (k + 1) → (Lib.decDigits u).length ≤ k + 1 := by
  intro k
  induction k with
  | zero => intro u h; rw [Lib.decDigits, dif_pos (by simpa using h)]; simp
  | succ k ih =>
    intro u h
    rw [Lib.decDigits]
    split
    · simp
    · have := ih (u / 10) (by rw [Nat.pow_succ] at h; omega)
      simp only [List.length_append, List.length_singleton]; omega
theorem itoa_len {v : Int} (h1 : -9223372036854775808 ≤ v) (h2 : v ≤ 9223372036854775807) : (itoaB v).size ≤ 20 := by
  show (Lib.itoa v).toArray.size ≤ 20
  rw [List.size_toArray, Lib.itoa]
  split
  · have := dec_len 18 v.natAbs (by omega)
    simp only [List.length_cons]; omega
  · have := dec_len 18 v.toNat (by omega)
    omega
theorem fpart_small {l : List LB} {v : Int} {x : Bool × ByteArray} (hl : labelsB l = true) (h1 : -9223372036854775808 ≤ v) (h2 : v ≤ 9223372036854775807) (hx : x.1 = false → x.2.size ≤ 1) : (fpart l v x).size ≤ 100 := by
  unfold fpart
  cases hb : x.1 with
  | false => have := hx hb; simp only [cond_false]; omega
  | true =>
    simp only [cond_true]
    cases seq x.2 ⟨#[118, 97, 108, 117, 101]⟩ with
    | true => have := itoa_len h1 h2; simp only [cond_true]; omega
    | false => exact labelsB_small hl
def fillT (s : ByteArray) (l : List LB) (v : Int) : ByteArray := bif goodTB s && labelsB l then fillF l v ((tp s 0).getD []) else ⟨#[]⟩
theorem ofOcts_app (a b : List Int) : ofOcts (a ++ b) = ofOcts a ++ ofOcts b := by
  apply ByteArray.ext
  simp [ofOcts]
theorem ofOcts_octs (s : ByteArray) : ofOcts (octs s) = s := by
  apply ByteArray.ext
  apply Array.toList_inj.1
  simp only [ofOcts, octs, List.map_map]
  refine (List.map_congr_left (g := id) fun b _ => ?_).trans (List.map_id _)
  simp
theorem ofOcts_bt {s : ByteArray} {i : Nat} (h : i < s.size) : ofOcts [bt s (i : Int)] = s.extract i (i + 1) := by
  apply ByteArray.ext
  have h' : i < s.data.size := h
  rw [ByteArray.data_extract]
  apply Array.ext
  · simp [ofOcts]; omega
  · intro j h1 h2
    have hj : j = 0 := by simp [ofOcts] at h1; omega
    subst hj
    simp [ofOcts, bt, Array.getElem?_eq_getElem h']
theorem i64_addN {a b : Nat} (h : a + b ≤ 4611686018427387904) : IntKind.wrap .i64 ((a : Int) + (b : Int)) = ((a + b : Nat) : Int) := by rw [i64_ok] <;> omega
def ddB (u : Nat) : List UInt8 := if u = 0 then [] else Lib.decDigits u
theorem ddB_step {u : Nat} (h : u ≠ 0) : ddB u = ddB (u / 10) ++ [UInt8.ofNat (48 + u % 10)] := by
  rw [ddB, if_neg h, Lib.decDigits]
  split
  · rename_i h2
    rw [ddB, if_pos (by omega), Nat.mod_eq_of_lt h2]; rfl
  · rename_i h2
    rw [ddB, if_neg (by omega)]
def sgn (b : Bool) (u : Nat) : Int := bif b then -(u : Int) else (u : Int)
theorem sgn_div {b : Bool} {u : Nat} : Int.tdiv (sgn b u) 10 = sgn b (u / 10) := by
  cases b with
  | false => rfl
  | true => simp only [sgn, cond_true, Int.neg_tdiv]; rfl
theorem sgn_mod {b : Bool} {u : Nat} : Int.tmod (sgn b u) 10 = sgn b (u % 10) := by
  cases b with
  | false => rfl
  | true => simp only [sgn, cond_true, Int.neg_tmod]; rfl
theorem octs_app {a b : ByteArray} : octs (a ++ b) = octs a ++ octs b := by simp [octs]
theorem sz_lit {a : Array UInt8} : ByteArray.size ⟨a⟩ = a.size := rfl
def escL (l : List Int) : List Int := l.flatMap fun c => bif decide (c = 34) || decide (c = 92) then [92, c] else [c]
theorem escL_snoc {l : List Int} {c : Int} : escL (l ++ [c]) = escL l ++ (bif decide (c = 34) || decide (c = 92) then [92, c] else [c]) := by
  simp [escL, List.flatMap_append]
theorem escL_len : ∀ (l : List Int), (escL l).length ≤ 2 * l.length
  | [] => Nat.le_refl _
  | c :: l => by
    have ih := escL_len l
    have : escL (c :: l) = (bif decide (c = 34) || decide (c = 92) then [92, c] else [c]) ++ escL l := rfl
    rw [this]
    cases decide (c = 34) || decide (c = 92) <;> simp <;> omega
def quotB (s : ByteArray) : ByteArray := ofOcts ((34 :: escL (octs s)) ++ [34])
theorem ofOcts_size (l : List Int) : (ofOcts l).size = l.length := by simp [ofOcts, ByteArray.size]
theorem quotB_size {s : ByteArray} : (quotB s).size ≤ 2 * s.size + 2 := by
  have := escL_len (octs s)
  rw [octs_len] at this
  rw [quotB, ofOcts_size]; simp; omega
theorem octs_take {s : ByteArray} {i : Nat} (h : i < s.size) : (octs s).take (i + 1) = (octs s).take i ++ [bt s (i : Int)] := by
  have h' : i < (octs s).length := by rw [octs_len]; exact h
  rw [List.take_add_one, List.getElem?_eq_getElem h']
  congr 1
  have h2 := octs_drop h
  rw [List.drop_eq_getElem_cons h'] at h2
  simp only [List.cons.injEq] at h2
  rw [h2.1]; rfl
def joinB (l : List ByteArray) : ByteArray := ⟨(Lib.join (l.map (·.data.toList)) [44]).toArray⟩
theorem joinB_snoc (l : List ByteArray) (x : ByteArray) : joinB (l ++ [x]) = bif l.isEmpty then x else (joinB l ++ ⟨#[44]⟩) ++ x := by
  cases l with
  | nil => simp [joinB, Lib.join_one]
  | cons a r =>
    apply ByteArray.ext
    simp [joinB, Lib.join_cons, Lib.joinTail]
theorem joinB_step {l : List ByteArray} {i : Nat} (h : i < l.length) : joinB (l.take (i + 1)) = bif decide ((0 : Int) < (i : Int)) then (joinB (l.take i) ++ ⟨#[44]⟩) ++ l.getD i default else joinB (l.take i) ++ l.getD i default := by
  rw [List.take_add_one, List.getElem?_eq_getElem h, Option.toList_some, joinB_snoc, List.getD_eq_getElem?_getD, List.getElem?_eq_getElem h]
  rcases Nat.eq_zero_or_pos i with rfl | hi
  · have e : (⟨#[]⟩ : ByteArray) ++ l[0] = l[0] := ByteArray.empty_append
    simp [joinB, Lib.join_nil, e]
  · rw [show (l.take i).isEmpty = false by cases l with | nil => simp at h | cons a r => cases i with | zero => omega | succ i => rfl, show decide ((0 : Int) < (i : Int)) = true by simp only [decide_eq_true_eq]; omega]
    rfl
theorem lens_le {m : Nat} : ∀ (l : List ByteArray), (∀ x ∈ l, x.size ≤ m) → Lib.lens (l.map (·.data.toList)) ≤ l.length * m
  | [], _ => Nat.le_of_eq (by simp [Lib.lens])
  | x :: l, h => by
    have ih := lens_le l fun y hy => h y (List.mem_cons_of_mem _ hy)
    have h1 : x.size ≤ m := h x (List.mem_cons_self ..)
    have h2 : x.data.toList.length = x.size := Array.length_toList
    simp only [Lib.lens, List.map_cons, List.sum_cons, List.length_cons, Nat.add_mul] at ih ⊢
    omega
theorem join_len {m : Nat} : ∀ (l : List ByteArray), (∀ x ∈ l, x.size ≤ m) → (Lib.join (l.map (·.data.toList)) [44]).length ≤ l.length * (m + 1)
  | [], _ => by simp [Lib.join_nil]
  | x :: l, h => by
    have := lens_le (x :: l) h
    simp only [List.map_cons] at this ⊢
    rw [Lib.join_length]
    simp only [List.length_cons, List.length_nil, List.length_map, Nat.mul_add, Nat.add_mul] at this ⊢
    omega
theorem joinB_size {l : List ByteArray} {m k : Nat} (h : ∀ x ∈ l, x.size ≤ m) (hk : l.length ≤ k) : (joinB l).size ≤ k * (m + 1) :=
  Nat.le_trans (by have := join_len l h; simpa [joinB, ByteArray.size] using this) (Nat.mul_le_mul_right _ hk)
theorem joinB_take {l : List ByteArray} {m k : Nat} (h : ∀ x ∈ l, x.size ≤ m) (hk : l.length ≤ k) (i : Nat) : (joinB (l.take i)).size ≤ k * (m + 1) :=
  joinB_size (fun x hx => h x (List.mem_of_mem_take hx)) (Nat.le_trans (by rw [List.length_take]; omega) hk)
theorem getD_map' {α β : Type} [Inhabited α] [Inhabited β] {f : α → β} {l : List α} {i : Nat} (h : i < l.length) : (l.map f).getD i default = f (l.getD i default) := by
  rw [List.getD_eq_getElem?_getD, List.getD_eq_getElem?_getD, List.getElem?_map, List.getElem?_eq_getElem h]; rfl
theorem getD_sat {α : Type} [Inhabited α] {l : List α} {p : α → Prop} (h : ∀ i, i < l.length → p (l.getD i default)) : ∀ x ∈ l, p x := by
  intro x hx
  obtain ⟨i, hi, rfl⟩ := List.getElem_of_mem hx
  have := h i hi
  rwa [List.getD_eq_getElem?_getD, List.getElem?_eq_getElem hi] at this
theorem rg_all {n : Nat} {p : Nat → Bool} (h : (List.range n).all p = true) : ∀ i, i < n → p i = true := by
  intro i hi
  exact List.all_eq_true.1 h i (List.mem_range.2 hi)
def opsL : List ByteArray := [⟨#[]⟩, ⟨#[61]⟩, ⟨#[33, 61]⟩, ⟨#[61, 126]⟩, ⟨#[33, 126]⟩]
theorem opsL_size (k : Nat) : (opsL.getD k default).size ≤ 2 := by
  match k with
  | 0 | 1 | 2 | 3 | 4 => decide
  | k + 5 => exact Nat.zero_le _
def mtB (x : MT) : ByteArray := (x.1 ++ opsL.getD x.2.1.toNat default) ++ quotB x.2.2.1
theorem nameB_size {s : ByteArray} (h : nameB s = true) : s.size ≤ 40 := by
  simp only [nameB, Bool.and_eq_true, decide_eq_true_eq] at h; omega
theorem matcherB_parts {x : MT} (h : matcherB x = true) : x.1.size ≤ 40 ∧ 1 ≤ x.2.1 ∧ x.2.1 ≤ 4 ∧ x.2.2.1.size ≤ 100 := by
  simp only [matcherB, Bool.and_eq_true, decide_eq_true_eq] at h
  exact ⟨nameB_size h.1.1.1.1.1, h.1.1.1.1.2, h.1.1.1.2, h.1.1.2⟩
theorem mtB_size {x : MT} (h : matcherB x = true) : (mtB x).size ≤ 244 := by
  obtain ⟨h1, _, _, h2⟩ := matcherB_parts h
  have := quotB_size (s := x.2.2.1)
  have := opsL_size x.2.1.toNat
  simp only [mtB, ByteArray.size_append]; omega
def mtsB (l : List MT) : ByteArray := (⟨#[123]⟩ ++ joinB (l.map mtB)) ++ ⟨#[125]⟩
theorem matchersB_parts {l : List MT} (h : matchersB l = true) : l.length ≤ 10 ∧ ∀ i, i < l.length → matcherB (l.getD i default) = true := by
  simp only [matchersB, Bool.and_eq_true, decide_eq_true_eq] at h
  exact ⟨h.1, rg_all h.2⟩
theorem mts_map {l : List MT} (h : matchersB l = true) : (∀ x ∈ l.map mtB, x.size ≤ 244) ∧ (l.map mtB).length ≤ 10 := by
  obtain ⟨h1, h2⟩ := matchersB_parts h
  refine ⟨fun x hx => ?_, by rw [List.length_map]; exact h1⟩
  obtain ⟨y, hy, rfl⟩ := List.mem_map.1 hx
  exact mtB_size (getD_sat (p := fun x => matcherB x = true) h2 y hy)
theorem mtsB_size {l : List MT} (h : matchersB l = true) : (mtsB l).size ≤ 2452 := by
  have := joinB_size (mts_map h).1 (mts_map h).2
  simp only [mtsB, ByteArray.size_append, sz_lit, List.size_toArray, List.length_cons, List.length_nil]; omega
theorem mutes_map {l : List Int} (h20 : l.length ≤ 20) (h : mutesB l = true) : (∀ x ∈ l.map itoaB, x.size ≤ 20) ∧ (l.map itoaB).length ≤ 20 := by
  refine ⟨fun x hx => ?_, by rw [List.length_map]; exact h20⟩
  obtain ⟨y, hy, rfl⟩ := List.mem_map.1 hx
  have := getD_sat (p := fun v => 0 ≤ v ∧ v < 20) (fun i hi => by have := rg_all h i hi; simpa using this) y hy
  exact itoa_len (by omega) (by omega)
theorem mutes_at {l : List Int} (h : mutesB l = true) {i : Nat} (hi : i < l.length) : 0 ≤ l.getD i default ∧ l.getD i default < 20 := by
  have := rg_all h i hi
  simpa using this
def l1B (r : RTE) : ByteArray := bif decide ((0 : Int) < (r.2.1.length : Int)) then r.1 ++ (⟨#[32]⟩ ++ mtsB r.2.1) else r.1
def l2B (r : RTE) : ByteArray := bif decide ((0 : Int) < (r.2.2.1.length : Int)) then l1B r ++ (⟨#[32, 98, 121, 32]⟩ ++ joinB r.2.2.1) else l1B r
def l3B (r : RTE) : ByteArray := l2B r ++ (((((⟨#[32, 119, 97, 105, 116, 32]⟩ ++ itoaB r.2.2.2.1) ++ ⟨#[32, 101, 118, 101, 114, 121, 32]⟩) ++ itoaB r.2.2.2.2.1) ++ ⟨#[32, 97, 103, 97, 105, 110, 32]⟩) ++ itoaB r.2.2.2.2.2.1)
def l4B (r : RTE) : ByteArray := bif decide ((0 : Int) < (r.2.2.2.2.2.2.1.length : Int)) then l3B r ++ (⟨#[32, 109, 117, 116, 101, 32]⟩ ++ joinB (r.2.2.2.2.2.2.1.map itoaB)) else l3B r
def lineB (r : RTE) : ByteArray := bif r.2.2.2.2.2.2.2.1 then l4B r ++ ⟨#[32, 111, 110]⟩ else l4B r
theorem route_parts {r : RTE} (h : routeB r = true) : r.1.size ≤ 40 ∧ matchersB r.2.1 = true ∧ (r.2.2.1.length ≤ 10 ∧ ∀ x ∈ r.2.2.1, x.size ≤ 40) ∧ (0 ≤ r.2.2.2.1 ∧ r.2.2.2.1 ≤ 1000000000000) ∧ (1 ≤ r.2.2.2.2.1 ∧ r.2.2.2.2.1 ≤ 1000000000000) ∧ (1 ≤ r.2.2.2.2.2.1 ∧ r.2.2.2.2.2.1 ≤ 1000000000000) ∧ r.2.2.2.2.2.2.1.length ≤ 20 ∧ mutesB r.2.2.2.2.2.2.1 = true := by
  simp only [routeB, posB, timeB, namesB, Bool.and_eq_true, decide_eq_true_eq] at h
  exact ⟨nameB_size h.1.1.1.1.1.1.1, h.1.1.1.1.1.1.2, ⟨h.1.1.1.1.1.2.1.1, getD_sat fun i hi => nameB_size (rg_all h.1.1.1.1.1.2.2 i hi)⟩, h.1.1.1.1.2, h.1.1.1.2, h.1.1.2, h.1.2.1, h.2⟩
theorem l1B_size {r : RTE} (h : routeB r = true) : (l1B r).size ≤ 2500 := by
  obtain ⟨h1, h2, _⟩ := route_parts h
  have := mtsB_size h2
  unfold l1B
  cases decide ((0 : Int) < (r.2.1.length : Int)) <;> simp only [cond_true, cond_false, ByteArray.size_append, sz_lit, List.size_toArray, List.length_cons, List.length_nil] <;> omega
theorem l2B_size {r : RTE} (h : routeB r = true) : (l2B r).size ≤ 3000 := by
  obtain ⟨h1, h2, h3, _⟩ := route_parts h
  have := joinB_size h3.2 h3.1
  have := l1B_size h
  unfold l2B
  cases decide ((0 : Int) < (r.2.2.1.length : Int)) <;> simp only [cond_true, cond_false, ByteArray.size_append, sz_lit, List.size_toArray, List.length_cons, List.length_nil] <;> omega
theorem route_nums {r : RTE} (h : routeB r = true) : (itoaB r.2.2.2.1).size ≤ 20 ∧ (itoaB r.2.2.2.2.1).size ≤ 20 ∧ (itoaB r.2.2.2.2.2.1).size ≤ 20 := by
  obtain ⟨_, _, _, h4, h5, h6, _⟩ := route_parts h
  exact ⟨itoa_len (by omega) (by omega), itoa_len (by omega) (by omega), itoa_len (by omega) (by omega)⟩
theorem l3B_size {r : RTE} (h : routeB r = true) : (l3B r).size ≤ 3200 := by
  have := l2B_size h
  have := route_nums h
  simp only [l3B, ByteArray.size_append, sz_lit, List.size_toArray, List.length_cons, List.length_nil]; omega
theorem lineB_size {r : RTE} (h : routeB r = true) : (lineB r).size ≤ 4000 := by
  obtain ⟨_, _, _, _, _, _, h7, h8⟩ := route_parts h
  have := l3B_size h
  have := joinB_size (mutes_map h7 h8).1 (mutes_map h7 h8).2
  unfold lineB l4B
  cases decide ((0 : Int) < (r.2.2.2.2.2.2.1.length : Int)) <;> cases r.2.2.2.2.2.2.2.1 <;> simp only [cond_true, cond_false, ByteArray.size_append, sz_lit, List.size_toArray, List.length_cons, List.length_nil] <;> omega
def mD (f : Nat → Option Nat) (g : Nat → List Int) : Nat → Nat → List Int
  | 0, _ => []
  | k + 1, p => g p ++ (match f p with | some q => mD f g k q | none => [])
def dpN (l : List RTE) : Nat → Nat → Nat → List Int
  | 0, _, _ => []
  | d + 1, deep, i => (deep : Int) :: mD (nodeN l smallB d) (dpN l d (deep + 1)) (kidsOf l i).toNat (i + 1)
theorem mD_len {f : Nat → Option Nat} {g : Nat → List Int} (h : ∀ p q, f p = some q → (g p).length + p = q) : ∀ k p q, manyN f k p = some q → (mD f g k p).length + p = q
  | 0, p, q, hq => by simp only [manyN, Option.some.injEq] at hq; simp [mD, hq]
  | k + 1, p, q, hq => by
    simp only [manyN] at hq
    cases hp : f p with
    | none => rw [hp] at hq; cases hq
    | some r =>
      rw [hp] at hq
      have h1 := h p r hp
      have h2 := mD_len h k r q hq
      simp only [mD, hp, List.length_append]; omega
theorem dpN_len {l : List RTE} : ∀ d deep i q, nodeN l smallB d i = some q → (dpN l d deep i).length + i = q
  | 0, _, _, _, h => by simp [nodeN] at h
  | d + 1, deep, i, q, h => by
    simp only [nodeN] at h
    split at h
    · have := mD_len (g := dpN l d (deep + 1)) (fun p q hq => dpN_len d (deep + 1) p q hq) _ _ _ h
      simp only [dpN, List.length_cons]; omega
    · cases h
theorem mD_in {f : Nat → Option Nat} {g : Nat → List Int} {G : Int → Prop} (h : ∀ p, ∀ x ∈ g p, G x) : ∀ k p, ∀ x ∈ mD f g k p, G x
  | 0, p, x, hx => by simp [mD] at hx
  | k + 1, p, x, hx => by
    simp only [mD, List.mem_append] at hx
    rcases hx with hx | hx
    · exact h p x hx
    · cases hp : f p with
      | none => rw [hp] at hx; cases hx
      | some r => rw [hp] at hx; exact mD_in h k r x hx
theorem dpN_in {l : List RTE} : ∀ d deep i, ∀ x ∈ dpN l d deep i, 0 ≤ x ∧ x < ((deep + d : Nat) : Int)
  | 0, _, _, x, hx => by simp [dpN] at hx
  | d + 1, deep, i, x, hx => by
    simp only [dpN, List.mem_cons] at hx
    rcases hx with rfl | hx
    · omega
    · have := mD_in (G := fun x => 0 ≤ x ∧ x < ((deep + 1 + d : Nat) : Int)) (fun p x hx => dpN_in d (deep + 1) p x hx) _ _ x hx
      have e : deep + (d + 1) = deep + 1 + d := by omega
      rw [e]; exact this
def repB (k : Nat) : ByteArray := ⟨(Lib.repeatL [32, 32] k).toArray⟩
theorem repB_step {k : Nat} : repB (k + 1) = repB k ++ ⟨#[32, 32]⟩ := by
  apply ByteArray.ext
  simp [repB, Lib.repeatL_add, Lib.repeatL_one]
theorem repB_size {k : Nat} : (repB k).size = 2 * k := by
  induction k with
  | zero => rfl
  | succ k ih => rw [repB_step, ByteArray.size_append, ih]; simp only [sz_lit, List.size_toArray, List.length_cons, List.length_nil]; omega
def txtB (l : List RTE) (D : List Int) : Nat → ByteArray
  | 0 => ⟨#[]⟩
  | i + 1 => (txtB l D i ++ repB (D.getD i default).toNat) ++ (lineB (l.getD i default) ++ ⟨#[10]⟩)
theorem txtB_size {l : List RTE} {D : List Int} : ∀ i, (∀ j, j < i → routeB (l.getD j default) = true ∧ (D.getD j default).toNat ≤ 8) → (txtB l D i).size ≤ i * 4020
  | 0, _ => Nat.le_refl _
  | i + 1, h => by
    have ih := txtB_size i fun j hj => h j (by omega)
    obtain ⟨h1, h2⟩ := h i (by omega)
    have := lineB_size h1
    simp only [txtB, ByteArray.size_append, repB_size, sz_lit, List.size_toArray, List.length_cons, List.length_nil, Nat.add_mul]; omega
def textB (l : List RTE) : ByteArray := bif routesB l then (bif decide ((10000 : Int) < ((txtB l (dpN l 8 0 0) l.length).size : Int)) then ⟨#[]⟩ else txtB l (dpN l 8 0 0) l.length) else ⟨#[]⟩
theorem routesB_parts {l : List RTE} (h : routesB l = true) : l.length ≠ 0 ∧ l.length ≤ 40 ∧ nodeN l smallB 8 0 = some l.length ∧ (∀ i, i < l.length → routeB (l.getD i default) = true) ∧ (dpN l 8 0 0).length = l.length ∧ ∀ i, i < l.length → 0 ≤ (dpN l 8 0 0).getD i default ∧ (dpN l 8 0 0).getD i default ≤ 8 := by
  simp only [routesB, Bool.and_eq_true, decide_eq_true_eq] at h
  obtain ⟨⟨⟨h0, h40⟩, hn⟩, _⟩ := h
  obtain ⟨h1, h2⟩ := nodeN_SI h40 _ _ _ hn
  have h3 := dpN_len 8 0 _ _ h1
  refine ⟨h0, h40, h1, fun i hi => h2 i (by omega) hi, by omega, fun i hi => ?_⟩
  have := dpN_in 8 0 0 _ (getD_mem (l := dpN l 8 0 0) (i := i) (d := default) (by omega))
  exact ⟨this.1, Int.le_of_lt this.2⟩
theorem laws_szMatcher.ev (x : (ByteArray) × ((Int) × ((ByteArray) × (Unit)))) (left : Int) (h0 : 0 ≤ left) (h1 : left ≤ 1048576) (hw : Wf (.pair .str (.pair (.int .i64) (.pair .str .unit))) x) : Sz (fun n => laws_szMatcher n x left) left (Sm 1048576 (.pair .str (.pair (.int .i64) (.pair .str .unit))) x) := by
  refine Sz.step ?_
  simp only [laws_szMatcher.step]
  have b1 : ByteArray.size x.1 ≤ 9223372036854775807 := by have := hw.1; simp only [Wf, maxLen] at this; omega
  have e1 : IntKind.wrap .i64 (left - ((ByteArray.size x.1) : Int)) = left - ((ByteArray.size x.1) : Int) := i64_ok (by omega) (by omega)
  simp only [e1]
  by_cases c1 : (left - ((ByteArray.size x.1) : Int)) < 0
  · exact Sz.yes (by simpa using c1) (Sz.neg h0)
  refine Sz.no (by simpa using c1) ?_
  have b2 : ByteArray.size x.2.2.1 ≤ 9223372036854775807 := by have := hw.2.2.1; simp only [Wf, maxLen] at this; omega
  have e2 : IntKind.wrap .i64 ((left - ((ByteArray.size x.1) : Int)) - ((ByteArray.size x.2.2.1) : Int)) = (left - ((ByteArray.size x.1) : Int)) - ((ByteArray.size x.2.2.1) : Int) := i64_ok (by omega) (by omega)
  simp only [e2]
  by_cases c2 : ((left - ((ByteArray.size x.1) : Int)) - ((ByteArray.size x.2.2.1) : Int)) < 0
  · exact Sz.yes (by simpa using c2) (Sz.neg h0)
  refine Sz.no (by simpa using c2) ?_
  exact ⟨((left - ((ByteArray.size x.1) : Int)) - ((ByteArray.size x.2.2.1) : Int)), Ev.pure, by omega, fun _ => ⟨(show ByteArray.size x.1 ≤ 1048576 by omega), ⟨trivial, ⟨(show ByteArray.size x.2.2.1 ≤ 1048576 by omega), trivial⟩⟩⟩⟩
theorem laws_szMatcherS.loop (l : List ((ByteArray) × ((Int) × ((ByteArray) × (Unit))))) (hl : l.length ≤ 1048576) (hw : ∀ x ∈ l, Wf (.pair .str (.pair (.int .i64) (.pair .str .unit))) x) : ∀ d i (left : Int), i + d = l.length → 0 ≤ left → left ≤ 1048576 → Sz (fun n => goRec laws_szMatcherS.step n (.p17 l left (i : Int))) left (∀ j, i ≤ j → j < l.length → Sm 1048576 (.pair .str (.pair (.int .i64) (.pair .str .unit))) (l.getD j default)) := by
  intro d
  induction d with
  | zero =>
    intro i left h h0 h1
    rw [Nat.add_zero] at h
    subst h
    refine Sz.step ?_
    simp only [laws_szMatcherS.step]
    exact Sz.no lt_no ⟨left, Ev.pure, Int.le_refl _, fun _ j h1 h2 => by omega⟩
  | succ d ih =>
    intro i left h h0 h1
    have hi : i < l.length := by omega
    refine Sz.step ?_
    simp only [laws_szMatcherS.step, toNat_cast]
    refine Sz.yes (lt_yes hi) (Sz.yes (inB_nat hi) ?_)
    obtain ⟨r1, k1, m1, q1⟩ := laws_szMatcher.ev (l.getD i default) left h0 h1 (hw _ (getD_mem hi))
    refine Sz.bind k1 ?_
    by_cases c1 : r1 < 0
    · exact Sz.yes (by simpa using c1) (Sz.neg h0)
    refine Sz.no (by simpa using c1) ?_
    rw [i64_nat (by omega)]
    have := ih (i + 1) r1 (by omega) (by omega) (by omega)
    refine (this.le m1).imp fun hq j h2 h3 => ?_
    rcases Nat.eq_or_lt_of_le h2 with rfl | h2
    · exact q1 (by omega)
    · exact hq j h2 h3
theorem laws_szMatcherS.ev (l : List ((ByteArray) × ((Int) × ((ByteArray) × (Unit))))) (left : Int) (h0 : 0 ≤ left) (h1 : left ≤ 1048576) (hw : Wf (.sl false (.pair .str (.pair (.int .i64) (.pair .str .unit)))) l) : Sz (fun n => laws_szMatcherS n l left) left (Sm 1048576 (.sl false (.pair .str (.pair (.int .i64) (.pair .str .unit)))) l) := by
  refine Sz.step ?_
  simp only [laws_szMatcherS.step]
  have b1 : l.length ≤ 9223372036854775807 := by have := hw.1; simp only [maxLen] at this; omega
  have e1 : IntKind.wrap .i64 (left - ((List.length l) : Int)) = left - ((List.length l) : Int) := i64_ok (by omega) (by omega)
  simp only [e1]
  by_cases c1 : left - ((List.length l) : Int) < 0
  · exact Sz.yes (by simpa using c1) (Sz.neg h0)
  refine Sz.no (by simpa using c1) ?_
  refine ((laws_szMatcherS.loop l (by omega) hw.2 l.length 0 _ (by omega) (by omega) (by omega)).le (by omega)).imp fun hq => ⟨by omega, fun x hx => ?_⟩
  obtain ⟨j, hj, rfl⟩ := List.getElem_of_mem hx
  have := hq j (by omega) hj
  rwa [List.getD_eq_getElem?_getD, List.getElem?_eq_getElem hj] at this
theorem laws_szStringS.loop (l : List (ByteArray)) (hl : l.length ≤ 1048576) (hw : ∀ x ∈ l, Wf .str x) : ∀ d i (left : Int), i + d = l.length → 0 ≤ left → left ≤ 1048576 → Sz (fun n => goRec laws_szStringS.step n (.p17 l left (i : Int))) left (∀ j, i ≤ j → j < l.length → Sm 1048576 .str (l.getD j default)) := by
  intro d
  induction d with
  | zero =>
    intro i left h h0 h1
    rw [Nat.add_zero] at h
    subst h
    refine Sz.step ?_
    simp only [laws_szStringS.step]
    exact Sz.no lt_no ⟨left, Ev.pure, Int.le_refl _, fun _ j h1 h2 => by omega⟩
  | succ d ih =>
    intro i left h h0 h1
    have hi : i < l.length := by omega
    refine Sz.step ?_
    simp only [laws_szStringS.step, toNat_cast]
    refine Sz.yes (lt_yes hi) (Sz.yes (inB_nat hi) ?_)
    have b1 : ByteArray.size (l.getD i default) ≤ 9223372036854775807 := by have := hw _ (getD_mem hi (d := default)); simp only [Wf, maxLen] at this; omega
    have e1 : IntKind.wrap .i64 (left - ((ByteArray.size (l.getD i default)) : Int)) = left - ((ByteArray.size (l.getD i default)) : Int) := i64_ok (by omega) (by omega)
    simp only [e1]
    by_cases c1 : (left - ((ByteArray.size (l.getD i default)) : Int)) < 0
    · exact Sz.yes (by simpa using c1) (Sz.neg h0)
    refine Sz.no (by simpa using c1) ?_
    rw [i64_nat (by omega)]
    have := ih (i + 1) (left - ((ByteArray.size (l.getD i default)) : Int)) (by omega) (by omega) (by omega)
    refine (this.le (by omega)).imp fun hq j h2 h3 => ?_
    rcases Nat.eq_or_lt_of_le h2 with rfl | h2
    · show ByteArray.size _ ≤ 1048576
      omega
    · exact hq j h2 h3
theorem laws_szStringS.ev (l : List (ByteArray)) (left : Int) (h0 : 0 ≤ left) (h1 : left ≤ 1048576) (hw : Wf (.sl false .str) l) : Sz (fun n => laws_szStringS n l left) left (Sm 1048576 (.sl false .str) l) := by
  refine Sz.step ?_
  simp only [laws_szStringS.step]
  have b1 : l.length ≤ 9223372036854775807 := by have := hw.1; simp only [maxLen] at this; omega
  have e1 : IntKind.wrap .i64 (left - ((List.length l) : Int)) = left - ((List.length l) : Int) := i64_ok (by omega) (by omega)
  simp only [e1]
  by_cases c1 : left - ((List.length l) : Int) < 0
  · exact Sz.yes (by simpa using c1) (Sz.neg h0)
  refine Sz.no (by simpa using c1) ?_
  refine ((laws_szStringS.loop l (by omega) hw.2 l.length 0 _ (by omega) (by omega) (by omega)).le (by omega)).imp fun hq => ⟨by omega, fun x hx => ?_⟩
  obtain ⟨j, hj, rfl⟩ := List.getElem_of_mem hx
  have := hq j (by omega) hj
  rwa [List.getD_eq_getElem?_getD, List.getElem?_eq_getElem hj] at this
theorem laws_szIntS.ev (l : List (Int)) (left : Int) (h0 : 0 ≤ left) (h1 : left ≤ 1048576) (hw : Wf (.sl false (.int .i64)) l) : Sz (fun n => laws_szIntS n l left) left (Sm 1048576 (.sl false (.int .i64)) l) := by
  refine Sz.step ?_
  simp only [laws_szIntS.step]
  have b1 : l.length ≤ 9223372036854775807 := by have := hw.1; simp only [maxLen] at this; omega
  have e1 : IntKind.wrap .i64 (left - ((List.length l) : Int)) = left - ((List.length l) : Int) := i64_ok (by omega) (by omega)
  simp only [e1]
  by_cases c1 : left - ((List.length l) : Int) < 0
  · exact Sz.yes (by simpa using c1) (Sz.neg h0)
  refine Sz.no (by simpa using c1) ?_
  exact ⟨_, Ev.pure, by omega, fun _ => ⟨by omega, fun x _ => trivial⟩⟩
theorem laws_szRoute.ev (x : (ByteArray) × ((List ((ByteArray) × ((Int) × ((ByteArray) × (Unit))))) × ((List (ByteArray)) × ((Int) × ((Int) × ((Int) × ((List (Int)) × ((Bool) × ((Int) × (Unit)))))))))) (left : Int) (h0 : 0 ≤ left) (h1 : left ≤ 1048576) (hw : Wf (.pair .str (.pair (.sl false (.pair .str (.pair (.int .i64) (.pair .str .unit)))) (.pair (.sl false .str) (.pair (.int .i64) (.pair (.int .i64) (.pair (.int .i64) (.pair (.sl false (.int .i64)) (.pair .bool (.pair (.int .i64) .unit))))))))) x) : Sz (fun n => laws_szRoute n x left) left (Sm 1048576 (.pair .str (.pair (.sl false (.pair .str (.pair (.int .i64) (.pair .str .unit)))) (.pair (.sl false .str) (.pair (.int .i64) (.pair (.int .i64) (.pair (.int .i64) (.pair (.sl false (.int .i64)) (.pair .bool (.pair (.int .i64) .unit))))))))) x) := by
  refine Sz.step ?_
  simp only [laws_szRoute.step]
  have b1 : ByteArray.size x.1 ≤ 9223372036854775807 := by have := hw.1; simp only [Wf, maxLen] at this; omega
  have e1 : IntKind.wrap .i64 (left - ((ByteArray.size x.1) : Int)) = left - ((ByteArray.size x.1) : Int) := i64_ok (by omega) (by omega)
  simp only [e1]
  by_cases c1 : (left - ((ByteArray.size x.1) : Int)) < 0
  · exact Sz.yes (by simpa using c1) (Sz.neg h0)
  refine Sz.no (by simpa using c1) ?_
  obtain ⟨r2, k2, m2, q2⟩ := laws_szMatcherS.ev x.2.1 (left - ((ByteArray.size x.1) : Int)) (by omega) (by omega) hw.2.1
  refine Sz.bind k2 ?_
  by_cases c2 : r2 < 0
  · exact Sz.yes (by simpa using c2) (Sz.neg h0)
  refine Sz.no (by simpa using c2) ?_
  obtain ⟨r3, k3, m3, q3⟩ := laws_szStringS.ev x.2.2.1 r2 (by omega) (by omega) hw.2.2.1
  refine Sz.bind k3 ?_
  by_cases c3 : r3 < 0
  · exact Sz.yes (by simpa using c3) (Sz.neg h0)
  refine Sz.no (by simpa using c3) ?_
  obtain ⟨r4, k4, m4, q4⟩ := laws_szIntS.ev x.2.2.2.2.2.2.1 r3 (by omega) (by omega) hw.2.2.2.2.2.2.1
  refine Sz.bind k4 ?_
  by_cases c4 : r4 < 0
  · exact Sz.yes (by simpa using c4) (Sz.neg h0)
  refine Sz.no (by simpa using c4) ?_
  exact ⟨r4, Ev.pure, by omega, fun _ => ⟨(show ByteArray.size x.1 ≤ 1048576 by omega), ⟨(q2 (by omega)), ⟨(q3 (by omega)), ⟨trivial, ⟨trivial, ⟨trivial, ⟨(q4 (by omega)), ⟨trivial, ⟨trivial, trivial⟩⟩⟩⟩⟩⟩⟩⟩⟩⟩
theorem laws_szRouteS.loop (l : List ((ByteArray) × ((List ((ByteArray) × ((Int) × ((ByteArray) × (Unit))))) × ((List (ByteArray)) × ((Int) × ((Int) × ((Int) × ((List (Int)) × ((Bool) × ((Int) × (Unit))))))))))) (hl : l.length ≤ 1048576) (hw : ∀ x ∈ l, Wf (.pair .str (.pair (.sl false (.pair .str (.pair (.int .i64) (.pair .str .unit)))) (.pair (.sl false .str) (.pair (.int .i64) (.pair (.int .i64) (.pair (.int .i64) (.pair (.sl false (.int .i64)) (.pair .bool (.pair (.int .i64) .unit))))))))) x) : ∀ d i (left : Int), i + d = l.length → 0 ≤ left → left ≤ 1048576 → Sz (fun n => goRec laws_szRouteS.step n (.p17 l left (i : Int))) left (∀ j, i ≤ j → j < l.length → Sm 1048576 (.pair .str (.pair (.sl false (.pair .str (.pair (.int .i64) (.pair .str .unit)))) (.pair (.sl false .str) (.pair (.int .i64) (.pair (.int .i64) (.pair (.int .i64) (.pair (.sl false (.int .i64)) (.pair .bool (.pair (.int .i64) .unit))))))))) (l.getD j default)) := by
  intro d
  induction d with
  | zero =>
    intro i left h h0 h1
    rw [Nat.add_zero] at h
    subst h
    refine Sz.step ?_
    simp only [laws_szRouteS.step]
    exact Sz.no lt_no ⟨left, Ev.pure, Int.le_refl _, fun _ j h1 h2 => by omega⟩
  | succ d ih =>
    intro i left h h0 h1
    have hi : i < l.length := by omega
    refine Sz.step ?_
    simp only [laws_szRouteS.step, toNat_cast]
    refine Sz.yes (lt_yes hi) (Sz.yes (inB_nat hi) ?_)
    obtain ⟨r1, k1, m1, q1⟩ := laws_szRoute.ev (l.getD i default) left h0 h1 (hw _ (getD_mem hi))
    refine Sz.bind k1 ?_
    by_cases c1 : r1 < 0
    · exact Sz.yes (by simpa using c1) (Sz.neg h0)
    refine Sz.no (by simpa using c1) ?_
    rw [i64_nat (by omega)]
    have := ih (i + 1) r1 (by omega) (by omega) (by omega)
    refine (this.le m1).imp fun hq j h2 h3 => ?_
    rcases Nat.eq_or_lt_of_le h2 with rfl | h2
    · exact q1 (by omega)
    · exact hq j h2 h3
theorem laws_szRouteS.ev (l : List ((ByteArray) × ((List ((ByteArray) × ((Int) × ((ByteArray) × (Unit))))) × ((List (ByteArray)) × ((Int) × ((Int) × ((Int) × ((List (Int)) × ((Bool) × ((Int) × (Unit))))))))))) (left : Int) (h0 : 0 ≤ left) (h1 : left ≤ 1048576) (hw : Wf (.sl false (.pair .str (.pair (.sl false (.pair .str (.pair (.int .i64) (.pair .str .unit)))) (.pair (.sl false .str) (.pair (.int .i64) (.pair (.int .i64) (.pair (.int .i64) (.pair (.sl false (.int .i64)) (.pair .bool (.pair (.int .i64) .unit)))))))))) l) : Sz (fun n => laws_szRouteS n l left) left (Sm 1048576 (.sl false (.pair .str (.pair (.sl false (.pair .str (.pair (.int .i64) (.pair .str .unit)))) (.pair (.sl false .str) (.pair (.int .i64) (.pair (.int .i64) (.pair (.int .i64) (.pair (.sl false (.int .i64)) (.pair .bool (.pair (.int .i64) .unit)))))))))) l) := by
  refine Sz.step ?_
  simp only [laws_szRouteS.step]
  have b1 : l.length ≤ 9223372036854775807 := by have := hw.1; simp only [maxLen] at this; omega
  have e1 : IntKind.wrap .i64 (left - ((List.length l) : Int)) = left - ((List.length l) : Int) := i64_ok (by omega) (by omega)
  simp only [e1]
  by_cases c1 : left - ((List.length l) : Int) < 0
  · exact Sz.yes (by simpa using c1) (Sz.neg h0)
  refine Sz.no (by simpa using c1) ?_
  refine ((laws_szRouteS.loop l (by omega) hw.2 l.length 0 _ (by omega) (by omega) (by omega)).le (by omega)).imp fun hq => ⟨by omega, fun x hx => ?_⟩
  obtain ⟨j, hj, rfl⟩ := List.getElem_of_mem hx
  have := hq j (by omega) hj
  rwa [List.getD_eq_getElem?_getD, List.getElem?_eq_getElem hj] at this
theorem laws_toMatcher.ev (x : (ByteArray) × ((Int) × ((ByteArray) × (Unit)))) (h : Sm 1048576 (.pair .str (.pair (.int .i64) (.pair .str .unit))) x) : Ev (fun n => laws_toMatcher n x) x := by
  refine Ev.step ?_
  simp only [laws_toMatcher.step]
  exact Ev.pure
theorem laws_toMatcherS.loop (l : List ((ByteArray) × ((Int) × ((ByteArray) × (Unit))))) (h : Sm 1048576 (.sl false (.pair .str (.pair (.int .i64) (.pair .str .unit)))) l) : ∀ d i (out : List ((ByteArray) × ((Int) × ((ByteArray) × (Unit))))), i + d = l.length → out.length = l.length → (∀ j, j < i → out.getD j default = l.getD j default) → Ev (fun n => goRec laws_toMatcherS.step n (.p9 l (i : Int) out)) l := by
  have hl : l.length ≤ 1048576 := h.1
  intro d
  induction d with
  | zero =>
    intro i out hd ho hj
    rw [Nat.add_zero] at hd
    subst hd
    refine Ev.step ?_
    simp only [laws_toMatcherS.step]
    exact Ev.no lt_no (Ev.pure' (ext_getD ho hj))
  | succ d ih =>
    intro i out hd ho hj
    have hi : i < l.length := by omega
    refine Ev.step ?_
    simp only [laws_toMatcherS.step, toNat_cast, Nat.zero_add]
    refine Ev.yes (lt_yes hi) (Ev.yes (inB_nat hi) ?_)
    refine Ev.bind (laws_toMatcher.ev (l.getD i default) (h.2 _ (getD_mem hi))) ?_
    refine Ev.yes (inB_nat (by omega)) ?_
    rw [i64_nat (by omega)]
    refine ih (i + 1) _ (by omega) (by simpa using ho) fun j hj2 => ?_
    by_cases e : j = i
    · subst e; rw [getD_set_same (by omega)]
    · rw [getD_set_other e]; exact hj j (by omega)
theorem laws_toMatcherS.ev (l : List ((ByteArray) × ((Int) × ((ByteArray) × (Unit))))) (h : Sm 1048576 (.sl false (.pair .str (.pair (.int .i64) (.pair .str .unit)))) l) : Ev (fun n => laws_toMatcherS n l) l := by
  have hl : l.length ≤ 1048576 := h.1
  refine Ev.step ?_
  simp only [laws_toMatcherS.step, toNat_cast]
  refine Ev.yes (inC_nat (Nat.le_refl _) (by omega)) ?_
  exact laws_toMatcherS.loop l h l.length 0 _ (by omega) (by simp) (by omega)
theorem laws_toStringS.loop (l : List (ByteArray)) (h : Sm 1048576 (.sl false .str) l) : ∀ d i (out : List (ByteArray)), i + d = l.length → out.length = l.length → (∀ j, j < i → out.getD j default = l.getD j default) → Ev (fun n => goRec laws_toStringS.step n (.p9 l (i : Int) out)) l := by
  have hl : l.length ≤ 1048576 := h.1
  intro d
  induction d with
  | zero =>
    intro i out hd ho hj
    rw [Nat.add_zero] at hd
    subst hd
    refine Ev.step ?_
    simp only [laws_toStringS.step]
    exact Ev.no lt_no (Ev.pure' (ext_getD ho hj))
  | succ d ih =>
    intro i out hd ho hj
    have hi : i < l.length := by omega
    refine Ev.step ?_
    simp only [laws_toStringS.step, toNat_cast, Nat.zero_add]
    refine Ev.yes (lt_yes hi) (Ev.yes (inB_nat hi) ?_)
    refine Ev.yes (inB_nat (by omega)) ?_
    rw [i64_nat (by omega)]
    refine ih (i + 1) _ (by omega) (by simpa using ho) fun j hj2 => ?_
    by_cases e : j = i
    · subst e; rw [getD_set_same (by omega)]
    · rw [getD_set_other e]; exact hj j (by omega)
theorem laws_toStringS.ev (l : List (ByteArray)) (h : Sm 1048576 (.sl false .str) l) : Ev (fun n => laws_toStringS n l) l := by
  have hl : l.length ≤ 1048576 := h.1
  refine Ev.step ?_
  simp only [laws_toStringS.step, toNat_cast]
  refine Ev.yes (inC_nat (Nat.le_refl _) (by omega)) ?_
  exact laws_toStringS.loop l h l.length 0 _ (by omega) (by simp) (by omega)
theorem laws_toIntS.loop (l : List (Int)) (h : Sm 1048576 (.sl false (.int .i64)) l) : ∀ d i (out : List (Int)), i + d = l.length → out.length = l.length → (∀ j, j < i → out.getD j default = l.getD j default) → Ev (fun n => goRec laws_toIntS.step n (.p9 l (i : Int) out)) l := by
  have hl : l.length ≤ 1048576 := h.1
  intro d
  induction d with
  | zero =>
    intro i out hd ho hj
    rw [Nat.add_zero] at hd
    subst hd
    refine Ev.step ?_
    simp only [laws_toIntS.step]
    exact Ev.no lt_no (Ev.pure' (ext_getD ho hj))
  | succ d ih =>
    intro i out hd ho hj
    have hi : i < l.length := by omega
    refine Ev.step ?_
    simp only [laws_toIntS.step, toNat_cast, Nat.zero_add]
    refine Ev.yes (lt_yes hi) (Ev.yes (inB_nat hi) ?_)
    refine Ev.yes (inB_nat (by omega)) ?_
    rw [i64_nat (by omega)]
    refine ih (i + 1) _ (by omega) (by simpa using ho) fun j hj2 => ?_
    by_cases e : j = i
    · subst e; rw [getD_set_same (by omega)]
    · rw [getD_set_other e]; exact hj j (by omega)
theorem laws_toIntS.ev (l : List (Int)) (h : Sm 1048576 (.sl false (.int .i64)) l) : Ev (fun n => laws_toIntS n l) l := by
  have hl : l.length ≤ 1048576 := h.1
  refine Ev.step ?_
  simp only [laws_toIntS.step, toNat_cast]
  refine Ev.yes (inC_nat (Nat.le_refl _) (by omega)) ?_
  exact laws_toIntS.loop l h l.length 0 _ (by omega) (by simp) (by omega)
theorem laws_toRoute.ev (x : (ByteArray) × ((List ((ByteArray) × ((Int) × ((ByteArray) × (Unit))))) × ((List (ByteArray)) × ((Int) × ((Int) × ((Int) × ((List (Int)) × ((Bool) × ((Int) × (Unit)))))))))) (h : Sm 1048576 (.pair .str (.pair (.sl false (.pair .str (.pair (.int .i64) (.pair .str .unit)))) (.pair (.sl false .str) (.pair (.int .i64) (.pair (.int .i64) (.pair (.int .i64) (.pair (.sl false (.int .i64)) (.pair .bool (.pair (.int .i64) .unit))))))))) x) : Ev (fun n => laws_toRoute n x) x := by
  refine Ev.step ?_
  simp only [laws_toRoute.step]
  refine Ev.bind (laws_toMatcherS.ev x.2.1 h.2.1) ?_
  refine Ev.bind (laws_toStringS.ev x.2.2.1 h.2.2.1) ?_
  refine Ev.bind (laws_toIntS.ev x.2.2.2.2.2.2.1 h.2.2.2.2.2.2.1) ?_
  exact Ev.pure
theorem laws_toRouteS.loop (l : List ((ByteArray) × ((List ((ByteArray) × ((Int) × ((ByteArray) × (Unit))))) × ((List (ByteArray)) × ((Int) × ((Int) × ((Int) × ((List (Int)) × ((Bool) × ((Int) × (Unit))))))))))) (h : Sm 1048576 (.sl false (.pair .str (.pair (.sl false (.pair .str (.pair (.int .i64) (.pair .str .unit)))) (.pair (.sl false .str) (.pair (.int .i64) (.pair (.int .i64) (.pair (.int .i64) (.pair (.sl false (.int .i64)) (.pair .bool (.pair (.int .i64) .unit)))))))))) l) : ∀ d i (out : List ((ByteArray) × ((List ((ByteArray) × ((Int) × ((ByteArray) × (Unit))))) × ((List (ByteArray)) × ((Int) × ((Int) × ((Int) × ((List (Int)) × ((Bool) × ((Int) × (Unit))))))))))), i + d = l.length → out.length = l.length → (∀ j, j < i → out.getD j default = l.getD j default) → Ev (fun n => goRec laws_toRouteS.step n (.p9 l (i : Int) out)) l := by
  have hl : l.length ≤ 1048576 := h.1
  intro d
  induction d with
  | zero =>
    intro i out hd ho hj
    rw [Nat.add_zero] at hd
    subst hd
    refine Ev.step ?_
    simp only [laws_toRouteS.step]
    exact Ev.no lt_no (Ev.pure' (ext_getD ho hj))
  | succ d ih =>
    intro i out hd ho hj
    have hi : i < l.length := by omega
    refine Ev.step ?_
    simp only [laws_toRouteS.step, toNat_cast, Nat.zero_add]
    refine Ev.yes (lt_yes hi) (Ev.yes (inB_nat hi) ?_)
    refine Ev.bind (laws_toRoute.ev (l.getD i default) (h.2 _ (getD_mem hi))) ?_
    refine Ev.yes (inB_nat (by omega)) ?_
    rw [i64_nat (by omega)]
    refine ih (i + 1) _ (by omega) (by simpa using ho) fun j hj2 => ?_
    by_cases e : j = i
    · subst e; rw [getD_set_same (by omega)]
    · rw [getD_set_other e]; exact hj j (by omega)
theorem laws_toRouteS.ev (l : List ((ByteArray) × ((List ((ByteArray) × ((Int) × ((ByteArray) × (Unit))))) × ((List (ByteArray)) × ((Int) × ((Int) × ((Int) × ((List (Int)) × ((Bool) × ((Int) × (Unit))))))))))) (h : Sm 1048576 (.sl false (.pair .str (.pair (.sl false (.pair .str (.pair (.int .i64) (.pair .str .unit)))) (.pair (.sl false .str) (.pair (.int .i64) (.pair (.int .i64) (.pair (.int .i64) (.pair (.sl false (.int .i64)) (.pair .bool (.pair (.int .i64) .unit)))))))))) l) : Ev (fun n => laws_toRouteS n l) l := by
  have hl : l.length ≤ 1048576 := h.1
  refine Ev.step ?_
  simp only [laws_toRouteS.step, toNat_cast]
  refine Ev.yes (inC_nat (Nat.le_refl _) (by omega)) ?_
  exact laws_toRouteS.loop l h l.length 0 _ (by omega) (by simp) (by omega)
theorem spec_l2Digit.ev (b : Int) : Ev (fun n => spec_l2Digit n b) (digitB b) := by
  refine Ev.step ?_
  simp only [spec_l2Digit.step]
  exact Ev.cnd (fun h => Ev.pure' (by simp [digitB, h])) fun h => Ev.pure' (by simp [digitB, h])
theorem spec_l2Letter.ev (b : Int) : Ev (fun n => spec_l2Letter n b) (letterB b) := by
  refine Ev.step ?_
  simp only [spec_l2Letter.step]
  refine Ev.cnd (fun h => Ev.cnd (fun h2 => Ev.pure' (by simp [letterB, h, h2])) fun h2 => Ev.cnd (fun h3 => Ev.pure' (by simp [letterB, h, h2, h3])) fun h3 => Ev.pure' (by simp [letterB, h, h2, h3])) fun h => Ev.cnd (fun h3 => Ev.pure' (by simp [letterB, h, h3])) fun h3 => Ev.pure' (by simp [letterB, h, h3])
theorem spec_l2Name.ev (s : ByteArray) (hs : s.size ≤ 1048576) : Ev (fun n => spec_l2Name n s) (nameB s) := by
  have go : Ev (fun n => goRec spec_l2Name.step n (spec_l2Name.Pt.p15 s 0)) (allB wordB s) := by
    refine Ev.allN (pt := fun i : Nat => spec_l2Name.Pt.p15 s (i : Int)) (fun i hi => ⟨fun hp v hv => ?_, fun hp => ?_⟩) ?_
    · refine Ev.step ?_
      simp only [spec_l2Name.step]
      have h24 : Ev (fun n => goRec spec_l2Name.step n (spec_l2Name.Pt.p24 s (i : Int) false)) v := by
        refine Ev.step ?_
        simp only [spec_l2Name.step, i64_nat (show i ≤ 4611686018427387904 by omega)]
        exact Ev.no rfl hv
      refine Ev.yes (lt_yes hi) (Ev.yes (inB_nat hi) (Ev.bind (spec_l2Letter.ev _) (Ev.cnd (fun h => Ev.yes (inB_nat hi) (Ev.bind (spec_l2Digit.ev _) (Ev.cnd (fun h2 => Ev.yes (inB_nat hi) ?_) fun h2 => h24))) fun h => h24)))
      have : (!decide (bt s i = 95)) = false := by simp [wordB] at hp h h2 ⊢; simp [h, h2] at hp; exact hp
      rw [this]; exact h24
    · refine Ev.step ?_
      simp only [spec_l2Name.step]
      simp [wordB] at hp
      refine Ev.yes (lt_yes hi) (Ev.yes (inB_nat hi) (Ev.bind (spec_l2Letter.ev _) (Ev.yes (by simp [hp]) (Ev.yes (inB_nat hi) (Ev.bind (spec_l2Digit.ev _) (Ev.yes (by simp [hp]) (Ev.yes (inB_nat hi) ?_)))))))
      refine Ev.step ?_
      simp only [spec_l2Name.step]
      exact Ev.yes (by simp [hp]) Ev.pure
    · refine Ev.step ?_
      simp only [spec_l2Name.step]
      exact Ev.no lt_no Ev.pure
  refine Ev.step ?_
  simp only [spec_l2Name.step]
  have bad : nameB s = false → Ev (fun n => goRec spec_l2Name.step n (spec_l2Name.Pt.p4 s true)) (nameB s) := fun h => by
    refine Ev.step ?_
    simp only [spec_l2Name.step]
    exact Ev.yes rfl (Ev.pure' h.symm)
  refine Ev.cnd (fun h => bad ?_) fun h => Ev.cnd (fun h2 => bad ?_) fun h2 => Ev.yes ?_ (Ev.bind (spec_l2Digit.ev _) (Ev.step ?_))
  · have : ¬ 1 ≤ s.size := by simp at h; omega
    simp [nameB, this]
  · have : ¬ s.size ≤ 40 := by simp at h2; omega
    simp [nameB, this]
  · simp at h; exact inB_zero (by omega)
  · have h1 : 1 ≤ s.size := by simp at h; omega
    have h3 : s.size ≤ 40 := by simp at h2; omega
    simp only [spec_l2Name.step]
    refine Ev.cnd (fun h4 => Ev.pure' (by simp [nameB, h4])) fun h4 => Ev.of_eq go ?_
    simp [nameB, h1, h3, h4]
theorem spec_l2Printed.ev (s : ByteArray) (hs : s.size ≤ 1048576) : Ev (fun n => spec_l2Printed n s) (printB s) := by
  refine Ev.step ?_
  simp only [spec_l2Printed.step]
  refine Ev.allN (pt := fun i : Nat => spec_l2Printed.Pt.p7 s (i : Int)) (fun i hi => ⟨fun hp v hv => ?_, fun hp => ?_⟩) ?_
  · refine Ev.step ?_
    simp only [Bool.and_eq_true, decide_eq_true_eq] at hp
    simp only [spec_l2Printed.step, i64_nat (show i ≤ 4611686018427387904 by omega)]
    exact Ev.yes (lt_yes hi) (Ev.yes (inB_nat hi) (Ev.no (by simp; omega) (Ev.yes (inB_nat hi) (Ev.no (by simp; omega) hv))))
  · refine Ev.step ?_
    simp only [spec_l2Printed.step]
    refine Ev.yes (lt_yes hi) (Ev.yes (inB_nat hi) (Ev.cnd (fun _ => Ev.pure) fun h => Ev.yes (inB_nat hi) (Ev.yes ?_ Ev.pure)))
    simp at hp h ⊢; omega
  · refine Ev.step ?_
    simp only [spec_l2Printed.step]
    exact Ev.no lt_no Ev.pure
theorem spec_l2Alternatives.loop (s : ByteArray) (hs : s.size ≤ 100) : ∀ d i out now, s.size ≤ i + d → i ≤ s.size → out.length ≤ i → now.length ≤ i → Ev (fun n => goRec spec_l2Alternatives.step n (spec_l2Alternatives.Pt.p19 s (i : Int) out now)) (altR (pat ((octs s).drop i) out now)) := by
  intro d
  induction d with
  | zero =>
    intro i out now h h1 h2 h3
    obtain rfl : i = s.size := by omega
    refine Ev.step ?_
    simp only [spec_l2Alternatives.step]
    refine Ev.no lt_no (Ev.yes (room_ok (by simp; omega)) (Ev.pure' ?_))
    rw [octs_nil, pat_nil]; rfl
  | succ d ih =>
    intro i out now h h1 h2 h3
    rcases Nat.eq_or_lt_of_le h1 with rfl | hi
    · refine Ev.step ?_
      simp only [spec_l2Alternatives.step]
      refine Ev.no lt_no (Ev.yes (room_ok (by simp; omega)) (Ev.pure' ?_))
      rw [octs_nil, pat_nil]; rfl
    refine Ev.step ?_
    simp only [spec_l2Alternatives.step, i64_bt, i64_nat (show i ≤ 4611686018427387904 by omega)]
    rw [octs_drop hi, pat_cons]
    refine Ev.yes (lt_yes hi) (Ev.yes (inB_nat hi) (Ev.cnd (fun c => ?_) fun c => Ev.cnd (fun c2 => ?_) fun c2 => Ev.cnd (fun c3 => ?_) fun c3 => Ev.cnd (fun c4 => ?_) fun c4 => ?_))
    · rw [if_pos (by simpa using c)]
      exact Ev.yes (room_ok (by simp; omega)) (ih (i + 1) _ _ (by omega) (by omega) (by simp; omega) (by simp))
    · rw [if_neg (by simpa using c), if_pos (by simpa using c2)]
      exact Ev.yes (room_ok (by simp; omega)) (ih (i + 1) _ _ (by omega) (by omega) (by omega) (by simp; omega))
    · rw [if_neg (by simpa using c), if_neg (by simpa using c2), if_pos (by simpa using c3)]
      exact Ev.yes (room_ok (by simp; omega)) (ih (i + 1) _ _ (by omega) (by omega) (by omega) (by simp; omega))
    · rw [if_neg (by simpa using c), if_neg (by simpa using c2), if_neg (by simpa using c3), if_pos (by simpa using c4)]
      have bad : ∀ j : Int, Ev (fun n => goRec spec_l2Alternatives.step n (spec_l2Alternatives.Pt.p51 s j true out now)) (altR none) := fun j => by
        refine Ev.step ?_
        simp only [spec_l2Alternatives.step]
        exact Ev.yes rfl Ev.pure
      refine Ev.cnd (fun e => ?_) fun e => ?_
      · have e : i + 1 = s.size := by simp at e; omega
        rw [show (octs s).drop (i + 1) = [] by rw [e, octs_nil]]
        exact bad _
      · have hi1 : i + 1 < s.size := by simp at e; omega
        rw [octs_drop hi1]
        simp only
        have hr := bt_range (s := s) (i := ((i + 1 : Nat) : Int))
        generalize hq : bt s ((i + 1 : Nat) : Int) = q at hr
        have good : (q = 42 ∨ q = 63 ∨ q = 124 ∨ q = 92) →
            Ev (fun n => goRec spec_l2Alternatives.step n (spec_l2Alternatives.Pt.p51 s ((i + 1 : Nat) : Int) false out now)) (altR (if q = 42 ∨ q = 63 ∨ q = 124 ∨ q = 92 then pat ((octs s).drop (i + 1 + 1)) out (now ++ [q]) else none)) := by
          intro hg
          rw [if_pos hg]
          refine Ev.step ?_
          simp only [spec_l2Alternatives.step, i64_bt]
          simp only [hq, i64_nat (show i + 1 ≤ 4611686018427387904 by omega)]
          exact Ev.no rfl (Ev.yes (inB_nat hi1) (Ev.yes (room_ok (by simp; omega)) (ih (i + 1 + 1) out (now ++ [q]) (by omega) (by omega) (by omega) (by simp; omega))))
        refine Ev.yes (inB_nat hi1) (Ev.cnd (fun e1 => Ev.yes (inB_nat hi1) (Ev.cnd (fun e2 => Ev.yes (inB_nat hi1) (Ev.cnd (fun e3 => Ev.yes (inB_nat hi1) ?_) fun e3 => good ?_)) fun e2 => good ?_)) fun e1 => good ?_)
        · by_cases e4 : q = 92
          · rw [show (!decide (q = 92)) = false by simp [e4]]
            exact good (.inr (.inr (.inr e4)))
          · rw [show (!decide (q = 92)) = true by simp [e4], if_neg (by simp at e1 e2 e3; simp [e1, e2, e3, e4])]
            exact bad _
        · exact .inr (.inr (.inl (by simpa using e3)))
        · exact .inr (.inl (by simpa using e2))
        · exact .inl (by simpa using e1)
    · rw [if_neg (by simpa using c), if_neg (by simpa using c2), if_neg (by simpa using c3), if_neg (by simpa using c4)]
      exact Ev.yes (inB_nat hi) (Ev.yes (room_ok (by simp; omega)) (ih (i + 1) _ _ (by omega) (by omega) (by omega) (by simp; omega)))
theorem spec_l2Alternatives.ev (s : ByteArray) (hs : s.size ≤ 1048576) : Ev (fun n => spec_l2Alternatives n s) (altR (alts s)) := by
  refine Ev.step ?_
  simp only [spec_l2Alternatives.step]
  refine Ev.cnd (fun h => ?_) fun h => Ev.bind (spec_l2Printed.ev s hs) (Ev.step ?_)
  · refine Ev.step ?_
    simp only [spec_l2Alternatives.step]
    refine Ev.yes rfl (Ev.pure' ?_)
    rw [alts, if_neg (by simp at h; omega)]; rfl
  · have h : s.size ≤ 100 := by simp at h; omega
    simp only [spec_l2Alternatives.step]
    refine Ev.cnd (fun h2 => Ev.pure' ?_) fun h2 => ?_
    · rw [alts, if_neg (by simp at h2; simp [h2])]; rfl
    · rw [alts, if_pos ⟨h, by simpa using h2⟩]
      exact spec_l2Alternatives.loop s h s.size 0 [] [] (by omega) (by omega) (by simp) (by simp)
theorem spec_GoodPattern.ev (s : ByteArray) (hs : s.size ≤ 1048576) : Ev (fun n => spec_GoodPattern n s) (alts s).isSome := by
  refine Ev.step ?_
  simp only [spec_GoodPattern.step]
  refine Ev.bind (spec_l2Alternatives.ev s hs) (Ev.pure' ?_)
  cases alts s <;> rfl
theorem spec_GoodMatchers.ev (l : List MT) (h : Sm 1048576 (.sl false MU) l) : Ev (fun n => spec_GoodMatchers n l) (matchersB l) := by
  have hl : l.length ≤ 1048576 := h.1
  refine Ev.step ?_
  simp only [spec_GoodMatchers.step]
  refine Ev.cnd (fun c => Ev.pure' ?_) fun c => ?_
  · have : ¬ l.length ≤ 10 := by simp at c; omega
    simp [matchersB, this]
  have h10 : l.length ≤ 10 := by simp at c; omega
  simp only [matchersB, h10, decide_true, Bool.true_and]
  have go : ∀ i v, i < l.length → (matcherB (l.getD i default) = true → Ev (fun n => goRec spec_GoodMatchers.step n (spec_GoodMatchers.Pt.p15 l (l.length : Int) ((i + 1 : Nat) : Int))) v) → (matcherB (l.getD i default) = false → v = false) →
      Ev (fun n => goRec spec_GoodMatchers.step n (spec_GoodMatchers.Pt.p15 l (l.length : Int) (i : Int))) v := by
    intro i v hi hv hv2
    have hx := h.2 _ (getD_mem (d := default) hi)
    generalize hxe : l.getD i default = x at hv hv2 hx
    have h26 : ∀ b, (b = !matcherB x) → Ev (fun n => goRec spec_GoodMatchers.step n (spec_GoodMatchers.Pt.p26 l (l.length : Int) (i : Int) b)) v := by
      rintro b rfl
      refine Ev.step ?_
      simp only [spec_GoodMatchers.step, i64_nat (show i ≤ 4611686018427387904 by omega)]
      refine Ev.cnd (fun e => Ev.pure' (hv2 (by simpa using e)).symm) fun e => hv (by simpa using e)
    refine Ev.step ?_
    simp only [spec_GoodMatchers.step, toNat_cast, hxe]
    refine Ev.yes (lt_yes hi) (Ev.yes (inB_nat hi) ?_)
    refine Ev.bind (spec_l2Name.ev _ hx.1) (Ev.cnd (fun e => h26 _ (by simp [matcherB]; simp at e; simp [e])) fun e1 => Ev.cnd (fun e => h26 _ (by simp [matcherB]; simp at e; omega)) fun e2 => Ev.cnd (fun e => h26 _ (by simp [matcherB]; simp at e; omega)) fun e3 => Ev.cnd (fun e => h26 _ (by simp [matcherB]; simp at e; omega)) fun e4 => ?_)
    refine Ev.bind (spec_l2Printed.ev _ hx.2.2.1) (Ev.cnd (fun e => h26 _ (by simp [matcherB]; simp at e; simp [e])) fun e5 => Ev.cnd (fun e6 => Ev.bind (spec_GoodPattern.ev _ hx.2.2.1) (h26 _ ?_)) fun e6 => h26 _ ?_)
    · simp at e1 e2 e3 e4 e5 e6
      have a1 : x.2.2.1.size ≤ 100 := by omega
      have a2 : ¬ x.2.1 < 3 := by omega
      simp [matcherB, e1, e2, e3, a1, e5, a2]
    · simp at e1 e2 e3 e4 e5 e6
      have a1 : x.2.2.1.size ≤ 100 := by omega
      simp [matcherB, e1, e2, e3, a1, e5, e6]
  refine Ev.allN (pt := fun i : Nat => spec_GoodMatchers.Pt.p15 l (l.length : Int) (i : Int)) (fun i hi => ⟨fun hp v hv => go i v hi (fun _ => hv) (fun h => by rw [hp] at h; cases h), fun hp => go i false hi (fun h => by rw [hp] at h; cases h) (fun _ => rfl)⟩) ?_
  refine Ev.step ?_
  simp only [spec_GoodMatchers.step]
  exact Ev.no lt_no Ev.pure
theorem spec_l2CmpNum.ev (a b : Int) : Ev (fun n => spec_l2CmpNum n a b) (cmpN a b) := by
  refine Ev.step ?_
  simp only [spec_l2CmpNum.step]
  exact Ev.cnd (fun h => Ev.pure' (by rw [cmpN, if_pos (of_decide_eq_true h)])) fun h => Ev.cnd (fun h2 => Ev.pure' (by rw [cmpN, if_neg (of_decide_eq_false h), if_pos (of_decide_eq_true h2)])) fun h2 => Ev.pure' (by rw [cmpN, if_neg (of_decide_eq_false h), if_neg (of_decide_eq_false h2)])
theorem spec_l2CmpText.loop (a b : ByteArray) (ha : a.size ≤ 1048576) (hb : b.size ≤ 1048576) : ∀ d i, i + d = a.size → i ≤ b.size → Ev (fun n => goRec spec_l2CmpText.step n (spec_l2CmpText.Pt.p7 a b (i : Int))) (cmpL ((octs a).drop i) ((octs b).drop i)) := by
  have out : ∀ i, i ≤ a.size → i ≤ b.size → (i = a.size ∨ i = b.size) → Ev (fun n => goRec spec_l2CmpText.step n (spec_l2CmpText.Pt.p9 a b (i : Int) false)) (cmpL ((octs a).drop i) ((octs b).drop i)) := by
    intro i h1 h2 h3
    refine Ev.step ?_
    simp only [spec_l2CmpText.step]
    refine Ev.no rfl (Ev.bind (spec_l2CmpNum.ev _ _) (Ev.pure' ?_))
    rcases h3 with rfl | rfl
    · rw [octs_nil]
      rcases Nat.eq_or_lt_of_le h2 with e | h2
      · rw [e, octs_nil]; simp [cmpN, cmpL]
      · rw [octs_drop h2]; simp only [cmpL, cmpN]; rw [if_pos (by omega)]
    · rw [octs_nil]
      rcases Nat.eq_or_lt_of_le h1 with e | h1
      · rw [e, octs_nil]; simp [cmpN, cmpL]
      · rw [octs_drop h1]; simp only [cmpL, cmpN]; rw [if_neg (by omega), if_pos (by omega)]
  intro d
  induction d with
  | zero =>
    intro i h hb'
    refine Ev.step ?_
    simp only [spec_l2CmpText.step]
    exact Ev.no (by simp; omega) (out i (by omega) hb' (by omega))
  | succ d ih =>
    intro i h hb'
    refine Ev.step ?_
    simp only [spec_l2CmpText.step]
    refine Ev.yes (lt_yes (by omega)) ?_
    rcases Nat.eq_or_lt_of_le hb' with e | hlt
    · rw [show decide ((i : Int) < (b.size : Int)) = false by simp; omega]
      exact out i (by omega) hb' (.inr e)
    · rw [lt_yes hlt]
      refine Ev.step ?_
      simp only [spec_l2CmpText.step, i64_bt]
      have hia : i < a.size := by omega
      refine Ev.yes rfl (Ev.yes (inB_nat hia) (Ev.yes (inB_nat hlt) ?_))
      rw [octs_drop hia, octs_drop hlt]
      simp only [cmpL]
      refine Ev.cnd (fun hc => Ev.yes (inB_nat hia) (Ev.yes (inB_nat hlt) (Ev.bind (spec_l2CmpNum.ev _ _) (Ev.pure' ?_)))) fun hc => ?_
      · simp at hc
        simp only [cmpN]
        by_cases c1 : bt a i < bt b i
        · simp [c1]
        · have c2 : bt b i < bt a i := by omega
          simp [c1, c2]
      · have hc : bt a i = bt b i := by simpa using hc
        rw [hc, if_neg (by omega), if_neg (by omega), i64_nat (by omega)]
        exact ih (i + 1) (by omega) (by omega)
theorem spec_l2CmpText.ev (a b : ByteArray) (ha : a.size ≤ 1048576) (hb : b.size ≤ 1048576) : Ev (fun n => spec_l2CmpText n a b) (cmpT a b) := by
  refine Ev.step ?_
  simp only [spec_l2CmpText.step]
  exact spec_l2CmpText.loop a b ha hb a.size 0 (by omega) (by omega)
theorem spec_l2Rising.ev (l : List ByteArray) (h : Sm 1048576 (.sl false .str) l) : Ev (fun n => spec_l2Rising n l) (risingB l) := by
  have hl : l.length ≤ 1048576 := h.1
  have hs : ∀ i, i < l.length → (l.getD i default).size ≤ 1048576 := fun i hi => h.2 _ (getD_mem hi)
  refine Ev.step ?_
  simp only [spec_l2Rising.step]
  refine Ev.allN (pt := fun i : Nat => spec_l2Rising.Pt.p7 l ((i + 1 : Nat) : Int)) (fun i hi => ⟨fun hp v hv => ?_, fun hp => ?_⟩) ?_
  · refine Ev.step ?_
    simp only [spec_l2Rising.step, i64_pred (show i ≤ 4611686018427387904 by omega), i64_nat (show i + 1 ≤ 4611686018427387904 by omega), toNat_cast]
    exact Ev.yes (lt_yes (by omega)) (Ev.yes (inB_nat (by omega)) (Ev.yes (inB_nat (by omega)) (Ev.bind (spec_l2CmpText.ev _ _ (hs _ (by omega)) (hs _ (by omega))) (Ev.no (by simp at hp; simp; omega) hv))))
  · refine Ev.step ?_
    simp only [spec_l2Rising.step, i64_pred (show i ≤ 4611686018427387904 by omega), toNat_cast]
    exact Ev.yes (lt_yes (by omega)) (Ev.yes (inB_nat (by omega)) (Ev.yes (inB_nat (by omega)) (Ev.bind (spec_l2CmpText.ev _ _ (hs _ (by omega)) (hs _ (by omega))) (Ev.yes (by simp at hp; simp; omega) Ev.pure))))
  · refine Ev.step ?_
    simp only [spec_l2Rising.step]
    exact Ev.no (by simp; omega) Ev.pure
theorem spec_l15Names.ev (l : List ByteArray) (h : Sm 1048576 (.sl false .str) l) : Ev (fun n => spec_l15Names n l) (namesB l) := by
  have hl : l.length ≤ 1048576 := h.1
  have hs : ∀ i, i < l.length → (l.getD i default).size ≤ 1048576 := fun i hi => h.2 _ (getD_mem hi)
  refine Ev.step ?_
  simp only [spec_l15Names.step]
  have go : ∀ d i, i + d = l.length → Ev (fun n => goRec spec_l15Names.step n (spec_l15Names.Pt.p7 l l (l.length : Int) (i : Int))) (decide (l.length ≤ 10) && risingB l && (List.range' i d).all fun i => nameB (l.getD i default)) := by
    intro d
    induction d with
    | zero =>
      intro i hi
      rw [Nat.add_zero] at hi; subst hi
      refine Ev.step ?_
      simp only [spec_l15Names.step]
      refine Ev.no lt_no (Ev.cnd (fun c => Ev.bind (spec_l2Rising.ev l h) (Ev.pure' ?_)) fun c => Ev.pure' ?_)
      · have : l.length ≤ 10 := by simp at c; omega
        simp [this]
      · have : ¬ l.length ≤ 10 := by simp at c; omega
        simp [this]
    | succ d ih =>
      intro i hi
      refine Ev.step ?_
      simp only [spec_l15Names.step, toNat_cast, i64_nat (show i ≤ 4611686018427387904 by omega)]
      refine Ev.yes (lt_yes (by omega)) (Ev.yes (inB_nat (by omega)) (Ev.bind (spec_l2Name.ev _ (hs _ (by omega))) (Ev.cnd (fun c => Ev.pure' ?_) fun c => ?_)))
      · rw [List.range'_succ, List.all_cons]; simp at c; simp [c]
      · rw [List.range'_succ, List.all_cons]; simp at c
        simp only [List.getD_eq_getElem?_getD, c, Bool.true_and]
        simpa only [List.getD_eq_getElem?_getD] using ih (i + 1) (by omega)
  have := go l.length 0 (by omega)
  rw [namesB, List.range_eq_range']
  exact this
theorem spec_l3Time.ev (b : Int) : Ev (fun n => spec_l3Time n b) (timeB b) := by
  refine Ev.step ?_
  simp only [spec_l3Time.step]
  exact Ev.cnd (fun h => Ev.pure' (by simp [timeB, h])) fun h => Ev.pure' (by simp [timeB, h])
theorem spec_l9Numbers.ev (l : List Int) (hl : l.length ≤ 1048576) : Ev (fun n => spec_l9Numbers n l) (decide (l.length ≤ 1000) && risingI l) := by
  have go : ∀ d i, i + 1 + d = l.length → Ev (fun n => goRec spec_l9Numbers.step n (spec_l9Numbers.Pt.p7 l (l.length : Int) ((i + 1 : Nat) : Int))) (decide (l.length ≤ 1000) && (List.range' i d).all fun i => decide (l.getD i default < l.getD (i + 1) default)) := by
    intro d
    induction d with
    | zero =>
      intro i h
      refine Ev.step ?_
      simp only [spec_l9Numbers.step]
      exact Ev.no (decide_eq_false (by omega)) (Ev.pure' (by rw [List.range'_zero, List.all_nil, Bool.and_true]; exact decide_eq_decide.2 (by omega)))
    | succ d ih =>
      intro i h
      refine Ev.step ?_
      simp only [spec_l9Numbers.step, i64_pred (show i ≤ 4611686018427387904 by omega), i64_nat (show i + 1 ≤ 4611686018427387904 by omega), toNat_cast]
      rw [List.range'_succ, List.all_cons]
      refine Ev.yes (lt_yes (by omega)) (Ev.yes (decide_eq_true (by omega)) (Ev.yes (inB_nat (by omega)) (Ev.yes (inB_nat (by omega)) (Ev.cnd (fun c => Ev.pure' ?_) fun c => Ev.of_eq (ih (i + 1) (by omega)) ?_))))
      · have c := of_decide_eq_true c
        rw [decide_eq_false (show ¬ l.getD i default < l.getD (i + 1) default by omega)]; simp
      · have c := of_decide_eq_false c
        rw [decide_eq_true (show l.getD i default < l.getD (i + 1) default by omega), Bool.true_and]
  refine Ev.step ?_
  simp only [spec_l9Numbers.step]
  cases hl0 : l.length with
  | zero =>
    refine Ev.step ?_
    simp only [spec_l9Numbers.step, hl0]
    exact Ev.no (by simp) (Ev.pure' (by simp [risingI, hl0]))
  | succ k =>
    refine Ev.step ?_
    simp only [spec_l9Numbers.step]
    refine Ev.yes (decide_eq_true (by omega)) (Ev.no (by simp) ?_)
    have e0 : IntKind.wrap .i64 ((0 : Int) + 1) = ((0 + 1 : Nat) : Int) := by rw [w64] <;> omega
    rw [e0, ← hl0]
    have := go k 0 (by omega)
    rw [risingI, List.range_eq_range', show l.length - 1 = k by omega]
    exact this
theorem spec_l20Route.ev (r : RTE) (h : Sm 1048576 RTU r) : Ev (fun n => spec_l20Route n r) (routeB r) := by
  have hml : r.2.2.2.2.2.2.1.length ≤ 1048576 := h.2.2.2.2.2.2.1.1
  have loop : r.2.2.2.2.2.2.1.length ≤ 20 → Ev (fun n => goRec spec_l20Route.step n (spec_l20Route.Pt.p15 r.2.2.2.2.2.2.1 (r.2.2.2.2.2.2.1.length : Int) 0)) (mutesB r.2.2.2.2.2.2.1) := by
    intro h20
    refine Ev.allN (pt := fun i : Nat => spec_l20Route.Pt.p15 r.2.2.2.2.2.2.1 (r.2.2.2.2.2.2.1.length : Int) (i : Int)) (fun i hi => ⟨fun hp v hv => ?_, fun hp => ?_⟩) ?_
    · refine Ev.step ?_
      simp only [Bool.and_eq_true, decide_eq_true_eq] at hp
      simp only [spec_l20Route.step, toNat_cast, i64_nat (show i ≤ 4611686018427387904 by omega)]
      exact Ev.yes (lt_yes hi) (Ev.yes (inB_nat hi) (Ev.no (by simp only [decide_eq_false_iff_not]; omega) (Ev.no (by simp only [decide_eq_false_iff_not]; omega) hv)))
    · refine Ev.step ?_
      simp only [spec_l20Route.step, toNat_cast]
      refine Ev.yes (lt_yes hi) (Ev.yes (inB_nat hi) (Ev.cnd (fun _ => Ev.pure) fun e => Ev.yes ?_ Ev.pure))
      have e := of_decide_eq_false e
      rw [show decide (0 ≤ r.2.2.2.2.2.2.1.getD i default) = true by simp only [decide_eq_true_eq]; omega, Bool.true_and] at hp
      have hp := of_decide_eq_false hp
      simp only [decide_eq_true_eq]; omega
    · refine Ev.step ?_
      simp only [spec_l20Route.step]
      exact Ev.no lt_no Ev.pure
  have p4 : ∀ b, (b = !(nameB r.1 && matchersB r.2.1 && namesB r.2.2.1 && timeB r.2.2.2.1 && posB r.2.2.2.2.1 && posB r.2.2.2.2.2.1 && (decide (r.2.2.2.2.2.2.1.length ≤ 20) && risingI r.2.2.2.2.2.2.1))) → Ev (fun n => goRec spec_l20Route.step n (spec_l20Route.Pt.p4 b r.1 r.2.1 r.2.2.1 r.2.2.2.1 r.2.2.2.2.1 r.2.2.2.2.2.1 r.2.2.2.2.2.2.1 r.2.2.2.2.2.2.2.1 r.2.2.2.2.2.2.2.2.1)) (routeB r) := by
    rintro b rfl
    refine Ev.step ?_
    simp only [spec_l20Route.step]
    refine Ev.cnd (fun e => Ev.pure' ?_) fun e => ?_
    · rw [Bool.not_eq_true'] at e
      rw [routeB, e]; rfl
    · rw [Bool.not_eq_false'] at e
      have h20 : r.2.2.2.2.2.2.1.length ≤ 20 := by
        simp only [Bool.and_eq_true, decide_eq_true_eq] at e
        exact e.2.1
      exact Ev.of_eq (loop h20) (by rw [routeB, e]; rfl)
  refine Ev.step ?_
  simp only [spec_l20Route.step]
  refine Ev.bind (spec_l2Name.ev _ h.1) (Ev.cnd (fun e => p4 _ (by rw [Bool.not_eq_true'] at e; simp [e])) fun e1 => ?_)
  refine Ev.bind (spec_GoodMatchers.ev _ h.2.1) (Ev.cnd (fun e => p4 _ (by rw [Bool.not_eq_true'] at e; simp [e])) fun e2 => ?_)
  refine Ev.bind (spec_l15Names.ev _ h.2.2.1) (Ev.cnd (fun e => p4 _ (by rw [Bool.not_eq_true'] at e; simp [e])) fun e3 => ?_)
  refine Ev.bind (spec_l3Time.ev _) (Ev.cnd (fun e => p4 _ (by rw [Bool.not_eq_true'] at e; simp [e])) fun e4 => ?_)
  refine Ev.cnd (fun e => p4 _ (by rw [posB.eq_1 r.2.2.2.2.1, show decide (1 ≤ r.2.2.2.2.1) = false by simp only [decide_eq_true_eq] at e; simp only [decide_eq_false_iff_not]; omega]; simp)) fun e5 => ?_
  refine Ev.cnd (fun e => p4 _ (by rw [posB.eq_1 r.2.2.2.2.1, show decide (r.2.2.2.2.1 ≤ 1000000000000) = false by simp only [decide_eq_true_eq] at e; simp only [decide_eq_false_iff_not]; omega]; simp)) fun e6 => ?_
  refine Ev.cnd (fun e => p4 _ (by rw [posB.eq_1 r.2.2.2.2.2.1, show decide (1 ≤ r.2.2.2.2.2.1) = false by simp only [decide_eq_true_eq] at e; simp only [decide_eq_false_iff_not]; omega]; simp)) fun e7 => ?_
  refine Ev.cnd (fun e => p4 _ (by rw [posB.eq_1 r.2.2.2.2.2.1, show decide (r.2.2.2.2.2.1 ≤ 1000000000000) = false by simp only [decide_eq_true_eq] at e; simp only [decide_eq_false_iff_not]; omega]; simp)) fun e8 => ?_
  have pa : posB r.2.2.2.2.1 = true := by simp only [decide_eq_false_iff_not] at e5 e6; simp only [posB, Bool.and_eq_true, decide_eq_true_eq]; omega
  have pb : posB r.2.2.2.2.2.1 = true := by simp only [decide_eq_false_iff_not] at e7 e8; simp only [posB, Bool.and_eq_true, decide_eq_true_eq]; omega
  refine Ev.cnd (fun e => p4 _ (by rw [show decide (r.2.2.2.2.2.2.1.length ≤ 20) = false by simp only [decide_eq_true_eq] at e; simp only [decide_eq_false_iff_not]; omega]; simp)) fun e9 => ?_
  have h20 : r.2.2.2.2.2.2.1.length ≤ 20 := by simp only [decide_eq_false_iff_not] at e9; omega
  refine Ev.bind (spec_l9Numbers.ev _ hml) (p4 _ ?_)
  rw [Bool.not_eq_false'] at e1 e2 e3 e4
  simp [e1, e2, e3, e4, pa, pb, h20]
  omega
theorem spec_l20Take.ev (l : List RTE) (hl : l.length ≤ 40) (h : Sm 1048576 (.sl false RTU) l) : ∀ d (deep i : Nat), deep + d = 9 → i ≤ l.length → Ev (fun n => spec_l20Take n l (i : Int) (deep : Int)) (tkV (nodeN l routeB d i)) := by
  intro d
  induction d with
  | zero =>
    intro deep i hd hi
    have fin : Ev (fun n => goRec (fun n K => spec_l20Take.step n (fun x => K (.p0 x.1 x.2.1 x.2.2.1)) K) n (spec_l20Take.Pt.p4 l (i : Int) (deep : Int) true)) (tkV (nodeN l routeB 0 i)) := by
      refine Ev.step ?_
      simp only [spec_l20Take.step]
      exact Ev.yes rfl Ev.pure
    refine Ev.step ?_
    simp only [spec_l20Take.step]
    exact Ev.cnd (fun _ => fin) fun _ => Ev.yes (by simp only [decide_eq_true_eq]; omega) fin
  | succ d ih =>
    intro deep i hd hi
    have bad : (decide (i < l.length) && decide (0 ≤ kidsOf l i) && routeB (l.getD i default)) = false → Ev (fun n => goRec (fun n K => spec_l20Take.step n (fun x => K (.p0 x.1 x.2.1 x.2.2.1)) K) n (spec_l20Take.Pt.p4 l (i : Int) (deep : Int) true)) (tkV (nodeN l routeB (d + 1) i)) := by
      intro hb
      refine Ev.step ?_
      simp only [spec_l20Take.step]
      exact Ev.yes rfl (Ev.pure' (by rw [nodeN, if_neg (by rw [hb]; simp)]; rfl))
    refine Ev.step ?_
    simp only [spec_l20Take.step, toNat_cast]
    refine Ev.cnd (fun c => bad (by rw [show decide (i < l.length) = false from decide_eq_false (by have := of_decide_eq_true c; omega)]; rfl)) fun c => ?_
    have hlt : i < l.length := by have := of_decide_eq_false c; omega
    refine Ev.no (by simp only [decide_eq_false_iff_not]; omega) (Ev.yes (inB_nat hlt) (Ev.cnd (fun c => bad ?_) fun c => Ev.yes (inB_nat hlt) (Ev.bind (spec_l20Route.ev _ (h.2 _ (getD_mem hlt))) ?_)))
    · rw [show decide (0 ≤ kidsOf l i) = false from decide_eq_false (Int.not_le.mpr (of_decide_eq_true c)), Bool.and_false]; rfl
    have k0 : 0 ≤ kidsOf l i := Int.not_lt.mp (of_decide_eq_false c)
    cases hr : routeB (l.getD i default) with
    | false => exact bad (by rw [hr, Bool.and_false])
    | true =>
      refine Ev.step ?_
      simp only [spec_l20Take.step, i64_nat (show i ≤ 4611686018427387904 by omega)]
      refine Ev.no rfl ?_
      rw [nodeN, if_pos (by rw [decide_eq_true hlt, decide_eq_true k0, hr]; rfl)]
      obtain ⟨m, hm⟩ : ∃ m : Nat, kidsOf l i = (m : Int) := ⟨(kidsOf l i).toNat, by omega⟩
      rw [hm]
      have hm2 : (l.getD i default).2.2.2.2.2.2.2.2.1 = (m : Int) := hm
      have key : ∀ e c p, c + e = m → c ≤ p → p ≤ l.length → Ev (fun n => goRec (fun n K => spec_l20Take.step n (fun x => K (.p0 x.1 x.2.1 x.2.2.1)) K) n (spec_l20Take.Pt.p17 l (i : Int) (deep : Int) (p : Int) (c : Int))) (tkV (manyN (nodeN l routeB d) e p)) := by
        intro e
        induction e with
        | zero =>
          intro c p hc hcp hp
          obtain rfl : c = m := by omega
          refine Ev.step ?_
          simp only [spec_l20Take.step, toNat_cast, hm2]
          exact Ev.yes (inB_nat hlt) (Ev.no lt_no Ev.pure)
        | succ e ihe =>
          intro c p hc hcp hp
          refine Ev.step ?_
          simp only [spec_l20Take.step, toNat_cast, hm2, i64_nat (show c ≤ 4611686018427387904 by omega), i64_nat (show deep ≤ 4611686018427387904 by omega)]
          refine Ev.yes (inB_nat hlt) (Ev.yes (lt_yes (by omega)) (Ev.bind (ih (deep + 1) p (by omega) hp) ?_))
          simp only [manyN]
          cases hn : nodeN l routeB d p with
          | none => exact Ev.yes rfl Ev.pure
          | some q =>
            have := nodeN_lt _ _ _ hn
            refine Ev.no (decide_eq_false (by show ¬ ((q : Int) < 0); omega)) ?_
            exact ihe (c + 1) q (by omega) (by omega) this.2
      exact key m 0 (i + 1) (by omega) (by omega) (by omega)
theorem spec_GoodRoutes.ev (l : List RTE) (h : Sm 1048576 (.sl false RTU) l) : Ev (fun n => spec_GoodRoutes n l) (routesB l) := by
  refine Ev.step ?_
  simp only [spec_GoodRoutes.step]
  refine Ev.cnd (fun c => ?_) fun c => Ev.pure' ?_
  case refine_2 =>
    have : l.length = 0 := by have := of_decide_eq_false c; omega
    simp [routesB, this]
  have h0 : l.length ≠ 0 := by have := of_decide_eq_true c; omega
  refine Ev.cnd (fun c => ?_) fun c => Ev.pure' ?_
  case refine_2 =>
    have : ¬ l.length ≤ 40 := by have := of_decide_eq_false c; omega
    simp [routesB, this]
  have h40 : l.length ≤ 40 := by have := of_decide_eq_true c; omega
  refine Ev.bind (spec_l20Take.ev l h40 h 8 1 0 rfl (by omega)) ?_
  have e : decide (tkV (nodeN l routeB 8 0) = (l.length : Int)) = decide (nodeN l routeB 8 0 = some l.length) := by
    cases nodeN l routeB 8 0 with
    | none =>
      refine decide_eq_decide.2 ⟨fun hh => ?_, fun hh => by cases hh⟩
      have hh : (-1 : Int) = (l.length : Int) := hh
      omega
    | some q =>
      refine decide_eq_decide.2 ?_
      show (q : Int) = (l.length : Int) ↔ some q = some l.length
      rw [Option.some.injEq]
      omega
  rw [e]
  simp only [show (0 : Int).toNat = 0 from rfl]
  refine Ev.cnd (fun c => Ev.yes (inB_zero (by omega)) (Ev.cnd (fun c2 => Ev.yes (inB_zero (by omega)) (Ev.pure' ?_)) fun c2 => Ev.pure' ?_)) fun c => Ev.pure' ?_
  · have c2 : (l.getD 0 default).2.1.length = 0 := by have := of_decide_eq_true c2; omega
    rw [routesB, c, decide_eq_true h0, decide_eq_true h40, decide_eq_true c2]; rfl
  · have c2 : ¬ (l.getD 0 default).2.1.length = 0 := by have := of_decide_eq_false c2; omega
    rw [routesB, decide_eq_false c2, Bool.false_and, Bool.and_false]
  · rw [routesB, c, Bool.and_false, Bool.false_and]
theorem spec_l20Deep.ev (l : List RTE) (hl : l.length ≤ 40) : ∀ d (deep : Nat) (out : List Int) (i q : Nat), deep + d = 8 → out.length = i → nodeN l smallB d i = some q →
    Ev (fun n => spec_l20Deep n l (i : Int) (deep : Int) out) (out ++ dpN l d deep i, (q : Int)) := by
  intro d
  induction d with
  | zero => intro deep out i q _ _ h; simp [nodeN] at h
  | succ d ih =>
    intro deep out i q hd ho h
    simp only [nodeN] at h
    split at h
    case isFalse => cases h
    case isTrue hc =>
      simp only [Bool.and_eq_true, decide_eq_true_eq] at hc
      obtain ⟨⟨hlt, k0⟩, hs⟩ := hc
      have hk : kidsOf l i ≤ 40 := of_decide_eq_true hs
      obtain ⟨m, hm⟩ : ∃ m : Nat, kidsOf l i = (m : Int) := ⟨(kidsOf l i).toNat, by omega⟩
      have hm2 : (l.getD i default).2.2.2.2.2.2.2.2.1 = (m : Int) := hm
      have key : ∀ e c p (o : List Int) (q : Nat), c + e = m → o.length = p → p ≤ l.length → manyN (nodeN l smallB d) e p = some q → Ev (fun n => goRec (fun n K => spec_l20Deep.step n (fun x => K (.p0 x.1 x.2.1 x.2.2.1 x.2.2.2.1)) K) n (spec_l20Deep.Pt.p11 l (i : Int) (deep : Int) (p : Int) (c : Int) o)) (o ++ mD (nodeN l smallB d) (dpN l d (deep + 1)) e p, (q : Int)) := by
        intro e
        induction e with
        | zero =>
          intro c p o q hi ho hp hq
          obtain rfl : c = m := by omega
          simp only [manyN, Option.some.injEq] at hq
          refine Ev.step ?_
          simp only [spec_l20Deep.step, toNat_cast, hm2]
          exact Ev.yes (inB_nat hlt) (Ev.no lt_no (Ev.pure' (by simp [mD, hq])))
        | succ e ihe =>
          intro c p o q hi ho hp hq
          refine Ev.step ?_
          simp only [spec_l20Deep.step, toNat_cast, hm2, i64_nat (show c ≤ 4611686018427387904 by omega), i64_nat (show deep ≤ 4611686018427387904 by omega)]
          simp only [manyN] at hq
          cases hn : nodeN l smallB d p with
          | none => rw [hn] at hq; cases hq
          | some r =>
            rw [hn] at hq
            have hln := dpN_len d (deep + 1) _ _ hn
            refine Ev.yes (inB_nat hlt) (Ev.yes (lt_yes (by omega)) (Ev.bind (ih (deep + 1) o p r (by omega) ho hn) ?_))
            have := ihe (c + 1) r (o ++ dpN l d (deep + 1) p) q (by omega) (by rw [List.length_append]; omega) (nodeN_lt _ _ _ hn).2 hq
            rw [List.append_assoc] at this
            simp only [mD, hn]
            exact this
      refine Ev.step ?_
      simp only [spec_l20Deep.step, i64_nat (show i ≤ 4611686018427387904 by omega)]
      refine Ev.yes (room_ok (by simp; omega)) ?_
      rw [hm] at h
      have := key m 0 (i + 1) (out ++ [(deep : Int)]) q (by omega) (by simp [ho]) (by omega) h
      rw [List.append_assoc] at this
      simp only [dpN, hm]
      exact this
theorem spec_l2Ops.ev : Ev (fun n => spec_l2Ops n) opsL := by
  refine Ev.step ?_
  simp only [spec_l2Ops.step]
  exact Ev.pure' rfl
theorem spec_l2Quoted.ev (s : ByteArray) (hs : s.size ≤ 1048576) : Ev (fun n => spec_l2Quoted n s) (quotB s) := by
  have loop : ∀ d i, i + d = s.size → Ev (fun n => goRec spec_l2Quoted.step n (spec_l2Quoted.Pt.p9 s (i : Int) (34 :: escL ((octs s).take i)))) (quotB s) := by
    intro d
    induction d with
    | zero =>
      intro i hi
      obtain rfl : i = s.size := by omega
      have hl := escL_len ((octs s).take s.size)
      rw [List.length_take, octs_len] at hl
      refine Ev.step ?_
      simp only [spec_l2Quoted.step]
      refine Ev.no lt_no (Ev.yes (room_ok (by simp only [List.length_cons, List.length_nil]; omega)) (Ev.pure' ?_))
      rw [List.take_of_length_le (by rw [octs_len]; exact Nat.le_refl _)]; rfl
    | succ d ih =>
      intro i hi
      have hlt : i < s.size := by omega
      have hl := escL_len ((octs s).take i)
      rw [List.length_take, octs_len] at hl
      have nx : ∀ b, b = (decide (bt s (i : Int) = 34) || decide (bt s (i : Int) = 92)) → Ev (fun n => goRec spec_l2Quoted.step n (spec_l2Quoted.Pt.p19 s (i : Int) b (34 :: escL ((octs s).take i)))) (quotB s) := by
        intro b hb
        have h := ih (i + 1) (by omega)
        rw [octs_take hlt, escL_snoc, ← hb] at h
        refine Ev.step ?_
        simp only [spec_l2Quoted.step, i64_nat (show i ≤ 4611686018427387904 by omega)]
        cases b with
        | true =>
          refine Ev.yes rfl (Ev.yes (room_ok (by simp only [List.length_cons, List.length_nil]; omega)) (Ev.yes (inB_nat hlt) (Ev.yes (room_ok (by simp only [List.length_append, List.length_cons, List.length_nil]; omega)) ?_)))
          simpa using h
        | false =>
          refine Ev.no rfl (Ev.yes (inB_nat hlt) (Ev.yes (room_ok (by simp only [List.length_cons, List.length_nil]; omega)) ?_))
          simpa using h
      refine Ev.step ?_
      simp only [spec_l2Quoted.step]
      exact Ev.yes (lt_yes hlt) (Ev.yes (inB_nat hlt) (Ev.cnd (fun c => nx _ (by rw [c]; rfl)) fun c => Ev.yes (inB_nat hlt) (nx _ (by rw [c]; rfl))))
  refine Ev.step ?_
  simp only [spec_l2Quoted.step]
  exact loop s.size 0 (by omega)
theorem spec_l2MatchersText.ev (l : List MT) (hg : matchersB l = true) : Ev (fun n => spec_l2MatchersText n l) (mtsB l) := by
  obtain ⟨h10, hm⟩ := matchersB_parts hg
  obtain ⟨m1, m2⟩ := mts_map hg
  have loop : ∀ d i, i + d = l.length → Ev (fun n => goRec spec_l2MatchersText.step n (spec_l2MatchersText.Pt.p9 (⟨#[123]⟩ ++ joinB ((l.map mtB).take i)) l (l.length : Int) (i : Int))) (mtsB l) := by
    intro d
    induction d with
    | zero =>
      intro i hi
      obtain rfl : i = l.length := by omega
      rw [List.take_of_length_le (by rw [List.length_map]; exact Nat.le_refl _)]
      have hj := joinB_size m1 m2
      refine Ev.step ?_
      simp only [spec_l2MatchersText.step]
      refine Ev.no lt_no (Ev.yes (room_ok ?_) (Ev.pure' rfl))
      simp only [ByteArray.size_append, sz_lit, List.size_toArray, List.length_cons, List.length_nil]; omega
    | succ d ih =>
      intro i hi
      have hlt : i < l.length := by omega
      have hlm : i < (l.map mtB).length := by rw [List.length_map]; exact hlt
      have hk := ih (i + 1) (by omega)
      have hj := joinB_take m1 m2 i
      have ha := hm i hlt
      obtain ⟨q1, q2, q3, q4⟩ := matcherB_parts ha
      have hq := quotB_size (s := (l.getD i default).2.2.1)
      have ho := opsL_size (l.getD i default).2.1.toNat
      rw [joinB_step hlm, getD_map' hlt] at hk
      have nx : ∀ y : ByteArray, y = ⟨#[123]⟩ ++ (bif decide ((0 : Int) < (i : Int)) then joinB ((l.map mtB).take i) ++ ⟨#[44]⟩ else joinB ((l.map mtB).take i)) → Ev (fun n => goRec spec_l2MatchersText.step n (spec_l2MatchersText.Pt.p20 y l (l.length : Int) (i : Int) (l.getD i default).1 (l.getD i default).2.1 (l.getD i default).2.2.1)) (mtsB l) := by
        intro y hy
        have hys : y.size ≤ 4000 := by rw [hy]; cases decide ((0 : Int) < (i : Int)) <;> simp only [cond_true, cond_false, ByteArray.size_append, sz_lit, List.size_toArray, List.length_cons, List.length_nil] <;> omega
        refine Ev.step ?_
        simp only [spec_l2MatchersText.step, i64_nat (show i ≤ 4611686018427387904 by omega), Nat.zero_add]
        refine Ev.bind spec_l2Ops.ev (Ev.yes (by simp only [inB, decide_eq_true_eq]; show 0 ≤ _ ∧ _ < (5 : Int); omega) (Ev.yes (room_ok (by omega)) (Ev.bind (spec_l2Quoted.ev _ (by omega)) (Ev.yes (room_ok ?_) (Ev.yes (room_ok ?_) ?_)))))
        · simp only [ByteArray.size_append]; omega
        · simp only [ByteArray.size_append]; omega
        · refine cast ?_ hk
          rw [hy]
          cases decide ((0 : Int) < (i : Int)) <;> simp only [cond_true, cond_false, ByteArray.append_assoc, mtB]
      refine Ev.step ?_
      simp only [spec_l2MatchersText.step, toNat_cast]
      refine Ev.yes (lt_yes hlt) (Ev.yes (inB_nat hlt) (Ev.cnd (fun c => Ev.yes (room_ok ?_) (nx _ (by rw [c]; simp only [cond_true, ByteArray.append_assoc]))) fun c => nx _ (by rw [c]; rfl)))
      simp only [ByteArray.size_append, sz_lit, List.size_toArray, List.length_cons, List.length_nil]; omega
  refine Ev.step ?_
  simp only [spec_l2MatchersText.step]
  exact loop l.length 0 (by omega)
theorem spec_l20Joined.ev (l : List ByteArray) (h10 : l.length ≤ 10) (hx : ∀ x ∈ l, x.size ≤ 40) : Ev (fun n => spec_l20Joined n l) (joinB l) := by
  have loop : ∀ d i, i + d = l.length → Ev (fun n => goRec spec_l20Joined.step n (spec_l20Joined.Pt.p9 (joinB (l.take i)) l (l.length : Int) (i : Int))) (joinB l) := by
    intro d
    induction d with
    | zero =>
      intro i hi
      obtain rfl : i = l.length := by omega
      rw [List.take_of_length_le (Nat.le_refl _)]
      refine Ev.step ?_
      simp only [spec_l20Joined.step]
      exact Ev.no lt_no Ev.pure
    | succ d ih =>
      intro i hi
      have hlt : i < l.length := by omega
      have hk := ih (i + 1) (by omega)
      have hj := joinB_take hx h10 i
      have h40 := hx _ (getD_mem (d := default) hlt)
      rw [joinB_step hlt] at hk
      refine Ev.step ?_
      simp only [spec_l20Joined.step, toNat_cast, i64_nat (show i ≤ 4611686018427387904 by omega)]
      refine Ev.yes (lt_yes hlt) (Ev.yes (inB_nat hlt) (Ev.cnd (fun c => Ev.yes (room_ok ?_) (Ev.yes (room_ok ?_) ?_)) fun c => Ev.yes (room_ok ?_) ?_))
      · simp only [sz_lit, List.size_toArray, List.length_cons, List.length_nil]; omega
      · simp only [ByteArray.size_append, sz_lit, List.size_toArray, List.length_cons, List.length_nil]; omega
      · rw [c] at hk; exact hk
      · omega
      · rw [c] at hk; exact hk
  refine Ev.step ?_
  simp only [spec_l20Joined.step]
  exact loop l.length 0 (by omega)
theorem spec_l2Num.loop (neg : Bool) : ∀ (k u : Nat) (acc : ByteArray), u < 10 ^ k → k ≤ 19 → k + acc.size ≤ 30 →
    Ev (fun n => goRec spec_l2Num.step n (spec_l2Num.Pt.p17 (sgn neg u) acc neg)) (bif neg then (⟨#[45]⟩ : ByteArray) ++ ((⟨(ddB u).toArray⟩ : ByteArray) ++ acc) else (⟨(ddB u).toArray⟩ : ByteArray) ++ acc) := by
  have fin : ∀ (acc : ByteArray), acc.size ≤ 30 → Ev (fun n => goRec spec_l2Num.step n (spec_l2Num.Pt.p17 (sgn neg 0) acc neg)) (bif neg then (⟨#[45]⟩ : ByteArray) ++ ((⟨(ddB 0).toArray⟩ : ByteArray) ++ acc) else (⟨(ddB 0).toArray⟩ : ByteArray) ++ acc) := by
    intro acc ha
    have e0 : (⟨(ddB 0).toArray⟩ : ByteArray) ++ acc = acc := by apply ByteArray.ext; simp [ddB]
    rw [e0]
    refine Ev.step ?_
    simp only [spec_l2Num.step]
    refine Ev.no (by cases neg <;> rfl) ?_
    cases neg with
    | true => exact Ev.yes rfl (Ev.yes (room_ok (by rw [show ByteArray.size (⟨#[45]⟩ : ByteArray) = 1 from rfl]; omega)) Ev.pure)
    | false => exact Ev.no rfl Ev.pure
  intro k
  induction k with
  | zero => intro u acc h _ ha; obtain rfl : u = 0 := by simpa using h
            exact fin acc (by omega)
  | succ k ih =>
    intro u acc h hk ha
    by_cases h0 : u = 0
    · subst h0; exact fin acc (by omega)
    have hu : u < 10000000000000000000 := Nat.lt_of_lt_of_le h (Nat.pow_le_pow_right (by omega) hk)
    have hw10 : IntKind.wrap .i64 (sgn neg (u / 10)) = sgn neg (u / 10) := by cases neg <;> simp only [sgn, cond_true, cond_false] <;> rw [i64_ok] <;> omega
    have hdig : ofOcts [IntKind.wrap .u8 (IntKind.wrap .i64 ((48 : Int) + ((u % 10 : Nat) : Int)))] = ⟨#[UInt8.ofNat (48 + u % 10)]⟩ := by
      rw [i64_ok (by omega) (by omega)]
      have : IntKind.wrap .u8 ((48 : Int) + ((u % 10 : Nat) : Int)) = ((48 + u % 10 : Nat) : Int) := by
        rw [IntKind.wrap_u8]; omega
      rw [this]; simp only [ofOcts, List.map_cons, List.map_nil, Int.toNat_natCast]
    have hnext := ih (u / 10) ((⟨#[UInt8.ofNat (48 + u % 10)]⟩ : ByteArray) ++ acc) (by rw [Nat.pow_succ] at h; omega) (by omega) (by rw [ByteArray.size_append, show ByteArray.size (⟨#[UInt8.ofNat (48 + u % 10)]⟩ : ByteArray) = 1 from rfl]; omega)
    have hval : (⟨(ddB (u / 10)).toArray⟩ : ByteArray) ++ ((⟨#[UInt8.ofNat (48 + u % 10)]⟩ : ByteArray) ++ acc) = (⟨(ddB u).toArray⟩ : ByteArray) ++ acc := by
      rw [ddB_step h0]
      apply ByteArray.ext
      simp
    rw [hval] at hnext
    refine Ev.step ?_
    simp only [spec_l2Num.step, sgn_div, sgn_mod, hw10]
    have hrm : room (ByteArray.size (⟨#[UInt8.ofNat (48 + u % 10)]⟩ : ByteArray) + ByteArray.size acc) = true := room_ok (by rw [show ByteArray.size (⟨#[UInt8.ofNat (48 + u % 10)]⟩ : ByteArray) = 1 from rfl]; omega)
    refine Ev.yes (by cases neg <;> simp [sgn] <;> omega) (Ev.cnd (fun e => ?_) fun e => ?_)
    · have e := of_decide_eq_true e
      have hn : neg = true := by
        cases neg with
        | true => rfl
        | false => simp only [sgn, cond_false] at e; omega
      subst hn
      rw [show IntKind.wrap .i64 ((0 : Int) - sgn true (u % 10)) = ((u % 10 : Nat) : Int) by simp only [sgn, cond_true]; rw [i64_ok] <;> omega, hdig]
      exact Ev.yes hrm hnext
    · have e := of_decide_eq_false e
      rw [show sgn neg (u % 10) = ((u % 10 : Nat) : Int) by cases neg <;> simp only [sgn, cond_true, cond_false] at e ⊢ <;> omega, hdig]
      exact Ev.yes hrm hnext
theorem spec_l2Num.ev (v : Int) (h1 : -9223372036854775808 ≤ v) (h2 : v ≤ 9223372036854775807) : Ev (fun n => spec_l2Num n v) (itoaB v) := by
  refine Ev.step ?_
  simp only [spec_l2Num.step]
  refine Ev.cnd (fun e => Ev.pure' ?_) fun e => ?_
  · obtain rfl := of_decide_eq_true e
    unfold itoaB Lib.itoa
    rw [if_neg (by omega), Lib.decDigits]
    rfl
  · have e := of_decide_eq_false e
    have hs : v = sgn (decide (v < 0)) v.natAbs := by
      by_cases h : v < 0
      · rw [decide_eq_true h]; simp only [sgn, cond_true]; omega
      · rw [decide_eq_false h]; simp only [sgn, cond_false]; omega
    have key := spec_l2Num.loop (decide (v < 0)) 19 v.natAbs ⟨#[]⟩ (by omega) (Nat.le_refl _) (by simp [size_empty])
    rw [← hs] at key
    refine Ev.of_eq key ?_
    unfold itoaB Lib.itoa
    by_cases h : v < 0
    · rw [decide_eq_true h, if_pos h]
      simp only [cond_true, ddB]
      rw [if_neg (by omega)]
      apply ByteArray.ext
      simp
    · rw [decide_eq_false h, if_neg h]
      simp only [cond_false, ddB]
      rw [if_neg (by omega), show v.natAbs = v.toNat by omega]
      apply ByteArray.ext
      simp
theorem spec_l20Numbers.ev (l : List Int) (h20 : l.length ≤ 20) (hg : mutesB l = true) : Ev (fun n => spec_l20Numbers n l) (joinB (l.map itoaB)) := by
  obtain ⟨m1, m2⟩ := mutes_map h20 hg
  have loop : ∀ d i, i + d = l.length → Ev (fun n => goRec spec_l20Numbers.step n (spec_l20Numbers.Pt.p9 (joinB ((l.map itoaB).take i)) l (l.length : Int) (i : Int))) (joinB (l.map itoaB)) := by
    intro d
    induction d with
    | zero =>
      intro i hi
      obtain rfl : i = l.length := by omega
      rw [List.take_of_length_le (by rw [List.length_map]; exact Nat.le_refl _)]
      refine Ev.step ?_
      simp only [spec_l20Numbers.step]
      exact Ev.no lt_no Ev.pure
    | succ d ih =>
      intro i hi
      have hlt : i < l.length := by omega
      have hlm : i < (l.map itoaB).length := by rw [List.length_map]; exact hlt
      have hk := ih (i + 1) (by omega)
      have hj := joinB_take m1 m2 i
      have hm := mutes_at hg hlt
      have v1 := Int.le_trans (show (-9223372036854775808 : Int) ≤ 0 by decide) hm.1
      have v2 := Int.le_trans (Int.le_of_lt hm.2) (show (20 : Int) ≤ 9223372036854775807 by decide)
      have hz := itoa_len v1 v2
      rw [joinB_step hlm, getD_map' hlt] at hk
      refine Ev.step ?_
      simp only [spec_l20Numbers.step, toNat_cast, i64_nat (show i ≤ 4611686018427387904 by omega)]
      refine Ev.yes (lt_yes hlt) (Ev.yes (inB_nat hlt) (Ev.cnd (fun c => Ev.yes (room_ok ?_) (Ev.bind (spec_l2Num.ev _ v1 v2) (Ev.yes (room_ok ?_) ?_))) fun c => Ev.bind (spec_l2Num.ev _ v1 v2) (Ev.yes (room_ok ?_) ?_)))
      · simp only [sz_lit, List.size_toArray, List.length_cons, List.length_nil]; omega
      · simp only [ByteArray.size_append, sz_lit, List.size_toArray, List.length_cons, List.length_nil]; omega
      · rw [c] at hk; exact hk
      · omega
      · rw [c] at hk; exact hk
  refine Ev.step ?_
  simp only [spec_l20Numbers.step]
  exact loop l.length 0 (by omega)
theorem spec_l20Line.ev (r : RTE) (h : Sm 1048576 RTU r) (hg : routeB r = true) : Ev (fun n => spec_l20Line n r) (lineB r) := by
  obtain ⟨g1, g2, g3, g4, g5, g6, g7, g8⟩ := route_parts hg
  obtain ⟨n1, n2, n3⟩ := route_nums hg
  have z1 := l1B_size hg
  have z2 := l2B_size hg
  have z3 := l3B_size hg
  have zm := mtsB_size g2
  have zj := joinB_size g3.2 g3.1
  have zk := joinB_size (mutes_map g7 g8).1 (mutes_map g7 g8).2
  have p11 : ∀ y, y = l2B r → Ev (fun n => goRec spec_l20Line.step n (spec_l20Line.Pt.p11 y r.1 r.2.1 r.2.2.1 r.2.2.2.1 r.2.2.2.2.1 r.2.2.2.2.2.1 r.2.2.2.2.2.2.1 r.2.2.2.2.2.2.2.1 r.2.2.2.2.2.2.2.2.1)) (lineB r) := by
    rintro y rfl
    have e3 : l2B r ++ (((((⟨#[32, 119, 97, 105, 116, 32]⟩ ++ itoaB r.2.2.2.1) ++ ⟨#[32, 101, 118, 101, 114, 121, 32]⟩) ++ itoaB r.2.2.2.2.1) ++ ⟨#[32, 97, 103, 97, 105, 110, 32]⟩) ++ itoaB r.2.2.2.2.2.1) = l3B r := rfl
    refine Ev.step ?_
    simp only [spec_l20Line.step]
    refine Ev.bind (spec_l2Num.ev _ (by omega) (by omega)) (Ev.yes (room_ok (by simp only [ByteArray.size_append, sz_lit, List.size_toArray, List.length_cons, List.length_nil]; omega)) (Ev.yes (room_ok (by simp only [ByteArray.size_append, sz_lit, List.size_toArray, List.length_cons, List.length_nil]; omega)) ?_))
    refine Ev.bind (spec_l2Num.ev _ (by omega) (by omega)) (Ev.yes (room_ok (by simp only [ByteArray.size_append, sz_lit, List.size_toArray, List.length_cons, List.length_nil]; omega)) (Ev.yes (room_ok (by simp only [ByteArray.size_append, sz_lit, List.size_toArray, List.length_cons, List.length_nil]; omega)) ?_))
    refine Ev.bind (spec_l2Num.ev _ (by omega) (by omega)) (Ev.yes (room_ok (by simp only [ByteArray.size_append, sz_lit, List.size_toArray, List.length_cons, List.length_nil]; omega)) (Ev.yes (room_ok (by simp only [ByteArray.size_append, sz_lit, List.size_toArray, List.length_cons, List.length_nil]; omega)) ?_))
    simp only [e3]
    refine Ev.cnd (fun c => ?_) fun c => ?_
    · have e4 : l3B r ++ (⟨#[32, 109, 117, 116, 101, 32]⟩ ++ joinB (r.2.2.2.2.2.2.1.map itoaB)) = l4B r := by rw [l4B, c]; rfl
      refine Ev.bind (spec_l20Numbers.ev _ g7 g8) (Ev.yes (room_ok (by simp only [ByteArray.size_append, sz_lit, List.size_toArray, List.length_cons, List.length_nil]; omega)) (Ev.yes (room_ok (by simp only [ByteArray.size_append, sz_lit, List.size_toArray, List.length_cons, List.length_nil]; omega)) ?_))
      exact Ev.cnd (fun d => Ev.yes (room_ok (by simp only [ByteArray.size_append, sz_lit, List.size_toArray, List.length_cons, List.length_nil]; omega)) (Ev.pure' (by rw [lineB, d, ← e4]; rfl))) fun d => Ev.pure' (by rw [lineB, d, ← e4]; rfl)
    · have e4 : l3B r = l4B r := by rw [l4B, c]; rfl
      exact Ev.cnd (fun d => Ev.yes (room_ok (by simp only [ByteArray.size_append, sz_lit, List.size_toArray, List.length_cons, List.length_nil]; omega)) (Ev.pure' (by rw [lineB, d, ← e4]; rfl))) fun d => Ev.pure' (by rw [lineB, d, ← e4]; rfl)
  have p5 : ∀ y, y = l1B r → Ev (fun n => goRec spec_l20Line.step n (spec_l20Line.Pt.p5 y r.1 r.2.1 r.2.2.1 r.2.2.2.1 r.2.2.2.2.1 r.2.2.2.2.2.1 r.2.2.2.2.2.2.1 r.2.2.2.2.2.2.2.1 r.2.2.2.2.2.2.2.2.1)) (lineB r) := by
    rintro y rfl
    refine Ev.step ?_
    simp only [spec_l20Line.step]
    exact Ev.cnd (fun c => Ev.bind (spec_l20Joined.ev _ g3.1 g3.2) (Ev.yes (room_ok (by simp only [ByteArray.size_append, sz_lit, List.size_toArray, List.length_cons, List.length_nil]; omega)) (Ev.yes (room_ok (by simp only [ByteArray.size_append, sz_lit, List.size_toArray, List.length_cons, List.length_nil]; omega)) (p11 _ (by rw [l2B, c]; rfl))))) fun c => p11 _ (by rw [l2B, c]; rfl)
  refine Ev.step ?_
  simp only [spec_l20Line.step]
  exact Ev.cnd (fun c => Ev.bind (spec_l2MatchersText.ev _ g2) (Ev.yes (room_ok (by simp only [ByteArray.size_append, sz_lit, List.size_toArray, List.length_cons, List.length_nil]; omega)) (Ev.yes (room_ok (by simp only [ByteArray.size_append, sz_lit, List.size_toArray, List.length_cons, List.length_nil]; omega)) (p5 _ (by rw [l1B, c]; rfl))))) fun c => p5 _ (by rw [l1B, c]; rfl)
theorem spec_RoutesText.ev (l : List RTE) (h : Sm 1048576 (.sl false RTU) l) : Ev (fun n => spec_RoutesText n l) (textB l) := by
  refine Ev.step ?_
  simp only [spec_RoutesText.step]
  refine Ev.bind (spec_GoodRoutes.ev l h) (Ev.cnd (fun c => Ev.pure' ?_) fun c => ?_)
  · rw [Bool.not_eq_true'] at c; rw [textB, c]; rfl
  rw [Bool.not_eq_false'] at c
  obtain ⟨h0, h40, hn, hr, hD, hd⟩ := routesB_parts c
  refine Ev.bind (spec_l20Deep.ev l h40 8 0 [] 0 _ rfl rfl hn) ?_
  have e : textB l = (bif decide ((10000 : Int) < ((txtB l (dpN l 8 0 0) l.length).size : Int)) then ⟨#[]⟩ else txtB l (dpN l 8 0 0) l.length) := by rw [textB, c]; rfl
  rw [e, List.nil_append]
  clear e
  generalize dpN l 8 0 0 = D at *
  have hsz : ∀ i, i ≤ l.length → (txtB l D i).size ≤ 161000 := fun i hi => Nat.le_trans (txtB_size i fun j hj => ⟨hr j (by omega), by have := hd j (by omega); omega⟩) (by omega)
  have loop : ∀ d i, i + d = l.length → Ev (fun n => goRec spec_RoutesText.step n (spec_RoutesText.Pt.p19 (txtB l D i) l (l.length : Int) (i : Int) D)) (bif decide ((10000 : Int) < ((txtB l D l.length).size : Int)) then ⟨#[]⟩ else txtB l D l.length) := by
    intro d
    induction d with
    | zero =>
      intro i hi
      obtain rfl : i = l.length := by omega
      refine Ev.step ?_
      simp only [spec_RoutesText.step]
      exact Ev.no lt_no (Ev.cnd (fun c => Ev.pure' (by rw [c]; rfl)) fun c => Ev.pure' (by rw [c]; rfl))
    | succ d ih =>
      intro i hi
      have hlt : i < l.length := by omega
      have hk := ih (i + 1) (by omega)
      obtain ⟨d1, d2⟩ := hd i hlt
      obtain ⟨m, hm⟩ : ∃ m : Nat, D.getD i default = (m : Int) := ⟨(D.getD i default).toNat, by omega⟩
      have hz := hsz i (by omega)
      have hl := lineB_size (hr i hlt)
      have hm8 : m ≤ 8 := by omega
      simp only [txtB, hm, toNat_cast] at hk
      have inner : ∀ e k, k + e = m → Ev (fun n => goRec spec_RoutesText.step n (spec_RoutesText.Pt.p34 (txtB l D i ++ repB k) (i : Int) (k : Int) l (l.length : Int) (i : Int) D (l.getD i default).1 (l.getD i default).2.1 (l.getD i default).2.2.1 (l.getD i default).2.2.2.1 (l.getD i default).2.2.2.2.1 (l.getD i default).2.2.2.2.2.1 (l.getD i default).2.2.2.2.2.2.1 (l.getD i default).2.2.2.2.2.2.2.1 (l.getD i default).2.2.2.2.2.2.2.2.1)) (bif decide ((10000 : Int) < ((txtB l D l.length).size : Int)) then ⟨#[]⟩ else txtB l D l.length) := by
        intro e
        induction e with
        | zero =>
          intro k hke
          obtain rfl : k = m := by omega
          refine Ev.step ?_
          simp only [spec_RoutesText.step, toNat_cast, Nat.zero_add, hm, i64_nat (show i ≤ 4611686018427387904 by omega)]
          refine Ev.yes (inB_nat (by omega)) (Ev.no lt_no (Ev.bind (spec_l20Line.ev (l.getD i default) (h.2 _ (getD_mem hlt)) (hr i hlt)) (Ev.yes (room_ok ?_) (Ev.yes (room_ok ?_) hk))))
          · simp only [ByteArray.size_append, sz_lit, List.size_toArray, List.length_cons, List.length_nil]; omega
          · simp only [ByteArray.size_append, sz_lit, List.size_toArray, List.length_cons, List.length_nil, repB_size]; omega
        | succ e ihe =>
          intro k hke
          have := ihe (k + 1) (by omega)
          rw [repB_step, ← ByteArray.append_assoc] at this
          refine Ev.step ?_
          simp only [spec_RoutesText.step, toNat_cast, Nat.zero_add, hm, i64_nat (show k ≤ 4611686018427387904 by omega)]
          refine Ev.yes (inB_nat (by omega)) (Ev.yes (lt_yes (by omega)) (Ev.yes (room_ok ?_) this))
          simp only [ByteArray.size_append, sz_lit, List.size_toArray, List.length_cons, List.length_nil, repB_size]; omega
      have := inner m 0 (by omega)
      rw [show repB 0 = ByteArray.empty from rfl, ByteArray.append_empty] at this
      refine Ev.step ?_
      simp only [spec_RoutesText.step, toNat_cast]
      exact Ev.yes (lt_yes hlt) (Ev.yes (inB_nat hlt) this)
  exact loop l.length 0 (by omega)
theorem impl_depths_1.ev (l : List RTE) (hl : l.length ≤ 40) : ∀ d (deep : Nat) (out : List Int), deep + d = 8 → out.length ≤ l.length →
    EvP (fun n => impl_depths_1 n (deep : Int) out l ()) (fun r => match nodeN l smallB d out.length with | some q => r.1 = true ∧ r.2.length = q | none => r.1 = false) := by
  intro d
  induction d with
  | zero =>
    intro deep out hd ho
    have fin : ∀ b, b = true → EvP (fun n => goRec (fun n K => impl_depths_1.step n (fun x => K (.p0 x.1 x.2.1 x.2.2.1 x.2.2.2.1)) K) n (impl_depths_1.Pt.p4 (deep : Int) b l out)) (fun r => match nodeN l smallB 0 out.length with | some q => r.1 = true ∧ r.2.length = q | none => r.1 = false) := by
      rintro b rfl
      refine EvP.step ?_
      simp only [impl_depths_1.step]
      exact EvP.yes rfl (EvP.pure rfl)
    refine EvP.step ?_
    simp only [impl_depths_1.step]
    exact EvP.cnd (fun _ => fin _ rfl) fun _ => fin _ (by simp only [decide_eq_true_eq]; omega)
  | succ d ih =>
    intro deep out hd ho
    refine EvP.step ?_
    simp only [impl_depths_1.step]
    refine EvP.cnd (fun c => ?_) fun c => ?_
    · have c : out.length = l.length := by have := of_decide_eq_true c; omega
      refine EvP.step ?_
      simp only [impl_depths_1.step]
      refine EvP.yes rfl (EvP.pure ?_)
      rw [nodeN, if_neg (by simp; omega)]
    have hlt : out.length < l.length := by have := of_decide_eq_false c; omega
    rw [show decide ((8 : Int) ≤ (deep : Int)) = false by simp only [decide_eq_false_iff_not]; omega]
    refine EvP.step ?_
    simp only [impl_depths_1.step, toNat_cast]
    refine EvP.no rfl (EvP.yes (inB_nat hlt) (EvP.yes (room_ok (by simp; omega)) ?_))
    have bad : ∀ b, b = true → (decide (0 ≤ kidsOf l out.length) && smallB (l.getD out.length default)) = false → EvP (fun n => goRec (fun n K => impl_depths_1.step n (fun x => K (.p0 x.1 x.2.1 x.2.2.1 x.2.2.2.1)) K) n (impl_depths_1.Pt.p16 (deep : Int) (kidsOf l out.length) b l (out ++ [(deep : Int)]))) (fun r => match nodeN l smallB (d + 1) out.length with | some q => r.1 = true ∧ r.2.length = q | none => r.1 = false) := by
      rintro b rfl hb
      refine EvP.step ?_
      simp only [impl_depths_1.step]
      refine EvP.yes rfl (EvP.pure ?_)
      rw [nodeN, if_neg (by rw [Bool.and_assoc, hb]; simp)]
    refine EvP.cnd (fun c => bad _ rfl ?_) fun c => ?_
    · rw [show decide (0 ≤ kidsOf l out.length) = false from decide_eq_false (Int.not_le.mpr (of_decide_eq_true c))]; rfl
    have k0 : 0 ≤ kidsOf l out.length := by have := of_decide_eq_false c; simp only [kidsOf]; omega
    by_cases hs : smallB (l.getD out.length default) = true
    case neg =>
      rw [Bool.not_eq_true] at hs
      refine bad _ ?_ (by rw [hs]; simp)
      simp only [smallB, decide_eq_false_iff_not] at hs
      simp only [decide_eq_true_eq]; omega
    have hk : kidsOf l out.length ≤ 40 := of_decide_eq_true hs
    rw [show decide ((40 : Int) < (l.getD out.length default).2.2.2.2.2.2.2.2.1) = false from decide_eq_false (Int.not_lt.mpr hk)]
    refine EvP.step ?_
    simp only [impl_depths_1.step]
    refine EvP.no rfl ?_
    rw [nodeN, if_pos (by rw [decide_eq_true hlt, decide_eq_true k0, hs]; rfl)]
    obtain ⟨m, hm⟩ : ∃ m : Nat, kidsOf l out.length = (m : Int) := ⟨(kidsOf l out.length).toNat, by omega⟩
    have key : ∀ e i (o : List Int), i + e = m → o.length ≤ l.length → EvP (fun n => goRec (fun n K => impl_depths_1.step n (fun x => K (.p0 x.1 x.2.1 x.2.2.1 x.2.2.2.1)) K) n (impl_depths_1.Pt.p27 (deep : Int) (m : Int) (i : Int) l o)) (fun r => match manyN (nodeN l smallB d) e o.length with | some q => r.1 = true ∧ r.2.length = q | none => r.1 = false) := by
      intro e
      induction e with
      | zero =>
        intro i o hi ho
        obtain rfl : i = m := by omega
        refine EvP.step ?_
        simp only [impl_depths_1.step]
        exact EvP.no lt_no (EvP.pure ⟨rfl, rfl⟩)
      | succ e ihe =>
        intro i o hi ho
        refine EvP.step ?_
        simp only [impl_depths_1.step, i64_nat (show i ≤ 4611686018427387904 by omega), i64_nat (show deep ≤ 4611686018427387904 by omega)]
        refine EvP.yes (lt_yes (by omega)) (EvP.bindP (ih (deep + 1) o (by omega) ho) fun r hr => ?_)
        simp only [manyN]
        cases hn : nodeN l smallB d o.length with
        | none =>
          rw [hn] at hr
          exact EvP.yes (by rw [hr]; rfl) (EvP.pure rfl)
        | some q =>
          rw [hn] at hr
          obtain ⟨r1, r2⟩ := hr
          refine EvP.no (by rw [r1]; rfl) ?_
          have := ihe (i + 1) r.2 (by omega) (by rw [r2]; exact (nodeN_lt _ _ _ hn).2)
          rw [r2] at this
          exact this
    have := key m 0 (out ++ [(deep : Int)]) (by omega) (by simp; omega)
    rw [show (out ++ [(deep : Int)]).length = out.length + 1 by simp] at this
    rw [hm]
    have hm2 : (l.getD out.length default).2.2.2.2.2.2.2.2.1 = (m : Int) := hm
    rw [hm2]
    exact this
theorem impl_depths.ev (l : List RTE) : EvP (fun n => impl_depths n l) (fun r => r.isEmpty = !(decide (l.length ≠ 0) && decide (l.length ≤ 40) && decide (nodeN l smallB 8 0 = some l.length))) := by
  refine EvP.step ?_
  simp only [impl_depths.step]
  refine EvP.cnd (fun c => ?_) fun c => ?_
  · have c : l.length = 0 := by have := of_decide_eq_true c; omega
    refine EvP.step ?_
    simp only [impl_depths.step]
    exact EvP.yes rfl (EvP.pure (by simp [c]))
  have h0 : l.length ≠ 0 := by have := of_decide_eq_false c; omega
  refine EvP.step ?_
  simp only [impl_depths.step]
  refine EvP.cnd (fun c => EvP.pure ?_) fun c => ?_
  · have : ¬ l.length ≤ 40 := by have := of_decide_eq_true c; omega
    simp [this]
  have h40 : l.length ≤ 40 := by have := of_decide_eq_false c; omega
  refine EvP.bindP (impl_depths_1.ev l h40 8 0 [] rfl (by simp)) fun r hr => ?_
  simp only [List.length_nil] at hr
  cases hn : nodeN l smallB 8 0 with
  | none =>
    rw [hn] at hr
    exact EvP.yes (by rw [hr]; rfl) (EvP.pure (by simp))
  | some q =>
    rw [hn] at hr
    obtain ⟨r1, r2⟩ := hr
    refine EvP.no (by rw [r1]; rfl) (EvP.cnd (fun c => EvP.pure ?_) fun c => EvP.pure ?_)
    · rw [Bool.not_eq_true'] at c
      have c := of_decide_eq_false c
      have : q ≠ l.length := by omega
      simp [this]
    · rw [Bool.not_eq_false'] at c
      have c := of_decide_eq_true c
      have e : q = l.length := by omega
      have : r.2.isEmpty = false := by
        cases hr2 : r.2 with
        | nil => rw [hr2] at r2; simp at r2; omega
        | cons x y => rfl
      rw [this]
      simp [h0, h40, e]
theorem impl_digitByte.ev (b : Int) : Ev (fun n => impl_digitByte n b) (digitB b) := by
  refine Ev.step ?_
  simp only [impl_digitByte.step]
  exact Ev.cnd (fun h => Ev.pure' (by simp [digitB, h])) fun h => Ev.pure' (by simp [digitB, h])
theorem impl_letterByte.ev (b : Int) : Ev (fun n => impl_letterByte n b) (letterB b) := by
  refine Ev.step ?_
  simp only [impl_letterByte.step]
  refine Ev.cnd (fun h => Ev.cnd (fun h2 => Ev.pure' (by simp [letterB, h, h2])) fun h2 => Ev.cnd (fun h3 => Ev.pure' (by simp [letterB, h, h2, h3])) fun h3 => Ev.pure' (by simp [letterB, h, h2, h3])) fun h => Ev.cnd (fun h3 => Ev.pure' (by simp [letterB, h, h3])) fun h3 => Ev.pure' (by simp [letterB, h, h3])
theorem impl_wordByte.ev (b : Int) : Ev (fun n => impl_wordByte n b) (wordB b) := by
  refine Ev.step ?_
  simp only [impl_wordByte.step]
  refine Ev.bind (impl_letterByte.ev b) (Ev.cnd (fun h => Ev.pure' (by simp [wordB, h])) fun h => ?_)
  refine Ev.bind (impl_digitByte.ev b) (Ev.cnd (fun h2 => Ev.pure' (by simp [wordB, h2])) fun h2 => Ev.pure' (by simp [wordB, h, h2]))
theorem impl_isName.ev (s : ByteArray) (hs : s.size ≤ 1048576) : Ev (fun n => impl_isName n s) (nameB s) := by
  have go : Ev (fun n => goRec impl_isName.step n (impl_isName.Pt.p15 s (s.size : Int) 0)) (allB wordB s) := by
    refine Ev.allN (pt := fun i : Nat => impl_isName.Pt.p15 s (s.size : Int) (i : Int)) (fun i hi => ⟨fun hp v hv => ?_, fun hp => ?_⟩) ?_
    · refine Ev.step ?_
      simp only [impl_isName.step, i64_nat (show i ≤ 4611686018427387904 by omega)]
      exact Ev.yes (lt_yes hi) (Ev.yes (inB_nat hi) (Ev.bind (impl_wordByte.ev _) (Ev.no (by simp [hp]) hv)))
    · refine Ev.step ?_
      simp only [impl_isName.step]
      exact Ev.yes (lt_yes hi) (Ev.yes (inB_nat hi) (Ev.bind (impl_wordByte.ev _) (Ev.yes (by simp [hp]) Ev.pure)))
    · refine Ev.step ?_
      simp only [impl_isName.step]
      exact Ev.no lt_no Ev.pure
  refine Ev.step ?_
  simp only [impl_isName.step]
  have bad : nameB s = false → Ev (fun n => goRec impl_isName.step n (impl_isName.Pt.p4 s true)) (nameB s) := fun h => by
    refine Ev.step ?_
    simp only [impl_isName.step]
    exact Ev.yes rfl (Ev.pure' h.symm)
  refine Ev.cnd (fun h => bad ?_) fun h => Ev.cnd (fun h2 => bad ?_) fun h2 => Ev.yes ?_ (Ev.bind (impl_digitByte.ev _) (Ev.step ?_))
  · have : ¬ 1 ≤ s.size := by have := of_decide_eq_true (seq_empty.symm.trans h); omega
    simp [nameB, this]
  · have : ¬ s.size ≤ 40 := by simp at h2; omega
    simp [nameB, this]
  · exact inB_zero (by have := of_decide_eq_false (seq_empty.symm.trans h); omega)
  · have h1 : 1 ≤ s.size := by have := of_decide_eq_false (seq_empty.symm.trans h); omega
    have h3 : s.size ≤ 40 := by simp at h2; omega
    simp only [impl_isName.step]
    refine Ev.cnd (fun h4 => Ev.pure' (by simp [nameB, h4])) fun h4 => Ev.of_eq go ?_
    simp [nameB, h1, h3, h4]
theorem impl_printed.ev (s : ByteArray) (m : Nat) (hs : s.size ≤ 1048576) (hm : m ≤ 1000000) : Ev (fun n => impl_printed n s (m : Int)) (decide (s.size ≤ m) && printB s) := by
  refine Ev.step ?_
  simp only [impl_printed.step]
  refine Ev.cnd (fun h => Ev.pure' (by simp at h; simp; omega)) fun h => ?_
  have h2 : s.size ≤ m := by simp at h; omega
  simp only [h2, decide_true, Bool.true_and]
  refine Ev.allN (pt := fun i : Nat => impl_printed.Pt.p15 s (s.size : Int) (i : Int)) (fun i hi => ⟨fun hp v hv => ?_, fun hp => ?_⟩) ?_
  · refine Ev.step ?_
    simp only [Bool.and_eq_true, decide_eq_true_eq] at hp
    simp only [impl_printed.step, i64_nat (show i ≤ 4611686018427387904 by omega)]
    exact Ev.yes (lt_yes hi) (Ev.yes (inB_nat hi) (Ev.no (by simp; omega) (Ev.yes (inB_nat hi) (Ev.no (by simp; omega) hv))))
  · refine Ev.step ?_
    simp only [impl_printed.step]
    refine Ev.yes (lt_yes hi) (Ev.yes (inB_nat hi) (Ev.cnd (fun _ => Ev.pure) fun h => Ev.yes (inB_nat hi) (Ev.yes ?_ Ev.pure)))
    simp at hp h ⊢; omega
  · refine Ev.step ?_
    simp only [impl_printed.step]
    exact Ev.no lt_no Ev.pure
theorem strings_IndexByte.ev (s : ByteArray) (c : Int) : Ev (fun n => strings_IndexByte n s c) (Lib.indexByte s.data.toList c.toNat.toUInt8) := Ev.held rfl
theorem index_specials (c : Int) (h : 0 ≤ c ∧ c ≤ 255) : decide (Lib.indexByte (⟨#[42, 63, 124, 92]⟩ : ByteArray).data.toList c.toNat.toUInt8 < 0) = !decide (c = 42 ∨ c = 63 ∨ c = 124 ∨ c = 92) := by
  obtain ⟨k, rfl⟩ : ∃ k : Nat, c = (k : Int) := ⟨c.toNat, by omega⟩
  have hk : k < 256 := by omega
  have key : ∀ k : Fin 256, decide (Lib.indexByte (⟨#[42, 63, 124, 92]⟩ : ByteArray).data.toList (((k.val : Nat) : Int).toNat.toUInt8) < 0) = !decide (((k.val : Nat) : Int) = 42 ∨ ((k.val : Nat) : Int) = 63 ∨ ((k.val : Nat) : Int) = 124 ∨ ((k.val : Nat) : Int) = 92) := by decide +kernel
  exact key ⟨k, hk⟩
theorem impl_alternatives_1.ev (x : Int × Bool × Bool × Unit) (out : List (List (Int × Bool × Bool × Unit))) (now : List (Int × Bool × Bool × Unit)) (h1 : out.length ≤ 1000) (h2 : now.length ≤ 1000) : Ev (fun n => impl_alternatives_1 n x (out ++ [now])) (out ++ [now ++ [x]]) := by
  refine Ev.held ?_
  have hl : (out ++ [now]).length - 1 = out.length := by simp
  have hg : (out ++ [now]).getD out.length [] = now := by simp [List.getD_eq_getElem?_getD]
  rw [hl, hg, show decide (out ++ [now] ≠ [] ∧ (out ++ [now]).length ≤ 1000000 ∧ now.length ≤ 1000000) = true by simp; omega]
  simp
theorem impl_alternatives.loop (s : ByteArray) (hs : s.size ≤ 100) : ∀ d i (out : List (List Int)) (now : List Int), s.size ≤ i + d → i ≤ s.size → out.length ≤ i → now.length ≤ i →
    Ev (fun n => goRec impl_alternatives.step n (impl_alternatives.Pt.p19 s (i : Int) (out.map (List.map toP) ++ [now.map toP]))) (altP (pat ((octs s).drop i) out now)) := by
  intro d
  induction d with
  | zero =>
    intro i out now h h1 h2 h3
    obtain rfl : i = s.size := by omega
    refine Ev.step ?_
    simp only [impl_alternatives.step]
    refine Ev.no lt_no (Ev.pure' ?_)
    rw [octs_nil, pat_nil]; simp [altP]
  | succ d ih =>
    intro i out now h h1 h2 h3
    rcases Nat.eq_or_lt_of_le h1 with rfl | hi
    · refine Ev.step ?_
      simp only [impl_alternatives.step]
      refine Ev.no lt_no (Ev.pure' ?_)
      rw [octs_nil, pat_nil]; simp [altP]
    have one : ∀ (c : Int) (p : Int × Bool × Bool × Unit) (j : Nat), p = toP c → j ≤ s.size → i < j → s.size ≤ j + d → Ev (fun n => (impl_alternatives_1 n p (out.map (List.map toP) ++ [now.map toP])).bind fun r => goRec impl_alternatives.step n (impl_alternatives.Pt.p19 s (j : Int) r)) (altP (pat ((octs s).drop j) out (now ++ [c]))) := by
      rintro c p j rfl hj hij hjd
      refine Ev.bind (impl_alternatives_1.ev _ _ _ (by simp; omega) (by simp; omega)) ?_
      have := ih j out (now ++ [c]) (by omega) hj (by omega) (by simp; omega)
      rwa [List.map_append] at this
    refine Ev.step ?_
    simp only [impl_alternatives.step, i64_nat (show i ≤ 4611686018427387904 by omega)]
    rw [octs_drop hi, pat_cons]
    refine Ev.yes (lt_yes hi) (Ev.yes (inB_nat hi) (Ev.cnd (fun c => ?_) fun c => Ev.cnd (fun c2 => ?_) fun c2 => Ev.cnd (fun c3 => ?_) fun c3 => Ev.cnd (fun c4 => ?_) fun c4 => ?_))
    · rw [if_pos (by simpa using c)]
      refine Ev.yes (room_ok (by simp; omega)) ?_
      have := ih (i + 1) (out ++ [now]) [] (by omega) (by omega) (by simp; omega) (by simp)
      simpa using this
    · rw [if_neg (by simpa using c), if_pos (by simpa using c2)]
      exact one (-1) _ (i + 1) rfl (by omega) (by omega) (by omega)
    · rw [if_neg (by simpa using c), if_neg (by simpa using c2), if_pos (by simpa using c3)]
      exact one (-2) _ (i + 1) rfl (by omega) (by omega) (by omega)
    · rw [if_neg (by simpa using c), if_neg (by simpa using c2), if_neg (by simpa using c3), if_pos (by simpa using c4)]
      have bad : ∀ j : Int, Ev (fun n => goRec impl_alternatives.step n (impl_alternatives.Pt.p51 s j true (out.map (List.map toP) ++ [now.map toP]))) (altP none) := fun j => by
        refine Ev.step ?_
        simp only [impl_alternatives.step]
        exact Ev.yes rfl Ev.pure
      refine Ev.cnd (fun e => ?_) fun e => ?_
      · have e : i + 1 = s.size := by simp at e; omega
        rw [show (octs s).drop (i + 1) = [] by rw [e, octs_nil]]
        exact bad _
      · have hi1 : i + 1 < s.size := by simp at e; omega
        rw [octs_drop hi1]
        simp only
        have hr := bt_range (s := s) (i := ((i + 1 : Nat) : Int))
        generalize hq : bt s ((i + 1 : Nat) : Int) = q at hr
        refine Ev.yes (inB_nat hi1) (Ev.bind (strings_IndexByte.ev _ _) ?_)
        rw [index_specials _ hr]
        by_cases hg : q = 42 ∨ q = 63 ∨ q = 124 ∨ q = 92
        · rw [if_pos hg, show (!decide (q = 42 ∨ q = 63 ∨ q = 124 ∨ q = 92)) = false by simp [hg]]
          refine Ev.step ?_
          simp only [impl_alternatives.step, hq, i64_nat (show i + 1 ≤ 4611686018427387904 by omega)]
          refine Ev.no rfl (Ev.yes (inB_nat hi1) ?_)
          exact one q _ (i + 1 + 1) (by simp only [toP]; rw [if_neg (by omega), if_neg (by omega)]; rfl) (by omega) (by omega) (by omega)
        · rw [if_neg hg, show (!decide (q = 42 ∨ q = 63 ∨ q = 124 ∨ q = 92)) = true by simp [hg]]
          exact bad _
    · rw [if_neg (by simpa using c), if_neg (by simpa using c2), if_neg (by simpa using c3), if_neg (by simpa using c4)]
      have hr := bt_range (s := s) (i := (i : Int))
      exact one (bt s (i : Int)) _ (i + 1) (by simp only [toP]; rw [if_neg (by omega), if_neg (by omega)]; rfl) (by omega) (by omega) (by omega)
theorem impl_alternatives.ev (s : ByteArray) (hs : s.size ≤ 1048576) : Ev (fun n => impl_alternatives n s) (altP (alts s)) := by
  refine Ev.step ?_
  simp only [impl_alternatives.step]
  refine Ev.bind (impl_printed.ev s 100 hs (by omega)) (Ev.cnd (fun h => Ev.pure' ?_) fun h => ?_)
  · rw [alts, if_neg (by intro hh; simp [hh.1, hh.2] at h)]; rfl
  · have h : s.size ≤ 100 ∧ printB s = true := by simpa using h
    rw [alts, if_pos h]
    exact impl_alternatives.loop s h.1 s.size 0 [] [] (by omega) (by omega) (by simp) (by simp)
theorem impl_GoodPattern.ev (s : ByteArray) (hs : s.size ≤ 1048576) : Ev (fun n => impl_GoodPattern n s) (alts s).isSome := by
  refine Ev.step ?_
  simp only [impl_GoodPattern.step]
  refine Ev.bind (impl_alternatives.ev s hs) (Ev.pure' ?_)
  cases alts s <;> rfl
theorem impl_goodMatcher.ev (x : MT) (h : Sm 1048576 MU x) : Ev (fun n => impl_goodMatcher n x) (matcherB x) := by
  have h4 : ∀ b, b = !(nameB x.1 && decide (1 ≤ x.2.1) && decide (x.2.1 ≤ 4) && decide (x.2.2.1.size ≤ 100) && printB x.2.2.1) → Ev (fun n => goRec impl_goodMatcher.step n (impl_goodMatcher.Pt.p4 b x.1 x.2.1 x.2.2.1)) (matcherB x) := by
    rintro b rfl
    refine Ev.step ?_
    simp only [impl_goodMatcher.step]
    refine Ev.cnd (fun e => Ev.pure' ?_) fun e => Ev.cnd (fun e2 => Ev.pure' ?_) fun e2 => Ev.bind (impl_GoodPattern.ev _ h.2.2.1) (Ev.pure' ?_)
    · rw [Bool.not_eq_true'] at e
      rw [matcherB, e]; rfl
    · rw [Bool.not_eq_false'] at e
      rw [matcherB, e, e2]; rfl
    · rw [Bool.not_eq_false'] at e
      rw [matcherB, e, e2]; simp
  refine Ev.step ?_
  simp only [impl_goodMatcher.step]
  refine Ev.bind (impl_isName.ev _ h.1) (Ev.cnd (fun e => h4 _ (by simp at e; simp [e])) fun e1 => Ev.cnd (fun e => h4 _ (by simp at e; simp; omega)) fun e2 => Ev.cnd (fun e => h4 _ (by simp at e; simp; omega)) fun e3 => ?_)
  refine Ev.bind (impl_printed.ev _ 100 h.2.2.1 (by omega)) (h4 _ ?_)
  simp at e1 e2 e3
  simp [e1, e2, e3, Bool.and_assoc]
theorem impl_GoodMatchers_1.ev (x : MT) (h : Sm 1048576 MU x) : Ev (fun n => impl_GoodMatchers_1 n x) (!matcherB x) := by
  refine Ev.step ?_
  simp only [impl_GoodMatchers_1.step]
  exact Ev.bind (impl_goodMatcher.ev x h) Ev.pure
theorem slices_IndexFunc_Matcher_impl_GoodMatchers_1.ev (l : List ((ByteArray) × ((Int) × ((ByteArray) × (Unit)))))  (p : ((ByteArray) × ((Int) × ((ByteArray) × (Unit)))) → Bool) (hl : l.length ≤ 1048576) (hp : ∀ i, i < l.length → Ev (fun n => impl_GoodMatchers_1 n (l.getD i default)) (p (l.getD i default))) : Ev (fun n => slices_IndexFunc_Matcher_impl_GoodMatchers_1 n l) (match (List.range l.length).find? (fun i => p (l.getD i default)) with | some i => (i : Int) | none => -1) := by
  refine Ev.step ?_
  simp only [slices_IndexFunc_Matcher_impl_GoodMatchers_1.step]
  refine Ev.find (pt := fun i : Nat => slices_IndexFunc_Matcher_impl_GoodMatchers_1.Pt.p7 l ((List.length l) : Int) (i : Int)) (fun i hi => ⟨fun h v hv => ?_, fun h => ?_⟩) ?_
  · refine Ev.step ?_
    simp only [slices_IndexFunc_Matcher_impl_GoodMatchers_1.step, toNat_cast, i64_nat (show i ≤ 4611686018427387904 by omega)]
    exact Ev.yes (lt_yes hi) (Ev.yes (inB_nat hi) (Ev.bind (hp i hi) (Ev.no h hv)))
  · refine Ev.step ?_
    simp only [slices_IndexFunc_Matcher_impl_GoodMatchers_1.step, toNat_cast]
    exact Ev.yes (lt_yes hi) (Ev.yes (inB_nat hi) (Ev.bind (hp i hi) (Ev.yes h Ev.pure)))
  · refine Ev.step ?_
    simp only [slices_IndexFunc_Matcher_impl_GoodMatchers_1.step]
    exact Ev.no lt_no Ev.pure
theorem slices_ContainsFunc_Matcher_impl_GoodMatchers_1.ev (l : List ((ByteArray) × ((Int) × ((ByteArray) × (Unit)))))  (p : ((ByteArray) × ((Int) × ((ByteArray) × (Unit)))) → Bool) (hl : l.length ≤ 1048576) (hp : ∀ i, i < l.length → Ev (fun n => impl_GoodMatchers_1 n (l.getD i default)) (p (l.getD i default))) : Ev (fun n => slices_ContainsFunc_Matcher_impl_GoodMatchers_1 n l) ((List.range l.length).any fun i => p (l.getD i default)) := by
  refine Ev.step ?_
  simp only [slices_ContainsFunc_Matcher_impl_GoodMatchers_1.step]
  refine Ev.bind (slices_IndexFunc_Matcher_impl_GoodMatchers_1.ev l p hl hp) (Ev.pure' ?_)
  exact find_any
theorem impl_GoodMatchers.ev (l : List MT) (h : Sm 1048576 (.sl false MU) l) : Ev (fun n => impl_GoodMatchers n l) (matchersB l) := by
  refine Ev.step ?_
  simp only [impl_GoodMatchers.step]
  refine Ev.cnd (fun c => ?_) fun c => Ev.pure' (by simp at c; simp [matchersB]; omega)
  have h10 : l.length ≤ 10 := by simp at c; omega
  refine Ev.bind (slices_ContainsFunc_Matcher_impl_GoodMatchers_1.ev l (fun x => !matcherB x) (by omega) fun i hi => impl_GoodMatchers_1.ev _ (h.2 _ (getD_mem hi))) (Ev.pure' ?_)
  simp [matchersB, h10, List.all_eq_not_any_not]
theorem impl_rising_string.ev (l : List ByteArray) (h : Sm 1048576 (.sl false .str) l) : Ev (fun n => impl_rising_string n l) (risingB l) := by
  have hl : l.length ≤ 1048576 := h.1
  refine Ev.step ?_
  simp only [impl_rising_string.step]
  refine Ev.allN (pt := fun i : Nat => impl_rising_string.Pt.p7 l ((i + 1 : Nat) : Int)) (fun i hi => ⟨fun hp v hv => ?_, fun hp => ?_⟩) ?_
  · refine Ev.step ?_
    simp only [impl_rising_string.step, i64_pred (show i ≤ 4611686018427387904 by omega), i64_nat (show i + 1 ≤ 4611686018427387904 by omega), toNat_cast, slt_cmp]
    exact Ev.yes (lt_yes (by omega)) (Ev.yes (inB_nat (by omega)) (Ev.yes (inB_nat (by omega)) (Ev.no (by simp at hp; simp; omega) hv)))
  · refine Ev.step ?_
    simp only [impl_rising_string.step, i64_pred (show i ≤ 4611686018427387904 by omega), toNat_cast, slt_cmp]
    exact Ev.yes (lt_yes (by omega)) (Ev.yes (inB_nat (by omega)) (Ev.yes (inB_nat (by omega)) (Ev.yes (by simp at hp; simp; omega) Ev.pure)))
  · refine Ev.step ?_
    simp only [impl_rising_string.step]
    exact Ev.no (by simp; omega) Ev.pure
theorem impl_goodNames_1.ev (s : ByteArray) (h : s.size ≤ 1048576) : Ev (fun n => impl_goodNames_1 n s) (!nameB s) := by
  refine Ev.step ?_
  simp only [impl_goodNames_1.step]
  exact Ev.bind (impl_isName.ev s h) Ev.pure
theorem slices_IndexFunc_string_impl_goodNames_1.ev (l : List (ByteArray))  (p : (ByteArray) → Bool) (hl : l.length ≤ 1048576) (hp : ∀ i, i < l.length → Ev (fun n => impl_goodNames_1 n (l.getD i default)) (p (l.getD i default))) : Ev (fun n => slices_IndexFunc_string_impl_goodNames_1 n l) (match (List.range l.length).find? (fun i => p (l.getD i default)) with | some i => (i : Int) | none => -1) := by
  refine Ev.step ?_
  simp only [slices_IndexFunc_string_impl_goodNames_1.step]
  refine Ev.find (pt := fun i : Nat => slices_IndexFunc_string_impl_goodNames_1.Pt.p7 l ((List.length l) : Int) (i : Int)) (fun i hi => ⟨fun h v hv => ?_, fun h => ?_⟩) ?_
  · refine Ev.step ?_
    simp only [slices_IndexFunc_string_impl_goodNames_1.step, toNat_cast, i64_nat (show i ≤ 4611686018427387904 by omega)]
    exact Ev.yes (lt_yes hi) (Ev.yes (inB_nat hi) (Ev.bind (hp i hi) (Ev.no h hv)))
  · refine Ev.step ?_
    simp only [slices_IndexFunc_string_impl_goodNames_1.step, toNat_cast]
    exact Ev.yes (lt_yes hi) (Ev.yes (inB_nat hi) (Ev.bind (hp i hi) (Ev.yes h Ev.pure)))
  · refine Ev.step ?_
    simp only [slices_IndexFunc_string_impl_goodNames_1.step]
    exact Ev.no lt_no Ev.pure
theorem slices_ContainsFunc_string_impl_goodNames_1.ev (l : List (ByteArray))  (p : (ByteArray) → Bool) (hl : l.length ≤ 1048576) (hp : ∀ i, i < l.length → Ev (fun n => impl_goodNames_1 n (l.getD i default)) (p (l.getD i default))) : Ev (fun n => slices_ContainsFunc_string_impl_goodNames_1 n l) ((List.range l.length).any fun i => p (l.getD i default)) := by
  refine Ev.step ?_
  simp only [slices_ContainsFunc_string_impl_goodNames_1.step]
  refine Ev.bind (slices_IndexFunc_string_impl_goodNames_1.ev l p hl hp) (Ev.pure' ?_)
  exact find_any
theorem impl_goodNames.ev (l : List ByteArray) (h : Sm 1048576 (.sl false .str) l) : Ev (fun n => impl_goodNames n l) (namesB l) := by
  refine Ev.step ?_
  simp only [impl_goodNames.step]
  refine Ev.cnd (fun c => ?_) fun c => Ev.pure' (by have : ¬ l.length ≤ 10 := by simp at c; omega
                                                    simp [namesB, this])
  have h10 : l.length ≤ 10 := by simp at c; omega
  refine Ev.bind (impl_rising_string.ev l h) (Ev.cnd (fun c2 => ?_) fun c2 => Ev.pure' (by simp [namesB, c2]))
  refine Ev.bind (slices_ContainsFunc_string_impl_goodNames_1.ev l (fun x => !nameB x) (by omega) fun i hi => impl_goodNames_1.ev _ (h.2 _ (getD_mem hi))) (Ev.pure' ?_)
  simp [namesB, h10, c2, List.all_eq_not_any_not]
theorem impl_isTime.ev (b : Int) : Ev (fun n => impl_isTime n b) (timeB b) := by
  refine Ev.step ?_
  simp only [impl_isTime.step]
  exact Ev.cnd (fun h => Ev.pure' (by simp [timeB, h])) fun h => Ev.pure' (by simp [timeB, h])
theorem impl_rising_int.ev (l : List Int) (hl : l.length ≤ 1048576) : Ev (fun n => impl_rising_int n l) (risingI l) := by
  refine Ev.step ?_
  simp only [impl_rising_int.step]
  refine Ev.allN (pt := fun i : Nat => impl_rising_int.Pt.p7 l ((i + 1 : Nat) : Int)) (fun i hi => ⟨fun hp v hv => ?_, fun hp => ?_⟩) ?_
  · have hp := of_decide_eq_true hp
    refine Ev.step ?_
    simp only [impl_rising_int.step, i64_pred (show i ≤ 4611686018427387904 by omega), i64_nat (show i + 1 ≤ 4611686018427387904 by omega), toNat_cast]
    exact Ev.yes (lt_yes (by omega)) (Ev.yes (inB_nat (by omega)) (Ev.yes (inB_nat (by omega)) (Ev.no (decide_eq_false (by omega)) hv)))
  · have hp := of_decide_eq_false hp
    refine Ev.step ?_
    simp only [impl_rising_int.step, i64_pred (show i ≤ 4611686018427387904 by omega), toNat_cast]
    exact Ev.yes (lt_yes (by omega)) (Ev.yes (inB_nat (by omega)) (Ev.yes (inB_nat (by omega)) (Ev.yes (decide_eq_true (by omega)) Ev.pure)))
  · refine Ev.step ?_
    simp only [impl_rising_int.step]
    exact Ev.no (decide_eq_false (by omega)) Ev.pure
theorem impl_goodRoute.ev (r : RTE) (h : Sm 1048576 RTU r) : Ev (fun n => impl_goodRoute n r) (routeB r) := by
  have hml : r.2.2.2.2.2.2.1.length ≤ 1048576 := h.2.2.2.2.2.2.1.1
  have loop : r.2.2.2.2.2.2.1.length ≤ 20 → Ev (fun n => goRec impl_goodRoute.step n (impl_goodRoute.Pt.p15 r.2.2.2.2.2.2.1 (r.2.2.2.2.2.2.1.length : Int) 0)) (mutesB r.2.2.2.2.2.2.1) := by
    intro h20
    refine Ev.allN (pt := fun i : Nat => impl_goodRoute.Pt.p15 r.2.2.2.2.2.2.1 (r.2.2.2.2.2.2.1.length : Int) (i : Int)) (fun i hi => ⟨fun hp v hv => ?_, fun hp => ?_⟩) ?_
    · refine Ev.step ?_
      simp only [Bool.and_eq_true, decide_eq_true_eq] at hp
      simp only [impl_goodRoute.step, toNat_cast, i64_nat (show i ≤ 4611686018427387904 by omega)]
      exact Ev.yes (lt_yes hi) (Ev.yes (inB_nat hi) (Ev.no (by simp only [decide_eq_false_iff_not]; omega) (Ev.no (by simp only [decide_eq_false_iff_not]; omega) hv)))
    · refine Ev.step ?_
      simp only [impl_goodRoute.step, toNat_cast]
      refine Ev.yes (lt_yes hi) (Ev.yes (inB_nat hi) (Ev.cnd (fun _ => Ev.pure) fun e => Ev.yes ?_ Ev.pure))
      have e := of_decide_eq_false e
      rw [show decide (0 ≤ r.2.2.2.2.2.2.1.getD i default) = true by simp only [decide_eq_true_eq]; omega, Bool.true_and] at hp
      have hp := of_decide_eq_false hp
      simp only [decide_eq_true_eq]; omega
    · refine Ev.step ?_
      simp only [impl_goodRoute.step]
      exact Ev.no lt_no Ev.pure
  have p4 : ∀ b, (b = !(nameB r.1 && matchersB r.2.1 && namesB r.2.2.1 && timeB r.2.2.2.1 && posB r.2.2.2.2.1 && posB r.2.2.2.2.2.1 && (decide (r.2.2.2.2.2.2.1.length ≤ 20) && risingI r.2.2.2.2.2.2.1))) → Ev (fun n => goRec impl_goodRoute.step n (impl_goodRoute.Pt.p4 b r.1 r.2.1 r.2.2.1 r.2.2.2.1 r.2.2.2.2.1 r.2.2.2.2.2.1 r.2.2.2.2.2.2.1 r.2.2.2.2.2.2.2.1 r.2.2.2.2.2.2.2.2.1)) (routeB r) := by
    rintro b rfl
    refine Ev.step ?_
    simp only [impl_goodRoute.step]
    refine Ev.cnd (fun e => Ev.pure' ?_) fun e => ?_
    · rw [Bool.not_eq_true'] at e
      rw [routeB, e]; rfl
    · rw [Bool.not_eq_false'] at e
      have h20 : r.2.2.2.2.2.2.1.length ≤ 20 := by
        simp only [Bool.and_eq_true, decide_eq_true_eq] at e
        exact e.2.1
      exact Ev.of_eq (loop h20) (by rw [routeB, e]; rfl)
  refine Ev.step ?_
  simp only [impl_goodRoute.step]
  refine Ev.bind (impl_isName.ev _ h.1) (Ev.cnd (fun e => p4 _ (by rw [Bool.not_eq_true'] at e; simp [e])) fun e1 => ?_)
  refine Ev.bind (impl_GoodMatchers.ev _ h.2.1) (Ev.cnd (fun e => p4 _ (by rw [Bool.not_eq_true'] at e; simp [e])) fun e2 => ?_)
  refine Ev.bind (impl_goodNames.ev _ h.2.2.1) (Ev.cnd (fun e => p4 _ (by rw [Bool.not_eq_true'] at e; simp [e])) fun e3 => ?_)
  refine Ev.bind (impl_isTime.ev _) (Ev.cnd (fun e => p4 _ (by rw [Bool.not_eq_true'] at e; simp [e])) fun e4 => ?_)
  refine Ev.bind (impl_isTime.ev _) (Ev.cnd (fun e => p4 _ (by rw [Bool.not_eq_true'] at e; rw [posB_time, e]; simp)) fun e5 => ?_)
  refine Ev.cnd (fun e => p4 _ (by rw [posB_time, e]; simp)) fun e6 => ?_
  refine Ev.bind (impl_isTime.ev _) (Ev.cnd (fun e => p4 _ (by rw [Bool.not_eq_true'] at e; rw [posB_time (n := r.2.2.2.2.2.1), e]; simp)) fun e7 => ?_)
  refine Ev.cnd (fun e => p4 _ (by rw [posB_time (n := r.2.2.2.2.2.1), e]; simp)) fun e8 => ?_
  rw [Bool.not_eq_false'] at e5 e7
  have pa : posB r.2.2.2.2.1 = true := by rw [posB_time, e5, e6]; rfl
  have pb : posB r.2.2.2.2.2.1 = true := by rw [posB_time, e7, e8]; rfl
  refine Ev.cnd (fun e => p4 _ (by rw [show decide (r.2.2.2.2.2.2.1.length ≤ 20) = false by simp only [decide_eq_true_eq] at e; simp only [decide_eq_false_iff_not]; omega]; simp)) fun e9 => ?_
  have h20 : r.2.2.2.2.2.2.1.length ≤ 20 := by simp only [decide_eq_false_iff_not] at e9; omega
  refine Ev.bind (impl_rising_int.ev _ hml) (p4 _ ?_)
  rw [Bool.not_eq_false'] at e1 e2 e3 e4
  simp [e1, e2, e3, e4, pa, pb, h20]
theorem impl_GoodRoutes_1.ev (r : RTE) (h : Sm 1048576 RTU r) : Ev (fun n => impl_GoodRoutes_1 n r) (!routeB r) := by
  refine Ev.step ?_
  simp only [impl_GoodRoutes_1.step]
  exact Ev.bind (impl_goodRoute.ev r h) Ev.pure
theorem slices_IndexFunc_Route_impl_GoodRoutes_1.ev (l : List ((ByteArray) × ((List ((ByteArray) × ((Int) × ((ByteArray) × (Unit))))) × ((List (ByteArray)) × ((Int) × ((Int) × ((Int) × ((List (Int)) × ((Bool) × ((Int) × (Unit)))))))))))  (p : ((ByteArray) × ((List ((ByteArray) × ((Int) × ((ByteArray) × (Unit))))) × ((List (ByteArray)) × ((Int) × ((Int) × ((Int) × ((List (Int)) × ((Bool) × ((Int) × (Unit)))))))))) → Bool) (hl : l.length ≤ 1048576) (hp : ∀ i, i < l.length → Ev (fun n => impl_GoodRoutes_1 n (l.getD i default)) (p (l.getD i default))) : Ev (fun n => slices_IndexFunc_Route_impl_GoodRoutes_1 n l) (match (List.range l.length).find? (fun i => p (l.getD i default)) with | some i => (i : Int) | none => -1) := by
  refine Ev.step ?_
  simp only [slices_IndexFunc_Route_impl_GoodRoutes_1.step]
  refine Ev.find (pt := fun i : Nat => slices_IndexFunc_Route_impl_GoodRoutes_1.Pt.p7 l ((List.length l) : Int) (i : Int)) (fun i hi => ⟨fun h v hv => ?_, fun h => ?_⟩) ?_
  · refine Ev.step ?_
    simp only [slices_IndexFunc_Route_impl_GoodRoutes_1.step, toNat_cast, i64_nat (show i ≤ 4611686018427387904 by omega)]
    exact Ev.yes (lt_yes hi) (Ev.yes (inB_nat hi) (Ev.bind (hp i hi) (Ev.no h hv)))
  · refine Ev.step ?_
    simp only [slices_IndexFunc_Route_impl_GoodRoutes_1.step, toNat_cast]
    exact Ev.yes (lt_yes hi) (Ev.yes (inB_nat hi) (Ev.bind (hp i hi) (Ev.yes h Ev.pure)))
  · refine Ev.step ?_
    simp only [slices_IndexFunc_Route_impl_GoodRoutes_1.step]
    exact Ev.no lt_no Ev.pure
theorem slices_ContainsFunc_Route_impl_GoodRoutes_1.ev (l : List ((ByteArray) × ((List ((ByteArray) × ((Int) × ((ByteArray) × (Unit))))) × ((List (ByteArray)) × ((Int) × ((Int) × ((Int) × ((List (Int)) × ((Bool) × ((Int) × (Unit)))))))))))  (p : ((ByteArray) × ((List ((ByteArray) × ((Int) × ((ByteArray) × (Unit))))) × ((List (ByteArray)) × ((Int) × ((Int) × ((Int) × ((List (Int)) × ((Bool) × ((Int) × (Unit)))))))))) → Bool) (hl : l.length ≤ 1048576) (hp : ∀ i, i < l.length → Ev (fun n => impl_GoodRoutes_1 n (l.getD i default)) (p (l.getD i default))) : Ev (fun n => slices_ContainsFunc_Route_impl_GoodRoutes_1 n l) ((List.range l.length).any fun i => p (l.getD i default)) := by
  refine Ev.step ?_
  simp only [slices_ContainsFunc_Route_impl_GoodRoutes_1.step]
  refine Ev.bind (slices_IndexFunc_Route_impl_GoodRoutes_1.ev l p hl hp) (Ev.pure' ?_)
  exact find_any
theorem impl_GoodRoutes.ev (l : List RTE) (h : Sm 1048576 (.sl false RTU) l) : Ev (fun n => impl_GoodRoutes n l) (routesB l) := by
  refine Ev.step ?_
  simp only [impl_GoodRoutes.step]
  obtain ⟨r, h1, h2⟩ := impl_depths.ev l
  refine Ev.bind h1 ?_
  rw [h2, Bool.not_not]
  refine Ev.cnd (fun c => ?_) fun c => Ev.pure' ?_
  case refine_2 =>
    by_cases h40 : l.length ≤ 40
    · rw [routesB, routes_eq h40, ← Bool.and_assoc (decide (l.length ≠ 0) && decide (l.length ≤ 40)) (decide (nodeN l smallB 8 0 = some l.length)), c]; rfl
    · rw [routesB, decide_eq_false h40, Bool.and_false]; rfl
  have c' := c
  simp only [Bool.and_eq_true] at c'
  have h0 : l.length ≠ 0 := of_decide_eq_true c'.1.1
  have h40 : l.length ≤ 40 := of_decide_eq_true c'.1.2
  simp only [show (0 : Int).toNat = 0 from rfl]
  have ct := slices_ContainsFunc_Route_impl_GoodRoutes_1.ev l (fun r => !routeB r) (by omega) (fun i hi => impl_GoodRoutes_1.ev _ (h.2 _ (getD_mem hi)))
  refine Ev.yes (inB_zero (by omega)) (Ev.cnd (fun c2 => Ev.yes (inB_zero (by omega)) (Ev.cnd (fun c3 => Ev.bind ct (Ev.pure' ?_)) fun c3 => Ev.pure' ?_)) fun c2 => Ev.pure' ?_)
  · have c2 : (l.getD 0 default).2.1.length = 0 := by have := of_decide_eq_true c2; omega
    rw [routesB, routes_eq h40, ← Bool.and_assoc (decide (l.length ≠ 0) && decide (l.length ≤ 40)) (decide (nodeN l smallB 8 0 = some l.length)), c, c3, decide_eq_true c2, List.all_eq_not_any_not]
    simp
  · rw [routesB, c3, Bool.and_false, Bool.and_false]
  · have c2 : ¬ (l.getD 0 default).2.1.length = 0 := by have := of_decide_eq_false c2; omega
    rw [routesB, decide_eq_false c2, Bool.false_and, Bool.and_false]
theorem strings_Repeat.ev (k : Nat) (hk : k ≤ 8) : Ev (fun n => strings_Repeat n ⟨#[32, 32]⟩ (k : Int)) (repB k) := by
  refine Ev.held ?_
  have e : (decide (0 ≤ (k : Int)) && decide ((k : Int) ≤ 9223372036854775807) && decide (((⟨#[32, 32]⟩ : ByteArray).size : Int) * (k : Int) ≤ 140737488355328)) = true := by
    rw [decide_eq_true (by omega), decide_eq_true (by omega), decide_eq_true (by rw [show (⟨#[32, 32]⟩ : ByteArray).size = 2 from rfl]; omega)]; rfl
  rw [e]; rfl
theorem impl_quote.ev (s : ByteArray) (hs : s.size ≤ 1048576) : Ev (fun n => impl_quote n s) (quotB s) := by
  have loop : ∀ d i, i + d = s.size → Ev (fun n => goRec impl_quote.step n (impl_quote.Pt.p9 s (s.size : Int) (i : Int) (34 :: escL ((octs s).take i)))) (quotB s) := by
    intro d
    induction d with
    | zero =>
      intro i hi
      obtain rfl : i = s.size := by omega
      have hl := escL_len ((octs s).take s.size)
      rw [List.length_take, octs_len] at hl
      refine Ev.step ?_
      simp only [impl_quote.step]
      refine Ev.no lt_no (Ev.yes (room_ok (by simp only [List.length_cons, List.length_nil]; omega)) (Ev.pure' ?_))
      rw [List.take_of_length_le (by rw [octs_len]; exact Nat.le_refl _)]; rfl
    | succ d ih =>
      intro i hi
      have hlt : i < s.size := by omega
      have hl := escL_len ((octs s).take i)
      rw [List.length_take, octs_len] at hl
      have nx : ∀ b, b = (decide (bt s (i : Int) = 34) || decide (bt s (i : Int) = 92)) → Ev (fun n => goRec impl_quote.step n (impl_quote.Pt.p21 s (i : Int) (s.size : Int) (i : Int) b (34 :: escL ((octs s).take i)))) (quotB s) := by
        intro b hb
        have h := ih (i + 1) (by omega)
        rw [octs_take hlt, escL_snoc, ← hb] at h
        refine Ev.step ?_
        simp only [impl_quote.step, i64_nat (show i ≤ 4611686018427387904 by omega)]
        cases b with
        | true =>
          refine Ev.yes rfl (Ev.yes (room_ok (by simp only [List.length_cons, List.length_nil]; omega)) (Ev.yes (inB_nat hlt) (Ev.yes (room_ok (by simp only [List.length_append, List.length_cons, List.length_nil]; omega)) ?_)))
          simpa using h
        | false =>
          refine Ev.no rfl (Ev.yes (inB_nat hlt) (Ev.yes (room_ok (by simp only [List.length_cons, List.length_nil]; omega)) ?_))
          simpa using h
      refine Ev.step ?_
      simp only [impl_quote.step]
      exact Ev.yes (lt_yes hlt) (Ev.yes (inB_nat hlt) (Ev.cnd (fun c => nx _ (by rw [c]; rfl)) fun c => Ev.yes (inB_nat hlt) (nx _ (by rw [c]; rfl))))
  refine Ev.step ?_
  simp only [impl_quote.step]
  exact loop s.size 0 (by omega)
theorem impl_matcherText.ev (x : MT) (h : matcherB x = true) : Ev (fun n => impl_matcherText n x) (mtB x) := by
  obtain ⟨h1, h2, h3, h4⟩ := matcherB_parts h
  have hq := quotB_size (s := x.2.2.1)
  have ho := opsL_size x.2.1.toNat
  refine Ev.step ?_
  simp only [impl_matcherText.step]
  refine Ev.yes (by simp only [inB, decide_eq_true_eq]; omega) (Ev.yes (room_ok ?_) (Ev.bind (impl_quote.ev _ (by omega)) (Ev.yes (room_ok ?_) (Ev.pure' rfl))))
  · show x.1.size + (opsL.getD x.2.1.toNat default).size ≤ _; omega
  · show (x.1 ++ opsL.getD x.2.1.toNat default).size + _ ≤ _; rw [ByteArray.size_append]; omega
theorem strings_Join.ev (l : List ByteArray) (m : Nat) (hl : l.length ≤ 1048576) (hm : l.length * (m + 1) ≤ 1000000000) (hx : ∀ x ∈ l, x.size ≤ m) : Ev (fun n => strings_Join n l ⟨#[44]⟩) (joinB l) := by
  have h := join_len l hx
  refine Ev.held ?_
  have e : (decide (l.length ≤ 140737488355328) && decide ((Lib.join (l.map (·.data.toList)) (⟨#[44]⟩ : ByteArray).data.toList).length ≤ 140737488355328)) = true := by
    rw [decide_eq_true (by omega), decide_eq_true (show (Lib.join (l.map (·.data.toList)) [44]).length ≤ 140737488355328 by omega)]; rfl
  rw [e]; rfl
theorem impl_MatchersText.ev (l : List MT) (h : Sm 1048576 (.sl false MU) l) (hg : matchersB l = true) : Ev (fun n => impl_MatchersText n l) (mtsB l) := by
  obtain ⟨h10, hm⟩ := matchersB_parts hg
  obtain ⟨m1, m2⟩ := mts_map hg
  have loop : ∀ d i, i + d = l.length → Ev (fun n => goRec impl_MatchersText.step n (impl_MatchersText.Pt.p17 l (l.length : Int) (i : Int) ((l.map mtB).take i))) (mtsB l) := by
    intro d
    induction d with
    | zero =>
      intro i hi
      obtain rfl : i = l.length := by omega
      rw [List.take_of_length_le (by rw [List.length_map]; exact Nat.le_refl _)]
      have hj := joinB_size m1 m2
      refine Ev.step ?_
      simp only [impl_MatchersText.step]
      refine Ev.no lt_no (Ev.bind (strings_Join.ev _ 244 (by omega) (by omega) m1) (Ev.yes (room_ok ?_) (Ev.yes (room_ok ?_) (Ev.pure' rfl))))
      · simp only [sz_lit, List.size_toArray, List.length_cons, List.length_nil]; omega
      · simp only [ByteArray.size_append, sz_lit, List.size_toArray, List.length_cons, List.length_nil]; omega
    | succ d ih =>
      intro i hi
      have hlt : i < l.length := by omega
      have hk := ih (i + 1) (by omega)
      rw [List.take_add_one, List.getElem?_map, List.getElem?_eq_getElem hlt] at hk
      have e : l.getD i default = l[i] := by rw [List.getD_eq_getElem?_getD, List.getElem?_eq_getElem hlt]; rfl
      refine Ev.step ?_
      simp only [impl_MatchersText.step, toNat_cast, i64_nat (show i ≤ 4611686018427387904 by omega)]
      refine Ev.yes (lt_yes hlt) (Ev.yes (inB_nat hlt) (Ev.bind (impl_matcherText.ev _ (hm i hlt)) (Ev.yes (room_ok ?_) ?_)))
      · simp only [List.length_take, List.length_map, List.length_cons, List.length_nil]; omega
      · rw [e]; exact hk
  refine Ev.step ?_
  simp only [impl_MatchersText.step]
  refine Ev.bind (impl_GoodMatchers.ev l h) (Ev.no (by rw [hg]; rfl) ?_)
  exact loop l.length 0 (by omega)
theorem strconv_Itoa.ev (v : Int) (h1 : -9223372036854775808 ≤ v) (h2 : v ≤ 9223372036854775807) : Ev (fun n => strconv_Itoa n v) (itoaB v) :=
  Ev.held (by rw [decide_eq_true h1, decide_eq_true h2]; rfl)
theorem impl_digitsOf.ev (v : Int) (h1 : -9223372036854775808 ≤ v) (h2 : v ≤ 9223372036854775807) : Ev (fun n => impl_digitsOf n v) (itoaB v) := by
  refine Ev.step ?_
  simp only [impl_digitsOf.step]
  exact Ev.bind (strconv_Itoa.ev v h1 h2) Ev.pure
theorem impl_intsText.ev (l : List Int) (h20 : l.length ≤ 20) (hg : mutesB l = true) : Ev (fun n => impl_intsText n l) (joinB (l.map itoaB)) := by
  obtain ⟨m1, m2⟩ := mutes_map h20 hg
  have loop : ∀ d i, i + d = l.length → Ev (fun n => goRec impl_intsText.step n (impl_intsText.Pt.p9 l (l.length : Int) (i : Int) ((l.map itoaB).take i))) (joinB (l.map itoaB)) := by
    intro d
    induction d with
    | zero =>
      intro i hi
      obtain rfl : i = l.length := by omega
      rw [List.take_of_length_le (by rw [List.length_map]; exact Nat.le_refl _)]
      refine Ev.step ?_
      simp only [impl_intsText.step]
      exact Ev.no lt_no (Ev.bind (strings_Join.ev _ 20 (by omega) (by omega) m1) Ev.pure)
    | succ d ih =>
      intro i hi
      have hlt : i < l.length := by omega
      have hk := ih (i + 1) (by omega)
      rw [List.take_add_one, List.getElem?_map, List.getElem?_eq_getElem hlt] at hk
      have e : l.getD i default = l[i] := by rw [List.getD_eq_getElem?_getD, List.getElem?_eq_getElem hlt]; rfl
      have hm := mutes_at hg hlt
      refine Ev.step ?_
      simp only [impl_intsText.step, toNat_cast, i64_nat (show i ≤ 4611686018427387904 by omega)]
      refine Ev.yes (lt_yes hlt) (Ev.yes (inB_nat hlt) (Ev.bind (impl_digitsOf.ev _ (Int.le_trans (by decide) hm.1) (Int.le_trans (Int.le_of_lt hm.2) (by decide))) (Ev.yes (room_ok ?_) ?_)))
      · simp only [List.length_take, List.length_map, List.length_cons, List.length_nil]; omega
      · rw [e]; exact hk
  refine Ev.step ?_
  simp only [impl_intsText.step]
  exact loop l.length 0 (by omega)
theorem impl_routeText.ev (r : RTE) (h : Sm 1048576 RTU r) (hg : routeB r = true) : Ev (fun n => impl_routeText n r) (lineB r) := by
  obtain ⟨g1, g2, g3, g4, g5, g6, g7, g8⟩ := route_parts hg
  obtain ⟨n1, n2, n3⟩ := route_nums hg
  have z1 := l1B_size hg
  have z2 := l2B_size hg
  have z3 := l3B_size hg
  have zm := mtsB_size g2
  have zj := joinB_size g3.2 g3.1
  have zk := joinB_size (mutes_map g7 g8).1 (mutes_map g7 g8).2
  have p11 : ∀ y, y = l2B r → Ev (fun n => goRec impl_routeText.step n (impl_routeText.Pt.p11 y r.1 r.2.1 r.2.2.1 r.2.2.2.1 r.2.2.2.2.1 r.2.2.2.2.2.1 r.2.2.2.2.2.2.1 r.2.2.2.2.2.2.2.1 r.2.2.2.2.2.2.2.2.1)) (lineB r) := by
    rintro y rfl
    have e3 : l2B r ++ (((((⟨#[32, 119, 97, 105, 116, 32]⟩ ++ itoaB r.2.2.2.1) ++ ⟨#[32, 101, 118, 101, 114, 121, 32]⟩) ++ itoaB r.2.2.2.2.1) ++ ⟨#[32, 97, 103, 97, 105, 110, 32]⟩) ++ itoaB r.2.2.2.2.2.1) = l3B r := rfl
    refine Ev.step ?_
    simp only [impl_routeText.step]
    refine Ev.bind (impl_digitsOf.ev _ (by omega) (by omega)) (Ev.yes (room_ok (by simp only [ByteArray.size_append, sz_lit, List.size_toArray, List.length_cons, List.length_nil]; omega)) (Ev.yes (room_ok (by simp only [ByteArray.size_append, sz_lit, List.size_toArray, List.length_cons, List.length_nil]; omega)) ?_))
    refine Ev.bind (impl_digitsOf.ev _ (by omega) (by omega)) (Ev.yes (room_ok (by simp only [ByteArray.size_append, sz_lit, List.size_toArray, List.length_cons, List.length_nil]; omega)) (Ev.yes (room_ok (by simp only [ByteArray.size_append, sz_lit, List.size_toArray, List.length_cons, List.length_nil]; omega)) ?_))
    refine Ev.bind (impl_digitsOf.ev _ (by omega) (by omega)) (Ev.yes (room_ok (by simp only [ByteArray.size_append, sz_lit, List.size_toArray, List.length_cons, List.length_nil]; omega)) (Ev.yes (room_ok (by simp only [ByteArray.size_append, sz_lit, List.size_toArray, List.length_cons, List.length_nil]; omega)) ?_))
    simp only [e3]
    refine Ev.cnd (fun c => ?_) fun c => ?_
    · have e4 : l3B r ++ (⟨#[32, 109, 117, 116, 101, 32]⟩ ++ joinB (r.2.2.2.2.2.2.1.map itoaB)) = l4B r := by rw [l4B, c]; rfl
      refine Ev.bind (impl_intsText.ev _ g7 g8) (Ev.yes (room_ok (by simp only [ByteArray.size_append, sz_lit, List.size_toArray, List.length_cons, List.length_nil]; omega)) (Ev.yes (room_ok (by simp only [ByteArray.size_append, sz_lit, List.size_toArray, List.length_cons, List.length_nil]; omega)) ?_))
      exact Ev.cnd (fun d => Ev.yes (room_ok (by simp only [ByteArray.size_append, sz_lit, List.size_toArray, List.length_cons, List.length_nil]; omega)) (Ev.pure' (by rw [lineB, d, ← e4]; rfl))) fun d => Ev.pure' (by rw [lineB, d, ← e4]; rfl)
    · have e4 : l3B r = l4B r := by rw [l4B, c]; rfl
      exact Ev.cnd (fun d => Ev.yes (room_ok (by simp only [ByteArray.size_append, sz_lit, List.size_toArray, List.length_cons, List.length_nil]; omega)) (Ev.pure' (by rw [lineB, d, ← e4]; rfl))) fun d => Ev.pure' (by rw [lineB, d, ← e4]; rfl)
  have p5 : ∀ y, y = l1B r → Ev (fun n => goRec impl_routeText.step n (impl_routeText.Pt.p5 y r.1 r.2.1 r.2.2.1 r.2.2.2.1 r.2.2.2.2.1 r.2.2.2.2.2.1 r.2.2.2.2.2.2.1 r.2.2.2.2.2.2.2.1 r.2.2.2.2.2.2.2.2.1)) (lineB r) := by
    rintro y rfl
    refine Ev.step ?_
    simp only [impl_routeText.step]
    exact Ev.cnd (fun c => Ev.bind (strings_Join.ev _ 40 (by omega) (by omega) g3.2) (Ev.yes (room_ok (by simp only [ByteArray.size_append, sz_lit, List.size_toArray, List.length_cons, List.length_nil]; omega)) (Ev.yes (room_ok (by simp only [ByteArray.size_append, sz_lit, List.size_toArray, List.length_cons, List.length_nil]; omega)) (p11 _ (by rw [l2B, c]; rfl))))) fun c => p11 _ (by rw [l2B, c]; rfl)
  refine Ev.step ?_
  simp only [impl_routeText.step]
  exact Ev.cnd (fun c => Ev.bind (impl_MatchersText.ev _ h.2.1 g2) (Ev.yes (room_ok (by simp only [ByteArray.size_append, sz_lit, List.size_toArray, List.length_cons, List.length_nil]; omega)) (Ev.yes (room_ok (by simp only [ByteArray.size_append, sz_lit, List.size_toArray, List.length_cons, List.length_nil]; omega)) (p5 _ (by rw [l1B, c]; rfl))))) fun c => p5 _ (by rw [l1B, c]; rfl)
theorem impl_depths_1.ev2 (l : List RTE) (hl : l.length ≤ 40) : ∀ d (deep : Nat) (out : List Int) (q : Nat), deep + d = 8 → out.length ≤ l.length → nodeN l smallB d out.length = some q →
    Ev (fun n => impl_depths_1 n (deep : Int) out l ()) (true, out ++ dpN l d deep out.length) := by
  intro d
  induction d with
  | zero => intro deep out q _ _ h; simp [nodeN] at h
  | succ d ih =>
    intro deep out q hd ho h
    simp only [nodeN] at h
    split at h
    case isFalse => cases h
    case isTrue hc =>
      simp only [Bool.and_eq_true, decide_eq_true_eq] at hc
      obtain ⟨⟨hlt, k0⟩, hs⟩ := hc
      have hk : kidsOf l out.length ≤ 40 := of_decide_eq_true hs
      obtain ⟨m, hm⟩ : ∃ m : Nat, kidsOf l out.length = (m : Int) := ⟨(kidsOf l out.length).toNat, by omega⟩
      have hm2 : (l.getD out.length default).2.2.2.2.2.2.2.2.1 = (m : Int) := hm
      have key : ∀ e i (o : List Int) (q : Nat), i + e = m → o.length ≤ l.length → manyN (nodeN l smallB d) e o.length = some q → Ev (fun n => goRec (fun n K => impl_depths_1.step n (fun x => K (.p0 x.1 x.2.1 x.2.2.1 x.2.2.2.1)) K) n (impl_depths_1.Pt.p27 (deep : Int) (m : Int) (i : Int) l o)) (true, o ++ mD (nodeN l smallB d) (dpN l d (deep + 1)) e o.length) := by
        intro e
        induction e with
        | zero =>
          intro i o q hi ho hq
          obtain rfl : i = m := by omega
          refine Ev.step ?_
          simp only [impl_depths_1.step]
          exact Ev.no lt_no (Ev.pure' (by simp [mD]))
        | succ e ihe =>
          intro i o q hi ho hq
          refine Ev.step ?_
          simp only [impl_depths_1.step, i64_nat (show i ≤ 4611686018427387904 by omega), i64_nat (show deep ≤ 4611686018427387904 by omega)]
          simp only [manyN] at hq
          cases hn : nodeN l smallB d o.length with
          | none => rw [hn] at hq; cases hq
          | some p =>
            rw [hn] at hq
            have hln := dpN_len d (deep + 1) _ _ hn
            have hlo : (o ++ dpN l d (deep + 1) o.length).length = p := by rw [List.length_append]; omega
            refine Ev.yes (lt_yes (by omega)) (Ev.bind (ih (deep + 1) o p (by omega) ho hn) (Ev.no rfl ?_))
            have := ihe (i + 1) (o ++ dpN l d (deep + 1) o.length) q (by omega) (by rw [hlo]; exact (nodeN_lt _ _ _ hn).2) (by rw [hlo]; exact hq)
            rw [hlo, List.append_assoc] at this
            simp only [mD, hn]
            exact this
      refine Ev.step ?_
      simp only [impl_depths_1.step]
      refine Ev.no (decide_eq_false (by omega)) ?_
      rw [show decide ((8 : Int) ≤ (deep : Int)) = false by simp only [decide_eq_false_iff_not]; omega]
      refine Ev.step ?_
      simp only [impl_depths_1.step, toNat_cast, hm2]
      refine Ev.no rfl (Ev.yes (inB_nat hlt) (Ev.yes (room_ok (by simp; omega)) (Ev.no (decide_eq_false (by omega)) ?_)))
      rw [show decide ((40 : Int) < (m : Int)) = false from decide_eq_false (by omega)]
      refine Ev.step ?_
      simp only [impl_depths_1.step]
      refine Ev.no rfl ?_
      rw [hm] at h
      have := key m 0 (out ++ [(deep : Int)]) q (by omega) (by simp; omega) (by rw [show (out ++ [(deep : Int)]).length = out.length + 1 by simp]; exact h)
      rw [show (out ++ [(deep : Int)]).length = out.length + 1 by simp, List.append_assoc] at this
      simp only [dpN, hm]
      exact this
theorem impl_depths.ev2 (l : List RTE) (h0 : l.length ≠ 0) (h40 : l.length ≤ 40) (hn : nodeN l smallB 8 0 = some l.length) : Ev (fun n => impl_depths n l) (dpN l 8 0 0) := by
  have hln := dpN_len 8 0 _ _ hn
  refine Ev.step ?_
  simp only [impl_depths.step]
  refine Ev.no (decide_eq_false (by omega)) ?_
  rw [show decide ((40 : Int) < (l.length : Int)) = false from decide_eq_false (by omega)]
  refine Ev.step ?_
  simp only [impl_depths.step]
  refine Ev.no rfl (Ev.bind (impl_depths_1.ev2 l h40 8 0 [] _ rfl (by simp) hn) (Ev.no rfl (Ev.no ?_ (Ev.pure' rfl))))
  simp only [List.nil_append, List.length_nil, Bool.not_eq_false', decide_eq_true_eq]; omega
theorem impl_RoutesText.ev (l : List RTE) (h : Sm 1048576 (.sl false RTU) l) : Ev (fun n => impl_RoutesText n l) (textB l) := by
  refine Ev.step ?_
  simp only [impl_RoutesText.step]
  refine Ev.bind (impl_GoodRoutes.ev l h) (Ev.cnd (fun c => Ev.pure' ?_) fun c => ?_)
  · rw [Bool.not_eq_true'] at c; rw [textB, c]; rfl
  rw [Bool.not_eq_false'] at c
  obtain ⟨h0, h40, hn, hr, hD, hd⟩ := routesB_parts c
  refine Ev.bind (impl_depths.ev2 l h0 h40 hn) ?_
  have e : textB l = (bif decide ((10000 : Int) < ((txtB l (dpN l 8 0 0) l.length).size : Int)) then ⟨#[]⟩ else txtB l (dpN l 8 0 0) l.length) := by rw [textB, c]; rfl
  rw [e]
  clear e
  generalize dpN l 8 0 0 = D at *
  have hsz : ∀ i, i ≤ l.length → (txtB l D i).size ≤ 161000 := fun i hi => Nat.le_trans (txtB_size i fun j hj => ⟨hr j (by omega), by have := hd j (by omega); omega⟩) (by omega)
  have loop : ∀ d i, i + d = l.length → Ev (fun n => goRec impl_RoutesText.step n (impl_RoutesText.Pt.p17 l (D.length : Int) (i : Int) (octs (txtB l D i)) D)) (bif decide ((10000 : Int) < ((txtB l D l.length).size : Int)) then ⟨#[]⟩ else txtB l D l.length) := by
    intro d
    induction d with
    | zero =>
      intro i hi
      obtain rfl : i = l.length := by omega
      have hz := hsz l.length (Nat.le_refl _)
      rw [hD]
      refine Ev.step ?_
      simp only [impl_RoutesText.step, octs_len]
      exact Ev.no lt_no (Ev.yes (room_ok (by omega)) (Ev.cnd (fun c => Ev.pure' (by rw [c]; rfl)) fun c => Ev.yes (room_ok (by omega)) (Ev.pure' (by rw [c, ofOcts_octs]; rfl))))
    | succ d ih =>
      intro i hi
      have hlt : i < l.length := by omega
      have hk := ih (i + 1) (by omega)
      obtain ⟨d1, d2⟩ := hd i hlt
      obtain ⟨m, hm⟩ : ∃ m : Nat, D.getD i default = (m : Int) := ⟨(D.getD i default).toNat, by omega⟩
      have hz := hsz i (by omega)
      have hl := lineB_size (hr i hlt)
      have hm8 : m ≤ 8 := by omega
      simp only [txtB, hm, toNat_cast] at hk
      refine Ev.step ?_
      simp only [impl_RoutesText.step, toNat_cast, Nat.zero_add, hm, i64_nat (show i ≤ 4611686018427387904 by omega)]
      refine Ev.yes (lt_yes (by omega)) (Ev.yes (inB_nat (by omega)) (Ev.bind (strings_Repeat.ev m hm8) (Ev.yes (inB_nat hlt) (Ev.bind (impl_routeText.ev (l.getD i default) (h.2 _ (getD_mem hlt)) (hr i hlt)) (Ev.yes (room_ok ?_) (Ev.yes (room_ok ?_) (Ev.yes (room_ok ?_) ?_)))))))
      · rw [repB_size]; omega
      · simp only [ByteArray.size_append, sz_lit, List.size_toArray, List.length_cons, List.length_nil, repB_size]; omega
      · simp only [octs_len, ByteArray.size_append, sz_lit, List.size_toArray, List.length_cons, List.length_nil, repB_size]; omega
      · rw [← octs_app]
        simp only [ByteArray.append_assoc] at hk ⊢
        exact hk
  exact loop l.length 0 (by omega)
theorem laws_eqMatcher.ev (x y : (ByteArray) × ((Int) × ((ByteArray) × (Unit)))) (hx : Sm 1048576 (.pair .str (.pair (.int .i64) (.pair .str .unit))) x) (hy : Sm 1048576 (.pair .str (.pair (.int .i64) (.pair .str .unit))) y) : Ev (fun n => laws_eqMatcher n x y) (eqB x y) := by
  refine Ev.step ?_
  simp only [laws_eqMatcher.step]
  refine Ev.cnd (fun h => Ev.pure' (eqB_no fun e => by subst e; simp [seq, eqB] at h).symm) fun h1 => ?_
  replace h1 : x.1 = y.1 := by simpa [seq, eqB] using h1
  refine Ev.cnd (fun h => Ev.pure' (eqB_no fun e => by subst e; simp [seq, eqB] at h).symm) fun h2 => ?_
  replace h2 : x.2.1 = y.2.1 := by simpa [seq, eqB] using h2
  refine Ev.cnd (fun h => Ev.pure' (eqB_no fun e => by subst e; simp [seq, eqB] at h).symm) fun h3 => ?_
  replace h3 : x.2.2.1 = y.2.2.1 := by simpa [seq, eqB] using h3
  exact Ev.pure' (eqB_yes (Prod.ext h1 (Prod.ext h2 (Prod.ext h3 rfl)))).symm
theorem laws_eqMatcherS.loop (l m : List ((ByteArray) × ((Int) × ((ByteArray) × (Unit))))) (hl : Sm 1048576 (.sl false (.pair .str (.pair (.int .i64) (.pair .str .unit)))) l) (hm : Sm 1048576 (.sl false (.pair .str (.pair (.int .i64) (.pair .str .unit)))) m) (hlm : l.length = m.length) : ∀ d i, i + d = l.length → (∀ j, j < i → l.getD j default = m.getD j default) → Ev (fun n => goRec laws_eqMatcherS.step n (.p15 l m (i : Int))) (eqB l m) := by
  have hk : l.length ≤ 1048576 := hl.1
  intro d
  induction d with
  | zero =>
    intro i hd hj
    rw [Nat.add_zero] at hd
    subst hd
    refine Ev.step ?_
    simp only [laws_eqMatcherS.step]
    exact Ev.no lt_no (Ev.pure' (eqB_yes (ext_getD (d := default) hlm (fun j hj2 => hj j (by omega)))).symm)
  | succ d ih =>
    intro i hd hj
    have hi : i < l.length := by omega
    refine Ev.step ?_
    simp only [laws_eqMatcherS.step, toNat_cast]
    refine Ev.yes (lt_yes hi) (Ev.yes (inB_nat hi) (Ev.yes (inB_nat (by omega)) ?_))
    refine Ev.bind (laws_eqMatcher.ev (l.getD i default) (m.getD i default) (hl.2 _ (getD_mem hi)) (hm.2 _ (getD_mem (by omega)))) ?_
    refine Ev.cnd (fun h => Ev.pure' (eqB_no fun e => by subst e; simp [seq, eqB] at h).symm) fun h => ?_
    rw [i64_nat (by omega)]
    refine ih (i + 1) (by omega) fun j hj2 => ?_
    by_cases e : j = i
    · subst e; simpa [seq, eqB] using h
    · exact hj j (by omega)
theorem laws_eqMatcherS.ev (l m : List ((ByteArray) × ((Int) × ((ByteArray) × (Unit))))) (hl : Sm 1048576 (.sl false (.pair .str (.pair (.int .i64) (.pair .str .unit)))) l) (hm : Sm 1048576 (.sl false (.pair .str (.pair (.int .i64) (.pair .str .unit)))) m) : Ev (fun n => laws_eqMatcherS n l m) (eqB l m) := by
  refine Ev.step ?_
  simp only [laws_eqMatcherS.step]
  refine Ev.cnd (fun h => Ev.pure' (eqB_no fun e => by subst e; simp at h).symm) fun h => ?_
  replace h : l.length = m.length := by simp at h; omega
  exact laws_eqMatcherS.loop l m hl hm h l.length 0 (by omega) (by omega)
theorem laws_eqStringS.loop (l m : List (ByteArray)) (hl : Sm 1048576 (.sl false .str) l) (hm : Sm 1048576 (.sl false .str) m) (hlm : l.length = m.length) : ∀ d i, i + d = l.length → (∀ j, j < i → l.getD j default = m.getD j default) → Ev (fun n => goRec laws_eqStringS.step n (.p15 l m (i : Int))) (eqB l m) := by
  have hk : l.length ≤ 1048576 := hl.1
  intro d
  induction d with
  | zero =>
    intro i hd hj
    rw [Nat.add_zero] at hd
    subst hd
    refine Ev.step ?_
    simp only [laws_eqStringS.step]
    exact Ev.no lt_no (Ev.pure' (eqB_yes (ext_getD (d := default) hlm (fun j hj2 => hj j (by omega)))).symm)
  | succ d ih =>
    intro i hd hj
    have hi : i < l.length := by omega
    refine Ev.step ?_
    simp only [laws_eqStringS.step, toNat_cast]
    refine Ev.yes (lt_yes hi) (Ev.yes (inB_nat hi) (Ev.yes (inB_nat (by omega)) ?_))
    refine Ev.cnd (fun h => Ev.pure' (eqB_no fun e => by subst e; simp [seq, eqB] at h).symm) fun h => ?_
    rw [i64_nat (by omega)]
    refine ih (i + 1) (by omega) fun j hj2 => ?_
    by_cases e : j = i
    · subst e; simpa [seq, eqB] using h
    · exact hj j (by omega)
theorem laws_eqStringS.ev (l m : List (ByteArray)) (hl : Sm 1048576 (.sl false .str) l) (hm : Sm 1048576 (.sl false .str) m) : Ev (fun n => laws_eqStringS n l m) (eqB l m) := by
  refine Ev.step ?_
  simp only [laws_eqStringS.step]
  refine Ev.cnd (fun h => Ev.pure' (eqB_no fun e => by subst e; simp at h).symm) fun h => ?_
  replace h : l.length = m.length := by simp at h; omega
  exact laws_eqStringS.loop l m hl hm h l.length 0 (by omega) (by omega)
theorem laws_eqIntS.loop (l m : List (Int)) (hl : Sm 1048576 (.sl false (.int .i64)) l) (hm : Sm 1048576 (.sl false (.int .i64)) m) (hlm : l.length = m.length) : ∀ d i, i + d = l.length → (∀ j, j < i → l.getD j default = m.getD j default) → Ev (fun n => goRec laws_eqIntS.step n (.p15 l m (i : Int))) (eqB l m) := by
  have hk : l.length ≤ 1048576 := hl.1
  intro d
  induction d with
  | zero =>
    intro i hd hj
    rw [Nat.add_zero] at hd
    subst hd
    refine Ev.step ?_
    simp only [laws_eqIntS.step]
    exact Ev.no lt_no (Ev.pure' (eqB_yes (ext_getD (d := default) hlm (fun j hj2 => hj j (by omega)))).symm)
  | succ d ih =>
    intro i hd hj
    have hi : i < l.length := by omega
    refine Ev.step ?_
    simp only [laws_eqIntS.step, toNat_cast]
    refine Ev.yes (lt_yes hi) (Ev.yes (inB_nat hi) (Ev.yes (inB_nat (by omega)) ?_))
    refine Ev.cnd (fun h => Ev.pure' (eqB_no fun e => by subst e; simp [seq, eqB] at h).symm) fun h => ?_
    rw [i64_nat (by omega)]
    refine ih (i + 1) (by omega) fun j hj2 => ?_
    by_cases e : j = i
    · subst e; simpa [seq, eqB] using h
    · exact hj j (by omega)
theorem laws_eqIntS.ev (l m : List (Int)) (hl : Sm 1048576 (.sl false (.int .i64)) l) (hm : Sm 1048576 (.sl false (.int .i64)) m) : Ev (fun n => laws_eqIntS n l m) (eqB l m) := by
  refine Ev.step ?_
  simp only [laws_eqIntS.step]
  refine Ev.cnd (fun h => Ev.pure' (eqB_no fun e => by subst e; simp at h).symm) fun h => ?_
  replace h : l.length = m.length := by simp at h; omega
  exact laws_eqIntS.loop l m hl hm h l.length 0 (by omega) (by omega)
theorem laws_eqRoute.ev (x y : (ByteArray) × ((List ((ByteArray) × ((Int) × ((ByteArray) × (Unit))))) × ((List (ByteArray)) × ((Int) × ((Int) × ((Int) × ((List (Int)) × ((Bool) × ((Int) × (Unit)))))))))) (hx : Sm 1048576 (.pair .str (.pair (.sl false (.pair .str (.pair (.int .i64) (.pair .str .unit)))) (.pair (.sl false .str) (.pair (.int .i64) (.pair (.int .i64) (.pair (.int .i64) (.pair (.sl false (.int .i64)) (.pair .bool (.pair (.int .i64) .unit))))))))) x) (hy : Sm 1048576 (.pair .str (.pair (.sl false (.pair .str (.pair (.int .i64) (.pair .str .unit)))) (.pair (.sl false .str) (.pair (.int .i64) (.pair (.int .i64) (.pair (.int .i64) (.pair (.sl false (.int .i64)) (.pair .bool (.pair (.int .i64) .unit))))))))) y) : Ev (fun n => laws_eqRoute n x y) (eqB x y) := by
  refine Ev.step ?_
  simp only [laws_eqRoute.step]
  refine Ev.cnd (fun h => Ev.pure' (eqB_no fun e => by subst e; simp [seq, eqB] at h).symm) fun h1 => ?_
  replace h1 : x.1 = y.1 := by simpa [seq, eqB] using h1
  refine Ev.bind (laws_eqMatcherS.ev x.2.1 y.2.1 hx.2.1 hy.2.1) ?_
  refine Ev.cnd (fun h => Ev.pure' (eqB_no fun e => by subst e; simp [seq, eqB] at h).symm) fun h2 => ?_
  replace h2 : x.2.1 = y.2.1 := by simpa [seq, eqB] using h2
  refine Ev.bind (laws_eqStringS.ev x.2.2.1 y.2.2.1 hx.2.2.1 hy.2.2.1) ?_
  refine Ev.cnd (fun h => Ev.pure' (eqB_no fun e => by subst e; simp [seq, eqB] at h).symm) fun h3 => ?_
  replace h3 : x.2.2.1 = y.2.2.1 := by simpa [seq, eqB] using h3
  refine Ev.cnd (fun h => Ev.pure' (eqB_no fun e => by subst e; simp [seq, eqB] at h).symm) fun h4 => ?_
  replace h4 : x.2.2.2.1 = y.2.2.2.1 := by simpa [seq, eqB] using h4
  refine Ev.cnd (fun h => Ev.pure' (eqB_no fun e => by subst e; simp [seq, eqB] at h).symm) fun h5 => ?_
  replace h5 : x.2.2.2.2.1 = y.2.2.2.2.1 := by simpa [seq, eqB] using h5
  refine Ev.cnd (fun h => Ev.pure' (eqB_no fun e => by subst e; simp [seq, eqB] at h).symm) fun h6 => ?_
  replace h6 : x.2.2.2.2.2.1 = y.2.2.2.2.2.1 := by simpa [seq, eqB] using h6
  refine Ev.bind (laws_eqIntS.ev x.2.2.2.2.2.2.1 y.2.2.2.2.2.2.1 hx.2.2.2.2.2.2.1 hy.2.2.2.2.2.2.1) ?_
  refine Ev.cnd (fun h => Ev.pure' (eqB_no fun e => by subst e; simp [seq, eqB] at h).symm) fun h7 => ?_
  replace h7 : x.2.2.2.2.2.2.1 = y.2.2.2.2.2.2.1 := by simpa [seq, eqB] using h7
  refine Ev.cnd (fun h => Ev.pure' (eqB_no fun e => by subst e; simp [seq, eqB] at h).symm) fun h8 => ?_
  replace h8 : x.2.2.2.2.2.2.2.1 = y.2.2.2.2.2.2.2.1 := by simpa [seq, eqB] using h8
  refine Ev.cnd (fun h => Ev.pure' (eqB_no fun e => by subst e; simp [seq, eqB] at h).symm) fun h9 => ?_
  replace h9 : x.2.2.2.2.2.2.2.2.1 = y.2.2.2.2.2.2.2.2.1 := by simpa [seq, eqB] using h9
  exact Ev.pure' (eqB_yes (Prod.ext h1 (Prod.ext h2 (Prod.ext h3 (Prod.ext h4 (Prod.ext h5 (Prod.ext h6 (Prod.ext h7 (Prod.ext h8 (Prod.ext h9 rfl)))))))))).symm
theorem laws_eqRouteS.loop (l m : List ((ByteArray) × ((List ((ByteArray) × ((Int) × ((ByteArray) × (Unit))))) × ((List (ByteArray)) × ((Int) × ((Int) × ((Int) × ((List (Int)) × ((Bool) × ((Int) × (Unit))))))))))) (hl : Sm 1048576 (.sl false (.pair .str (.pair (.sl false (.pair .str (.pair (.int .i64) (.pair .str .unit)))) (.pair (.sl false .str) (.pair (.int .i64) (.pair (.int .i64) (.pair (.int .i64) (.pair (.sl false (.int .i64)) (.pair .bool (.pair (.int .i64) .unit)))))))))) l) (hm : Sm 1048576 (.sl false (.pair .str (.pair (.sl false (.pair .str (.pair (.int .i64) (.pair .str .unit)))) (.pair (.sl false .str) (.pair (.int .i64) (.pair (.int .i64) (.pair (.int .i64) (.pair (.sl false (.int .i64)) (.pair .bool (.pair (.int .i64) .unit)))))))))) m) (hlm : l.length = m.length) : ∀ d i, i + d = l.length → (∀ j, j < i → l.getD j default = m.getD j default) → Ev (fun n => goRec laws_eqRouteS.step n (.p15 l m (i : Int))) (eqB l m) := by
  have hk : l.length ≤ 1048576 := hl.1
  intro d
  induction d with
  | zero =>
    intro i hd hj
    rw [Nat.add_zero] at hd
    subst hd
    refine Ev.step ?_
    simp only [laws_eqRouteS.step]
    exact Ev.no lt_no (Ev.pure' (eqB_yes (ext_getD (d := default) hlm (fun j hj2 => hj j (by omega)))).symm)
  | succ d ih =>
    intro i hd hj
    have hi : i < l.length := by omega
    refine Ev.step ?_
    simp only [laws_eqRouteS.step, toNat_cast]
    refine Ev.yes (lt_yes hi) (Ev.yes (inB_nat hi) (Ev.yes (inB_nat (by omega)) ?_))
    refine Ev.bind (laws_eqRoute.ev (l.getD i default) (m.getD i default) (hl.2 _ (getD_mem hi)) (hm.2 _ (getD_mem (by omega)))) ?_
    refine Ev.cnd (fun h => Ev.pure' (eqB_no fun e => by subst e; simp [seq, eqB] at h).symm) fun h => ?_
    rw [i64_nat (by omega)]
    refine ih (i + 1) (by omega) fun j hj2 => ?_
    by_cases e : j = i
    · subst e; simpa [seq, eqB] using h
    · exact hj j (by omega)
end Go.RX
