/- What these functions come to, part 1. -/
import Derived.Test.YtjleibkkhmhpmaaGreatV1
import Derived.Test.YtjleibkkhmhpmaaGreatV2
import Derived.Test.YtjleibkkhmhpmaaGreatV3
import Derived.Test.YtjleibkkhmhpmaaGreatFExactMutedAt1
import Derived.Test.YtjleibkkhmhpmaaGreatFExactMutedAt2
import Derived.Test.YtjleibkkhmhpmaaGreatFExactMutedAt3
open Go Go.VM
set_option maxRecDepth 100000
namespace Go.NU
set_option linter.unusedVariables false
set_option linter.unusedSimpArgs false
abbrev MT := ByteArray × Int × ByteArray × Unit
def matcherB (x : MT) : Bool := nameB x.1 && decide (1 ≤ x.2.1) && decide (x.2.1 ≤ 4) && decide (x.2.2.1.size ≤ 100) && printB x.2.2.1 && (decide (x.2.1 < 3) || (alts x.2.2.1).isSome)
def matchersB (l : List MT) : Bool := decide (l.length ≤ 10) && (List.range l.length).all fun i => matcherB (l.getD i default)
abbrev MU : U := .pair .str (.pair (.int .i64) (.pair .str .unit))
abbrev SIL := ByteArray × List MT × Int × Int × Unit
abbrev SIU : U := .pair .str (.pair (.sl false MU) (.pair (.int .i64) (.pair (.int .i64) .unit)))
def silB (l : List SIL) (i : Nat) : Bool := nameB (l.getD i default).1 && matchersB (l.getD i default).2.1 && decide ((l.getD i default).2.1.length ≠ 0) && timeB (l.getD i default).2.2.1 && timeB (l.getD i default).2.2.2.1 &&
  decide ((l.getD i default).2.2.1 ≤ (l.getD i default).2.2.2.1) && (decide (i = 0) || decide (cmpT (l.getD (i - 1) default).1 (l.getD i default).1 < 0))
def silsB (l : List SIL) : Bool := decide (l.length ≤ 50) && (List.range l.length).all (silB l)
/-- texts that rise -/
def risingB (l : List ByteArray) : Bool := (List.range (l.length - 1)).all fun i => decide (cmpT (l.getD i default) (l.getD (i + 1) default) < 0)
def namesB (l : List ByteArray) : Bool := decide (l.length ≤ 10) && risingB l && (List.range l.length).all fun i => nameB (l.getD i default)
abbrev INH := List MT × List MT × List ByteArray × Unit
abbrev INU : U := .pair (.sl false MU) (.pair (.sl false MU) (.pair (.sl false .str) .unit))
def inhB (x : INH) : Bool := matchersB x.1 && matchersB x.2.1 && decide (x.1.length ≠ 0) && decide (x.2.1.length ≠ 0) && namesB x.2.2.1
def inhsB (l : List INH) : Bool := decide (l.length ≤ 20) && (List.range l.length).all fun i => inhB (l.getD i default)
def lp (y : Int) : Int := if y % 4 = 0 ∧ (y % 100 ≠ 0 ∨ y % 400 = 0) then 1 else 0
def yl (y : Int) : Int := 365 + lp y
def dto (y : Int) : Int := (y - 1970) * 365 + ((y - 1) / 4 - (y - 1) / 100 + (y - 1) / 400) - 477
def mon (y m : Int) : Int := if m = 2 then 28 + lp y else if m = 4 ∨ m = 6 ∨ m = 9 ∨ m = 11 then 30 else 31
def cumd (y m : Int) : Int := if m ≤ 1 then 0 else if m = 2 then 31 else if m = 3 then 59 + lp y else if m = 4 then 90 + lp y else if m = 5 then 120 + lp y else if m = 6 then 151 + lp y else if m = 7 then 181 + lp y else if m = 8 then 212 + lp y else if m = 9 then 243 + lp y else if m = 10 then 273 + lp y else if m = 11 then 304 + lp y else if m = 12 then 334 + lp y else 365 + lp y
noncomputable def yearOf (day : Int) : Int := @dite _ (∃ y, 1970 ≤ y ∧ dto y ≤ day ∧ day < dto (y + 1)) (Classical.propDecidable _) (fun h => h.choose) (fun _ => 0)
noncomputable def monthOf (y n : Int) : Int := @dite _ (∃ m, 1 ≤ m ∧ m ≤ 12 ∧ cumd y m ≤ n ∧ n < cumd y m + mon y m) (Classical.propDecidable _) (fun h => h.choose) (fun _ => 0)
abbrev DTE := Int × Int × Int × Int × Int × Int × Unit
noncomputable def dateOfDay (day mi : Int) : DTE := (yearOf day, monthOf (yearOf day) (day - dto (yearOf day)), day - dto (yearOf day) - cumd (yearOf day) (monthOf (yearOf day) (day - dto (yearOf day))) + 1, mon (yearOf day) (monthOf (yearOf day) (day - dto (yearOf day))), (day + 4) % 7, mi, ())
def dateIn (t z : Int) : Bool := timeB t && decide (-1440 ≤ z) && decide (z ≤ 1440) && decide (0 ≤ t + 60 * z)
noncomputable def dateV (t z : Int) : DTE := if dateIn t z = true then dateOfDay ((t + 60 * z) / 86400) ((t + 60 * z) / 60 % 1440) else (0, 0, 0, 0, 0, 0, ())
def dayIn (y m d : Int) : Bool := decide (1970 ≤ y) && decide (y ≤ 40000) && decide (1 ≤ m) && decide (m ≤ 12) && decide (1 ≤ d) && decide (d ≤ mon y m)
def dayV (y m d : Int) : Int := if dayIn y m d = true then dto y + d - 1 + cumd y m else -1
theorem lp_01 (y : Int) : lp y = 0 ∨ lp y = 1 := by unfold lp; split <;> simp
theorem dto_succ (y : Int) : dto (y + 1) = dto y + yl y := by unfold dto yl lp; split <;> omega
theorem dto_1970 : dto 1970 = 0 := by decide
theorem mon_bd (y m : Int) : 28 ≤ mon y m ∧ mon y m ≤ 31 := by
  have := lp_01 y
  unfold mon; split
  · omega
  · split <;> omega
theorem dto_bd (y : Int) (h : 1970 ≤ y) : 365 * (y - 1970) ≤ dto y ∧ dto y ≤ 366 * (y - 1970) := by unfold dto; omega
theorem dto_mono (a : Int) (d : Nat) : dto a + 365 * d ≤ dto (a + d) := by
  induction d with
  | zero => simp
  | succ d ih =>
    have h := dto_succ (a + d)
    have hl := lp_01 (a + d)
    have hyl : yl (a + d) = 365 + lp (a + d) := rfl
    rw [show a + ((d + 1 : Nat) : Int) = a + d + 1 by omega]
    omega
theorem dto_lt (a b : Int) (h : a ≤ b) : dto a + 365 * (b - a) ≤ dto b := by
  have := dto_mono a (b - a).toNat
  rw [show a + ((b - a).toNat : Int) = b by omega] at this
  omega
theorem year_of (day : Int) (h : 0 ≤ day) : ∃ y, 1970 ≤ y ∧ dto y ≤ day ∧ day < dto (y + 1) := by
  have key : ∀ d : Nat, dto 1970 ≤ day ∧ day < dto (1970 + d) → ∃ y, 1970 ≤ y ∧ dto y ≤ day ∧ day < dto (y + 1) := by
    intro d
    induction d with
    | zero => intro ⟨h1, h2⟩; simp at h2; omega
    | succ d ih =>
      intro ⟨h1, h2⟩
      by_cases c : day < dto (1970 + d)
      · exact ih ⟨h1, c⟩
      · exact ⟨1970 + d, by omega, by omega, by rw [show (1970 : Int) + d + 1 = 1970 + ((d + 1 : Nat) : Int) by omega]; exact h2⟩
  refine key (day.toNat + 1) ⟨by rw [dto_1970]; exact h, ?_⟩
  have := dto_mono 1970 (day.toNat + 1)
  rw [dto_1970] at this
  omega
theorem yearOf_spec (day : Int) (h : 0 ≤ day) : 1970 ≤ yearOf day ∧ dto (yearOf day) ≤ day ∧ day < dto (yearOf day + 1) := by
  unfold yearOf
  rw [dif_pos (year_of day h)]
  exact (year_of day h).choose_spec
theorem cumd_succ (y m : Int) (h1 : 1 ≤ m) (h2 : m ≤ 12) : cumd y (m + 1) = cumd y m + mon y m := by
  have hm : m = 1 ∨ m = 2 ∨ m = 3 ∨ m = 4 ∨ m = 5 ∨ m = 6 ∨ m = 7 ∨ m = 8 ∨ m = 9 ∨ m = 10 ∨ m = 11 ∨ m = 12 := by omega
  rcases hm with rfl | rfl | rfl | rfl | rfl | rfl | rfl | rfl | rfl | rfl | rfl | rfl <;> simp [cumd, mon] <;> omega
theorem ite_nn {c : Prop} [Decidable c] {a b : Int} (ha : 0 ≤ a) (hb : 0 ≤ b) : 0 ≤ (if c then a else b) := by split <;> assumption
theorem cumd_nn (y m : Int) : 0 ≤ cumd y m := by
  have := lp_01 y
  unfold cumd
  iterate 12 (refine ite_nn (by omega) ?_)
  omega
theorem ite_le {c : Prop} [Decidable c] {a b k : Int} (ha : a ≤ k) (hb : b ≤ k) : (if c then a else b) ≤ k := by split <;> assumption
theorem cumd_le (y m : Int) : cumd y m ≤ 366 := by
  have := lp_01 y
  unfold cumd
  iterate 12 (refine ite_le (by omega) ?_)
  omega
theorem month_of (y n : Int) (h : 0 ≤ n) (h' : n < yl y) : ∃ m, 1 ≤ m ∧ m ≤ 12 ∧ cumd y m ≤ n ∧ n < cumd y m + mon y m := by
  have h13 : cumd y 13 = yl y := by simp [cumd, yl]
  have h1 : cumd y 1 = 0 := by simp [cumd]
  have key : ∀ d : Nat, d ≤ 12 → n < cumd y (1 + d) → ∃ m, 1 ≤ m ∧ m ≤ 12 ∧ cumd y m ≤ n ∧ n < cumd y m + mon y m := by
    intro d
    induction d with
    | zero => intro _ h2; simp at h2; omega
    | succ d ih =>
      intro hd h2
      by_cases c : n < cumd y (1 + d)
      · exact ih (by omega) c
      · refine ⟨1 + d, by omega, by omega, by omega, ?_⟩
        rw [← cumd_succ y (1 + d) (by omega) (by omega), show (1 : Int) + d + 1 = 1 + ((d + 1 : Nat) : Int) by omega]; exact h2
  exact key 12 (Nat.le_refl _) (by rw [show (1 : Int) + ((12 : Nat) : Int) = 13 from rfl, h13]; exact h')
theorem monthOf_spec (y n : Int) (h : 0 ≤ n) (h' : n < yl y) : 1 ≤ monthOf y n ∧ monthOf y n ≤ 12 ∧ cumd y (monthOf y n) ≤ n ∧ n < cumd y (monthOf y n) + mon y (monthOf y n) := by
  unfold monthOf
  rw [dif_pos (month_of y n h h')]
  exact (month_of y n h h').choose_spec
theorem mon_lt (y m i n : Int) (h1 : 1 ≤ i) (hi : i < m) (h2 : m ≤ 12) (hm : cumd y m ≤ n) : mon y i ≤ n - cumd y i := by
  have key : ∀ d : Nat, i + d + 1 ≤ m → cumd y (i + 1) ≤ cumd y (i + 1 + d) := by
    intro d
    induction d with
    | zero => intro _; simp
    | succ d ih =>
      intro hd
      have := cumd_succ y (i + 1 + d) (by omega) (by omega)
      have hb := mon_bd y (i + 1 + d)
      rw [show i + 1 + ((d + 1 : Nat) : Int) = i + 1 + d + 1 by omega]
      have := ih (by omega)
      omega
  have a := key (m - i - 1).toNat (by omega)
  rw [show i + 1 + ((m - i - 1).toNat : Int) = m by omega] at a
  have b := cumd_succ y i h1 (by omega)
  omega
theorem w64 {n : Int} (h : -9223372036854775808 ≤ n) (h' : n ≤ 9223372036854775807) : IntKind.wrap .i64 n = n := i64_ok h h'
abbrev RG := Int × Int × Unit
abbrev RGU : U := .pair (.int .i64) (.pair (.int .i64) .unit)
abbrev ITV := Int × List RG × List RG × List RG × List RG × List RG × List Int × Unit
abbrev ITU : U := .pair (.int .i64) (.pair (.sl false RGU) (.pair (.sl false RGU) (.pair (.sl false RGU) (.pair (.sl false RGU) (.pair (.sl false RGU) (.pair (.sl false (.int .i64)) .unit))))))
def rangeB (lo hi : Int) (r : RG) : Bool := decide (r.1 ≤ r.2.1) && decide (lo ≤ r.1) && decide (r.2.1 ≤ hi)
def rangesB (l : List RG) (lo hi : Int) : Bool := decide (l.length ≤ 10) && (List.range l.length).all fun i => rangeB lo hi (l.getD i default)
/-- numbers that rise -/
def risingI (l : List Int) : Bool := (List.range (l.length - 1)).all fun i => decide (l.getD i default < l.getD (i + 1) default)
def freeB (n : Int) : Bool := decide (0 ≤ n) && decide (n ≤ 20000000)
def dayRB (r : RG) : Bool := decide (0 < r.1) || decide (r.2.1 < 0)
def dayRS (r : RG) : Bool := !decide (r.1 = 0) && !decide (r.2.1 = 0) && (decide (r.1 < 0) == decide (r.2.1 < 0))
def allG {α : Type} [Inhabited α] (p : α → Bool) (l : List α) : Bool := (List.range l.length).all fun i => p (l.getD i default)
def itvB (x : ITV) : Bool := decide (-1440 ≤ x.1) && decide (x.1 ≤ 1440) && rangesB x.2.1 0 1439 && rangesB x.2.2.1 0 6 && rangesB x.2.2.2.1 (-31) 31 && rangesB x.2.2.2.2.1 1 12 && rangesB x.2.2.2.2.2.1 1970 40000 &&
  decide (x.2.2.2.2.2.2.1.length ≤ 10) && risingI x.2.2.2.2.2.2.1 && allG dayRB x.2.2.2.1 && allG freeB x.2.2.2.2.2.2.1
def inRB (l : List RG) (n : Int) : Bool := decide (l.length = 0) || (List.range l.length).any fun i => decide ((l.getD i default).1 ≤ n) && decide (n ≤ (l.getD i default).2.1)
def inIB (l : List Int) (n : Int) : Bool := (List.range l.length).any fun i => decide (l.getD i default = n)
noncomputable def inItvB (x : ITV) (t : Int) : Bool := itvB x && timeB t && !decide ((dateV t x.1).1 = 0) && inRB x.2.1 (dateV t x.1).2.2.2.2.2.1 && inRB x.2.2.1 (dateV t x.1).2.2.2.2.1 &&
  (inRB x.2.2.2.1 (dateV t x.1).2.2.1 || inRB x.2.2.2.1 (IntKind.wrap .i64 ((IntKind.wrap .i64 ((dateV t x.1).2.2.1 - (dateV t x.1).2.2.2.1)) - (1 : Int)))) && inRB x.2.2.2.2.1 (dateV t x.1).2.1 && inRB x.2.2.2.2.2.1 (dateV t x.1).1 &&
  !inIB x.2.2.2.2.2.2.1 (dayV (dateV t x.1).1 (dateV t x.1).2.1 (dateV t x.1).2.2.1)
theorem days_same (l : List RG) (lo hi : Int) : (allG dayRS l && rangesB l lo hi) = (allG dayRB l && rangesB l lo hi) := by
  cases h : rangesB l lo hi with
  | false => simp
  | true =>
    simp only [rangesB, Bool.and_eq_true, List.all_eq_true] at h
    rw [Bool.and_true, Bool.and_true, allG, allG, Bool.eq_iff_iff, List.all_eq_true, List.all_eq_true]
    have key : ∀ i ∈ List.range l.length, dayRS (l.getD i default) = dayRB (l.getD i default) := by
      intro i hi
      have := h.2 i hi
      simp only [rangeB, Bool.and_eq_true, decide_eq_true_eq] at this
      generalize l.getD i default = r at this
      simp only [dayRS, dayRB]
      have e1 : (r.1 = 0) = (¬ r.1 < 0 ∧ ¬ 0 < r.1) := propext (by omega)
      have e2 : (r.2.1 = 0) = (¬ r.2.1 < 0 ∧ ¬ 0 < r.2.1) := propext (by omega)
      by_cases a : r.1 < 0 <;> by_cases a' : 0 < r.1 <;> by_cases b : r.2.1 < 0 <;> by_cases b' : 0 < r.2.1 <;> first | (exfalso; omega) | simp [e1, e2, a, a', b, b']
    exact ⟨fun hh i hi => by rw [← key i hi]; exact hh i hi, fun hh i hi => by rw [key i hi]; exact hh i hi⟩
theorem wf_i64 {n : Int} (h : (Lit.int .i64 n).wf = true) : -9223372036854775808 ≤ n ∧ n ≤ 9223372036854775807 := by
  have h2 : decide (IntKind.i64.min ≤ n) && decide (n ≤ IntKind.i64.max) := h
  rw [Bool.and_eq_true] at h2
  have a : IntKind.i64.min ≤ n := of_decide_eq_true h2.1
  have b : n ≤ IntKind.i64.max := of_decide_eq_true h2.2
  have ea : IntKind.i64.min = -9223372036854775808 := by decide
  have eb : IntKind.i64.max = 9223372036854775807 := by decide
  omega
abbrev LB := ByteArray × ByteArray × Unit
abbrev LU : U := .pair .str (.pair .str .unit)
def valueB (s : ByteArray) : Bool := decide (1 ≤ s.size) && decide (s.size ≤ 100) && printB s
def labB (l : List LB) (i : Nat) : Bool := nameB (l.getD i default).1 && valueB (l.getD i default).2.1 && (decide (i = 0) || decide (cmpT (l.getD (i - 1) default).1 (l.getD i default).1 < 0))
def labelsB (l : List LB) : Bool := decide (l.length ≤ 20) && (List.range l.length).all (labB l)
def valL : List LB → ByteArray → ByteArray
  | [], _ => ⟨#[]⟩
  | x :: r, k => bif seq x.1 k then x.2.1 else valL r k
theorem drop_getD {α : Type} [Inhabited α] {l : List α} {i : Nat} (h : i < l.length) : l.drop i = l.getD i default :: l.drop (i + 1) := by
  rw [List.drop_eq_getElem_cons h, List.getD_eq_getElem?_getD, List.getElem?_eq_getElem h]; rfl
theorem labelsB_value {l : List LB} (h : labelsB l = true) : ∀ i, i < l.length → (l.getD i default).2.1.size ≤ 100 := by
  intro i hi
  simp only [labelsB, Bool.and_eq_true, List.all_eq_true, List.mem_range] at h
  have := h.2 i hi
  simp only [labB, valueB, Bool.and_eq_true, decide_eq_true_eq] at this
  exact this.1.2.1.2
theorem valL_small {l : List LB} {k : ByteArray} (h : ∀ x ∈ l, x.2.1.size ≤ 100) : (valL l k).size ≤ 100 := by
  induction l with
  | nil => simp [valL, size_empty]
  | cons x l ih =>
    simp only [valL]
    cases seq x.1 k with
    | true => exact h x (by simp)
    | false => exact ih fun y hy => h y (by simp [hy])
theorem labelsB_small {l : List LB} (h : labelsB l = true) {k : ByteArray} : (valL l k).size ≤ 100 := valL_small fun x hx => by
  obtain ⟨j, hj, rfl⟩ := List.getElem_of_mem hx
  have := labelsB_value h j hj
  rwa [List.getD_eq_getElem?_getD, List.getElem?_eq_getElem hj] at this
/-- whether a pattern's codes fit bytes -/
def mt : List Int → List Int → Bool
  | [], s => s.isEmpty
  | c :: p, s => if c = -1 then mt p s || (match s with | [] => false | _ :: r => mt (c :: p) r) else match s with | [] => false | x :: r => (decide (c = -2) || decide (c = x)) && mt p r
termination_by p s => p.length + s.length
decreasing_by all_goals simp_wf; try omega
def fitsP (p s : ByteArray) : Bool := match alts p with | some l => (List.range l.length).any fun i => mt (l.getD i default) (octs s) | none => false
def cellM (p : List Int) (s : ByteArray) (j i : Nat) : Bool := mt (p.drop j) ((octs s).drop i)
theorem cell_end {p : List Int} {s : ByteArray} {i : Nat} (hi : i ≤ s.size) : cellM p s p.length i = decide (i = s.size) := by
  rw [cellM, List.drop_length, mt.eq_def]
  rcases Nat.eq_or_lt_of_le hi with rfl | hi
  · rw [octs_nil]; simp
  · rw [octs_drop hi]; simp; omega
theorem dropI {p : List Int} {j : Nat} (h : j < p.length) : p.drop j = p.getD j default :: p.drop (j + 1) := drop_getD h
theorem cell_star {p : List Int} {s : ByteArray} {j i : Nat} (hj : j < p.length) (hi : i ≤ s.size) (h : p.getD j default = -1) : cellM p s j i = (cellM p s (j + 1) i || (decide (i < s.size) && cellM p s j (i + 1))) := by
  simp only [cellM]
  rw [dropI hj, h]
  rw [mt.eq_def]
  simp only [if_true]
  rcases Nat.eq_or_lt_of_le hi with rfl | hi
  · rw [octs_nil]; simp
  · rw [octs_drop hi]; simp [hi]
theorem cell_one {p : List Int} {s : ByteArray} {j i : Nat} (hj : j < p.length) (hi : i < s.size) (h : p.getD j default ≠ -1) : cellM p s j i = ((decide (p.getD j default = -2) || decide (p.getD j default = bt s i)) && cellM p s (j + 1) (i + 1)) := by
  simp only [cellM]
  rw [dropI hj, mt.eq_def]
  simp only [if_neg h]
  rw [octs_drop hi]
theorem cell_no {p : List Int} {s : ByteArray} {j : Nat} (hj : j < p.length) (h : p.getD j default ≠ -1) : cellM p s j s.size = false := by
  simp only [cellM]
  rw [dropI hj, mt.eq_def]
  simp only [if_neg h]
  rw [octs_nil]
theorem i64_down {k : Nat} (h : k ≤ 4611686018427387904) : IntKind.wrap .i64 ((k : Int) - 1) = (k : Int) - 1 := by rw [i64_ok] <;> omega
theorem inC_eq {n : Nat} (h : n ≤ 1000000000) : inC (n : Int) (n : Int) 1000000000 = true := by simp only [inC, decide_eq_true_eq]; omega
/-- comes to something of which this holds -/
def EvP {α : Type} (f : Nat → Option α) (Q : α → Prop) : Prop := ∃ v, Ev f v ∧ Q v
namespace EvP
variable {α β : Type} {Q : α → Prop}
theorem pure {v : α} (h : Q v) : EvP (fun _ => some v) Q := ⟨v, Ev.pure, h⟩
theorem of {f : Nat → Option α} {v : α} (h : Ev f v) (q : Q v) : EvP f Q := ⟨v, h, q⟩
theorem imp {f : Nat → Option α} {R : α → Prop} (h : EvP f Q) (q : ∀ v, Q v → R v) : EvP f R := ⟨h.choose, h.choose_spec.1, q _ h.choose_spec.2⟩
theorem bind {f : Nat → Option β} {g : Nat → β → Option α} {a : β} (h : Ev f a) (h' : EvP (fun n => g n a) Q) : EvP (fun n => (f n).bind (g n)) Q := ⟨h'.choose, Ev.bind h h'.choose_spec.1, h'.choose_spec.2⟩
theorem bindP {f : Nat → Option β} {g : Nat → β → Option α} {R : β → Prop} (h : EvP f R) (h' : ∀ a, R a → EvP (fun n => g n a) Q) : EvP (fun n => (f n).bind (g n)) Q := by
  obtain ⟨a, h1, h2⟩ := h
  exact bind h1 (h' a h2)
theorem cnd {c : Bool} {f g : Nat → Option α} (ht : c = true → EvP f Q) (hf : c = false → EvP g Q) : EvP (fun n => cond c (f n) (g n)) Q := by
  cases c with
  | true => exact ht rfl
  | false => exact hf rfl
theorem yes {c : Bool} {f g : Nat → Option α} (hc : c = true) (h : EvP f Q) : EvP (fun n => cond c (f n) (g n)) Q := by subst hc; exact h
theorem no {c : Bool} {f g : Nat → Option α} (hc : c = false) (h : EvP g Q) : EvP (fun n => cond c (f n) (g n)) Q := by subst hc; exact h
theorem step {P : Type} {s : Nat → (P → Option α) → P → Option α} {p : P} (h : EvP (fun n => s n (goRec s n) p) Q) : EvP (fun n => goRec s n p) Q := ⟨h.choose, Ev.step h.choose_spec.1, h.choose_spec.2⟩
end EvP
theorem toP_star (c : Int) : (toP c).2.2.1 = decide (c = -1) := by
  simp only [toP]
  by_cases h : c = -1
  · simp [h]
  · by_cases h2 : c = -2 <;> simp [h, h2]
theorem toP_any {c : Int} : (toP c).2.1 = decide (c = -2) := by
  simp only [toP]
  by_cases h : c = -1
  · simp [h]
  · by_cases h2 : c = -2 <;> simp [h, h2]
theorem toP_byte {c : Int} (h : c ≠ -1) (h2 : c ≠ -2) : (toP c).1 = c := by simp [toP, h, h2]
theorem pat_len : ∀ (n : Nat) (r : List Int) (out : List (List Int)) (now : List Int) (l : List (List Int)), r.length ≤ n → pat r out now = some l → l.length ≤ out.length + 1 + r.length ∧ ∀ a ∈ l, a ∈ out ∨ a.length ≤ now.length + r.length := by
  intro n
  induction n with
  | zero =>
    intro r out now l hr h
    obtain rfl : r = [] := List.length_eq_zero_iff.1 (by omega)
    rw [pat_nil] at h
    cases h
    refine ⟨by simp, fun a ha => ?_⟩
    rcases List.mem_append.1 ha with ha | ha
    · exact .inl ha
    · right; simp at ha; subst ha; simp
  | succ n ih =>
    intro r out now l hr h
    match r, hr, h with
    | [], hr, h =>
      rw [pat_nil] at h
      cases h
      refine ⟨by simp, fun a ha => ?_⟩
      rcases List.mem_append.1 ha with ha | ha
      · exact .inl ha
      · right; simp at ha; subst ha; simp
    | c :: r, hr, h =>
      simp only [List.length_cons] at hr ⊢
      have one : ∀ e, pat r out (now ++ [e]) = some l → l.length ≤ out.length + 1 + (r.length + 1) ∧ ∀ a ∈ l, a ∈ out ∨ a.length ≤ now.length + (r.length + 1) := by
        intro e h
        obtain ⟨h1, h2⟩ := ih r out _ l (by omega) h
        refine ⟨by omega, fun a ha => ?_⟩
        rcases h2 a ha with h3 | h3
        · exact .inl h3
        · right; simp at h3; omega
      rw [pat_cons] at h
      split at h
      · obtain ⟨h1, h2⟩ := ih r _ _ l (by omega) h
        refine ⟨by simp at h1; omega, fun a ha => ?_⟩
        rcases h2 a ha with h3 | h3
        · rcases List.mem_append.1 h3 with h3 | h3
          · exact .inl h3
          · right; simp at h3; subst h3; omega
        · right; simp at h3; omega
      · split at h
        · exact one _ h
        · split at h
          · exact one _ h
          · split at h
            · match r, h with
              | e :: r', h =>
                simp only at h
                split at h
                · obtain ⟨h1, h2⟩ := ih r' out _ l (by simp only [List.length_cons] at hr; omega) h
                  refine ⟨by simp only [List.length_cons]; omega, fun a ha => ?_⟩
                  rcases h2 a ha with h3 | h3
                  · exact .inl h3
                  · right; simp at h3; simp only [List.length_cons]; omega
                · cases h
            · exact one _ h
theorem alts_len {s : ByteArray} {l : List (List Int)} (h : alts s = some l) : l.length ≤ 101 ∧ ∀ a ∈ l, a.length ≤ 100 := by
  rw [alts] at h
  split at h
  · rename_i hs
    obtain ⟨h1, h2⟩ := pat_len _ (octs s) [] [] l (Nat.le_refl _) h
    rw [octs_len] at h1 h2
    refine ⟨by simp at h1; omega, fun a ha => ?_⟩
    rcases h2 a ha with h3 | h3
    · cases h3
    · simp at h3; omega
  · cases h
def matchOne (x : MT) (v : ByteArray) : Bool := if x.2.1 = 1 then seq v x.2.2.1 else if x.2.1 = 2 then !seq v x.2.2.1 else if x.2.1 = 3 then fitsP x.2.2.1 v else !fitsP x.2.2.1 v
def fitsB (ms : List MT) (l : List LB) : Bool := (List.range ms.length).all fun i => matchOne (ms.getD i default) (valL l (ms.getD i default).1)
theorem range_map_getD {α : Type} [Inhabited α] (l : List α) : (List.range l.length).map (fun i => l.getD i default) = l := by
  refine ext_getD (d := default) (by simp) fun j hj => ?_
  simp [List.getD_eq_getElem?_getD, hj]
theorem any_range {α : Type} [Inhabited α] (l : List α) (p : α → Bool) : ((List.range l.length).any fun i => p (l.getD i default)) = l.any p := by
  conv => rhs; rw [← range_map_getD l, List.any_map]
  rfl
theorem all_range {α : Type} [Inhabited α] (l : List α) (p : α → Bool) : ((List.range l.length).all fun i => p (l.getD i default)) = l.all p := by
  conv => rhs; rw [← range_map_getD l, List.all_map]
  rfl
def inhOne (x : INH) (s t : List LB) : Bool := (fitsB x.1 s && !(fitsB x.2.1 s && fitsB x.1 t)) && x.2.2.1.all fun k => seq (valL s k) (valL t k)
def inhibitedB (l : List INH) (ss : List (List LB)) (t : List LB) : Bool := l.any fun x => fitsB x.2.1 t && ss.any fun s => inhOne x s t
def inhibitedF (l : List INH) (ss : List (List LB)) (t : List LB) : Bool := (inhsB l && decide (ss.length ≤ 200) && labelsB t && ss.all labelsB) && inhibitedB l ss t
theorem Ev.bindP {α β : Type} {f : Nat → Option β} {g : Nat → β → Option α} {R : β → Prop} {v : α} (h : EvP f R) (h' : ∀ a, R a → Ev (fun n => g n a) v) : Ev (fun n => (f n).bind (g n)) v := by
  obtain ⟨a, h1, h2⟩ := h
  exact Ev.bind h1 (h' a h2)
def silP (t : List LB) (n : Int) (x : SIL) : Bool := fitsB x.2.1 t && decide (x.2.2.1 ≤ n) && decide (n ≤ x.2.2.2.1)
def silL (l : List SIL) (t : List LB) (n : Int) : List ByteArray := (l.filter (silP t n)).map fun x => x.1
def silencedF (l : List SIL) (t : List LB) (n : Int) : List ByteArray := if (silsB l && labelsB t && timeB n) = true then silL l t n else []
theorem silencedF_small {l : List SIL} {t : List LB} {n : Int} (h : Sm 1048576 (.sl false SIU) l) : Sm 1048576 (.sl false .str) (silencedF l t n) := by
  have hl : l.length ≤ 1048576 := h.1
  rw [silencedF]
  split
  · refine ⟨?_, fun x hx => ?_⟩
    · have := List.length_filter_le (silP t n) l
      simp only [silL, List.length_map]
      omega
    · obtain ⟨y, hy, rfl⟩ := List.mem_map.1 hx
      exact (h.2 y (List.mem_filter.1 hy).1).1
  · exact ⟨by simp, fun x hx => by cases hx⟩
abbrev RTE := ByteArray × List MT × List ByteArray × Int × Int × Int × List Int × Bool × Int × Unit
abbrev RTU : U := .pair .str (.pair (.sl false MU) (.pair (.sl false .str) (.pair (.int .i64) (.pair (.int .i64) (.pair (.int .i64) (.pair (.sl false (.int .i64)) (.pair .bool (.pair (.int .i64) .unit))))))))
def mutesB (l : List Int) : Bool := (List.range l.length).all fun i => decide (0 ≤ l.getD i default) && decide (l.getD i default < 20)
def posB (n : Int) : Bool := decide (1 ≤ n) && decide (n ≤ 1000000000000)
def routeB (r : RTE) : Bool := nameB r.1 && matchersB r.2.1 && namesB r.2.2.1 && timeB r.2.2.2.1 && posB r.2.2.2.2.1 && posB r.2.2.2.2.2.1 && (decide (r.2.2.2.2.2.2.1.length ≤ 20) && risingI r.2.2.2.2.2.2.1) && mutesB r.2.2.2.2.2.2.1
def kidsOf (l : List RTE) (i : Nat) : Int := (l.getD i default).2.2.2.2.2.2.2.2.1
def manyN (f : Nat → Option Nat) : Nat → Nat → Option Nat
  | 0, p => some p
  | k + 1, p => match f p with | some q => manyN f k q | none => none
def nodeN (l : List RTE) (g : RTE → Bool) : Nat → Nat → Option Nat
  | 0, _ => none
  | d + 1, i => if (decide (i < l.length) && decide (0 ≤ kidsOf l i) && g (l.getD i default)) = true then manyN (nodeN l g d) (kidsOf l i).toNat (i + 1) else none
theorem posB_time {n : Int} : posB n = (timeB n && !decide (n = 0)) := by
  simp only [posB, timeB]
  by_cases h : n = 0
  · subst h; rfl
  · by_cases h2 : 0 ≤ n
    · have : 1 ≤ n := by omega
      simp [h, h2, this]
    · have : ¬ 1 ≤ n := by omega
      simp [h2, this]
def smallB (r : RTE) : Bool := decide (r.2.2.2.2.2.2.2.2.1 ≤ 40)
theorem manyN_le {f : Nat → Option Nat} (hf : ∀ p q, f p = some q → p < q) : ∀ k p q, manyN f k p = some q → p + k ≤ q
  | 0, p, q, h => by simp only [manyN, Option.some.injEq] at h; omega
  | k + 1, p, q, h => by
    simp only [manyN] at h
    cases hp : f p with
    | none => rw [hp] at h; cases h
    | some r =>
      rw [hp] at h
      have := hf p r hp
      have := manyN_le hf k r q h
      omega
theorem manyN_top {f : Nat → Option Nat} {m : Nat} (hf : ∀ p q, f p = some q → q ≤ m) : ∀ k p q, p ≤ m → manyN f k p = some q → q ≤ m
  | 0, p, q, hp, h => by simp only [manyN, Option.some.injEq] at h; omega
  | k + 1, p, q, hp, h => by
    simp only [manyN] at h
    cases hp' : f p with
    | none => rw [hp'] at h; cases h
    | some r =>
      rw [hp'] at h
      exact manyN_top hf k r q (hf p r hp') h
theorem nodeN_lt {l : List RTE} {g : RTE → Bool} : ∀ d i n, nodeN l g d i = some n → i < n ∧ n ≤ l.length
  | 0, i, n, h => by simp [nodeN] at h
  | d + 1, i, n, h => by
    simp only [nodeN] at h
    split at h
    · rename_i hc
      simp only [Bool.and_eq_true, decide_eq_true_eq] at hc
      have h1 := manyN_le (fun p q hq => (nodeN_lt d p q hq).1) _ _ _ h
      have h2 := manyN_top (m := l.length) (fun p q hq => (nodeN_lt d p q hq).2) _ _ _ (by omega) h
      omega
    · cases h
def tkV : Option Nat → Int | some q => (q : Int) | none => -1
theorem manyN_SI {f g : Nat → Option Nat} {G : Nat → Prop} (hf : ∀ p q, f p = some q → p < q ∧ g p = some q ∧ ∀ j, p ≤ j → j < q → G j) : ∀ k p q, manyN f k p = some q → manyN g k p = some q ∧ ∀ j, p ≤ j → j < q → G j
  | 0, p, q, h => by
    simp only [manyN, Option.some.injEq] at h
    subst h
    exact ⟨rfl, fun j h1 h2 => by omega⟩
  | k + 1, p, q, h => by
    simp only [manyN] at h ⊢
    cases hp : f p with
    | none => rw [hp] at h; cases h
    | some r =>
      rw [hp] at h
      obtain ⟨h1, h2, h3⟩ := hf p r hp
      obtain ⟨h4, h5⟩ := manyN_SI hf k r q h
      rw [h2]
      exact ⟨h4, fun j j1 j2 => if hj : j < r then h3 j j1 hj else h5 j (by omega) j2⟩
theorem nodeN_SI {l : List RTE} (hl : l.length ≤ 40) : ∀ d i n, nodeN l routeB d i = some n → nodeN l smallB d i = some n ∧ ∀ j, i ≤ j → j < n → routeB (l.getD j default) = true
  | 0, i, n, h => by simp [nodeN] at h
  | d + 1, i, n, h => by
    have hn := nodeN_lt _ _ _ h
    simp only [nodeN] at h ⊢
    split at h
    · rename_i hc
      have hc' := hc
      simp only [Bool.and_eq_true, decide_eq_true_eq] at hc
      have h1 := manyN_le (fun p q hq => (nodeN_lt d p q hq).1) _ _ _ h
      have hs : smallB (l.getD i default) = true := decide_eq_true (show kidsOf l i ≤ 40 by omega)
      obtain ⟨h2, h3⟩ := manyN_SI (G := fun j => routeB (l.getD j default) = true) (g := nodeN l smallB d) (fun p q hq => ⟨(nodeN_lt d p q hq).1, nodeN_SI hl d p q hq⟩) _ _ _ h
      rw [if_pos (by rw [decide_eq_true hc.1.1, decide_eq_true hc.1.2, hs]; rfl)]
      refine ⟨h2, fun j j1 j2 => ?_⟩
      rcases Nat.eq_or_lt_of_le j1 with rfl | j1
      · exact hc.2
      · exact h3 j (by omega) j2
    · cases h
theorem manyN_IS {f g : Nat → Option Nat} {G : Nat → Prop} (hl : ∀ p q, g p = some q → p < q) (hg : ∀ p q, g p = some q → (∀ j, p ≤ j → j < q → G j) → f p = some q) : ∀ k p q, manyN g k p = some q → (∀ j, p ≤ j → j < q → G j) → manyN f k p = some q
  | 0, p, q, h, _ => by simpa only [manyN] using h
  | k + 1, p, q, h, hG => by
    simp only [manyN] at h ⊢
    cases hp : g p with
    | none => rw [hp] at h; cases h
    | some r =>
      rw [hp] at h
      have h1 := hl p r hp
      have h2 := manyN_le hl k r q h
      rw [hg p r hp (fun j j1 j2 => hG j j1 (by omega))]
      exact manyN_IS hl hg k r q h (fun j j1 j2 => hG j (by omega) j2)
theorem nodeN_IS {l : List RTE} : ∀ d i n, nodeN l smallB d i = some n → (∀ j, i ≤ j → j < n → routeB (l.getD j default) = true) → nodeN l routeB d i = some n
  | 0, i, n, h, _ => by simp [nodeN] at h
  | d + 1, i, n, h, hG => by
    have hn := nodeN_lt _ _ _ h
    simp only [nodeN] at h ⊢
    split at h
    · rename_i hc
      simp only [Bool.and_eq_true, decide_eq_true_eq] at hc
      rw [if_pos (by rw [decide_eq_true hc.1.1, decide_eq_true hc.1.2, hG i (Nat.le_refl _) hn.1]; rfl)]
      exact manyN_IS (fun p q hq => (nodeN_lt d p q hq).1) (fun p q hq => nodeN_IS d p q hq) _ _ _ h (fun j j1 j2 => hG j (by omega) j2)
    · cases h
def routesB (l : List RTE) : Bool := (decide (l.length ≠ 0) && decide (l.length ≤ 40) && decide (nodeN l routeB 8 0 = some l.length)) && (decide ((l.getD 0 default).2.1.length = 0) && !(l.getD 0 default).2.2.2.2.2.2.2.1)
theorem routes_eq {l : List RTE} (hl : l.length ≤ 40) : decide (nodeN l routeB 8 0 = some l.length) = (decide (nodeN l smallB 8 0 = some l.length) && (List.range l.length).all fun i => routeB (l.getD i default)) := by
  rw [Bool.eq_iff_iff]
  simp only [decide_eq_true_eq, Bool.and_eq_true, List.all_eq_true, List.mem_range]
  exact ⟨fun h => ⟨(nodeN_SI hl _ _ _ h).1, fun i hi => (nodeN_SI hl _ _ _ h).2 i (Nat.zero_le _) hi⟩, fun h => nodeN_IS _ _ _ h.1 fun j _ j2 => h.2 j j2⟩
theorem Ev.filt {P α : Type} [Inhabited α] {step : Nat → (P → Option (List α)) → P → Option (List α)} {l : List α} {p : α → Bool} {pt : Nat → List α → P}
    (hy : ∀ i out, i < l.length → out.length ≤ i → p (l.getD i default) = true → ∀ v, Ev (fun n => goRec step n (pt (i + 1) (out ++ [l.getD i default]))) v → Ev (fun n => goRec step n (pt i out)) v)
    (hn : ∀ i out, i < l.length → out.length ≤ i → p (l.getD i default) = false → ∀ v, Ev (fun n => goRec step n (pt (i + 1) out)) v → Ev (fun n => goRec step n (pt i out)) v)
    (he : ∀ out, Ev (fun n => goRec step n (pt l.length out)) out) : Ev (fun n => goRec step n (pt 0 [])) (l.filter p) := by
  have key : ∀ d i out, i + d = l.length → out.length ≤ i → Ev (fun n => goRec step n (pt i out)) (out ++ (l.drop i).filter p) := by
    intro d
    induction d with
    | zero =>
      intro i out h ho
      obtain rfl : i = l.length := by omega
      exact Ev.of_eq (he out) (by simp)
    | succ d ih =>
      intro i out h ho
      have hi : i < l.length := by omega
      rw [drop_getD hi, List.filter_cons]
      cases c : p (l.getD i default) with
      | true => exact hy i out hi ho c _ (Ev.of_eq (ih (i + 1) _ (by omega) (by simp; omega)) (by simp))
      | false => exact hn i out hi ho c _ (Ev.of_eq (ih (i + 1) _ (by omega) (by omega)) (by simp))
  exact key l.length 0 [] (by omega) (by simp)
theorem any_getD {α : Type} [Inhabited α] {l : List α} {p : α → Bool} : l.any p = (List.range l.length).any fun i => p (l.getD i default) := by
  rw [Bool.eq_iff_iff, List.any_eq_true, List.any_eq_true]
  constructor
  · rintro ⟨x, hx, hp⟩
    obtain ⟨i, hi, rfl⟩ := List.getElem_of_mem hx
    refine ⟨i, by simpa using hi, ?_⟩
    rwa [List.getD_eq_getElem?_getD, List.getElem?_eq_getElem hi]
  · rintro ⟨i, hi, hp⟩
    exact ⟨_, getD_mem (by simpa using hi), hp⟩
def hasB (l : List ByteArray) (x : ByteArray) : Bool := (List.range l.length).any fun i => decide (l.getD i default = x)
def groupF (l : List RTE) (k : Int) (t : List LB) : List LB := if (routesB l && decide (0 ≤ k) && decide (k < (l.length : Int)) && labelsB t) = true then t.filter (fun x => hasB (l.getD k.toNat default).2.2.1 x.1) else []
theorem groupF_small {l : List RTE} {k : Int} {t : List LB} (h : Sm 1048576 (.sl false LU) t) : Sm 1048576 (.sl false LU) (groupF l k t) := by
  have hl : t.length ≤ 1048576 := h.1
  rw [groupF]
  split
  · exact ⟨by have := List.length_filter_le (fun x => hasB (l.getD k.toNat default).2.2.1 x.1) t; omega, fun x hx => h.2 x (List.mem_filter.1 hx).1⟩
  · exact ⟨by simp, fun x hx => by cases hx⟩
/-- a loop that goes on while p holds, and something else behind it -/
theorem Ev.allK {P : Type} {step : Nat → (P → Option Bool) → P → Option Bool} {n : Nat} {p : Nat → Bool} {pt : Nat → P} {b : Bool}
    (hs : ∀ i, i < n → (p i = true → ∀ v, Ev (fun m => goRec step m (pt (i + 1))) v → Ev (fun m => goRec step m (pt i)) v) ∧ (p i = false → Ev (fun m => goRec step m (pt i)) false))
    (he : (List.range n).all p = true → Ev (fun m => goRec step m (pt n)) b) : Ev (fun m => goRec step m (pt 0)) ((List.range n).all p && b) := by
  have key : ∀ d i, i + d = n → (∀ j, j < i → p j = true) → Ev (fun m => goRec step m (pt i)) ((List.range' i d).all p && b) := by
    intro d
    induction d with
    | zero =>
      intro i h hj
      rw [Nat.add_zero] at h
      subst h
      exact he (by simpa using hj)
    | succ d ih =>
      intro i h hj
      obtain ⟨h1, h2⟩ := hs i (by omega)
      rw [List.range'_succ, List.all_cons]
      cases hp : p i with
      | false => rw [Bool.false_and, Bool.false_and]; exact h2 hp
      | true =>
        rw [Bool.true_and]
        refine h1 hp _ (ih (i + 1) (by omega) fun j h => ?_)
        rcases Nat.lt_succ_iff_lt_or_eq.1 h with h | rfl
        · exact hj j h
        · exact hp
  have := key n 0 (by omega) (by omega)
  rwa [List.range_eq_range']
abbrev NCE := List RTE × List ITV × List SIL × List INH × Unit
abbrev NCU : U := .pair (.sl false RTU) (.pair (.sl false ITU) (.pair (.sl false SIU) (.pair (.sl false INU) .unit)))
def mutesOK (m : Nat) (l : List Int) : Bool := (List.range l.length).all fun j => !decide ((m : Int) ≤ l.getD j default)
def itvsB (l : List ITV) : Bool := (List.range l.length).all fun i => itvB (l.getD i default)
def rmutesB (m : Nat) (l : List RTE) : Bool := (List.range l.length).all fun i => mutesOK m (l.getD i default).2.2.2.2.2.2.1
def notifyB (c : NCE) : Bool := (routesB c.1 && silsB c.2.2.1 && inhsB c.2.2.2.1) && decide (c.2.1.length ≤ 20) && itvsB c.2.1 && rmutesB c.2.1.length c.1
abbrev CUE := Int × Int × Int × Int × Unit
abbrev CUU : U := .pair (.int .i64) (.pair (.int .i64) (.pair (.int .i64) (.pair (.int .i64) .unit)))
abbrev MCE := Int × Int × List CUE × List CUE × Unit
abbrev MCU : U := .pair (.int .i64) (.pair (.int .i64) (.pair (.sl false CUU) (.pair (.sl false CUU) .unit)))
def cutB (m : Int) (d : Bool) (x : CUE) : Bool := timeB x.2.2.1 && timeB x.2.2.2.1 && decide (0 ≤ x.1) && decide (x.1 < m) && decide (0 ≤ x.2.1) && decide (x.2.1 < m) && !(d && !decide (x.2.1 = 0))
def cutsB (l : List CUE) (m : Int) (d : Bool) : Bool := decide (l.length ≤ 20) && (List.range l.length).all fun i => cutB m d (l.getD i default)
def slowB (l : List RTE) (k : Int) : Bool := (List.range l.length).all fun i => !decide ((l.getD i default).2.2.2.2.1 ≤ k)
def membersB (c : NCE) (m : MCE) : Bool := (notifyB c && decide (1 ≤ m.1) && decide (m.1 ≤ 5) && timeB m.2.1 && cutsB m.2.2.1 m.1 false && cutsB m.2.2.2.1 m.1 true) && slowB c.1 (IntKind.wrap .i64 ((IntKind.wrap .i64 (m.1 - (1 : Int))) * m.2.1))
theorem routesB_all {l : List RTE} (h : routesB l = true) : l.length ≤ 40 ∧ nodeN l routeB 8 0 = some l.length ∧ ∀ i, i < l.length → routeB (l.getD i default) = true := by
  simp only [routesB, Bool.and_eq_true, decide_eq_true_eq] at h
  exact ⟨h.1.1.2, h.1.2, fun i hi => (nodeN_SI h.1.1.2 _ _ _ h.1.2).2 i (Nat.zero_le _) hi⟩
noncomputable def mutedB (c : NCE) (l : List Int) (t : Int) : Bool := (List.range l.length).any fun j => inItvB (c.2.1.getD (l.getD j default).toNat default) t
noncomputable def mutedAtB (c : NCE) (r t : Int) : Bool := notifyB c && decide (0 ≤ r) && decide (r < (c.1.length : Int)) && timeB t && mutedB c (c.1.getD r.toNat default).2.2.2.2.2.2.1 t
/-- the mutes of a route of good routes name intervals -/
theorem mutes_in {c : NCE} (h : notifyB c = true) {i : Nat} (hi : i < c.1.length) {j : Nat} (hj : j < (c.1.getD i default).2.2.2.2.2.2.1.length) : 0 ≤ (c.1.getD i default).2.2.2.2.2.2.1.getD j default ∧ (c.1.getD i default).2.2.2.2.2.2.1.getD j default < (c.2.1.length : Int) := by
  simp only [notifyB, Bool.and_eq_true] at h
  have h1 := (routesB_all h.1.1.1.1.1).2.2 i hi
  have h2 := h.2
  simp only [rmutesB, List.all_eq_true, List.mem_range] at h2
  have h3 := h2 i hi
  simp only [mutesOK, List.all_eq_true, List.mem_range, Bool.not_eq_true', decide_eq_false_iff_not] at h3
  have h3 := h3 j hj
  simp only [routeB, Bool.and_eq_true] at h1
  have h4 := h1.2
  simp only [mutesB, List.all_eq_true, List.mem_range, Bool.and_eq_true, decide_eq_true_eq] at h4
  have h4 := h4 j hj
  exact ⟨h4.1, by omega⟩
theorem inB_of {i : Int} {n : Nat} (h : 0 ≤ i ∧ i < (n : Int)) : inB i n = true := by simpa [inB] using h
/-- a loop that goes on until p holds -/
theorem Ev.anyN {P : Type} {step : Nat → (P → Option Bool) → P → Option Bool} {n : Nat} {p : Nat → Bool} {pt : Nat → P}
    (hs : ∀ i, i < n → (p i = false → ∀ v, Ev (fun m => goRec step m (pt (i + 1))) v → Ev (fun m => goRec step m (pt i)) v) ∧ (p i = true → Ev (fun m => goRec step m (pt i)) true))
    (he : Ev (fun m => goRec step m (pt n)) false) : Ev (fun m => goRec step m (pt 0)) ((List.range n).any p) := by
  have key : ∀ d i, i + d = n → Ev (fun m => goRec step m (pt i)) ((List.range' i d).any p) := by
    intro d
    induction d with
    | zero => intro i h; rw [Nat.add_zero] at h; subst h; exact he
    | succ d ih =>
      intro i h
      obtain ⟨h1, h2⟩ := hs i (by omega)
      rw [List.range'_succ, List.any_cons]
      cases hp : p i with
      | true => rw [Bool.true_or]; exact h2 hp
      | false => rw [Bool.false_or]; exact h1 hp _ (ih (i + 1) (by omega))
  have := key n 0 (by omega)
  rwa [List.range_eq_range']
theorem laws_szMatcher.ev (x : (ByteArray) × ((Int) × ((ByteArray) × (Unit)))) (left : Int) (h0 : 0 ≤ left) (h1 : left ≤ 1048576) (hw : Wf (.pair .str (.pair (.int .i64) (.pair .str .unit))) x) : Sz (fun n => laws_szMatcher n x left) left (Sm 1048576 (.pair .str (.pair (.int .i64) (.pair .str .unit))) x) := by
  refine Sz.step ?_
  simp only [laws_szMatcher.step]
  have b1 : ByteArray.size x.1 ≤ 9223372036854775807 := by have := hw.1; simp only [Wf, maxLen] at this; omega
  have e1 : IntKind.wrap .i64 (left - ((ByteArray.size x.1) : Int)) = left - ((ByteArray.size x.1) : Int) := i64_ok (by omega) (by omega)
  simp only [e1]
  by_cases c1 : (left - ((ByteArray.size x.1) : Int)) < 0
  · exact Sz.yes (by simpa using c1) (Sz.neg h0)
  refine Sz.no (by simpa using c1) ?_
  have b2 : ByteArray.size x.2.2.1 ≤ 9223372036854775807 := by have := hw.2.2.1; simp only [Wf, maxLen] at this; omega
  have e2 : IntKind.wrap .i64 ((left - ((ByteArray.size x.1) : Int)) - ((ByteArray.size x.2.2.1) : Int)) = (left - ((ByteArray.size x.1) : Int)) - ((ByteArray.size x.2.2.1) : Int) := i64_ok (by omega) (by omega)
  simp only [e2]
  by_cases c2 : ((left - ((ByteArray.size x.1) : Int)) - ((ByteArray.size x.2.2.1) : Int)) < 0
  · exact Sz.yes (by simpa using c2) (Sz.neg h0)
  refine Sz.no (by simpa using c2) ?_
  exact ⟨((left - ((ByteArray.size x.1) : Int)) - ((ByteArray.size x.2.2.1) : Int)), Ev.pure, by omega, fun _ => ⟨(show ByteArray.size x.1 ≤ 1048576 by omega), ⟨trivial, ⟨(show ByteArray.size x.2.2.1 ≤ 1048576 by omega), trivial⟩⟩⟩⟩
theorem laws_szMatcherS.loop (l : List ((ByteArray) × ((Int) × ((ByteArray) × (Unit))))) (hl : l.length ≤ 1048576) (hw : ∀ x ∈ l, Wf (.pair .str (.pair (.int .i64) (.pair .str .unit))) x) : ∀ d i (left : Int), i + d = l.length → 0 ≤ left → left ≤ 1048576 → Sz (fun n => goRec laws_szMatcherS.step n (.p17 l left (i : Int))) left (∀ j, i ≤ j → j < l.length → Sm 1048576 (.pair .str (.pair (.int .i64) (.pair .str .unit))) (l.getD j default)) := by
  intro d
  induction d with
  | zero =>
    intro i left h h0 h1
    rw [Nat.add_zero] at h
    subst h
    refine Sz.step ?_
    simp only [laws_szMatcherS.step]
    exact Sz.no lt_no ⟨left, Ev.pure, Int.le_refl _, fun _ j h1 h2 => by omega⟩
  | succ d ih =>
    intro i left h h0 h1
    have hi : i < l.length := by omega
    refine Sz.step ?_
    simp only [laws_szMatcherS.step, toNat_cast]
    refine Sz.yes (lt_yes hi) (Sz.yes (inB_nat hi) ?_)
    obtain ⟨r1, k1, m1, q1⟩ := laws_szMatcher.ev (l.getD i default) left h0 h1 (hw _ (getD_mem hi))
    refine Sz.bind k1 ?_
    by_cases c1 : r1 < 0
    · exact Sz.yes (by simpa using c1) (Sz.neg h0)
    refine Sz.no (by simpa using c1) ?_
    rw [i64_nat (by omega)]
    have := ih (i + 1) r1 (by omega) (by omega) (by omega)
    refine (this.le m1).imp fun hq j h2 h3 => ?_
    rcases Nat.eq_or_lt_of_le h2 with rfl | h2
    · exact q1 (by omega)
    · exact hq j h2 h3
theorem laws_szMatcherS.ev (l : List ((ByteArray) × ((Int) × ((ByteArray) × (Unit))))) (left : Int) (h0 : 0 ≤ left) (h1 : left ≤ 1048576) (hw : Wf (.sl false (.pair .str (.pair (.int .i64) (.pair .str .unit)))) l) : Sz (fun n => laws_szMatcherS n l left) left (Sm 1048576 (.sl false (.pair .str (.pair (.int .i64) (.pair .str .unit)))) l) := by
  refine Sz.step ?_
  simp only [laws_szMatcherS.step]
  have b1 : l.length ≤ 9223372036854775807 := by have := hw.1; simp only [maxLen] at this; omega
  have e1 : IntKind.wrap .i64 (left - ((List.length l) : Int)) = left - ((List.length l) : Int) := i64_ok (by omega) (by omega)
  simp only [e1]
  by_cases c1 : left - ((List.length l) : Int) < 0
  · exact Sz.yes (by simpa using c1) (Sz.neg h0)
  refine Sz.no (by simpa using c1) ?_
  refine ((laws_szMatcherS.loop l (by omega) hw.2 l.length 0 _ (by omega) (by omega) (by omega)).le (by omega)).imp fun hq => ⟨by omega, fun x hx => ?_⟩
  obtain ⟨j, hj, rfl⟩ := List.getElem_of_mem hx
  have := hq j (by omega) hj
  rwa [List.getD_eq_getElem?_getD, List.getElem?_eq_getElem hj] at this
theorem laws_szStringS.loop (l : List (ByteArray)) (hl : l.length ≤ 1048576) (hw : ∀ x ∈ l, Wf .str x) : ∀ d i (left : Int), i + d = l.length → 0 ≤ left → left ≤ 1048576 → Sz (fun n => goRec laws_szStringS.step n (.p17 l left (i : Int))) left (∀ j, i ≤ j → j < l.length → Sm 1048576 .str (l.getD j default)) := by
  intro d
  induction d with
  | zero =>
    intro i left h h0 h1
    rw [Nat.add_zero] at h
    subst h
    refine Sz.step ?_
    simp only [laws_szStringS.step]
    exact Sz.no lt_no ⟨left, Ev.pure, Int.le_refl _, fun _ j h1 h2 => by omega⟩
  | succ d ih =>
    intro i left h h0 h1
    have hi : i < l.length := by omega
    refine Sz.step ?_
    simp only [laws_szStringS.step, toNat_cast]
    refine Sz.yes (lt_yes hi) (Sz.yes (inB_nat hi) ?_)
    have b1 : ByteArray.size (l.getD i default) ≤ 9223372036854775807 := by have := hw _ (getD_mem hi (d := default)); simp only [Wf, maxLen] at this; omega
    have e1 : IntKind.wrap .i64 (left - ((ByteArray.size (l.getD i default)) : Int)) = left - ((ByteArray.size (l.getD i default)) : Int) := i64_ok (by omega) (by omega)
    simp only [e1]
    by_cases c1 : (left - ((ByteArray.size (l.getD i default)) : Int)) < 0
    · exact Sz.yes (by simpa using c1) (Sz.neg h0)
    refine Sz.no (by simpa using c1) ?_
    rw [i64_nat (by omega)]
    have := ih (i + 1) (left - ((ByteArray.size (l.getD i default)) : Int)) (by omega) (by omega) (by omega)
    refine (this.le (by omega)).imp fun hq j h2 h3 => ?_
    rcases Nat.eq_or_lt_of_le h2 with rfl | h2
    · show ByteArray.size _ ≤ 1048576
      omega
    · exact hq j h2 h3
theorem laws_szStringS.ev (l : List (ByteArray)) (left : Int) (h0 : 0 ≤ left) (h1 : left ≤ 1048576) (hw : Wf (.sl false .str) l) : Sz (fun n => laws_szStringS n l left) left (Sm 1048576 (.sl false .str) l) := by
  refine Sz.step ?_
  simp only [laws_szStringS.step]
  have b1 : l.length ≤ 9223372036854775807 := by have := hw.1; simp only [maxLen] at this; omega
  have e1 : IntKind.wrap .i64 (left - ((List.length l) : Int)) = left - ((List.length l) : Int) := i64_ok (by omega) (by omega)
  simp only [e1]
  by_cases c1 : left - ((List.length l) : Int) < 0
  · exact Sz.yes (by simpa using c1) (Sz.neg h0)
  refine Sz.no (by simpa using c1) ?_
  refine ((laws_szStringS.loop l (by omega) hw.2 l.length 0 _ (by omega) (by omega) (by omega)).le (by omega)).imp fun hq => ⟨by omega, fun x hx => ?_⟩
  obtain ⟨j, hj, rfl⟩ := List.getElem_of_mem hx
  have := hq j (by omega) hj
  rwa [List.getD_eq_getElem?_getD, List.getElem?_eq_getElem hj] at this
theorem laws_szIntS.ev (l : List (Int)) (left : Int) (h0 : 0 ≤ left) (h1 : left ≤ 1048576) (hw : Wf (.sl false (.int .i64)) l) : Sz (fun n => laws_szIntS n l left) left (Sm 1048576 (.sl false (.int .i64)) l) := by
  refine Sz.step ?_
  simp only [laws_szIntS.step]
  have b1 : l.length ≤ 9223372036854775807 := by have := hw.1; simp only [maxLen] at this; omega
  have e1 : IntKind.wrap .i64 (left - ((List.length l) : Int)) = left - ((List.length l) : Int) := i64_ok (by omega) (by omega)
  simp only [e1]
  by_cases c1 : left - ((List.length l) : Int) < 0
  · exact Sz.yes (by simpa using c1) (Sz.neg h0)
  refine Sz.no (by simpa using c1) ?_
  exact ⟨_, Ev.pure, by omega, fun _ => ⟨by omega, fun x _ => trivial⟩⟩
theorem laws_szRoute.ev (x : (ByteArray) × ((List ((ByteArray) × ((Int) × ((ByteArray) × (Unit))))) × ((List (ByteArray)) × ((Int) × ((Int) × ((Int) × ((List (Int)) × ((Bool) × ((Int) × (Unit)))))))))) (left : Int) (h0 : 0 ≤ left) (h1 : left ≤ 1048576) (hw : Wf (.pair .str (.pair (.sl false (.pair .str (.pair (.int .i64) (.pair .str .unit)))) (.pair (.sl false .str) (.pair (.int .i64) (.pair (.int .i64) (.pair (.int .i64) (.pair (.sl false (.int .i64)) (.pair .bool (.pair (.int .i64) .unit))))))))) x) : Sz (fun n => laws_szRoute n x left) left (Sm 1048576 (.pair .str (.pair (.sl false (.pair .str (.pair (.int .i64) (.pair .str .unit)))) (.pair (.sl false .str) (.pair (.int .i64) (.pair (.int .i64) (.pair (.int .i64) (.pair (.sl false (.int .i64)) (.pair .bool (.pair (.int .i64) .unit))))))))) x) := by
  refine Sz.step ?_
  simp only [laws_szRoute.step]
  have b1 : ByteArray.size x.1 ≤ 9223372036854775807 := by have := hw.1; simp only [Wf, maxLen] at this; omega
  have e1 : IntKind.wrap .i64 (left - ((ByteArray.size x.1) : Int)) = left - ((ByteArray.size x.1) : Int) := i64_ok (by omega) (by omega)
  simp only [e1]
  by_cases c1 : (left - ((ByteArray.size x.1) : Int)) < 0
  · exact Sz.yes (by simpa using c1) (Sz.neg h0)
  refine Sz.no (by simpa using c1) ?_
  obtain ⟨r2, k2, m2, q2⟩ := laws_szMatcherS.ev x.2.1 (left - ((ByteArray.size x.1) : Int)) (by omega) (by omega) hw.2.1
  refine Sz.bind k2 ?_
  by_cases c2 : r2 < 0
  · exact Sz.yes (by simpa using c2) (Sz.neg h0)
  refine Sz.no (by simpa using c2) ?_
  obtain ⟨r3, k3, m3, q3⟩ := laws_szStringS.ev x.2.2.1 r2 (by omega) (by omega) hw.2.2.1
  refine Sz.bind k3 ?_
  by_cases c3 : r3 < 0
  · exact Sz.yes (by simpa using c3) (Sz.neg h0)
  refine Sz.no (by simpa using c3) ?_
  obtain ⟨r4, k4, m4, q4⟩ := laws_szIntS.ev x.2.2.2.2.2.2.1 r3 (by omega) (by omega) hw.2.2.2.2.2.2.1
  refine Sz.bind k4 ?_
  by_cases c4 : r4 < 0
  · exact Sz.yes (by simpa using c4) (Sz.neg h0)
  refine Sz.no (by simpa using c4) ?_
  exact ⟨r4, Ev.pure, by omega, fun _ => ⟨(show ByteArray.size x.1 ≤ 1048576 by omega), ⟨(q2 (by omega)), ⟨(q3 (by omega)), ⟨trivial, ⟨trivial, ⟨trivial, ⟨(q4 (by omega)), ⟨trivial, ⟨trivial, trivial⟩⟩⟩⟩⟩⟩⟩⟩⟩⟩
theorem laws_szRouteS.loop (l : List ((ByteArray) × ((List ((ByteArray) × ((Int) × ((ByteArray) × (Unit))))) × ((List (ByteArray)) × ((Int) × ((Int) × ((Int) × ((List (Int)) × ((Bool) × ((Int) × (Unit))))))))))) (hl : l.length ≤ 1048576) (hw : ∀ x ∈ l, Wf (.pair .str (.pair (.sl false (.pair .str (.pair (.int .i64) (.pair .str .unit)))) (.pair (.sl false .str) (.pair (.int .i64) (.pair (.int .i64) (.pair (.int .i64) (.pair (.sl false (.int .i64)) (.pair .bool (.pair (.int .i64) .unit))))))))) x) : ∀ d i (left : Int), i + d = l.length → 0 ≤ left → left ≤ 1048576 → Sz (fun n => goRec laws_szRouteS.step n (.p17 l left (i : Int))) left (∀ j, i ≤ j → j < l.length → Sm 1048576 (.pair .str (.pair (.sl false (.pair .str (.pair (.int .i64) (.pair .str .unit)))) (.pair (.sl false .str) (.pair (.int .i64) (.pair (.int .i64) (.pair (.int .i64) (.pair (.sl false (.int .i64)) (.pair .bool (.pair (.int .i64) .unit))))))))) (l.getD j default)) := by
  intro d
  induction d with
  | zero =>
    intro i left h h0 h1
    rw [Nat.add_zero] at h
    subst h
    refine Sz.step ?_
    simp only [laws_szRouteS.step]
    exact Sz.no lt_no ⟨left, Ev.pure, Int.le_refl _, fun _ j h1 h2 => by omega⟩
  | succ d ih =>
    intro i left h h0 h1
    have hi : i < l.length := by omega
    refine Sz.step ?_
    simp only [laws_szRouteS.step, toNat_cast]
    refine Sz.yes (lt_yes hi) (Sz.yes (inB_nat hi) ?_)
    obtain ⟨r1, k1, m1, q1⟩ := laws_szRoute.ev (l.getD i default) left h0 h1 (hw _ (getD_mem hi))
    refine Sz.bind k1 ?_
    by_cases c1 : r1 < 0
    · exact Sz.yes (by simpa using c1) (Sz.neg h0)
    refine Sz.no (by simpa using c1) ?_
    rw [i64_nat (by omega)]
    have := ih (i + 1) r1 (by omega) (by omega) (by omega)
    refine (this.le m1).imp fun hq j h2 h3 => ?_
    rcases Nat.eq_or_lt_of_le h2 with rfl | h2
    · exact q1 (by omega)
    · exact hq j h2 h3
theorem laws_szRouteS.ev (l : List ((ByteArray) × ((List ((ByteArray) × ((Int) × ((ByteArray) × (Unit))))) × ((List (ByteArray)) × ((Int) × ((Int) × ((Int) × ((List (Int)) × ((Bool) × ((Int) × (Unit))))))))))) (left : Int) (h0 : 0 ≤ left) (h1 : left ≤ 1048576) (hw : Wf (.sl false (.pair .str (.pair (.sl false (.pair .str (.pair (.int .i64) (.pair .str .unit)))) (.pair (.sl false .str) (.pair (.int .i64) (.pair (.int .i64) (.pair (.int .i64) (.pair (.sl false (.int .i64)) (.pair .bool (.pair (.int .i64) .unit)))))))))) l) : Sz (fun n => laws_szRouteS n l left) left (Sm 1048576 (.sl false (.pair .str (.pair (.sl false (.pair .str (.pair (.int .i64) (.pair .str .unit)))) (.pair (.sl false .str) (.pair (.int .i64) (.pair (.int .i64) (.pair (.int .i64) (.pair (.sl false (.int .i64)) (.pair .bool (.pair (.int .i64) .unit)))))))))) l) := by
  refine Sz.step ?_
  simp only [laws_szRouteS.step]
  have b1 : l.length ≤ 9223372036854775807 := by have := hw.1; simp only [maxLen] at this; omega
  have e1 : IntKind.wrap .i64 (left - ((List.length l) : Int)) = left - ((List.length l) : Int) := i64_ok (by omega) (by omega)
  simp only [e1]
  by_cases c1 : left - ((List.length l) : Int) < 0
  · exact Sz.yes (by simpa using c1) (Sz.neg h0)
  refine Sz.no (by simpa using c1) ?_
  refine ((laws_szRouteS.loop l (by omega) hw.2 l.length 0 _ (by omega) (by omega) (by omega)).le (by omega)).imp fun hq => ⟨by omega, fun x hx => ?_⟩
  obtain ⟨j, hj, rfl⟩ := List.getElem_of_mem hx
  have := hq j (by omega) hj
  rwa [List.getD_eq_getElem?_getD, List.getElem?_eq_getElem hj] at this
theorem laws_szRangeS.ev (l : List ((Int) × ((Int) × (Unit)))) (left : Int) (h0 : 0 ≤ left) (h1 : left ≤ 1048576) (hw : Wf (.sl false (.pair (.int .i64) (.pair (.int .i64) .unit))) l) : Sz (fun n => laws_szRangeS n l left) left (Sm 1048576 (.sl false (.pair (.int .i64) (.pair (.int .i64) .unit))) l) := by
  refine Sz.step ?_
  simp only [laws_szRangeS.step]
  have b1 : l.length ≤ 9223372036854775807 := by have := hw.1; simp only [maxLen] at this; omega
  have e1 : IntKind.wrap .i64 (left - ((List.length l) : Int)) = left - ((List.length l) : Int) := i64_ok (by omega) (by omega)
  simp only [e1]
  by_cases c1 : left - ((List.length l) : Int) < 0
  · exact Sz.yes (by simpa using c1) (Sz.neg h0)
  refine Sz.no (by simpa using c1) ?_
  exact ⟨_, Ev.pure, by omega, fun _ => ⟨by omega, fun x _ => ⟨trivial, ⟨trivial, trivial⟩⟩⟩⟩
theorem laws_szInterval.ev (x : (Int) × ((List ((Int) × ((Int) × (Unit)))) × ((List ((Int) × ((Int) × (Unit)))) × ((List ((Int) × ((Int) × (Unit)))) × ((List ((Int) × ((Int) × (Unit)))) × ((List ((Int) × ((Int) × (Unit)))) × ((List (Int)) × (Unit)))))))) (left : Int) (h0 : 0 ≤ left) (h1 : left ≤ 1048576) (hw : Wf (.pair (.int .i64) (.pair (.sl false (.pair (.int .i64) (.pair (.int .i64) .unit))) (.pair (.sl false (.pair (.int .i64) (.pair (.int .i64) .unit))) (.pair (.sl false (.pair (.int .i64) (.pair (.int .i64) .unit))) (.pair (.sl false (.pair (.int .i64) (.pair (.int .i64) .unit))) (.pair (.sl false (.pair (.int .i64) (.pair (.int .i64) .unit))) (.pair (.sl false (.int .i64)) .unit))))))) x) : Sz (fun n => laws_szInterval n x left) left (Sm 1048576 (.pair (.int .i64) (.pair (.sl false (.pair (.int .i64) (.pair (.int .i64) .unit))) (.pair (.sl false (.pair (.int .i64) (.pair (.int .i64) .unit))) (.pair (.sl false (.pair (.int .i64) (.pair (.int .i64) .unit))) (.pair (.sl false (.pair (.int .i64) (.pair (.int .i64) .unit))) (.pair (.sl false (.pair (.int .i64) (.pair (.int .i64) .unit))) (.pair (.sl false (.int .i64)) .unit))))))) x) := by
  refine Sz.step ?_
  simp only [laws_szInterval.step]
  obtain ⟨r1, k1, m1, q1⟩ := laws_szRangeS.ev x.2.1 left (by omega) (by omega) hw.2.1
  refine Sz.bind k1 ?_
  by_cases c1 : r1 < 0
  · exact Sz.yes (by simpa using c1) (Sz.neg h0)
  refine Sz.no (by simpa using c1) ?_
  obtain ⟨r2, k2, m2, q2⟩ := laws_szRangeS.ev x.2.2.1 r1 (by omega) (by omega) hw.2.2.1
  refine Sz.bind k2 ?_
  by_cases c2 : r2 < 0
  · exact Sz.yes (by simpa using c2) (Sz.neg h0)
  refine Sz.no (by simpa using c2) ?_
  obtain ⟨r3, k3, m3, q3⟩ := laws_szRangeS.ev x.2.2.2.1 r2 (by omega) (by omega) hw.2.2.2.1
  refine Sz.bind k3 ?_
  by_cases c3 : r3 < 0
  · exact Sz.yes (by simpa using c3) (Sz.neg h0)
  refine Sz.no (by simpa using c3) ?_
  obtain ⟨r4, k4, m4, q4⟩ := laws_szRangeS.ev x.2.2.2.2.1 r3 (by omega) (by omega) hw.2.2.2.2.1
  refine Sz.bind k4 ?_
  by_cases c4 : r4 < 0
  · exact Sz.yes (by simpa using c4) (Sz.neg h0)
  refine Sz.no (by simpa using c4) ?_
  obtain ⟨r5, k5, m5, q5⟩ := laws_szRangeS.ev x.2.2.2.2.2.1 r4 (by omega) (by omega) hw.2.2.2.2.2.1
  refine Sz.bind k5 ?_
  by_cases c5 : r5 < 0
  · exact Sz.yes (by simpa using c5) (Sz.neg h0)
  refine Sz.no (by simpa using c5) ?_
  obtain ⟨r6, k6, m6, q6⟩ := laws_szIntS.ev x.2.2.2.2.2.2.1 r5 (by omega) (by omega) hw.2.2.2.2.2.2.1
  refine Sz.bind k6 ?_
  by_cases c6 : r6 < 0
  · exact Sz.yes (by simpa using c6) (Sz.neg h0)
  refine Sz.no (by simpa using c6) ?_
  exact ⟨r6, Ev.pure, by omega, fun _ => ⟨trivial, ⟨(q1 (by omega)), ⟨(q2 (by omega)), ⟨(q3 (by omega)), ⟨(q4 (by omega)), ⟨(q5 (by omega)), ⟨(q6 (by omega)), trivial⟩⟩⟩⟩⟩⟩⟩⟩
theorem laws_szIntervalS.loop (l : List ((Int) × ((List ((Int) × ((Int) × (Unit)))) × ((List ((Int) × ((Int) × (Unit)))) × ((List ((Int) × ((Int) × (Unit)))) × ((List ((Int) × ((Int) × (Unit)))) × ((List ((Int) × ((Int) × (Unit)))) × ((List (Int)) × (Unit))))))))) (hl : l.length ≤ 1048576) (hw : ∀ x ∈ l, Wf (.pair (.int .i64) (.pair (.sl false (.pair (.int .i64) (.pair (.int .i64) .unit))) (.pair (.sl false (.pair (.int .i64) (.pair (.int .i64) .unit))) (.pair (.sl false (.pair (.int .i64) (.pair (.int .i64) .unit))) (.pair (.sl false (.pair (.int .i64) (.pair (.int .i64) .unit))) (.pair (.sl false (.pair (.int .i64) (.pair (.int .i64) .unit))) (.pair (.sl false (.int .i64)) .unit))))))) x) : ∀ d i (left : Int), i + d = l.length → 0 ≤ left → left ≤ 1048576 → Sz (fun n => goRec laws_szIntervalS.step n (.p17 l left (i : Int))) left (∀ j, i ≤ j → j < l.length → Sm 1048576 (.pair (.int .i64) (.pair (.sl false (.pair (.int .i64) (.pair (.int .i64) .unit))) (.pair (.sl false (.pair (.int .i64) (.pair (.int .i64) .unit))) (.pair (.sl false (.pair (.int .i64) (.pair (.int .i64) .unit))) (.pair (.sl false (.pair (.int .i64) (.pair (.int .i64) .unit))) (.pair (.sl false (.pair (.int .i64) (.pair (.int .i64) .unit))) (.pair (.sl false (.int .i64)) .unit))))))) (l.getD j default)) := by
  intro d
  induction d with
  | zero =>
    intro i left h h0 h1
    rw [Nat.add_zero] at h
    subst h
    refine Sz.step ?_
    simp only [laws_szIntervalS.step]
    exact Sz.no lt_no ⟨left, Ev.pure, Int.le_refl _, fun _ j h1 h2 => by omega⟩
  | succ d ih =>
    intro i left h h0 h1
    have hi : i < l.length := by omega
    refine Sz.step ?_
    simp only [laws_szIntervalS.step, toNat_cast]
    refine Sz.yes (lt_yes hi) (Sz.yes (inB_nat hi) ?_)
    obtain ⟨r1, k1, m1, q1⟩ := laws_szInterval.ev (l.getD i default) left h0 h1 (hw _ (getD_mem hi))
    refine Sz.bind k1 ?_
    by_cases c1 : r1 < 0
    · exact Sz.yes (by simpa using c1) (Sz.neg h0)
    refine Sz.no (by simpa using c1) ?_
    rw [i64_nat (by omega)]
    have := ih (i + 1) r1 (by omega) (by omega) (by omega)
    refine (this.le m1).imp fun hq j h2 h3 => ?_
    rcases Nat.eq_or_lt_of_le h2 with rfl | h2
    · exact q1 (by omega)
    · exact hq j h2 h3
theorem laws_szIntervalS.ev (l : List ((Int) × ((List ((Int) × ((Int) × (Unit)))) × ((List ((Int) × ((Int) × (Unit)))) × ((List ((Int) × ((Int) × (Unit)))) × ((List ((Int) × ((Int) × (Unit)))) × ((List ((Int) × ((Int) × (Unit)))) × ((List (Int)) × (Unit))))))))) (left : Int) (h0 : 0 ≤ left) (h1 : left ≤ 1048576) (hw : Wf (.sl false (.pair (.int .i64) (.pair (.sl false (.pair (.int .i64) (.pair (.int .i64) .unit))) (.pair (.sl false (.pair (.int .i64) (.pair (.int .i64) .unit))) (.pair (.sl false (.pair (.int .i64) (.pair (.int .i64) .unit))) (.pair (.sl false (.pair (.int .i64) (.pair (.int .i64) .unit))) (.pair (.sl false (.pair (.int .i64) (.pair (.int .i64) .unit))) (.pair (.sl false (.int .i64)) .unit)))))))) l) : Sz (fun n => laws_szIntervalS n l left) left (Sm 1048576 (.sl false (.pair (.int .i64) (.pair (.sl false (.pair (.int .i64) (.pair (.int .i64) .unit))) (.pair (.sl false (.pair (.int .i64) (.pair (.int .i64) .unit))) (.pair (.sl false (.pair (.int .i64) (.pair (.int .i64) .unit))) (.pair (.sl false (.pair (.int .i64) (.pair (.int .i64) .unit))) (.pair (.sl false (.pair (.int .i64) (.pair (.int .i64) .unit))) (.pair (.sl false (.int .i64)) .unit)))))))) l) := by
  refine Sz.step ?_
  simp only [laws_szIntervalS.step]
  have b1 : l.length ≤ 9223372036854775807 := by have := hw.1; simp only [maxLen] at this; omega
  have e1 : IntKind.wrap .i64 (left - ((List.length l) : Int)) = left - ((List.length l) : Int) := i64_ok (by omega) (by omega)
  simp only [e1]
  by_cases c1 : left - ((List.length l) : Int) < 0
  · exact Sz.yes (by simpa using c1) (Sz.neg h0)
  refine Sz.no (by simpa using c1) ?_
  refine ((laws_szIntervalS.loop l (by omega) hw.2 l.length 0 _ (by omega) (by omega) (by omega)).le (by omega)).imp fun hq => ⟨by omega, fun x hx => ?_⟩
  obtain ⟨j, hj, rfl⟩ := List.getElem_of_mem hx
  have := hq j (by omega) hj
  rwa [List.getD_eq_getElem?_getD, List.getElem?_eq_getElem hj] at this
theorem laws_szSilence.ev (x : (ByteArray) × ((List ((ByteArray) × ((Int) × ((ByteArray) × (Unit))))) × ((Int) × ((Int) × (Unit))))) (left : Int) (h0 : 0 ≤ left) (h1 : left ≤ 1048576) (hw : Wf (.pair .str (.pair (.sl false (.pair .str (.pair (.int .i64) (.pair .str .unit)))) (.pair (.int .i64) (.pair (.int .i64) .unit)))) x) : Sz (fun n => laws_szSilence n x left) left (Sm 1048576 (.pair .str (.pair (.sl false (.pair .str (.pair (.int .i64) (.pair .str .unit)))) (.pair (.int .i64) (.pair (.int .i64) .unit)))) x) := by
  refine Sz.step ?_
  simp only [laws_szSilence.step]
  have b1 : ByteArray.size x.1 ≤ 9223372036854775807 := by have := hw.1; simp only [Wf, maxLen] at this; omega
  have e1 : IntKind.wrap .i64 (left - ((ByteArray.size x.1) : Int)) = left - ((ByteArray.size x.1) : Int) := i64_ok (by omega) (by omega)
  simp only [e1]
  by_cases c1 : (left - ((ByteArray.size x.1) : Int)) < 0
  · exact Sz.yes (by simpa using c1) (Sz.neg h0)
  refine Sz.no (by simpa using c1) ?_
  obtain ⟨r2, k2, m2, q2⟩ := laws_szMatcherS.ev x.2.1 (left - ((ByteArray.size x.1) : Int)) (by omega) (by omega) hw.2.1
  refine Sz.bind k2 ?_
  by_cases c2 : r2 < 0
  · exact Sz.yes (by simpa using c2) (Sz.neg h0)
  refine Sz.no (by simpa using c2) ?_
  exact ⟨r2, Ev.pure, by omega, fun _ => ⟨(show ByteArray.size x.1 ≤ 1048576 by omega), ⟨(q2 (by omega)), ⟨trivial, ⟨trivial, trivial⟩⟩⟩⟩⟩
theorem laws_szSilenceS.loop (l : List ((ByteArray) × ((List ((ByteArray) × ((Int) × ((ByteArray) × (Unit))))) × ((Int) × ((Int) × (Unit)))))) (hl : l.length ≤ 1048576) (hw : ∀ x ∈ l, Wf (.pair .str (.pair (.sl false (.pair .str (.pair (.int .i64) (.pair .str .unit)))) (.pair (.int .i64) (.pair (.int .i64) .unit)))) x) : ∀ d i (left : Int), i + d = l.length → 0 ≤ left → left ≤ 1048576 → Sz (fun n => goRec laws_szSilenceS.step n (.p17 l left (i : Int))) left (∀ j, i ≤ j → j < l.length → Sm 1048576 (.pair .str (.pair (.sl false (.pair .str (.pair (.int .i64) (.pair .str .unit)))) (.pair (.int .i64) (.pair (.int .i64) .unit)))) (l.getD j default)) := by
  intro d
  induction d with
  | zero =>
    intro i left h h0 h1
    rw [Nat.add_zero] at h
    subst h
    refine Sz.step ?_
    simp only [laws_szSilenceS.step]
    exact Sz.no lt_no ⟨left, Ev.pure, Int.le_refl _, fun _ j h1 h2 => by omega⟩
  | succ d ih =>
    intro i left h h0 h1
    have hi : i < l.length := by omega
    refine Sz.step ?_
    simp only [laws_szSilenceS.step, toNat_cast]
    refine Sz.yes (lt_yes hi) (Sz.yes (inB_nat hi) ?_)
    obtain ⟨r1, k1, m1, q1⟩ := laws_szSilence.ev (l.getD i default) left h0 h1 (hw _ (getD_mem hi))
    refine Sz.bind k1 ?_
    by_cases c1 : r1 < 0
    · exact Sz.yes (by simpa using c1) (Sz.neg h0)
    refine Sz.no (by simpa using c1) ?_
    rw [i64_nat (by omega)]
    have := ih (i + 1) r1 (by omega) (by omega) (by omega)
    refine (this.le m1).imp fun hq j h2 h3 => ?_
    rcases Nat.eq_or_lt_of_le h2 with rfl | h2
    · exact q1 (by omega)
    · exact hq j h2 h3
theorem laws_szSilenceS.ev (l : List ((ByteArray) × ((List ((ByteArray) × ((Int) × ((ByteArray) × (Unit))))) × ((Int) × ((Int) × (Unit)))))) (left : Int) (h0 : 0 ≤ left) (h1 : left ≤ 1048576) (hw : Wf (.sl false (.pair .str (.pair (.sl false (.pair .str (.pair (.int .i64) (.pair .str .unit)))) (.pair (.int .i64) (.pair (.int .i64) .unit))))) l) : Sz (fun n => laws_szSilenceS n l left) left (Sm 1048576 (.sl false (.pair .str (.pair (.sl false (.pair .str (.pair (.int .i64) (.pair .str .unit)))) (.pair (.int .i64) (.pair (.int .i64) .unit))))) l) := by
  refine Sz.step ?_
  simp only [laws_szSilenceS.step]
  have b1 : l.length ≤ 9223372036854775807 := by have := hw.1; simp only [maxLen] at this; omega
  have e1 : IntKind.wrap .i64 (left - ((List.length l) : Int)) = left - ((List.length l) : Int) := i64_ok (by omega) (by omega)
  simp only [e1]
  by_cases c1 : left - ((List.length l) : Int) < 0
  · exact Sz.yes (by simpa using c1) (Sz.neg h0)
  refine Sz.no (by simpa using c1) ?_
  refine ((laws_szSilenceS.loop l (by omega) hw.2 l.length 0 _ (by omega) (by omega) (by omega)).le (by omega)).imp fun hq => ⟨by omega, fun x hx => ?_⟩
  obtain ⟨j, hj, rfl⟩ := List.getElem_of_mem hx
  have := hq j (by omega) hj
  rwa [List.getD_eq_getElem?_getD, List.getElem?_eq_getElem hj] at this
theorem laws_szInhibit.ev (x : (List ((ByteArray) × ((Int) × ((ByteArray) × (Unit))))) × ((List ((ByteArray) × ((Int) × ((ByteArray) × (Unit))))) × ((List (ByteArray)) × (Unit)))) (left : Int) (h0 : 0 ≤ left) (h1 : left ≤ 1048576) (hw : Wf (.pair (.sl false (.pair .str (.pair (.int .i64) (.pair .str .unit)))) (.pair (.sl false (.pair .str (.pair (.int .i64) (.pair .str .unit)))) (.pair (.sl false .str) .unit))) x) : Sz (fun n => laws_szInhibit n x left) left (Sm 1048576 (.pair (.sl false (.pair .str (.pair (.int .i64) (.pair .str .unit)))) (.pair (.sl false (.pair .str (.pair (.int .i64) (.pair .str .unit)))) (.pair (.sl false .str) .unit))) x) := by
  refine Sz.step ?_
  simp only [laws_szInhibit.step]
  obtain ⟨r1, k1, m1, q1⟩ := laws_szMatcherS.ev x.1 left (by omega) (by omega) hw.1
  refine Sz.bind k1 ?_
  by_cases c1 : r1 < 0
  · exact Sz.yes (by simpa using c1) (Sz.neg h0)
  refine Sz.no (by simpa using c1) ?_
  obtain ⟨r2, k2, m2, q2⟩ := laws_szMatcherS.ev x.2.1 r1 (by omega) (by omega) hw.2.1
  refine Sz.bind k2 ?_
  by_cases c2 : r2 < 0
  · exact Sz.yes (by simpa using c2) (Sz.neg h0)
  refine Sz.no (by simpa using c2) ?_
  obtain ⟨r3, k3, m3, q3⟩ := laws_szStringS.ev x.2.2.1 r2 (by omega) (by omega) hw.2.2.1
  refine Sz.bind k3 ?_
  by_cases c3 : r3 < 0
  · exact Sz.yes (by simpa using c3) (Sz.neg h0)
  refine Sz.no (by simpa using c3) ?_
  exact ⟨r3, Ev.pure, by omega, fun _ => ⟨(q1 (by omega)), ⟨(q2 (by omega)), ⟨(q3 (by omega)), trivial⟩⟩⟩⟩
theorem laws_szInhibitS.loop (l : List ((List ((ByteArray) × ((Int) × ((ByteArray) × (Unit))))) × ((List ((ByteArray) × ((Int) × ((ByteArray) × (Unit))))) × ((List (ByteArray)) × (Unit))))) (hl : l.length ≤ 1048576) (hw : ∀ x ∈ l, Wf (.pair (.sl false (.pair .str (.pair (.int .i64) (.pair .str .unit)))) (.pair (.sl false (.pair .str (.pair (.int .i64) (.pair .str .unit)))) (.pair (.sl false .str) .unit))) x) : ∀ d i (left : Int), i + d = l.length → 0 ≤ left → left ≤ 1048576 → Sz (fun n => goRec laws_szInhibitS.step n (.p17 l left (i : Int))) left (∀ j, i ≤ j → j < l.length → Sm 1048576 (.pair (.sl false (.pair .str (.pair (.int .i64) (.pair .str .unit)))) (.pair (.sl false (.pair .str (.pair (.int .i64) (.pair .str .unit)))) (.pair (.sl false .str) .unit))) (l.getD j default)) := by
  intro d
  induction d with
  | zero =>
    intro i left h h0 h1
    rw [Nat.add_zero] at h
    subst h
    refine Sz.step ?_
    simp only [laws_szInhibitS.step]
    exact Sz.no lt_no ⟨left, Ev.pure, Int.le_refl _, fun _ j h1 h2 => by omega⟩
  | succ d ih =>
    intro i left h h0 h1
    have hi : i < l.length := by omega
    refine Sz.step ?_
    simp only [laws_szInhibitS.step, toNat_cast]
    refine Sz.yes (lt_yes hi) (Sz.yes (inB_nat hi) ?_)
    obtain ⟨r1, k1, m1, q1⟩ := laws_szInhibit.ev (l.getD i default) left h0 h1 (hw _ (getD_mem hi))
    refine Sz.bind k1 ?_
    by_cases c1 : r1 < 0
    · exact Sz.yes (by simpa using c1) (Sz.neg h0)
    refine Sz.no (by simpa using c1) ?_
    rw [i64_nat (by omega)]
    have := ih (i + 1) r1 (by omega) (by omega) (by omega)
    refine (this.le m1).imp fun hq j h2 h3 => ?_
    rcases Nat.eq_or_lt_of_le h2 with rfl | h2
    · exact q1 (by omega)
    · exact hq j h2 h3
theorem laws_szInhibitS.ev (l : List ((List ((ByteArray) × ((Int) × ((ByteArray) × (Unit))))) × ((List ((ByteArray) × ((Int) × ((ByteArray) × (Unit))))) × ((List (ByteArray)) × (Unit))))) (left : Int) (h0 : 0 ≤ left) (h1 : left ≤ 1048576) (hw : Wf (.sl false (.pair (.sl false (.pair .str (.pair (.int .i64) (.pair .str .unit)))) (.pair (.sl false (.pair .str (.pair (.int .i64) (.pair .str .unit)))) (.pair (.sl false .str) .unit)))) l) : Sz (fun n => laws_szInhibitS n l left) left (Sm 1048576 (.sl false (.pair (.sl false (.pair .str (.pair (.int .i64) (.pair .str .unit)))) (.pair (.sl false (.pair .str (.pair (.int .i64) (.pair .str .unit)))) (.pair (.sl false .str) .unit)))) l) := by
  refine Sz.step ?_
  simp only [laws_szInhibitS.step]
  have b1 : l.length ≤ 9223372036854775807 := by have := hw.1; simp only [maxLen] at this; omega
  have e1 : IntKind.wrap .i64 (left - ((List.length l) : Int)) = left - ((List.length l) : Int) := i64_ok (by omega) (by omega)
  simp only [e1]
  by_cases c1 : left - ((List.length l) : Int) < 0
  · exact Sz.yes (by simpa using c1) (Sz.neg h0)
  refine Sz.no (by simpa using c1) ?_
  refine ((laws_szInhibitS.loop l (by omega) hw.2 l.length 0 _ (by omega) (by omega) (by omega)).le (by omega)).imp fun hq => ⟨by omega, fun x hx => ?_⟩
  obtain ⟨j, hj, rfl⟩ := List.getElem_of_mem hx
  have := hq j (by omega) hj
  rwa [List.getD_eq_getElem?_getD, List.getElem?_eq_getElem hj] at this
theorem laws_szNotifyConf.ev (x : (List ((ByteArray) × ((List ((ByteArray) × ((Int) × ((ByteArray) × (Unit))))) × ((List (ByteArray)) × ((Int) × ((Int) × ((Int) × ((List (Int)) × ((Bool) × ((Int) × (Unit))))))))))) × ((List ((Int) × ((List ((Int) × ((Int) × (Unit)))) × ((List ((Int) × ((Int) × (Unit)))) × ((List ((Int) × ((Int) × (Unit)))) × ((List ((Int) × ((Int) × (Unit)))) × ((List ((Int) × ((Int) × (Unit)))) × ((List (Int)) × (Unit))))))))) × ((List ((ByteArray) × ((List ((ByteArray) × ((Int) × ((ByteArray) × (Unit))))) × ((Int) × ((Int) × (Unit)))))) × ((List ((List ((ByteArray) × ((Int) × ((ByteArray) × (Unit))))) × ((List ((ByteArray) × ((Int) × ((ByteArray) × (Unit))))) × ((List (ByteArray)) × (Unit))))) × (Unit))))) (left : Int) (h0 : 0 ≤ left) (h1 : left ≤ 1048576) (hw : Wf (.pair (.sl false (.pair .str (.pair (.sl false (.pair .str (.pair (.int .i64) (.pair .str .unit)))) (.pair (.sl false .str) (.pair (.int .i64) (.pair (.int .i64) (.pair (.int .i64) (.pair (.sl false (.int .i64)) (.pair .bool (.pair (.int .i64) .unit)))))))))) (.pair (.sl false (.pair (.int .i64) (.pair (.sl false (.pair (.int .i64) (.pair (.int .i64) .unit))) (.pair (.sl false (.pair (.int .i64) (.pair (.int .i64) .unit))) (.pair (.sl false (.pair (.int .i64) (.pair (.int .i64) .unit))) (.pair (.sl false (.pair (.int .i64) (.pair (.int .i64) .unit))) (.pair (.sl false (.pair (.int .i64) (.pair (.int .i64) .unit))) (.pair (.sl false (.int .i64)) .unit)))))))) (.pair (.sl false (.pair .str (.pair (.sl false (.pair .str (.pair (.int .i64) (.pair .str .unit)))) (.pair (.int .i64) (.pair (.int .i64) .unit))))) (.pair (.sl false (.pair (.sl false (.pair .str (.pair (.int .i64) (.pair .str .unit)))) (.pair (.sl false (.pair .str (.pair (.int .i64) (.pair .str .unit)))) (.pair (.sl false .str) .unit)))) .unit)))) x) : Sz (fun n => laws_szNotifyConf n x left) left (Sm 1048576 (.pair (.sl false (.pair .str (.pair (.sl false (.pair .str (.pair (.int .i64) (.pair .str .unit)))) (.pair (.sl false .str) (.pair (.int .i64) (.pair (.int .i64) (.pair (.int .i64) (.pair (.sl false (.int .i64)) (.pair .bool (.pair (.int .i64) .unit)))))))))) (.pair (.sl false (.pair (.int .i64) (.pair (.sl false (.pair (.int .i64) (.pair (.int .i64) .unit))) (.pair (.sl false (.pair (.int .i64) (.pair (.int .i64) .unit))) (.pair (.sl false (.pair (.int .i64) (.pair (.int .i64) .unit))) (.pair (.sl false (.pair (.int .i64) (.pair (.int .i64) .unit))) (.pair (.sl false (.pair (.int .i64) (.pair (.int .i64) .unit))) (.pair (.sl false (.int .i64)) .unit)))))))) (.pair (.sl false (.pair .str (.pair (.sl false (.pair .str (.pair (.int .i64) (.pair .str .unit)))) (.pair (.int .i64) (.pair (.int .i64) .unit))))) (.pair (.sl false (.pair (.sl false (.pair .str (.pair (.int .i64) (.pair .str .unit)))) (.pair (.sl false (.pair .str (.pair (.int .i64) (.pair .str .unit)))) (.pair (.sl false .str) .unit)))) .unit)))) x) := by
  refine Sz.step ?_
  simp only [laws_szNotifyConf.step]
  obtain ⟨r1, k1, m1, q1⟩ := laws_szRouteS.ev x.1 left (by omega) (by omega) hw.1
  refine Sz.bind k1 ?_
  by_cases c1 : r1 < 0
  · exact Sz.yes (by simpa using c1) (Sz.neg h0)
  refine Sz.no (by simpa using c1) ?_
  obtain ⟨r2, k2, m2, q2⟩ := laws_szIntervalS.ev x.2.1 r1 (by omega) (by omega) hw.2.1
  refine Sz.bind k2 ?_
  by_cases c2 : r2 < 0
  · exact Sz.yes (by simpa using c2) (Sz.neg h0)
  refine Sz.no (by simpa using c2) ?_
  obtain ⟨r3, k3, m3, q3⟩ := laws_szSilenceS.ev x.2.2.1 r2 (by omega) (by omega) hw.2.2.1
  refine Sz.bind k3 ?_
  by_cases c3 : r3 < 0
  · exact Sz.yes (by simpa using c3) (Sz.neg h0)
  refine Sz.no (by simpa using c3) ?_
  obtain ⟨r4, k4, m4, q4⟩ := laws_szInhibitS.ev x.2.2.2.1 r3 (by omega) (by omega) hw.2.2.2.1
  refine Sz.bind k4 ?_
  by_cases c4 : r4 < 0
  · exact Sz.yes (by simpa using c4) (Sz.neg h0)
  refine Sz.no (by simpa using c4) ?_
  exact ⟨r4, Ev.pure, by omega, fun _ => ⟨(q1 (by omega)), ⟨(q2 (by omega)), ⟨(q3 (by omega)), ⟨(q4 (by omega)), trivial⟩⟩⟩⟩⟩
theorem laws_toMatcher.ev (x : (ByteArray) × ((Int) × ((ByteArray) × (Unit)))) (h : Sm 1048576 (.pair .str (.pair (.int .i64) (.pair .str .unit))) x) : Ev (fun n => laws_toMatcher n x) x := by
  refine Ev.step ?_
  simp only [laws_toMatcher.step]
  exact Ev.pure
theorem laws_toMatcherS.loop (l : List ((ByteArray) × ((Int) × ((ByteArray) × (Unit))))) (h : Sm 1048576 (.sl false (.pair .str (.pair (.int .i64) (.pair .str .unit)))) l) : ∀ d i (out : List ((ByteArray) × ((Int) × ((ByteArray) × (Unit))))), i + d = l.length → out.length = l.length → (∀ j, j < i → out.getD j default = l.getD j default) → Ev (fun n => goRec laws_toMatcherS.step n (.p9 l (i : Int) out)) l := by
  have hl : l.length ≤ 1048576 := h.1
  intro d
  induction d with
  | zero =>
    intro i out hd ho hj
    rw [Nat.add_zero] at hd
    subst hd
    refine Ev.step ?_
    simp only [laws_toMatcherS.step]
    exact Ev.no lt_no (Ev.pure' (ext_getD ho hj))
  | succ d ih =>
    intro i out hd ho hj
    have hi : i < l.length := by omega
    refine Ev.step ?_
    simp only [laws_toMatcherS.step, toNat_cast, Nat.zero_add]
    refine Ev.yes (lt_yes hi) (Ev.yes (inB_nat hi) ?_)
    refine Ev.bind (laws_toMatcher.ev (l.getD i default) (h.2 _ (getD_mem hi))) ?_
    refine Ev.yes (inB_nat (by omega)) ?_
    rw [i64_nat (by omega)]
    refine ih (i + 1) _ (by omega) (by simpa using ho) fun j hj2 => ?_
    by_cases e : j = i
    · subst e; rw [getD_set_same (by omega)]
    · rw [getD_set_other e]; exact hj j (by omega)
theorem laws_toMatcherS.ev (l : List ((ByteArray) × ((Int) × ((ByteArray) × (Unit))))) (h : Sm 1048576 (.sl false (.pair .str (.pair (.int .i64) (.pair .str .unit)))) l) : Ev (fun n => laws_toMatcherS n l) l := by
  have hl : l.length ≤ 1048576 := h.1
  refine Ev.step ?_
  simp only [laws_toMatcherS.step, toNat_cast]
  refine Ev.yes (inC_nat (Nat.le_refl _) (by omega)) ?_
  exact laws_toMatcherS.loop l h l.length 0 _ (by omega) (by simp) (by omega)
theorem laws_toStringS.loop (l : List (ByteArray)) (h : Sm 1048576 (.sl false .str) l) : ∀ d i (out : List (ByteArray)), i + d = l.length → out.length = l.length → (∀ j, j < i → out.getD j default = l.getD j default) → Ev (fun n => goRec laws_toStringS.step n (.p9 l (i : Int) out)) l := by
  have hl : l.length ≤ 1048576 := h.1
  intro d
  induction d with
  | zero =>
    intro i out hd ho hj
    rw [Nat.add_zero] at hd
    subst hd
    refine Ev.step ?_
    simp only [laws_toStringS.step]
    exact Ev.no lt_no (Ev.pure' (ext_getD ho hj))
  | succ d ih =>
    intro i out hd ho hj
    have hi : i < l.length := by omega
    refine Ev.step ?_
    simp only [laws_toStringS.step, toNat_cast, Nat.zero_add]
    refine Ev.yes (lt_yes hi) (Ev.yes (inB_nat hi) ?_)
    refine Ev.yes (inB_nat (by omega)) ?_
    rw [i64_nat (by omega)]
    refine ih (i + 1) _ (by omega) (by simpa using ho) fun j hj2 => ?_
    by_cases e : j = i
    · subst e; rw [getD_set_same (by omega)]
    · rw [getD_set_other e]; exact hj j (by omega)
theorem laws_toStringS.ev (l : List (ByteArray)) (h : Sm 1048576 (.sl false .str) l) : Ev (fun n => laws_toStringS n l) l := by
  have hl : l.length ≤ 1048576 := h.1
  refine Ev.step ?_
  simp only [laws_toStringS.step, toNat_cast]
  refine Ev.yes (inC_nat (Nat.le_refl _) (by omega)) ?_
  exact laws_toStringS.loop l h l.length 0 _ (by omega) (by simp) (by omega)
theorem laws_toIntS.loop (l : List (Int)) (h : Sm 1048576 (.sl false (.int .i64)) l) : ∀ d i (out : List (Int)), i + d = l.length → out.length = l.length → (∀ j, j < i → out.getD j default = l.getD j default) → Ev (fun n => goRec laws_toIntS.step n (.p9 l (i : Int) out)) l := by
  have hl : l.length ≤ 1048576 := h.1
  intro d
  induction d with
  | zero =>
    intro i out hd ho hj
    rw [Nat.add_zero] at hd
    subst hd
    refine Ev.step ?_
    simp only [laws_toIntS.step]
    exact Ev.no lt_no (Ev.pure' (ext_getD ho hj))
  | succ d ih =>
    intro i out hd ho hj
    have hi : i < l.length := by omega
    refine Ev.step ?_
    simp only [laws_toIntS.step, toNat_cast, Nat.zero_add]
    refine Ev.yes (lt_yes hi) (Ev.yes (inB_nat hi) ?_)
    refine Ev.yes (inB_nat (by omega)) ?_
    rw [i64_nat (by omega)]
    refine ih (i + 1) _ (by omega) (by simpa using ho) fun j hj2 => ?_
    by_cases e : j = i
    · subst e; rw [getD_set_same (by omega)]
    · rw [getD_set_other e]; exact hj j (by omega)
theorem laws_toIntS.ev (l : List (Int)) (h : Sm 1048576 (.sl false (.int .i64)) l) : Ev (fun n => laws_toIntS n l) l := by
  have hl : l.length ≤ 1048576 := h.1
  refine Ev.step ?_
  simp only [laws_toIntS.step, toNat_cast]
  refine Ev.yes (inC_nat (Nat.le_refl _) (by omega)) ?_
  exact laws_toIntS.loop l h l.length 0 _ (by omega) (by simp) (by omega)
theorem laws_toRoute.ev (x : (ByteArray) × ((List ((ByteArray) × ((Int) × ((ByteArray) × (Unit))))) × ((List (ByteArray)) × ((Int) × ((Int) × ((Int) × ((List (Int)) × ((Bool) × ((Int) × (Unit)))))))))) (h : Sm 1048576 (.pair .str (.pair (.sl false (.pair .str (.pair (.int .i64) (.pair .str .unit)))) (.pair (.sl false .str) (.pair (.int .i64) (.pair (.int .i64) (.pair (.int .i64) (.pair (.sl false (.int .i64)) (.pair .bool (.pair (.int .i64) .unit))))))))) x) : Ev (fun n => laws_toRoute n x) x := by
  refine Ev.step ?_
  simp only [laws_toRoute.step]
  refine Ev.bind (laws_toMatcherS.ev x.2.1 h.2.1) ?_
  refine Ev.bind (laws_toStringS.ev x.2.2.1 h.2.2.1) ?_
  refine Ev.bind (laws_toIntS.ev x.2.2.2.2.2.2.1 h.2.2.2.2.2.2.1) ?_
  exact Ev.pure
theorem laws_toRouteS.loop (l : List ((ByteArray) × ((List ((ByteArray) × ((Int) × ((ByteArray) × (Unit))))) × ((List (ByteArray)) × ((Int) × ((Int) × ((Int) × ((List (Int)) × ((Bool) × ((Int) × (Unit))))))))))) (h : Sm 1048576 (.sl false (.pair .str (.pair (.sl false (.pair .str (.pair (.int .i64) (.pair .str .unit)))) (.pair (.sl false .str) (.pair (.int .i64) (.pair (.int .i64) (.pair (.int .i64) (.pair (.sl false (.int .i64)) (.pair .bool (.pair (.int .i64) .unit)))))))))) l) : ∀ d i (out : List ((ByteArray) × ((List ((ByteArray) × ((Int) × ((ByteArray) × (Unit))))) × ((List (ByteArray)) × ((Int) × ((Int) × ((Int) × ((List (Int)) × ((Bool) × ((Int) × (Unit))))))))))), i + d = l.length → out.length = l.length → (∀ j, j < i → out.getD j default = l.getD j default) → Ev (fun n => goRec laws_toRouteS.step n (.p9 l (i : Int) out)) l := by
  have hl : l.length ≤ 1048576 := h.1
  intro d
  induction d with
  | zero =>
    intro i out hd ho hj
    rw [Nat.add_zero] at hd
    subst hd
    refine Ev.step ?_
    simp only [laws_toRouteS.step]
    exact Ev.no lt_no (Ev.pure' (ext_getD ho hj))
  | succ d ih =>
    intro i out hd ho hj
    have hi : i < l.length := by omega
    refine Ev.step ?_
    simp only [laws_toRouteS.step, toNat_cast, Nat.zero_add]
    refine Ev.yes (lt_yes hi) (Ev.yes (inB_nat hi) ?_)
    refine Ev.bind (laws_toRoute.ev (l.getD i default) (h.2 _ (getD_mem hi))) ?_
    refine Ev.yes (inB_nat (by omega)) ?_
    rw [i64_nat (by omega)]
    refine ih (i + 1) _ (by omega) (by simpa using ho) fun j hj2 => ?_
    by_cases e : j = i
    · subst e; rw [getD_set_same (by omega)]
    · rw [getD_set_other e]; exact hj j (by omega)
theorem laws_toRouteS.ev (l : List ((ByteArray) × ((List ((ByteArray) × ((Int) × ((ByteArray) × (Unit))))) × ((List (ByteArray)) × ((Int) × ((Int) × ((Int) × ((List (Int)) × ((Bool) × ((Int) × (Unit))))))))))) (h : Sm 1048576 (.sl false (.pair .str (.pair (.sl false (.pair .str (.pair (.int .i64) (.pair .str .unit)))) (.pair (.sl false .str) (.pair (.int .i64) (.pair (.int .i64) (.pair (.int .i64) (.pair (.sl false (.int .i64)) (.pair .bool (.pair (.int .i64) .unit)))))))))) l) : Ev (fun n => laws_toRouteS n l) l := by
  have hl : l.length ≤ 1048576 := h.1
  refine Ev.step ?_
  simp only [laws_toRouteS.step, toNat_cast]
  refine Ev.yes (inC_nat (Nat.le_refl _) (by omega)) ?_
  exact laws_toRouteS.loop l h l.length 0 _ (by omega) (by simp) (by omega)
theorem laws_toRange.ev (x : (Int) × ((Int) × (Unit))) (h : Sm 1048576 (.pair (.int .i64) (.pair (.int .i64) .unit)) x) : Ev (fun n => laws_toRange n x) x := by
  refine Ev.step ?_
  simp only [laws_toRange.step]
  exact Ev.pure
theorem laws_toRangeS.loop (l : List ((Int) × ((Int) × (Unit)))) (h : Sm 1048576 (.sl false (.pair (.int .i64) (.pair (.int .i64) .unit))) l) : ∀ d i (out : List ((Int) × ((Int) × (Unit)))), i + d = l.length → out.length = l.length → (∀ j, j < i → out.getD j default = l.getD j default) → Ev (fun n => goRec laws_toRangeS.step n (.p9 l (i : Int) out)) l := by
  have hl : l.length ≤ 1048576 := h.1
  intro d
  induction d with
  | zero =>
    intro i out hd ho hj
    rw [Nat.add_zero] at hd
    subst hd
    refine Ev.step ?_
    simp only [laws_toRangeS.step]
    exact Ev.no lt_no (Ev.pure' (ext_getD ho hj))
  | succ d ih =>
    intro i out hd ho hj
    have hi : i < l.length := by omega
    refine Ev.step ?_
    simp only [laws_toRangeS.step, toNat_cast, Nat.zero_add]
    refine Ev.yes (lt_yes hi) (Ev.yes (inB_nat hi) ?_)
    refine Ev.bind (laws_toRange.ev (l.getD i default) (h.2 _ (getD_mem hi))) ?_
    refine Ev.yes (inB_nat (by omega)) ?_
    rw [i64_nat (by omega)]
    refine ih (i + 1) _ (by omega) (by simpa using ho) fun j hj2 => ?_
    by_cases e : j = i
    · subst e; rw [getD_set_same (by omega)]
    · rw [getD_set_other e]; exact hj j (by omega)
theorem laws_toRangeS.ev (l : List ((Int) × ((Int) × (Unit)))) (h : Sm 1048576 (.sl false (.pair (.int .i64) (.pair (.int .i64) .unit))) l) : Ev (fun n => laws_toRangeS n l) l := by
  have hl : l.length ≤ 1048576 := h.1
  refine Ev.step ?_
  simp only [laws_toRangeS.step, toNat_cast]
  refine Ev.yes (inC_nat (Nat.le_refl _) (by omega)) ?_
  exact laws_toRangeS.loop l h l.length 0 _ (by omega) (by simp) (by omega)
theorem laws_toInterval.ev (x : (Int) × ((List ((Int) × ((Int) × (Unit)))) × ((List ((Int) × ((Int) × (Unit)))) × ((List ((Int) × ((Int) × (Unit)))) × ((List ((Int) × ((Int) × (Unit)))) × ((List ((Int) × ((Int) × (Unit)))) × ((List (Int)) × (Unit)))))))) (h : Sm 1048576 (.pair (.int .i64) (.pair (.sl false (.pair (.int .i64) (.pair (.int .i64) .unit))) (.pair (.sl false (.pair (.int .i64) (.pair (.int .i64) .unit))) (.pair (.sl false (.pair (.int .i64) (.pair (.int .i64) .unit))) (.pair (.sl false (.pair (.int .i64) (.pair (.int .i64) .unit))) (.pair (.sl false (.pair (.int .i64) (.pair (.int .i64) .unit))) (.pair (.sl false (.int .i64)) .unit))))))) x) : Ev (fun n => laws_toInterval n x) x := by
  refine Ev.step ?_
  simp only [laws_toInterval.step]
  refine Ev.bind (laws_toRangeS.ev x.2.1 h.2.1) ?_
  refine Ev.bind (laws_toRangeS.ev x.2.2.1 h.2.2.1) ?_
  refine Ev.bind (laws_toRangeS.ev x.2.2.2.1 h.2.2.2.1) ?_
  refine Ev.bind (laws_toRangeS.ev x.2.2.2.2.1 h.2.2.2.2.1) ?_
  refine Ev.bind (laws_toRangeS.ev x.2.2.2.2.2.1 h.2.2.2.2.2.1) ?_
  refine Ev.bind (laws_toIntS.ev x.2.2.2.2.2.2.1 h.2.2.2.2.2.2.1) ?_
  exact Ev.pure
theorem laws_toIntervalS.loop (l : List ((Int) × ((List ((Int) × ((Int) × (Unit)))) × ((List ((Int) × ((Int) × (Unit)))) × ((List ((Int) × ((Int) × (Unit)))) × ((List ((Int) × ((Int) × (Unit)))) × ((List ((Int) × ((Int) × (Unit)))) × ((List (Int)) × (Unit))))))))) (h : Sm 1048576 (.sl false (.pair (.int .i64) (.pair (.sl false (.pair (.int .i64) (.pair (.int .i64) .unit))) (.pair (.sl false (.pair (.int .i64) (.pair (.int .i64) .unit))) (.pair (.sl false (.pair (.int .i64) (.pair (.int .i64) .unit))) (.pair (.sl false (.pair (.int .i64) (.pair (.int .i64) .unit))) (.pair (.sl false (.pair (.int .i64) (.pair (.int .i64) .unit))) (.pair (.sl false (.int .i64)) .unit)))))))) l) : ∀ d i (out : List ((Int) × ((List ((Int) × ((Int) × (Unit)))) × ((List ((Int) × ((Int) × (Unit)))) × ((List ((Int) × ((Int) × (Unit)))) × ((List ((Int) × ((Int) × (Unit)))) × ((List ((Int) × ((Int) × (Unit)))) × ((List (Int)) × (Unit))))))))), i + d = l.length → out.length = l.length → (∀ j, j < i → out.getD j default = l.getD j default) → Ev (fun n => goRec laws_toIntervalS.step n (.p9 l (i : Int) out)) l := by
  have hl : l.length ≤ 1048576 := h.1
  intro d
  induction d with
  | zero =>
    intro i out hd ho hj
    rw [Nat.add_zero] at hd
    subst hd
    refine Ev.step ?_
    simp only [laws_toIntervalS.step]
    exact Ev.no lt_no (Ev.pure' (ext_getD ho hj))
  | succ d ih =>
    intro i out hd ho hj
    have hi : i < l.length := by omega
    refine Ev.step ?_
    simp only [laws_toIntervalS.step, toNat_cast, Nat.zero_add]
    refine Ev.yes (lt_yes hi) (Ev.yes (inB_nat hi) ?_)
    refine Ev.bind (laws_toInterval.ev (l.getD i default) (h.2 _ (getD_mem hi))) ?_
    refine Ev.yes (inB_nat (by omega)) ?_
    rw [i64_nat (by omega)]
    refine ih (i + 1) _ (by omega) (by simpa using ho) fun j hj2 => ?_
    by_cases e : j = i
    · subst e; rw [getD_set_same (by omega)]
    · rw [getD_set_other e]; exact hj j (by omega)
theorem laws_toIntervalS.ev (l : List ((Int) × ((List ((Int) × ((Int) × (Unit)))) × ((List ((Int) × ((Int) × (Unit)))) × ((List ((Int) × ((Int) × (Unit)))) × ((List ((Int) × ((Int) × (Unit)))) × ((List ((Int) × ((Int) × (Unit)))) × ((List (Int)) × (Unit))))))))) (h : Sm 1048576 (.sl false (.pair (.int .i64) (.pair (.sl false (.pair (.int .i64) (.pair (.int .i64) .unit))) (.pair (.sl false (.pair (.int .i64) (.pair (.int .i64) .unit))) (.pair (.sl false (.pair (.int .i64) (.pair (.int .i64) .unit))) (.pair (.sl false (.pair (.int .i64) (.pair (.int .i64) .unit))) (.pair (.sl false (.pair (.int .i64) (.pair (.int .i64) .unit))) (.pair (.sl false (.int .i64)) .unit)))))))) l) : Ev (fun n => laws_toIntervalS n l) l := by
  have hl : l.length ≤ 1048576 := h.1
  refine Ev.step ?_
  simp only [laws_toIntervalS.step, toNat_cast]
  refine Ev.yes (inC_nat (Nat.le_refl _) (by omega)) ?_
  exact laws_toIntervalS.loop l h l.length 0 _ (by omega) (by simp) (by omega)
theorem laws_toSilence.ev (x : (ByteArray) × ((List ((ByteArray) × ((Int) × ((ByteArray) × (Unit))))) × ((Int) × ((Int) × (Unit))))) (h : Sm 1048576 (.pair .str (.pair (.sl false (.pair .str (.pair (.int .i64) (.pair .str .unit)))) (.pair (.int .i64) (.pair (.int .i64) .unit)))) x) : Ev (fun n => laws_toSilence n x) x := by
  refine Ev.step ?_
  simp only [laws_toSilence.step]
  refine Ev.bind (laws_toMatcherS.ev x.2.1 h.2.1) ?_
  exact Ev.pure
theorem laws_toSilenceS.loop (l : List ((ByteArray) × ((List ((ByteArray) × ((Int) × ((ByteArray) × (Unit))))) × ((Int) × ((Int) × (Unit)))))) (h : Sm 1048576 (.sl false (.pair .str (.pair (.sl false (.pair .str (.pair (.int .i64) (.pair .str .unit)))) (.pair (.int .i64) (.pair (.int .i64) .unit))))) l) : ∀ d i (out : List ((ByteArray) × ((List ((ByteArray) × ((Int) × ((ByteArray) × (Unit))))) × ((Int) × ((Int) × (Unit)))))), i + d = l.length → out.length = l.length → (∀ j, j < i → out.getD j default = l.getD j default) → Ev (fun n => goRec laws_toSilenceS.step n (.p9 l (i : Int) out)) l := by
  have hl : l.length ≤ 1048576 := h.1
  intro d
  induction d with
  | zero =>
    intro i out hd ho hj
    rw [Nat.add_zero] at hd
    subst hd
    refine Ev.step ?_
    simp only [laws_toSilenceS.step]
    exact Ev.no lt_no (Ev.pure' (ext_getD ho hj))
  | succ d ih =>
    intro i out hd ho hj
    have hi : i < l.length := by omega
    refine Ev.step ?_
    simp only [laws_toSilenceS.step, toNat_cast, Nat.zero_add]
    refine Ev.yes (lt_yes hi) (Ev.yes (inB_nat hi) ?_)
    refine Ev.bind (laws_toSilence.ev (l.getD i default) (h.2 _ (getD_mem hi))) ?_
    refine Ev.yes (inB_nat (by omega)) ?_
    rw [i64_nat (by omega)]
    refine ih (i + 1) _ (by omega) (by simpa using ho) fun j hj2 => ?_
    by_cases e : j = i
    · subst e; rw [getD_set_same (by omega)]
    · rw [getD_set_other e]; exact hj j (by omega)
theorem laws_toSilenceS.ev (l : List ((ByteArray) × ((List ((ByteArray) × ((Int) × ((ByteArray) × (Unit))))) × ((Int) × ((Int) × (Unit)))))) (h : Sm 1048576 (.sl false (.pair .str (.pair (.sl false (.pair .str (.pair (.int .i64) (.pair .str .unit)))) (.pair (.int .i64) (.pair (.int .i64) .unit))))) l) : Ev (fun n => laws_toSilenceS n l) l := by
  have hl : l.length ≤ 1048576 := h.1
  refine Ev.step ?_
  simp only [laws_toSilenceS.step, toNat_cast]
  refine Ev.yes (inC_nat (Nat.le_refl _) (by omega)) ?_
  exact laws_toSilenceS.loop l h l.length 0 _ (by omega) (by simp) (by omega)
theorem laws_toInhibit.ev (x : (List ((ByteArray) × ((Int) × ((ByteArray) × (Unit))))) × ((List ((ByteArray) × ((Int) × ((ByteArray) × (Unit))))) × ((List (ByteArray)) × (Unit)))) (h : Sm 1048576 (.pair (.sl false (.pair .str (.pair (.int .i64) (.pair .str .unit)))) (.pair (.sl false (.pair .str (.pair (.int .i64) (.pair .str .unit)))) (.pair (.sl false .str) .unit))) x) : Ev (fun n => laws_toInhibit n x) x := by
  refine Ev.step ?_
  simp only [laws_toInhibit.step]
  refine Ev.bind (laws_toMatcherS.ev x.1 h.1) ?_
  refine Ev.bind (laws_toMatcherS.ev x.2.1 h.2.1) ?_
  refine Ev.bind (laws_toStringS.ev x.2.2.1 h.2.2.1) ?_
  exact Ev.pure
theorem laws_toInhibitS.loop (l : List ((List ((ByteArray) × ((Int) × ((ByteArray) × (Unit))))) × ((List ((ByteArray) × ((Int) × ((ByteArray) × (Unit))))) × ((List (ByteArray)) × (Unit))))) (h : Sm 1048576 (.sl false (.pair (.sl false (.pair .str (.pair (.int .i64) (.pair .str .unit)))) (.pair (.sl false (.pair .str (.pair (.int .i64) (.pair .str .unit)))) (.pair (.sl false .str) .unit)))) l) : ∀ d i (out : List ((List ((ByteArray) × ((Int) × ((ByteArray) × (Unit))))) × ((List ((ByteArray) × ((Int) × ((ByteArray) × (Unit))))) × ((List (ByteArray)) × (Unit))))), i + d = l.length → out.length = l.length → (∀ j, j < i → out.getD j default = l.getD j default) → Ev (fun n => goRec laws_toInhibitS.step n (.p9 l (i : Int) out)) l := by
  have hl : l.length ≤ 1048576 := h.1
  intro d
  induction d with
  | zero =>
    intro i out hd ho hj
    rw [Nat.add_zero] at hd
    subst hd
    refine Ev.step ?_
    simp only [laws_toInhibitS.step]
    exact Ev.no lt_no (Ev.pure' (ext_getD ho hj))
  | succ d ih =>
    intro i out hd ho hj
    have hi : i < l.length := by omega
    refine Ev.step ?_
    simp only [laws_toInhibitS.step, toNat_cast, Nat.zero_add]
    refine Ev.yes (lt_yes hi) (Ev.yes (inB_nat hi) ?_)
    refine Ev.bind (laws_toInhibit.ev (l.getD i default) (h.2 _ (getD_mem hi))) ?_
    refine Ev.yes (inB_nat (by omega)) ?_
    rw [i64_nat (by omega)]
    refine ih (i + 1) _ (by omega) (by simpa using ho) fun j hj2 => ?_
    by_cases e : j = i
    · subst e; rw [getD_set_same (by omega)]
    · rw [getD_set_other e]; exact hj j (by omega)
theorem laws_toInhibitS.ev (l : List ((List ((ByteArray) × ((Int) × ((ByteArray) × (Unit))))) × ((List ((ByteArray) × ((Int) × ((ByteArray) × (Unit))))) × ((List (ByteArray)) × (Unit))))) (h : Sm 1048576 (.sl false (.pair (.sl false (.pair .str (.pair (.int .i64) (.pair .str .unit)))) (.pair (.sl false (.pair .str (.pair (.int .i64) (.pair .str .unit)))) (.pair (.sl false .str) .unit)))) l) : Ev (fun n => laws_toInhibitS n l) l := by
  have hl : l.length ≤ 1048576 := h.1
  refine Ev.step ?_
  simp only [laws_toInhibitS.step, toNat_cast]
  refine Ev.yes (inC_nat (Nat.le_refl _) (by omega)) ?_
  exact laws_toInhibitS.loop l h l.length 0 _ (by omega) (by simp) (by omega)
theorem laws_toNotifyConf.ev (x : (List ((ByteArray) × ((List ((ByteArray) × ((Int) × ((ByteArray) × (Unit))))) × ((List (ByteArray)) × ((Int) × ((Int) × ((Int) × ((List (Int)) × ((Bool) × ((Int) × (Unit))))))))))) × ((List ((Int) × ((List ((Int) × ((Int) × (Unit)))) × ((List ((Int) × ((Int) × (Unit)))) × ((List ((Int) × ((Int) × (Unit)))) × ((List ((Int) × ((Int) × (Unit)))) × ((List ((Int) × ((Int) × (Unit)))) × ((List (Int)) × (Unit))))))))) × ((List ((ByteArray) × ((List ((ByteArray) × ((Int) × ((ByteArray) × (Unit))))) × ((Int) × ((Int) × (Unit)))))) × ((List ((List ((ByteArray) × ((Int) × ((ByteArray) × (Unit))))) × ((List ((ByteArray) × ((Int) × ((ByteArray) × (Unit))))) × ((List (ByteArray)) × (Unit))))) × (Unit))))) (h : Sm 1048576 (.pair (.sl false (.pair .str (.pair (.sl false (.pair .str (.pair (.int .i64) (.pair .str .unit)))) (.pair (.sl false .str) (.pair (.int .i64) (.pair (.int .i64) (.pair (.int .i64) (.pair (.sl false (.int .i64)) (.pair .bool (.pair (.int .i64) .unit)))))))))) (.pair (.sl false (.pair (.int .i64) (.pair (.sl false (.pair (.int .i64) (.pair (.int .i64) .unit))) (.pair (.sl false (.pair (.int .i64) (.pair (.int .i64) .unit))) (.pair (.sl false (.pair (.int .i64) (.pair (.int .i64) .unit))) (.pair (.sl false (.pair (.int .i64) (.pair (.int .i64) .unit))) (.pair (.sl false (.pair (.int .i64) (.pair (.int .i64) .unit))) (.pair (.sl false (.int .i64)) .unit)))))))) (.pair (.sl false (.pair .str (.pair (.sl false (.pair .str (.pair (.int .i64) (.pair .str .unit)))) (.pair (.int .i64) (.pair (.int .i64) .unit))))) (.pair (.sl false (.pair (.sl false (.pair .str (.pair (.int .i64) (.pair .str .unit)))) (.pair (.sl false (.pair .str (.pair (.int .i64) (.pair .str .unit)))) (.pair (.sl false .str) .unit)))) .unit)))) x) : Ev (fun n => laws_toNotifyConf n x) x := by
  refine Ev.step ?_
  simp only [laws_toNotifyConf.step]
  refine Ev.bind (laws_toRouteS.ev x.1 h.1) ?_
  refine Ev.bind (laws_toIntervalS.ev x.2.1 h.2.1) ?_
  refine Ev.bind (laws_toSilenceS.ev x.2.2.1 h.2.2.1) ?_
  refine Ev.bind (laws_toInhibitS.ev x.2.2.2.1 h.2.2.2.1) ?_
  exact Ev.pure
theorem spec_l2Digit.ev (b : Int) : Ev (fun n => spec_l2Digit n b) (digitB b) := by
  refine Ev.step ?_
  simp only [spec_l2Digit.step]
  exact Ev.cnd (fun h => Ev.pure' (by simp [digitB, h])) fun h => Ev.pure' (by simp [digitB, h])
theorem spec_l2Letter.ev (b : Int) : Ev (fun n => spec_l2Letter n b) (letterB b) := by
  refine Ev.step ?_
  simp only [spec_l2Letter.step]
  refine Ev.cnd (fun h => Ev.cnd (fun h2 => Ev.pure' (by simp [letterB, h, h2])) fun h2 => Ev.cnd (fun h3 => Ev.pure' (by simp [letterB, h, h2, h3])) fun h3 => Ev.pure' (by simp [letterB, h, h2, h3])) fun h => Ev.cnd (fun h3 => Ev.pure' (by simp [letterB, h, h3])) fun h3 => Ev.pure' (by simp [letterB, h, h3])
theorem spec_l2Name.ev (s : ByteArray) (hs : s.size ≤ 1048576) : Ev (fun n => spec_l2Name n s) (nameB s) := by
  have go : Ev (fun n => goRec spec_l2Name.step n (spec_l2Name.Pt.p15 s 0)) (allB wordB s) := by
    refine Ev.allN (pt := fun i : Nat => spec_l2Name.Pt.p15 s (i : Int)) (fun i hi => ⟨fun hp v hv => ?_, fun hp => ?_⟩) ?_
    · refine Ev.step ?_
      simp only [spec_l2Name.step]
      have h24 : Ev (fun n => goRec spec_l2Name.step n (spec_l2Name.Pt.p24 s (i : Int) false)) v := by
        refine Ev.step ?_
        simp only [spec_l2Name.step, i64_nat (show i ≤ 4611686018427387904 by omega)]
        exact Ev.no rfl hv
      refine Ev.yes (lt_yes hi) (Ev.yes (inB_nat hi) (Ev.bind (spec_l2Letter.ev _) (Ev.cnd (fun h => Ev.yes (inB_nat hi) (Ev.bind (spec_l2Digit.ev _) (Ev.cnd (fun h2 => Ev.yes (inB_nat hi) ?_) fun h2 => h24))) fun h => h24)))
      have : (!decide (bt s i = 95)) = false := by simp [wordB] at hp h h2 ⊢; simp [h, h2] at hp; exact hp
      rw [this]; exact h24
    · refine Ev.step ?_
      simp only [spec_l2Name.step]
      simp [wordB] at hp
      refine Ev.yes (lt_yes hi) (Ev.yes (inB_nat hi) (Ev.bind (spec_l2Letter.ev _) (Ev.yes (by simp [hp]) (Ev.yes (inB_nat hi) (Ev.bind (spec_l2Digit.ev _) (Ev.yes (by simp [hp]) (Ev.yes (inB_nat hi) ?_)))))))
      refine Ev.step ?_
      simp only [spec_l2Name.step]
      exact Ev.yes (by simp [hp]) Ev.pure
    · refine Ev.step ?_
      simp only [spec_l2Name.step]
      exact Ev.no lt_no Ev.pure
  refine Ev.step ?_
  simp only [spec_l2Name.step]
  have bad : nameB s = false → Ev (fun n => goRec spec_l2Name.step n (spec_l2Name.Pt.p4 s true)) (nameB s) := fun h => by
    refine Ev.step ?_
    simp only [spec_l2Name.step]
    exact Ev.yes rfl (Ev.pure' h.symm)
  refine Ev.cnd (fun h => bad ?_) fun h => Ev.cnd (fun h2 => bad ?_) fun h2 => Ev.yes ?_ (Ev.bind (spec_l2Digit.ev _) (Ev.step ?_))
  · have : ¬ 1 ≤ s.size := by simp at h; omega
    simp [nameB, this]
  · have : ¬ s.size ≤ 40 := by simp at h2; omega
    simp [nameB, this]
  · simp at h; exact inB_zero (by omega)
  · have h1 : 1 ≤ s.size := by simp at h; omega
    have h3 : s.size ≤ 40 := by simp at h2; omega
    simp only [spec_l2Name.step]
    refine Ev.cnd (fun h4 => Ev.pure' (by simp [nameB, h4])) fun h4 => Ev.of_eq go ?_
    simp [nameB, h1, h3, h4]
theorem spec_l2Printed.ev (s : ByteArray) (hs : s.size ≤ 1048576) : Ev (fun n => spec_l2Printed n s) (printB s) := by
  refine Ev.step ?_
  simp only [spec_l2Printed.step]
  refine Ev.allN (pt := fun i : Nat => spec_l2Printed.Pt.p7 s (i : Int)) (fun i hi => ⟨fun hp v hv => ?_, fun hp => ?_⟩) ?_
  · refine Ev.step ?_
    simp only [Bool.and_eq_true, decide_eq_true_eq] at hp
    simp only [spec_l2Printed.step, i64_nat (show i ≤ 4611686018427387904 by omega)]
    exact Ev.yes (lt_yes hi) (Ev.yes (inB_nat hi) (Ev.no (by simp; omega) (Ev.yes (inB_nat hi) (Ev.no (by simp; omega) hv))))
  · refine Ev.step ?_
    simp only [spec_l2Printed.step]
    refine Ev.yes (lt_yes hi) (Ev.yes (inB_nat hi) (Ev.cnd (fun _ => Ev.pure) fun h => Ev.yes (inB_nat hi) (Ev.yes ?_ Ev.pure)))
    simp at hp h ⊢; omega
  · refine Ev.step ?_
    simp only [spec_l2Printed.step]
    exact Ev.no lt_no Ev.pure
theorem spec_l2Alternatives.loop (s : ByteArray) (hs : s.size ≤ 100) : ∀ d i out now, s.size ≤ i + d → i ≤ s.size → out.length ≤ i → now.length ≤ i → Ev (fun n => goRec spec_l2Alternatives.step n (spec_l2Alternatives.Pt.p19 s (i : Int) out now)) (altR (pat ((octs s).drop i) out now)) := by
  intro d
  induction d with
  | zero =>
    intro i out now h h1 h2 h3
    obtain rfl : i = s.size := by omega
    refine Ev.step ?_
    simp only [spec_l2Alternatives.step]
    refine Ev.no lt_no (Ev.yes (room_ok (by simp; omega)) (Ev.pure' ?_))
    rw [octs_nil, pat_nil]; rfl
  | succ d ih =>
    intro i out now h h1 h2 h3
    rcases Nat.eq_or_lt_of_le h1 with rfl | hi
    · refine Ev.step ?_
      simp only [spec_l2Alternatives.step]
      refine Ev.no lt_no (Ev.yes (room_ok (by simp; omega)) (Ev.pure' ?_))
      rw [octs_nil, pat_nil]; rfl
    refine Ev.step ?_
    simp only [spec_l2Alternatives.step, i64_bt, i64_nat (show i ≤ 4611686018427387904 by omega)]
    rw [octs_drop hi, pat_cons]
    refine Ev.yes (lt_yes hi) (Ev.yes (inB_nat hi) (Ev.cnd (fun c => ?_) fun c => Ev.cnd (fun c2 => ?_) fun c2 => Ev.cnd (fun c3 => ?_) fun c3 => Ev.cnd (fun c4 => ?_) fun c4 => ?_))
    · rw [if_pos (by simpa using c)]
      exact Ev.yes (room_ok (by simp; omega)) (ih (i + 1) _ _ (by omega) (by omega) (by simp; omega) (by simp))
    · rw [if_neg (by simpa using c), if_pos (by simpa using c2)]
      exact Ev.yes (room_ok (by simp; omega)) (ih (i + 1) _ _ (by omega) (by omega) (by omega) (by simp; omega))
    · rw [if_neg (by simpa using c), if_neg (by simpa using c2), if_pos (by simpa using c3)]
      exact Ev.yes (room_ok (by simp; omega)) (ih (i + 1) _ _ (by omega) (by omega) (by omega) (by simp; omega))
    · rw [if_neg (by simpa using c), if_neg (by simpa using c2), if_neg (by simpa using c3), if_pos (by simpa using c4)]
      have bad : ∀ j : Int, Ev (fun n => goRec spec_l2Alternatives.step n (spec_l2Alternatives.Pt.p51 s j true out now)) (altR none) := fun j => by
        refine Ev.step ?_
        simp only [spec_l2Alternatives.step]
        exact Ev.yes rfl Ev.pure
      refine Ev.cnd (fun e => ?_) fun e => ?_
      · have e : i + 1 = s.size := by simp at e; omega
        rw [show (octs s).drop (i + 1) = [] by rw [e, octs_nil]]
        exact bad _
      · have hi1 : i + 1 < s.size := by simp at e; omega
        rw [octs_drop hi1]
        simp only
        have hr := bt_range (s := s) (i := ((i + 1 : Nat) : Int))
        generalize hq : bt s ((i + 1 : Nat) : Int) = q at hr
        have good : (q = 42 ∨ q = 63 ∨ q = 124 ∨ q = 92) →
            Ev (fun n => goRec spec_l2Alternatives.step n (spec_l2Alternatives.Pt.p51 s ((i + 1 : Nat) : Int) false out now)) (altR (if q = 42 ∨ q = 63 ∨ q = 124 ∨ q = 92 then pat ((octs s).drop (i + 1 + 1)) out (now ++ [q]) else none)) := by
          intro hg
          rw [if_pos hg]
          refine Ev.step ?_
          simp only [spec_l2Alternatives.step, i64_bt]
          simp only [hq, i64_nat (show i + 1 ≤ 4611686018427387904 by omega)]
          exact Ev.no rfl (Ev.yes (inB_nat hi1) (Ev.yes (room_ok (by simp; omega)) (ih (i + 1 + 1) out (now ++ [q]) (by omega) (by omega) (by omega) (by simp; omega))))
        refine Ev.yes (inB_nat hi1) (Ev.cnd (fun e1 => Ev.yes (inB_nat hi1) (Ev.cnd (fun e2 => Ev.yes (inB_nat hi1) (Ev.cnd (fun e3 => Ev.yes (inB_nat hi1) ?_) fun e3 => good ?_)) fun e2 => good ?_)) fun e1 => good ?_)
        · by_cases e4 : q = 92
          · rw [show (!decide (q = 92)) = false by simp [e4]]
            exact good (.inr (.inr (.inr e4)))
          · rw [show (!decide (q = 92)) = true by simp [e4], if_neg (by simp at e1 e2 e3; simp [e1, e2, e3, e4])]
            exact bad _
        · exact .inr (.inr (.inl (by simpa using e3)))
        · exact .inr (.inl (by simpa using e2))
        · exact .inl (by simpa using e1)
    · rw [if_neg (by simpa using c), if_neg (by simpa using c2), if_neg (by simpa using c3), if_neg (by simpa using c4)]
      exact Ev.yes (inB_nat hi) (Ev.yes (room_ok (by simp; omega)) (ih (i + 1) _ _ (by omega) (by omega) (by omega) (by simp; omega)))
theorem spec_l2Alternatives.ev (s : ByteArray) (hs : s.size ≤ 1048576) : Ev (fun n => spec_l2Alternatives n s) (altR (alts s)) := by
  refine Ev.step ?_
  simp only [spec_l2Alternatives.step]
  refine Ev.cnd (fun h => ?_) fun h => Ev.bind (spec_l2Printed.ev s hs) (Ev.step ?_)
  · refine Ev.step ?_
    simp only [spec_l2Alternatives.step]
    refine Ev.yes rfl (Ev.pure' ?_)
    rw [alts, if_neg (by simp at h; omega)]; rfl
  · have h : s.size ≤ 100 := by simp at h; omega
    simp only [spec_l2Alternatives.step]
    refine Ev.cnd (fun h2 => Ev.pure' ?_) fun h2 => ?_
    · rw [alts, if_neg (by simp at h2; simp [h2])]; rfl
    · rw [alts, if_pos ⟨h, by simpa using h2⟩]
      exact spec_l2Alternatives.loop s h s.size 0 [] [] (by omega) (by omega) (by simp) (by simp)
theorem spec_GoodPattern.ev (s : ByteArray) (hs : s.size ≤ 1048576) : Ev (fun n => spec_GoodPattern n s) (alts s).isSome := by
  refine Ev.step ?_
  simp only [spec_GoodPattern.step]
  refine Ev.bind (spec_l2Alternatives.ev s hs) (Ev.pure' ?_)
  cases alts s <;> rfl
theorem spec_GoodMatchers.ev (l : List MT) (h : Sm 1048576 (.sl false MU) l) : Ev (fun n => spec_GoodMatchers n l) (matchersB l) := by
  have hl : l.length ≤ 1048576 := h.1
  refine Ev.step ?_
  simp only [spec_GoodMatchers.step]
  refine Ev.cnd (fun c => Ev.pure' ?_) fun c => ?_
  · have : ¬ l.length ≤ 10 := by simp at c; omega
    simp [matchersB, this]
  have h10 : l.length ≤ 10 := by simp at c; omega
  simp only [matchersB, h10, decide_true, Bool.true_and]
  have go : ∀ i v, i < l.length → (matcherB (l.getD i default) = true → Ev (fun n => goRec spec_GoodMatchers.step n (spec_GoodMatchers.Pt.p15 l (l.length : Int) ((i + 1 : Nat) : Int))) v) → (matcherB (l.getD i default) = false → v = false) →
      Ev (fun n => goRec spec_GoodMatchers.step n (spec_GoodMatchers.Pt.p15 l (l.length : Int) (i : Int))) v := by
    intro i v hi hv hv2
    have hx := h.2 _ (getD_mem (d := default) hi)
    generalize hxe : l.getD i default = x at hv hv2 hx
    have h26 : ∀ b, (b = !matcherB x) → Ev (fun n => goRec spec_GoodMatchers.step n (spec_GoodMatchers.Pt.p26 l (l.length : Int) (i : Int) b)) v := by
      rintro b rfl
      refine Ev.step ?_
      simp only [spec_GoodMatchers.step, i64_nat (show i ≤ 4611686018427387904 by omega)]
      refine Ev.cnd (fun e => Ev.pure' (hv2 (by simpa using e)).symm) fun e => hv (by simpa using e)
    refine Ev.step ?_
    simp only [spec_GoodMatchers.step, toNat_cast, hxe]
    refine Ev.yes (lt_yes hi) (Ev.yes (inB_nat hi) ?_)
    refine Ev.bind (spec_l2Name.ev _ hx.1) (Ev.cnd (fun e => h26 _ (by simp [matcherB]; simp at e; simp [e])) fun e1 => Ev.cnd (fun e => h26 _ (by simp [matcherB]; simp at e; omega)) fun e2 => Ev.cnd (fun e => h26 _ (by simp [matcherB]; simp at e; omega)) fun e3 => Ev.cnd (fun e => h26 _ (by simp [matcherB]; simp at e; omega)) fun e4 => ?_)
    refine Ev.bind (spec_l2Printed.ev _ hx.2.2.1) (Ev.cnd (fun e => h26 _ (by simp [matcherB]; simp at e; simp [e])) fun e5 => Ev.cnd (fun e6 => Ev.bind (spec_GoodPattern.ev _ hx.2.2.1) (h26 _ ?_)) fun e6 => h26 _ ?_)
    · simp at e1 e2 e3 e4 e5 e6
      have a1 : x.2.2.1.size ≤ 100 := by omega
      have a2 : ¬ x.2.1 < 3 := by omega
      simp [matcherB, e1, e2, e3, a1, e5, a2]
    · simp at e1 e2 e3 e4 e5 e6
      have a1 : x.2.2.1.size ≤ 100 := by omega
      simp [matcherB, e1, e2, e3, a1, e5, e6]
  refine Ev.allN (pt := fun i : Nat => spec_GoodMatchers.Pt.p15 l (l.length : Int) (i : Int)) (fun i hi => ⟨fun hp v hv => go i v hi (fun _ => hv) (fun h => by rw [hp] at h; cases h), fun hp => go i false hi (fun h => by rw [hp] at h; cases h) (fun _ => rfl)⟩) ?_
  refine Ev.step ?_
  simp only [spec_GoodMatchers.step]
  exact Ev.no lt_no Ev.pure
theorem spec_l2CmpNum.ev (a b : Int) : Ev (fun n => spec_l2CmpNum n a b) (cmpN a b) := by
  refine Ev.step ?_
  simp only [spec_l2CmpNum.step]
  exact Ev.cnd (fun h => Ev.pure' (by rw [cmpN, if_pos (of_decide_eq_true h)])) fun h => Ev.cnd (fun h2 => Ev.pure' (by rw [cmpN, if_neg (of_decide_eq_false h), if_pos (of_decide_eq_true h2)])) fun h2 => Ev.pure' (by rw [cmpN, if_neg (of_decide_eq_false h), if_neg (of_decide_eq_false h2)])
theorem spec_l2CmpText.loop (a b : ByteArray) (ha : a.size ≤ 1048576) (hb : b.size ≤ 1048576) : ∀ d i, i + d = a.size → i ≤ b.size → Ev (fun n => goRec spec_l2CmpText.step n (spec_l2CmpText.Pt.p7 a b (i : Int))) (cmpL ((octs a).drop i) ((octs b).drop i)) := by
  have out : ∀ i, i ≤ a.size → i ≤ b.size → (i = a.size ∨ i = b.size) → Ev (fun n => goRec spec_l2CmpText.step n (spec_l2CmpText.Pt.p9 a b (i : Int) false)) (cmpL ((octs a).drop i) ((octs b).drop i)) := by
    intro i h1 h2 h3
    refine Ev.step ?_
    simp only [spec_l2CmpText.step]
    refine Ev.no rfl (Ev.bind (spec_l2CmpNum.ev _ _) (Ev.pure' ?_))
    rcases h3 with rfl | rfl
    · rw [octs_nil]
      rcases Nat.eq_or_lt_of_le h2 with e | h2
      · rw [e, octs_nil]; simp [cmpN, cmpL]
      · rw [octs_drop h2]; simp only [cmpL, cmpN]; rw [if_pos (by omega)]
    · rw [octs_nil]
      rcases Nat.eq_or_lt_of_le h1 with e | h1
      · rw [e, octs_nil]; simp [cmpN, cmpL]
      · rw [octs_drop h1]; simp only [cmpL, cmpN]; rw [if_neg (by omega), if_pos (by omega)]
  intro d
  induction d with
  | zero =>
    intro i h hb'
    refine Ev.step ?_
    simp only [spec_l2CmpText.step]
    exact Ev.no (by simp; omega) (out i (by omega) hb' (by omega))
  | succ d ih =>
    intro i h hb'
    refine Ev.step ?_
    simp only [spec_l2CmpText.step]
    refine Ev.yes (lt_yes (by omega)) ?_
    rcases Nat.eq_or_lt_of_le hb' with e | hlt
    · rw [show decide ((i : Int) < (b.size : Int)) = false by simp; omega]
      exact out i (by omega) hb' (.inr e)
    · rw [lt_yes hlt]
      refine Ev.step ?_
      simp only [spec_l2CmpText.step, i64_bt]
      have hia : i < a.size := by omega
      refine Ev.yes rfl (Ev.yes (inB_nat hia) (Ev.yes (inB_nat hlt) ?_))
      rw [octs_drop hia, octs_drop hlt]
      simp only [cmpL]
      refine Ev.cnd (fun hc => Ev.yes (inB_nat hia) (Ev.yes (inB_nat hlt) (Ev.bind (spec_l2CmpNum.ev _ _) (Ev.pure' ?_)))) fun hc => ?_
      · simp at hc
        simp only [cmpN]
        by_cases c1 : bt a i < bt b i
        · simp [c1]
        · have c2 : bt b i < bt a i := by omega
          simp [c1, c2]
      · have hc : bt a i = bt b i := by simpa using hc
        rw [hc, if_neg (by omega), if_neg (by omega), i64_nat (by omega)]
        exact ih (i + 1) (by omega) (by omega)
theorem spec_l2CmpText.ev (a b : ByteArray) (ha : a.size ≤ 1048576) (hb : b.size ≤ 1048576) : Ev (fun n => spec_l2CmpText n a b) (cmpT a b) := by
  refine Ev.step ?_
  simp only [spec_l2CmpText.step]
  exact spec_l2CmpText.loop a b ha hb a.size 0 (by omega) (by omega)
theorem spec_l2Rising.ev (l : List ByteArray) (h : Sm 1048576 (.sl false .str) l) : Ev (fun n => spec_l2Rising n l) (risingB l) := by
  have hl : l.length ≤ 1048576 := h.1
  have hs : ∀ i, i < l.length → (l.getD i default).size ≤ 1048576 := fun i hi => h.2 _ (getD_mem hi)
  refine Ev.step ?_
  simp only [spec_l2Rising.step]
  refine Ev.allN (pt := fun i : Nat => spec_l2Rising.Pt.p7 l ((i + 1 : Nat) : Int)) (fun i hi => ⟨fun hp v hv => ?_, fun hp => ?_⟩) ?_
  · refine Ev.step ?_
    simp only [spec_l2Rising.step, i64_pred (show i ≤ 4611686018427387904 by omega), i64_nat (show i + 1 ≤ 4611686018427387904 by omega), toNat_cast]
    exact Ev.yes (lt_yes (by omega)) (Ev.yes (inB_nat (by omega)) (Ev.yes (inB_nat (by omega)) (Ev.bind (spec_l2CmpText.ev _ _ (hs _ (by omega)) (hs _ (by omega))) (Ev.no (by simp at hp; simp; omega) hv))))
  · refine Ev.step ?_
    simp only [spec_l2Rising.step, i64_pred (show i ≤ 4611686018427387904 by omega), toNat_cast]
    exact Ev.yes (lt_yes (by omega)) (Ev.yes (inB_nat (by omega)) (Ev.yes (inB_nat (by omega)) (Ev.bind (spec_l2CmpText.ev _ _ (hs _ (by omega)) (hs _ (by omega))) (Ev.yes (by simp at hp; simp; omega) Ev.pure))))
  · refine Ev.step ?_
    simp only [spec_l2Rising.step]
    exact Ev.no (by simp; omega) Ev.pure
theorem spec_l15Names.ev (l : List ByteArray) (h : Sm 1048576 (.sl false .str) l) : Ev (fun n => spec_l15Names n l) (namesB l) := by
  have hl : l.length ≤ 1048576 := h.1
  have hs : ∀ i, i < l.length → (l.getD i default).size ≤ 1048576 := fun i hi => h.2 _ (getD_mem hi)
  refine Ev.step ?_
  simp only [spec_l15Names.step]
  have go : ∀ d i, i + d = l.length → Ev (fun n => goRec spec_l15Names.step n (spec_l15Names.Pt.p7 l l (l.length : Int) (i : Int))) (decide (l.length ≤ 10) && risingB l && (List.range' i d).all fun i => nameB (l.getD i default)) := by
    intro d
    induction d with
    | zero =>
      intro i hi
      rw [Nat.add_zero] at hi; subst hi
      refine Ev.step ?_
      simp only [spec_l15Names.step]
      refine Ev.no lt_no (Ev.cnd (fun c => Ev.bind (spec_l2Rising.ev l h) (Ev.pure' ?_)) fun c => Ev.pure' ?_)
      · have : l.length ≤ 10 := by simp at c; omega
        simp [this]
      · have : ¬ l.length ≤ 10 := by simp at c; omega
        simp [this]
    | succ d ih =>
      intro i hi
      refine Ev.step ?_
      simp only [spec_l15Names.step, toNat_cast, i64_nat (show i ≤ 4611686018427387904 by omega)]
      refine Ev.yes (lt_yes (by omega)) (Ev.yes (inB_nat (by omega)) (Ev.bind (spec_l2Name.ev _ (hs _ (by omega))) (Ev.cnd (fun c => Ev.pure' ?_) fun c => ?_)))
      · rw [List.range'_succ, List.all_cons]; simp at c; simp [c]
      · rw [List.range'_succ, List.all_cons]; simp at c
        simp only [List.getD_eq_getElem?_getD, c, Bool.true_and]
        simpa only [List.getD_eq_getElem?_getD] using ih (i + 1) (by omega)
  have := go l.length 0 (by omega)
  rw [namesB, List.range_eq_range']
  exact this
theorem spec_l3Time.ev (b : Int) : Ev (fun n => spec_l3Time n b) (timeB b) := by
  refine Ev.step ?_
  simp only [spec_l3Time.step]
  exact Ev.cnd (fun h => Ev.pure' (by simp [timeB, h])) fun h => Ev.pure' (by simp [timeB, h])
theorem spec_l9Numbers.ev (l : List Int) (hl : l.length ≤ 1048576) : Ev (fun n => spec_l9Numbers n l) (decide (l.length ≤ 1000) && risingI l) := by
  have go : ∀ d i, i + 1 + d = l.length → Ev (fun n => goRec spec_l9Numbers.step n (spec_l9Numbers.Pt.p7 l (l.length : Int) ((i + 1 : Nat) : Int))) (decide (l.length ≤ 1000) && (List.range' i d).all fun i => decide (l.getD i default < l.getD (i + 1) default)) := by
    intro d
    induction d with
    | zero =>
      intro i h
      refine Ev.step ?_
      simp only [spec_l9Numbers.step]
      exact Ev.no (decide_eq_false (by omega)) (Ev.pure' (by rw [List.range'_zero, List.all_nil, Bool.and_true]; exact decide_eq_decide.2 (by omega)))
    | succ d ih =>
      intro i h
      refine Ev.step ?_
      simp only [spec_l9Numbers.step, i64_pred (show i ≤ 4611686018427387904 by omega), i64_nat (show i + 1 ≤ 4611686018427387904 by omega), toNat_cast]
      rw [List.range'_succ, List.all_cons]
      refine Ev.yes (lt_yes (by omega)) (Ev.yes (decide_eq_true (by omega)) (Ev.yes (inB_nat (by omega)) (Ev.yes (inB_nat (by omega)) (Ev.cnd (fun c => Ev.pure' ?_) fun c => Ev.of_eq (ih (i + 1) (by omega)) ?_))))
      · have c := of_decide_eq_true c
        rw [decide_eq_false (show ¬ l.getD i default < l.getD (i + 1) default by omega)]; simp
      · have c := of_decide_eq_false c
        rw [decide_eq_true (show l.getD i default < l.getD (i + 1) default by omega), Bool.true_and]
  refine Ev.step ?_
  simp only [spec_l9Numbers.step]
  cases hl0 : l.length with
  | zero =>
    refine Ev.step ?_
    simp only [spec_l9Numbers.step, hl0]
    exact Ev.no (by simp) (Ev.pure' (by simp [risingI, hl0]))
  | succ k =>
    refine Ev.step ?_
    simp only [spec_l9Numbers.step]
    refine Ev.yes (decide_eq_true (by omega)) (Ev.no (by simp) ?_)
    have e0 : IntKind.wrap .i64 ((0 : Int) + 1) = ((0 + 1 : Nat) : Int) := by rw [w64] <;> omega
    rw [e0, ← hl0]
    have := go k 0 (by omega)
    rw [risingI, List.range_eq_range', show l.length - 1 = k by omega]
    exact this
theorem spec_l20Route.ev (r : RTE) (h : Sm 1048576 RTU r) : Ev (fun n => spec_l20Route n r) (routeB r) := by
  have hml : r.2.2.2.2.2.2.1.length ≤ 1048576 := h.2.2.2.2.2.2.1.1
  have loop : r.2.2.2.2.2.2.1.length ≤ 20 → Ev (fun n => goRec spec_l20Route.step n (spec_l20Route.Pt.p15 r.2.2.2.2.2.2.1 (r.2.2.2.2.2.2.1.length : Int) 0)) (mutesB r.2.2.2.2.2.2.1) := by
    intro h20
    refine Ev.allN (pt := fun i : Nat => spec_l20Route.Pt.p15 r.2.2.2.2.2.2.1 (r.2.2.2.2.2.2.1.length : Int) (i : Int)) (fun i hi => ⟨fun hp v hv => ?_, fun hp => ?_⟩) ?_
    · refine Ev.step ?_
      simp only [Bool.and_eq_true, decide_eq_true_eq] at hp
      simp only [spec_l20Route.step, toNat_cast, i64_nat (show i ≤ 4611686018427387904 by omega)]
      exact Ev.yes (lt_yes hi) (Ev.yes (inB_nat hi) (Ev.no (by simp only [decide_eq_false_iff_not]; omega) (Ev.no (by simp only [decide_eq_false_iff_not]; omega) hv)))
    · refine Ev.step ?_
      simp only [spec_l20Route.step, toNat_cast]
      refine Ev.yes (lt_yes hi) (Ev.yes (inB_nat hi) (Ev.cnd (fun _ => Ev.pure) fun e => Ev.yes ?_ Ev.pure))
      have e := of_decide_eq_false e
      rw [show decide (0 ≤ r.2.2.2.2.2.2.1.getD i default) = true by simp only [decide_eq_true_eq]; omega, Bool.true_and] at hp
      have hp := of_decide_eq_false hp
      simp only [decide_eq_true_eq]; omega
    · refine Ev.step ?_
      simp only [spec_l20Route.step]
      exact Ev.no lt_no Ev.pure
  have p4 : ∀ b, (b = !(nameB r.1 && matchersB r.2.1 && namesB r.2.2.1 && timeB r.2.2.2.1 && posB r.2.2.2.2.1 && posB r.2.2.2.2.2.1 && (decide (r.2.2.2.2.2.2.1.length ≤ 20) && risingI r.2.2.2.2.2.2.1))) → Ev (fun n => goRec spec_l20Route.step n (spec_l20Route.Pt.p4 b r.1 r.2.1 r.2.2.1 r.2.2.2.1 r.2.2.2.2.1 r.2.2.2.2.2.1 r.2.2.2.2.2.2.1 r.2.2.2.2.2.2.2.1 r.2.2.2.2.2.2.2.2.1)) (routeB r) := by
    rintro b rfl
    refine Ev.step ?_
    simp only [spec_l20Route.step]
    refine Ev.cnd (fun e => Ev.pure' ?_) fun e => ?_
    · rw [Bool.not_eq_true'] at e
      rw [routeB, e]; rfl
    · rw [Bool.not_eq_false'] at e
      have h20 : r.2.2.2.2.2.2.1.length ≤ 20 := by
        simp only [Bool.and_eq_true, decide_eq_true_eq] at e
        exact e.2.1
      exact Ev.of_eq (loop h20) (by rw [routeB, e]; rfl)
  refine Ev.step ?_
  simp only [spec_l20Route.step]
  refine Ev.bind (spec_l2Name.ev _ h.1) (Ev.cnd (fun e => p4 _ (by rw [Bool.not_eq_true'] at e; simp [e])) fun e1 => ?_)
  refine Ev.bind (spec_GoodMatchers.ev _ h.2.1) (Ev.cnd (fun e => p4 _ (by rw [Bool.not_eq_true'] at e; simp [e])) fun e2 => ?_)
  refine Ev.bind (spec_l15Names.ev _ h.2.2.1) (Ev.cnd (fun e => p4 _ (by rw [Bool.not_eq_true'] at e; simp [e])) fun e3 => ?_)
  refine Ev.bind (spec_l3Time.ev _) (Ev.cnd (fun e => p4 _ (by rw [Bool.not_eq_true'] at e; simp [e])) fun e4 => ?_)
  refine Ev.cnd (fun e => p4 _ (by rw [posB.eq_1 r.2.2.2.2.1, show decide (1 ≤ r.2.2.2.2.1) = false by simp only [decide_eq_true_eq] at e; simp only [decide_eq_false_iff_not]; omega]; simp)) fun e5 => ?_
  refine Ev.cnd (fun e => p4 _ (by rw [posB.eq_1 r.2.2.2.2.1, show decide (r.2.2.2.2.1 ≤ 1000000000000) = false by simp only [decide_eq_true_eq] at e; simp only [decide_eq_false_iff_not]; omega]; simp)) fun e6 => ?_
  refine Ev.cnd (fun e => p4 _ (by rw [posB.eq_1 r.2.2.2.2.2.1, show decide (1 ≤ r.2.2.2.2.2.1) = false by simp only [decide_eq_true_eq] at e; simp only [decide_eq_false_iff_not]; omega]; simp)) fun e7 => ?_
  refine Ev.cnd (fun e => p4 _ (by rw [posB.eq_1 r.2.2.2.2.2.1, show decide (r.2.2.2.2.2.1 ≤ 1000000000000) = false by simp only [decide_eq_true_eq] at e; simp only [decide_eq_false_iff_not]; omega]; simp)) fun e8 => ?_
  have pa : posB r.2.2.2.2.1 = true := by simp only [decide_eq_false_iff_not] at e5 e6; simp only [posB, Bool.and_eq_true, decide_eq_true_eq]; omega
  have pb : posB r.2.2.2.2.2.1 = true := by simp only [decide_eq_false_iff_not] at e7 e8; simp only [posB, Bool.and_eq_true, decide_eq_true_eq]; omega
  refine Ev.cnd (fun e => p4 _ (by rw [show decide (r.2.2.2.2.2.2.1.length ≤ 20) = false by simp only [decide_eq_true_eq] at e; simp only [decide_eq_false_iff_not]; omega]; simp)) fun e9 => ?_
  have h20 : r.2.2.2.2.2.2.1.length ≤ 20 := by simp only [decide_eq_false_iff_not] at e9; omega
  refine Ev.bind (spec_l9Numbers.ev _ hml) (p4 _ ?_)
  rw [Bool.not_eq_false'] at e1 e2 e3 e4
  simp [e1, e2, e3, e4, pa, pb, h20]
  omega
theorem spec_l20Take.ev (l : List RTE) (hl : l.length ≤ 40) (h : Sm 1048576 (.sl false RTU) l) : ∀ d (deep i : Nat), deep + d = 9 → i ≤ l.length → Ev (fun n => spec_l20Take n l (i : Int) (deep : Int)) (tkV (nodeN l routeB d i)) := by
  intro d
  induction d with
  | zero =>
    intro deep i hd hi
    have fin : Ev (fun n => goRec (fun n K => spec_l20Take.step n (fun x => K (.p0 x.1 x.2.1 x.2.2.1)) K) n (spec_l20Take.Pt.p4 l (i : Int) (deep : Int) true)) (tkV (nodeN l routeB 0 i)) := by
      refine Ev.step ?_
      simp only [spec_l20Take.step]
      exact Ev.yes rfl Ev.pure
    refine Ev.step ?_
    simp only [spec_l20Take.step]
    exact Ev.cnd (fun _ => fin) fun _ => Ev.yes (by simp only [decide_eq_true_eq]; omega) fin
  | succ d ih =>
    intro deep i hd hi
    have bad : (decide (i < l.length) && decide (0 ≤ kidsOf l i) && routeB (l.getD i default)) = false → Ev (fun n => goRec (fun n K => spec_l20Take.step n (fun x => K (.p0 x.1 x.2.1 x.2.2.1)) K) n (spec_l20Take.Pt.p4 l (i : Int) (deep : Int) true)) (tkV (nodeN l routeB (d + 1) i)) := by
      intro hb
      refine Ev.step ?_
      simp only [spec_l20Take.step]
      exact Ev.yes rfl (Ev.pure' (by rw [nodeN, if_neg (by rw [hb]; simp)]; rfl))
    refine Ev.step ?_
    simp only [spec_l20Take.step, toNat_cast]
    refine Ev.cnd (fun c => bad (by rw [show decide (i < l.length) = false from decide_eq_false (by have := of_decide_eq_true c; omega)]; rfl)) fun c => ?_
    have hlt : i < l.length := by have := of_decide_eq_false c; omega
    refine Ev.no (by simp only [decide_eq_false_iff_not]; omega) (Ev.yes (inB_nat hlt) (Ev.cnd (fun c => bad ?_) fun c => Ev.yes (inB_nat hlt) (Ev.bind (spec_l20Route.ev _ (h.2 _ (getD_mem hlt))) ?_)))
    · rw [show decide (0 ≤ kidsOf l i) = false from decide_eq_false (Int.not_le.mpr (of_decide_eq_true c)), Bool.and_false]; rfl
    have k0 : 0 ≤ kidsOf l i := Int.not_lt.mp (of_decide_eq_false c)
    cases hr : routeB (l.getD i default) with
    | false => exact bad (by rw [hr, Bool.and_false])
    | true =>
      refine Ev.step ?_
      simp only [spec_l20Take.step, i64_nat (show i ≤ 4611686018427387904 by omega)]
      refine Ev.no rfl ?_
      rw [nodeN, if_pos (by rw [decide_eq_true hlt, decide_eq_true k0, hr]; rfl)]
      obtain ⟨m, hm⟩ : ∃ m : Nat, kidsOf l i = (m : Int) := ⟨(kidsOf l i).toNat, by omega⟩
      rw [hm]
      have hm2 : (l.getD i default).2.2.2.2.2.2.2.2.1 = (m : Int) := hm
      have key : ∀ e c p, c + e = m → c ≤ p → p ≤ l.length → Ev (fun n => goRec (fun n K => spec_l20Take.step n (fun x => K (.p0 x.1 x.2.1 x.2.2.1)) K) n (spec_l20Take.Pt.p17 l (i : Int) (deep : Int) (p : Int) (c : Int))) (tkV (manyN (nodeN l routeB d) e p)) := by
        intro e
        induction e with
        | zero =>
          intro c p hc hcp hp
          obtain rfl : c = m := by omega
          refine Ev.step ?_
          simp only [spec_l20Take.step, toNat_cast, hm2]
          exact Ev.yes (inB_nat hlt) (Ev.no lt_no Ev.pure)
        | succ e ihe =>
          intro c p hc hcp hp
          refine Ev.step ?_
          simp only [spec_l20Take.step, toNat_cast, hm2, i64_nat (show c ≤ 4611686018427387904 by omega), i64_nat (show deep ≤ 4611686018427387904 by omega)]
          refine Ev.yes (inB_nat hlt) (Ev.yes (lt_yes (by omega)) (Ev.bind (ih (deep + 1) p (by omega) hp) ?_))
          simp only [manyN]
          cases hn : nodeN l routeB d p with
          | none => exact Ev.yes rfl Ev.pure
          | some q =>
            have := nodeN_lt _ _ _ hn
            refine Ev.no (decide_eq_false (by show ¬ ((q : Int) < 0); omega)) ?_
            exact ihe (c + 1) q (by omega) (by omega) this.2
      exact key m 0 (i + 1) (by omega) (by omega) (by omega)
theorem spec_GoodRoutes.ev (l : List RTE) (h : Sm 1048576 (.sl false RTU) l) : Ev (fun n => spec_GoodRoutes n l) (routesB l) := by
  refine Ev.step ?_
  simp only [spec_GoodRoutes.step]
  refine Ev.cnd (fun c => ?_) fun c => Ev.pure' ?_
  case refine_2 =>
    have : l.length = 0 := by have := of_decide_eq_false c; omega
    simp [routesB, this]
  have h0 : l.length ≠ 0 := by have := of_decide_eq_true c; omega
  refine Ev.cnd (fun c => ?_) fun c => Ev.pure' ?_
  case refine_2 =>
    have : ¬ l.length ≤ 40 := by have := of_decide_eq_false c; omega
    simp [routesB, this]
  have h40 : l.length ≤ 40 := by have := of_decide_eq_true c; omega
  refine Ev.bind (spec_l20Take.ev l h40 h 8 1 0 rfl (by omega)) ?_
  have e : decide (tkV (nodeN l routeB 8 0) = (l.length : Int)) = decide (nodeN l routeB 8 0 = some l.length) := by
    cases nodeN l routeB 8 0 with
    | none =>
      refine decide_eq_decide.2 ⟨fun hh => ?_, fun hh => by cases hh⟩
      have hh : (-1 : Int) = (l.length : Int) := hh
      omega
    | some q =>
      refine decide_eq_decide.2 ?_
      show (q : Int) = (l.length : Int) ↔ some q = some l.length
      rw [Option.some.injEq]
      omega
  rw [e]
  simp only [show (0 : Int).toNat = 0 from rfl]
  refine Ev.cnd (fun c => Ev.yes (inB_zero (by omega)) (Ev.cnd (fun c2 => Ev.yes (inB_zero (by omega)) (Ev.pure' ?_)) fun c2 => Ev.pure' ?_)) fun c => Ev.pure' ?_
  · have c2 : (l.getD 0 default).2.1.length = 0 := by have := of_decide_eq_true c2; omega
    rw [routesB, c, decide_eq_true h0, decide_eq_true h40, decide_eq_true c2]; rfl
  · have c2 : ¬ (l.getD 0 default).2.1.length = 0 := by have := of_decide_eq_false c2; omega
    rw [routesB, decide_eq_false c2, Bool.false_and, Bool.and_false]
  · rw [routesB, c, Bool.and_false, Bool.false_and]
theorem spec_GoodSilences.ev (l : List SIL) (h : Sm 1048576 (.sl false SIU) l) : Ev (fun n => spec_GoodSilences n l) (silsB l) := by
  have hl : l.length ≤ 1048576 := h.1
  refine Ev.step ?_
  simp only [spec_GoodSilences.step]
  refine Ev.cnd (fun c => Ev.pure' ?_) fun c => ?_
  · have : ¬ l.length ≤ 50 := by simp at c; omega
    simp [silsB, this]
  have h50 : l.length ≤ 50 := by simp at c; omega
  simp only [silsB, h50, decide_true, Bool.true_and]
  have go : ∀ i v, i < l.length → (silB l i = true → Ev (fun n => goRec spec_GoodSilences.step n (spec_GoodSilences.Pt.p15 l l (l.length : Int) ((i + 1 : Nat) : Int))) v) → (silB l i = false → v = false) →
      Ev (fun n => goRec spec_GoodSilences.step n (spec_GoodSilences.Pt.p15 l l (l.length : Int) (i : Int))) v := by
    intro i v hi hv hv2
    have hx := h.2 _ (getD_mem (d := default) hi)
    have hs := (silB.eq_1 l i).symm
    have h26 : ∀ b, (b = !silB l i) → Ev (fun n => goRec spec_GoodSilences.step n (spec_GoodSilences.Pt.p26 l l (l.length : Int) (i : Int) b)) v := by
      rintro b rfl
      refine Ev.step ?_
      simp only [spec_GoodSilences.step, i64_nat (show i ≤ 4611686018427387904 by omega)]
      exact Ev.cnd (fun e => Ev.pure' (hv2 (by simpa using e)).symm) fun e => hv (by simpa using e)
    refine Ev.step ?_
    simp only [spec_GoodSilences.step, toNat_cast]
    generalize hxe : l.getD i default = x at hx hs
    have bad : silB l i = false → Ev (fun n => goRec spec_GoodSilences.step n (spec_GoodSilences.Pt.p26 l l (l.length : Int) (i : Int) true)) v := fun e => h26 _ (by rw [e]; rfl)
    refine Ev.yes (lt_yes hi) (Ev.yes (inB_nat hi) ?_)
    refine Ev.bind (spec_l2Name.ev _ hx.1) (Ev.cnd (fun e => bad (by rw [← hs]; simp at e; simp [e])) fun e1 => ?_)
    refine Ev.bind (spec_GoodMatchers.ev _ hx.2.1) (Ev.cnd (fun e => bad (by rw [← hs]; simp at e; simp [e])) fun e2 => ?_)
    refine Ev.cnd (fun e => bad (by rw [← hs]; simp at e; simp [e])) fun e3 => ?_
    refine Ev.bind (spec_l3Time.ev _) (Ev.cnd (fun e => bad (by rw [← hs]; simp at e; simp [e])) fun e4 => ?_)
    refine Ev.bind (spec_l3Time.ev _) (Ev.cnd (fun e => bad (by rw [← hs]; simp at e; simp [e])) fun e5 => ?_)
    refine Ev.cnd (fun e => bad (by rw [← hs]; have : ¬ x.2.2.1 ≤ x.2.2.2.1 := by simp at e; omega
                                    simp [this])) fun e6 => ?_
    have a6 : x.2.2.1 ≤ x.2.2.2.1 := by simp at e6; omega
    simp at e1 e2 e3 e4 e5
    cases i with
    | zero => exact Ev.no (by simp) (h26 _ (by rw [← hs]; simp [e1, e2, e3, e4, e5, a6]))
    | succ k =>
      refine Ev.yes (by simp) ?_
      simp only [i64_pred (show k ≤ 4611686018427387904 by omega), toNat_cast]
      refine Ev.yes (inB_nat (by omega)) (Ev.bind (spec_l2CmpText.ev _ _ (h.2 _ (getD_mem (by omega))).1 hx.1) (h26 _ ?_))
      rw [← hs]; simp [e1, e2, e3, e4, e5, a6]
      rw [← decide_not]
      exact decide_eq_decide.2 (by omega)
  refine Ev.allN (pt := fun i : Nat => spec_GoodSilences.Pt.p15 l l (l.length : Int) (i : Int)) (fun i hi => ⟨fun hp v hv => go i v hi (fun _ => hv) (fun h => by rw [hp] at h; cases h), fun hp => go i false hi (fun h => by rw [hp] at h; cases h) (fun _ => rfl)⟩) ?_
  refine Ev.step ?_
  simp only [spec_GoodSilences.step]
  exact Ev.no lt_no Ev.pure
theorem spec_GoodInhibits.ev (l : List INH) (h : Sm 1048576 (.sl false INU) l) : Ev (fun n => spec_GoodInhibits n l) (inhsB l) := by
  have hl : l.length ≤ 1048576 := h.1
  refine Ev.step ?_
  simp only [spec_GoodInhibits.step]
  have go : ∀ d i, i + d = l.length → Ev (fun n => goRec spec_GoodInhibits.step n (spec_GoodInhibits.Pt.p7 l l (l.length : Int) (i : Int))) (decide (l.length ≤ 20) && (List.range' i d).all fun i => inhB (l.getD i default)) := by
    intro d
    induction d with
    | zero =>
      intro i hi
      rw [Nat.add_zero] at hi; subst hi
      refine Ev.step ?_
      simp only [spec_GoodInhibits.step]
      exact Ev.no lt_no (Ev.pure' (by rw [List.range'_zero, List.all_nil, Bool.and_true]; exact decide_eq_decide.2 (by omega)))
    | succ d ih =>
      intro i hi
      have hx := h.2 _ (getD_mem (d := default) (show i < l.length by omega))
      rw [List.range'_succ, List.all_cons]
      generalize hv : ((List.range' (i + 1) d).all fun i => inhB (l.getD i default)) = v
      have ih' := ih (i + 1) (by omega)
      rw [hv] at ih'
      refine Ev.step ?_
      simp only [spec_GoodInhibits.step, toNat_cast]
      generalize hxe : l.getD i default = x at hx
      have hs := (inhB.eq_1 x).symm
      have h18 : ∀ b, (b = !inhB x) → Ev (fun n => goRec spec_GoodInhibits.step n (spec_GoodInhibits.Pt.p18 l l (l.length : Int) (i : Int) b)) (decide (l.length ≤ 20) && (inhB x && v)) := by
        rintro b rfl
        refine Ev.step ?_
        simp only [spec_GoodInhibits.step, i64_nat (show i ≤ 4611686018427387904 by omega)]
        refine Ev.cnd (fun e => Ev.pure' (by simp at e; simp [e])) fun e => Ev.of_eq ih' (by simp at e; simp [e])
      have bad : inhB x = false → Ev (fun n => goRec spec_GoodInhibits.step n (spec_GoodInhibits.Pt.p18 l l (l.length : Int) (i : Int) true)) (decide (l.length ≤ 20) && (inhB x && v)) := fun e => h18 _ (by rw [e]; rfl)
      refine Ev.yes (lt_yes (by omega)) (Ev.yes (inB_nat (by omega)) ?_)
      refine Ev.bind (spec_GoodMatchers.ev _ hx.1) (Ev.cnd (fun e => bad (by rw [← hs]; simp at e; simp [e])) fun e1 => ?_)
      refine Ev.bind (spec_GoodMatchers.ev _ hx.2.1) (Ev.cnd (fun e => bad (by rw [← hs]; simp at e; simp [e])) fun e2 => ?_)
      refine Ev.cnd (fun e => bad (by rw [← hs]; simp at e; simp [e])) fun e3 => Ev.cnd (fun e => bad (by rw [← hs]; simp at e; simp [e])) fun e4 => ?_
      refine Ev.bind (spec_l15Names.ev _ hx.2.2.1) (h18 _ ?_)
      simp at e1 e2 e3 e4
      rw [← hs]; simp [e1, e2, e3, e4]
  have := go l.length 0 (by omega)
  rw [inhsB, List.range_eq_range']
  exact this
theorem spec_l19Ranges.ev (l : List RG) (lo hi : Int) (hl : l.length ≤ 1048576) : Ev (fun n => spec_l19Ranges n l lo hi) (rangesB l lo hi) := by
  have go : ∀ d i, i + d = l.length → Ev (fun n => goRec spec_l19Ranges.step n (spec_l19Ranges.Pt.p7 l lo hi l (l.length : Int) (i : Int))) (decide (l.length ≤ 10) && (List.range' i d).all fun i => rangeB lo hi (l.getD i default)) := by
    intro d
    induction d with
    | zero =>
      intro i h
      rw [Nat.add_zero] at h; subst h
      refine Ev.step ?_
      simp only [spec_l19Ranges.step]
      exact Ev.no lt_no (Ev.pure' (by rw [List.range'_zero, List.all_nil, Bool.and_true]; exact decide_eq_decide.2 (by omega)))
    | succ d ih =>
      intro i h
      rw [List.range'_succ, List.all_cons]
      have ih' := ih (i + 1) (by omega)
      generalize ((List.range' (i + 1) d).all fun i => rangeB lo hi (l.getD i default)) = v at ih'
      have h18 : ∀ b, b = !rangeB lo hi (l.getD i default) → Ev (fun n => goRec spec_l19Ranges.step n (spec_l19Ranges.Pt.p18 l lo hi l (l.length : Int) (i : Int) b)) (decide (l.length ≤ 10) && (rangeB lo hi (l.getD i default) && v)) := by
        rintro b rfl
        refine Ev.step ?_
        simp only [spec_l19Ranges.step, i64_nat (show i ≤ 4611686018427387904 by omega)]
        exact Ev.cnd (fun c => Ev.pure' (by rw [Bool.not_eq_true'] at c; rw [c]; simp)) fun c => Ev.of_eq ih' (by rw [Bool.not_eq_false'] at c; rw [c]; simp)
      refine Ev.step ?_
      simp only [spec_l19Ranges.step, toNat_cast]
      generalize hr : l.getD i default = r at h18
      refine Ev.yes (lt_yes (by omega)) (Ev.yes (inB_nat (by omega)) (Ev.cnd (fun c => h18 _ ?_) fun c => Ev.cnd (fun c2 => h18 _ ?_) fun c2 => h18 _ ?_))
      · have c := of_decide_eq_true c; simp [rangeB, show ¬ lo ≤ r.1 by omega]
      · have c2 := of_decide_eq_true c2; simp [rangeB, show ¬ r.2.1 ≤ hi by omega]
      · have c := of_decide_eq_false c; have c2 := of_decide_eq_false c2
        simp only [rangeB, show lo ≤ r.1 by omega, show r.2.1 ≤ hi by omega, decide_true, Bool.and_true]
        rw [← decide_not]; exact decide_eq_decide.2 (by omega)
  refine Ev.step ?_
  simp only [spec_l19Ranges.step]
  have := go l.length 0 (by omega)
  rw [rangesB, List.range_eq_range']
  exact this
theorem spec_GoodInterval.free (z : Int) (m w dd mo y : List RG) (l : List Int) (hl : l.length ≤ 1048576) (hm : m.length ≤ 1048576) (hw : w.length ≤ 1048576) (hd : dd.length ≤ 1048576) (hmo : mo.length ≤ 1048576) (hy : y.length ≤ 1048576) : ∀ d i, i + d = l.length → Ev (fun n => goRec spec_GoodInterval.step n (spec_GoodInterval.Pt.p38 l (l.length : Int) (i : Int) z m w dd mo y l))
    (((List.range' i d).all fun i => freeB (l.getD i default)) && (rangesB m 0 1439 && rangesB w 0 6 && rangesB dd (-31) 31 && rangesB mo 1 12 && rangesB y 1970 40000)) := by
  intro d
  induction d with
  | zero =>
    intro i h
    rw [Nat.add_zero] at h; subst h
    refine Ev.step ?_
    simp only [spec_GoodInterval.step]
    refine Ev.no lt_no ?_
    refine Ev.bind (spec_l19Ranges.ev m _ _ hm) (Ev.cnd (fun c1 => ?_) fun c => Ev.pure' (by simp [c]))
    refine Ev.bind (spec_l19Ranges.ev w _ _ hw) (Ev.cnd (fun c2 => ?_) fun c => Ev.pure' (by simp [c]))
    refine Ev.bind (spec_l19Ranges.ev dd _ _ hd) (Ev.cnd (fun c3 => ?_) fun c => Ev.pure' (by simp [c]))
    refine Ev.bind (spec_l19Ranges.ev mo _ _ hmo) (Ev.cnd (fun c4 => ?_) fun c => Ev.pure' (by simp [c]))
    exact Ev.bind (spec_l19Ranges.ev y _ _ hy) (Ev.pure' (by simp [c1, c2, c3, c4]))
  | succ d ih =>
    intro i h
    rw [List.range'_succ, List.all_cons]
    have ih' := ih (i + 1) (by omega)
    generalize ((List.range' (i + 1) d).all fun i => freeB (l.getD i default)) = v at ih'
    refine Ev.step ?_
    simp only [spec_GoodInterval.step, toNat_cast, i64_nat (show i ≤ 4611686018427387904 by omega)]
    generalize l.getD i default = r
    refine Ev.yes (lt_yes (by omega)) (Ev.yes (inB_nat (by omega)) (Ev.cnd (fun c => Ev.pure' ?_) fun c => Ev.cnd (fun c2 => Ev.pure' ?_) fun c2 => Ev.of_eq ih' ?_))
    · have c := of_decide_eq_true c; simp [freeB, show ¬ 0 ≤ r by omega]
    · have c2 := of_decide_eq_true c2; simp [freeB, show ¬ r ≤ 20000000 by omega]
    · have c := of_decide_eq_false c; have c2 := of_decide_eq_false c2; simp [freeB, show 0 ≤ r by omega, show r ≤ 20000000 by omega]
theorem spec_GoodInterval.ev (x : ITV) (h : Sm 1048576 ITU x) : Ev (fun n => spec_GoodInterval n x) (itvB x) := by
  obtain ⟨z, m, w, l, mo, y, f, ⟨⟩⟩ := x
  obtain ⟨_, ⟨hm, _⟩, ⟨hw, _⟩, ⟨hl, _⟩, ⟨hmo, _⟩, ⟨hy, _⟩, ⟨hf, _⟩, _⟩ := h
  have hl : l.length ≤ 1048576 := hl
  have hf : f.length ≤ 1048576 := hf
  have key : ∀ d i, i + d = l.length → Ev (fun n => goRec spec_GoodInterval.step n (spec_GoodInterval.Pt.p7 l (l.length : Int) (i : Int) z m w l mo y f)) (((List.range' i d).all fun i => dayRS (l.getD i default)) && (decide (-1440 ≤ z) && decide (z ≤ 1440) && decide (f.length ≤ 10) && risingI f && (allG freeB f && (rangesB m 0 1439 && rangesB w 0 6 && rangesB l (-31) 31 && rangesB mo 1 12 && rangesB y 1970 40000)))) := by
    intro d
    induction d with
    | zero =>
      intro i hi
      rw [Nat.add_zero] at hi; subst hi
      have h27 : ∀ b, b = !(decide (-1440 ≤ z) && decide (z ≤ 1440) && decide (f.length ≤ 10) && risingI f) → Ev (fun n => goRec spec_GoodInterval.step n (spec_GoodInterval.Pt.p27 b z m w l mo y f)) (decide (-1440 ≤ z) && decide (z ≤ 1440) && decide (f.length ≤ 10) && risingI f && (allG freeB f && (rangesB m 0 1439 && rangesB w 0 6 && rangesB l (-31) 31 && rangesB mo 1 12 && rangesB y 1970 40000))) := by
        rintro b rfl
        refine Ev.step ?_
        simp only [spec_GoodInterval.step]
        refine Ev.cnd (fun c => Ev.pure' (by rw [Bool.not_eq_true'] at c; rw [c]; rfl)) fun c => ?_
        rw [Bool.not_eq_false'] at c
        rw [c, Bool.true_and, allG, List.range_eq_range']
        exact spec_GoodInterval.free z m w l mo y f hf hm hw hl hmo hy f.length 0 (by omega)
      rw [List.range'_zero, List.all_nil, Bool.true_and]
      refine Ev.step ?_
      simp only [spec_GoodInterval.step]
      refine Ev.no lt_no (Ev.cnd (fun c => h27 _ ?_) fun c1 => Ev.cnd (fun c => h27 _ ?_) fun c2 => Ev.cnd (fun c => h27 _ ?_) fun c3 => Ev.bind (spec_l9Numbers.ev f hf) (h27 _ ?_))
      · have c := of_decide_eq_true c; simp [show ¬ -1440 ≤ z by omega]
      · have c := of_decide_eq_true c; simp [show ¬ z ≤ 1440 by omega]
      · have c := of_decide_eq_true c; simp [show ¬ f.length ≤ 10 by omega]
      · have c1 := of_decide_eq_false c1; have c2 := of_decide_eq_false c2; have c3 := of_decide_eq_false c3
        simp [show -1440 ≤ z by omega, show z ≤ 1440 by omega, show f.length ≤ 10 by omega, show f.length ≤ 1000 by omega]
    | succ d ih =>
      intro i hi
      rw [List.range'_succ, List.all_cons]
      have ih' := ih (i + 1) (by omega)
      generalize ((List.range' (i + 1) d).all fun i => dayRS (l.getD i default)) = v at ih'
      generalize (decide (-1440 ≤ z) && decide (z ≤ 1440) && decide (f.length ≤ 10) && risingI f && (allG freeB f && (rangesB m 0 1439 && rangesB w 0 6 && rangesB l (-31) 31 && rangesB mo 1 12 && rangesB y 1970 40000))) = u at ih'
      have h18 : ∀ b, b = !dayRS (l.getD i default) → Ev (fun n => goRec spec_GoodInterval.step n (spec_GoodInterval.Pt.p18 l (l.length : Int) (i : Int) b z m w l mo y f)) (dayRS (l.getD i default) && v && u) := by
        rintro b rfl
        refine Ev.step ?_
        simp only [spec_GoodInterval.step, i64_nat (show i ≤ 4611686018427387904 by omega)]
        exact Ev.cnd (fun c => Ev.pure' (by rw [Bool.not_eq_true'] at c; rw [c]; rfl)) fun c => Ev.of_eq ih' (by rw [Bool.not_eq_false'] at c; rw [c]; rfl)
      refine Ev.step ?_
      simp only [spec_GoodInterval.step, toNat_cast]
      generalize l.getD i default = r at h18
      refine Ev.yes (lt_yes (by omega)) (Ev.yes (inB_nat (by omega)) (Ev.cnd (fun c => h18 _ ?_) fun c => Ev.cnd (fun c2 => h18 _ ?_) fun c2 => h18 _ ?_))
      · simp [dayRS, of_decide_eq_true c]
      · simp [dayRS, of_decide_eq_true c2]
      · simp only [dayRS, c, c2]
        cases decide (r.1 < 0) <;> cases decide (r.2.1 < 0) <;> rfl
  refine Ev.step ?_
  simp only [spec_GoodInterval.step]
  refine Ev.of_eq (key l.length 0 (by omega)) ?_
  rw [← List.range_eq_range']
  have e := days_same l (-31) 31
  simp only [allG] at e
  simp only [itvB, allG]
  generalize ((List.range l.length).all fun i => dayRS (l.getD i default)) = p at e ⊢
  generalize ((List.range l.length).all fun i => dayRB (l.getD i default)) = q at e ⊢
  revert e
  cases rangesB l (-31) 31 <;> cases p <;> cases q <;> simp [Bool.and_assoc, Bool.and_comm, Bool.and_left_comm]
theorem spec_GoodNotify.ev (c : NCE) (h : Sm 1048576 NCU c) : Ev (fun n => spec_GoodNotify n c) (notifyB c) := by
  have hl1 : c.1.length ≤ 1048576 := h.1.1
  have hl2 : c.2.1.length ≤ 1048576 := h.2.1.1
  have routes : Ev (fun n => goRec spec_GoodNotify.step n (spec_GoodNotify.Pt.p38 c.1 (c.1.length : Int) 0 c.1 c.2.1 c.2.2.1 c.2.2.2.1)) (rmutesB c.2.1.length c.1) := by
    refine Ev.allN (pt := fun i : Nat => spec_GoodNotify.Pt.p38 c.1 (c.1.length : Int) (i : Int) c.1 c.2.1 c.2.2.1 c.2.2.2.1) (fun i hi => ?_) ?_
    · have hx := h.1.2 _ (getD_mem (d := default) hi)
      have hm : (c.1.getD i default).2.2.2.2.2.2.1.length ≤ 1048576 := hx.2.2.2.2.2.2.1.1
      have inner : ∀ b, (mutesOK c.2.1.length (c.1.getD i default).2.2.2.2.2.2.1 = true → Ev (fun n => goRec spec_GoodNotify.step n (spec_GoodNotify.Pt.p38 c.1 (c.1.length : Int) ((i + 1 : Nat) : Int) c.1 c.2.1 c.2.2.1 c.2.2.2.1)) b) → Ev (fun n => goRec spec_GoodNotify.step n (spec_GoodNotify.Pt.p38 c.1 (c.1.length : Int) (i : Int) c.1 c.2.1 c.2.2.1 c.2.2.2.1)) (mutesOK c.2.1.length (c.1.getD i default).2.2.2.2.2.2.1 && b) := by
        intro b hb
        refine Ev.step ?_
        simp only [spec_GoodNotify.step, toNat_cast]
        refine Ev.yes (lt_yes hi) (Ev.yes (inB_nat hi) ?_)
        refine Ev.allK (pt := fun j : Nat => spec_GoodNotify.Pt.p52 c.1 (c.1.length : Int) (i : Int) (c.1.getD i default).2.2.2.2.2.2.1 ((c.1.getD i default).2.2.2.2.2.2.1.length : Int) (j : Int) c.1 c.2.1 c.2.2.1 c.2.2.2.1) (fun j hj => ⟨fun hp v hv => ?_, fun hp => ?_⟩) (fun hp => ?_)
        · refine Ev.step ?_
          simp only [spec_GoodNotify.step, toNat_cast, i64_nat (show j ≤ 4611686018427387904 by omega)]
          exact Ev.yes (lt_yes hj) (Ev.yes (inB_nat hj) (Ev.no (by simpa using hp) hv))
        · refine Ev.step ?_
          simp only [spec_GoodNotify.step, toNat_cast]
          exact Ev.yes (lt_yes hj) (Ev.yes (inB_nat hj) (Ev.yes (by simpa using hp) Ev.pure))
        · refine Ev.step ?_
          simp only [spec_GoodNotify.step, i64_nat (show i ≤ 4611686018427387904 by omega)]
          exact Ev.no lt_no (hb hp)
      exact ⟨fun hp v hv => Ev.of_eq (inner v fun _ => hv) (by rw [hp]; rfl), fun hp => Ev.of_eq (inner false fun e => by rw [e] at hp; cases hp) (by rw [hp]; rfl)⟩
    · refine Ev.step ?_
      simp only [spec_GoodNotify.step]
      exact Ev.no lt_no Ev.pure
  have itvs : Ev (fun n => goRec spec_GoodNotify.step n (spec_GoodNotify.Pt.p15 c.2.1 (c.2.1.length : Int) 0 c.1 c.2.1 c.2.2.1 c.2.2.2.1)) (itvsB c.2.1 && rmutesB c.2.1.length c.1) := by
    refine Ev.allK (pt := fun i : Nat => spec_GoodNotify.Pt.p15 c.2.1 (c.2.1.length : Int) (i : Int) c.1 c.2.1 c.2.2.1 c.2.2.2.1) (fun i hi => ⟨fun hp v hv => ?_, fun hp => ?_⟩) (fun _ => ?_)
    · refine Ev.step ?_
      simp only [spec_GoodNotify.step, toNat_cast, i64_nat (show i ≤ 4611686018427387904 by omega)]
      exact Ev.yes (lt_yes hi) (Ev.yes (inB_nat hi) (Ev.bind (spec_GoodInterval.ev _ (h.2.1.2 _ (getD_mem hi))) (Ev.no (by rw [hp]; rfl) hv)))
    · refine Ev.step ?_
      simp only [spec_GoodNotify.step, toNat_cast]
      exact Ev.yes (lt_yes hi) (Ev.yes (inB_nat hi) (Ev.bind (spec_GoodInterval.ev _ (h.2.1.2 _ (getD_mem hi))) (Ev.yes (by rw [hp]; rfl) Ev.pure)))
    · refine Ev.step ?_
      simp only [spec_GoodNotify.step]
      exact Ev.no lt_no routes
  have p4 : ∀ b, b = !((routesB c.1 && silsB c.2.2.1 && inhsB c.2.2.2.1) && decide (c.2.1.length ≤ 20)) → Ev (fun n => goRec spec_GoodNotify.step n (spec_GoodNotify.Pt.p4 b c.1 c.2.1 c.2.2.1 c.2.2.2.1)) (notifyB c) := by
    rintro b rfl
    refine Ev.step ?_
    simp only [spec_GoodNotify.step]
    refine Ev.cnd (fun e => Ev.pure' ?_) fun e => ?_
    · rw [Bool.not_eq_true'] at e
      rw [notifyB, e]; rfl
    · rw [Bool.not_eq_false'] at e
      exact Ev.of_eq itvs (by rw [notifyB, e, Bool.true_and])
  refine Ev.step ?_
  simp only [spec_GoodNotify.step]
  refine Ev.bind (spec_GoodRoutes.ev _ h.1) (Ev.cnd (fun e => p4 _ (by rw [Bool.not_eq_true'] at e; rw [e]; rfl)) fun e1 => Ev.bind (spec_GoodSilences.ev _ h.2.2.1) (Ev.cnd (fun e => p4 _ (by rw [Bool.not_eq_true'] at e; rw [e]; simp)) fun e2 => Ev.bind (spec_GoodInhibits.ev _ h.2.2.2.1) (Ev.cnd (fun e => p4 _ (by rw [Bool.not_eq_true'] at e; rw [e]; simp)) fun e3 => p4 _ ?_)))
  rw [Bool.not_eq_false'] at e1 e2 e3
  rw [e1, e2, e3]
  by_cases hq : c.2.1.length ≤ 20
  · simp [hq]; omega
  · simp [hq]; omega
theorem spec_l19Leap.ev (y : Int) (h : 0 ≤ y) : Ev (fun n => spec_l19Leap n y) (decide (lp y = 1)) := by
  refine Ev.step ?_
  simp only [spec_l19Leap.step]
  rw [Int.tmod_eq_emod_of_nonneg h, Int.tmod_eq_emod_of_nonneg h, Int.tmod_eq_emod_of_nonneg h]
  refine Ev.cnd (fun c => Ev.cnd (fun c2 => Ev.pure' ?_) fun c2 => Ev.pure' ?_) fun c => Ev.pure' ?_ <;> simp at * <;> simp [lp, *]
theorem spec_l19Year.ev (y : Int) (h : 0 ≤ y) : Ev (fun n => spec_l19Year n y) (yl y) := by
  refine Ev.step ?_
  simp only [spec_l19Year.step]
  have hl := lp_01 y
  refine Ev.bind (spec_l19Leap.ev y h) (Ev.cnd (fun c => Ev.pure' (α := Int) ?_) fun c => Ev.pure' (α := Int) ?_)
  · have := of_decide_eq_true c; simp only [yl]; omega
  · have := of_decide_eq_false c; simp only [yl]; omega
theorem spec_l19Month.ev (y m : Int) (h : 0 ≤ y) (h1 : 1 ≤ m) (h2 : m ≤ 12) : Ev (fun n => spec_l19Month n y m) (mon y m) := by
  refine Ev.step ?_
  simp only [spec_l19Month.step]
  have hin : inB m (List.length [(0 : Int), (31 : Int), (28 : Int), (31 : Int), (30 : Int), (31 : Int), (30 : Int), (31 : Int), (31 : Int), (30 : Int), (31 : Int), (30 : Int), (31 : Int)]) = true := by simp [inB]; omega
  have hl := lp_01 y
  refine Ev.cnd (fun c => Ev.bind (spec_l19Leap.ev y h) (Ev.cnd (fun c2 => Ev.pure' ?_) fun c2 => Ev.yes hin (Ev.pure' ?_))) fun c => Ev.yes hin (Ev.pure' ?_)
  · simp at c c2; simp [mon, c, c2]
  · have c2 := of_decide_eq_false c2
    have c := of_decide_eq_true c
    subst c
    have h0 : lp y = 0 := by omega
    simp [mon, h0]
  · simp at c
    have hm : m = 1 ∨ m = 3 ∨ m = 4 ∨ m = 5 ∨ m = 6 ∨ m = 7 ∨ m = 8 ∨ m = 9 ∨ m = 10 ∨ m = 11 ∨ m = 12 := by omega
    rcases hm with rfl | rfl | rfl | rfl | rfl | rfl | rfl | rfl | rfl | rfl | rfl <;> simp [mon]
theorem spec_DateOf.months (y m n w mi : Int) (hy : 0 ≤ y) (h1 : 1 ≤ m) (h2 : m ≤ 12) (hn : 0 ≤ n) (hn' : n < 400) (hm : cumd y m ≤ n) (hm' : n < cumd y m + mon y m) (d : Nat) : ∀ i : Int, 1 ≤ i → i ≤ m → (m - i).toNat ≤ d →
    Ev (fun k => goRec spec_DateOf.step k (spec_DateOf.Pt.p32 (n - cumd y i) 0 0 0 0 0 0 y i 0 0 w mi)) ((y, m, n - cumd y m + 1, mon y m, w, mi, ()) : DTE) := by
  induction d with
  | zero =>
    intro i hi hi' hd
    obtain rfl : i = m := by omega
    have hc := cumd_nn y i
    refine Ev.step ?_
    simp only [spec_DateOf.step]
    refine Ev.bind (spec_l19Month.ev y i hy h1 h2) (Ev.no (decide_eq_false (by omega)) (Ev.bind (spec_l19Month.ev y i hy h1 h2) ?_))
    rw [w64 (n := n - cumd y i + 1) (by omega) (by omega)]
    exact Ev.pure
  | succ d ih =>
    intro i hi hi' hd
    have hc := cumd_nn y i
    refine Ev.step ?_
    simp only [spec_DateOf.step]
    by_cases c : i = m
    · subst c
      refine Ev.bind (spec_l19Month.ev y i hy h1 h2) (Ev.no (decide_eq_false (by omega)) (Ev.bind (spec_l19Month.ev y i hy h1 h2) ?_))
      rw [w64 (n := n - cumd y i + 1) (by omega) (by omega)]
      exact Ev.pure
    · have hlt := mon_lt y m i n hi (by omega) h2 hm
      have hs := cumd_succ y i hi (by omega)
      have hb := mon_bd y i
      have e := ih (i + 1) (by omega) (by omega) (by omega)
      rw [hs, show n - (cumd y i + mon y i) = n - cumd y i - mon y i by omega] at e
      refine Ev.bind (spec_l19Month.ev y i hy hi (by omega)) (Ev.yes (decide_eq_true (by omega)) (Ev.bind (spec_l19Month.ev y i hy hi (by omega)) ?_))
      rw [w64 (n := n - cumd y i - mon y i) (by omega) (by omega), w64 (n := i + 1) (by omega) (by omega)]
      exact e
theorem spec_DateOf.years (day y w mi : Int) (r : DTE) (hd0 : 0 ≤ day) (hd1 : day ≤ 20000000) (hy : 1970 ≤ y) (h1 : dto y ≤ day) (h2 : day < dto (y + 1)) (e : Ev (fun k => goRec spec_DateOf.step k (spec_DateOf.Pt.p32 (day - dto y) 0 0 0 0 0 0 y 1 0 0 w mi)) r) (d : Nat) : ∀ i : Int, 1970 ≤ i → i ≤ y → (y - i).toNat ≤ d →
    Ev (fun k => goRec spec_DateOf.step k (spec_DateOf.Pt.p19 (day - dto i) 0 0 0 0 0 0 i 1 0 0 w mi)) r := by
  induction d with
  | zero =>
    intro i hi hi' hd
    obtain rfl : i = y := by omega
    have hs := dto_succ i
    refine Ev.step ?_
    simp only [spec_DateOf.step]
    exact Ev.bind (spec_l19Year.ev i (by omega)) (Ev.no (decide_eq_false (by omega)) e)
  | succ d ih =>
    intro i hi hi' hd
    have hs := dto_succ i
    refine Ev.step ?_
    simp only [spec_DateOf.step]
    by_cases c : i = y
    · subst c
      exact Ev.bind (spec_l19Year.ev i (by omega)) (Ev.no (decide_eq_false (by omega)) e)
    · have hl := dto_lt (i + 1) y (by omega)
      have hb := dto_bd i hi
      have hly := lp_01 i
      have hyl : yl i = 365 + lp i := rfl
      have e2 := ih (i + 1) (by omega) (by omega) (by omega)
      rw [hs, show day - (dto i + yl i) = day - dto i - yl i by omega] at e2
      have hb2 := dto_bd y (by omega)
      refine Ev.bind (spec_l19Year.ev i (by omega)) (Ev.yes (decide_eq_true (by omega)) (Ev.bind (spec_l19Year.ev i (by omega)) ?_))
      rw [w64 (n := day - dto i - yl i) (by omega) (by omega), w64 (n := i + 1) (by omega) (by omega)]
      exact e2
theorem spec_DateOf.ev (t z : Int) (hz : -9223372036854775808 ≤ z ∧ z ≤ 9223372036854775807) : Ev (fun n => spec_DateOf n t z) (dateV t z) := by
  have bad : dateIn t z = false → Ev (fun n => goRec spec_DateOf.step n (spec_DateOf.Pt.p4 t z true 0 0 0 0 0 0)) (dateV t z) := by
    intro h
    refine Ev.step ?_
    simp only [spec_DateOf.step]
    exact Ev.yes rfl (Ev.pure' (by simp [dateV, h] <;> rfl))
  refine Ev.step ?_
  simp only [spec_DateOf.step]
  refine Ev.bind (spec_l3Time.ev t) (Ev.cnd (fun c => bad (by simp at c; simp [dateIn, c])) fun c1 => Ev.cnd (fun c => bad (by have c := of_decide_eq_true c; simp [dateIn, show ¬ -1440 ≤ z by omega])) fun c2 => Ev.cnd (fun c => bad (by have c := of_decide_eq_true c; simp [dateIn, show ¬ z ≤ 1440 by omega])) fun c3 => ?_)
  replace c2 := of_decide_eq_false c2; replace c3 := of_decide_eq_false c3
  have ht : 0 ≤ t ∧ t ≤ 1000000000000 := by simp [timeB] at c1; exact c1
  have hT : timeB t = true := by simpa using c1
  rw [w64 (n := 60 * z) (by omega) (by omega), w64 (n := t + 60 * z) (by omega) (by omega)]
  by_cases c4 : t + 60 * z < 0
  · rw [decide_eq_true c4]; exact bad (by simp [dateIn, show ¬ 0 ≤ t + 60 * z by omega])
  rw [decide_eq_false c4]
  have hin : dateIn t z = true := by simp [dateIn, hT]; omega
  rw [dateV, if_pos hin]
  refine Ev.step ?_
  simp only [spec_DateOf.step]
  rw [w64 (n := 60 * z) (by omega) (by omega), w64 (n := t + 60 * z) (by omega) (by omega), Int.tdiv_eq_ediv_of_nonneg (show 0 ≤ t + 60 * z by omega), w64 (n := (t + 60 * z) / 60) (by omega) (by omega), Int.tdiv_eq_ediv_of_nonneg (show 0 ≤ (t + 60 * z) / 60 by omega), w64 (n := (t + 60 * z) / 60 / 1440) (by omega) (by omega),
    w64 (n := (t + 60 * z) / 60 / 1440 + 4) (by omega) (by omega), Int.tmod_eq_emod_of_nonneg (show 0 ≤ (t + 60 * z) / 60 / 1440 + 4 by omega), Int.tmod_eq_emod_of_nonneg (show 0 ≤ (t + 60 * z) / 60 by omega), show (t + 60 * z) / 60 / 1440 = (t + 60 * z) / 86400 by omega]
  generalize hday : (t + 60 * z) / 86400 = day
  have hday0 : 0 ≤ day := by omega
  have hday1 : day ≤ 20000000 := by omega
  obtain ⟨hy, hy1, hy2⟩ := yearOf_spec day hday0
  have hs := dto_succ (yearOf day)
  have hlp := lp_01 (yearOf day)
  have hyl : yl (yearOf day) = 365 + lp (yearOf day) := rfl
  obtain ⟨hm1, hm2, hm3, hm4⟩ := monthOf_spec (yearOf day) (day - dto (yearOf day)) (by omega) (by omega)
  have e := spec_DateOf.months (yearOf day) (monthOf (yearOf day) (day - dto (yearOf day))) (day - dto (yearOf day)) ((day + 4) % 7) ((t + 60 * z) / 60 % 1440) (by omega) hm1 hm2 (by omega) (by omega) hm3 hm4 12 1 (by omega) hm1 (by omega)
  rw [show cumd (yearOf day) 1 = 0 by simp [cumd], Int.sub_zero] at e
  have e2 := spec_DateOf.years day (yearOf day) _ _ _ hday0 hday1 hy hy1 hy2 e (yearOf day - 1970).toNat 1970 (by omega) hy (by omega)
  rw [dto_1970, Int.sub_zero] at e2
  exact Ev.no rfl e2
theorem spec_l19In.ev (l : List RG) (x : Int) (hl : l.length ≤ 1048576) : Ev (fun n => spec_l19In n l x) (inRB l x) := by
  have go : ∀ d i b, i + d = l.length → Ev (fun n => goRec spec_l19In.step n (spec_l19In.Pt.p9 x b l (l.length : Int) (i : Int))) (b || (List.range' i d).any fun i => decide ((l.getD i default).1 ≤ x) && decide (x ≤ (l.getD i default).2.1)) := by
    intro d
    induction d with
    | zero =>
      intro i b h
      rw [Nat.add_zero] at h; subst h
      refine Ev.step ?_
      simp only [spec_l19In.step]
      exact Ev.no lt_no (Ev.pure' (by simp))
    | succ d ih =>
      intro i b h
      rw [List.range'_succ, List.any_cons]
      have ih' := fun b => ih (i + 1) b (by omega)
      generalize ((List.range' (i + 1) d).any fun i => decide ((l.getD i default).1 ≤ x) && decide (x ≤ (l.getD i default).2.1)) = v at ih'
      refine Ev.step ?_
      simp only [spec_l19In.step, toNat_cast, i64_nat (show i ≤ 4611686018427387904 by omega)]
      generalize l.getD i default = r
      refine Ev.yes (lt_yes (by omega)) (Ev.yes (inB_nat (by omega)) (Ev.cnd (fun c => Ev.of_eq (ih' _) ?_) fun c => Ev.cnd (fun c2 => Ev.of_eq (ih' _) ?_) fun c2 => Ev.of_eq (ih' _) ?_))
      · simp [c]
      · simp [c, of_decide_eq_true c2]
      · simp [c, of_decide_eq_false c2]
  refine Ev.step ?_
  simp only [spec_l19In.step]
  have := go l.length 0 (decide (l.length = 0)) (by omega)
  rw [← List.range_eq_range'] at this
  have e : decide ((l.length : Int) = 0) = decide (l.length = 0) := decide_eq_decide.2 (by omega)
  rw [e]
  exact this
theorem spec_DayNumber.months (y m : Int) (hy : 0 ≤ y) (hm : m ≤ 12) (h1m : 1 ≤ m) (d : Nat) : ∀ (n i : Int), 1 ≤ i → i ≤ m → (m - i).toNat ≤ d → 0 ≤ n → n ≤ 100000000 + 31 * i → Ev (fun k => goRec spec_DayNumber.step k (spec_DayNumber.Pt.p32 y m n i)) (n + cumd y m - cumd y i) := by
  induction d with
  | zero =>
    intro n i h1 hi hd h0 hn
    obtain rfl : i = m := by omega
    refine Ev.step ?_
    simp only [spec_DayNumber.step]
    exact Ev.no (by simp) (Ev.pure' (α := Int) (by omega))
  | succ d ih =>
    intro n i h1 hi hd h0 hn
    refine Ev.step ?_
    simp only [spec_DayNumber.step]
    by_cases c : i < m
    · have hb := mon_bd y i
      have hc := cumd_succ y i h1 (by omega)
      refine Ev.yes (by simpa using c) (Ev.bind (spec_l19Month.ev y i hy h1 (by omega)) ?_)
      rw [w64 (n := n + mon y i) (by omega) (by omega), w64 (n := i + 1) (by omega) (by omega)]
      exact Ev.of_eq (α := Int) (ih (n + mon y i) (i + 1) (by omega) (by omega) (by omega) (by omega) (by omega)) (by omega)
    · obtain rfl : i = m := by omega
      exact Ev.no (by simp) (Ev.pure' (α := Int) (by omega))
theorem spec_DayNumber.years (y m : Int) (hy : 1970 ≤ y) (hy' : y ≤ 40000) (hm : m ≤ 12) (h1m : 1 ≤ m) (d : Nat) : ∀ (n i : Int), 1970 ≤ i → i ≤ y → (y - i).toNat ≤ d → 0 ≤ n → n ≤ 32 + 366 * (i - 1970) → Ev (fun k => goRec spec_DayNumber.step k (spec_DayNumber.Pt.p17 y m n i)) (n + dto y - dto i + cumd y m) := by
  induction d with
  | zero =>
    intro n i h1 hi hd h0 hn
    obtain rfl : i = y := by omega
    refine Ev.step ?_
    simp only [spec_DayNumber.step]
    refine Ev.no (by simp) (Ev.of_eq (α := Int) (spec_DayNumber.months i m (by omega) hm h1m (m - 1).toNat n 1 (by omega) h1m (by omega) h0 (by omega)) (by simp [cumd]))
  | succ d ih =>
    intro n i h1 hi hd h0 hn
    refine Ev.step ?_
    simp only [spec_DayNumber.step]
    by_cases c : i < y
    · have hl := lp_01 i
      have hyl : yl i = 365 + lp i := rfl
      have hs := dto_succ i
      refine Ev.yes (by simpa using c) (Ev.bind (spec_l19Year.ev i (by omega)) ?_)
      rw [w64 (n := n + yl i) (by omega) (by omega), w64 (n := i + 1) (by omega) (by omega)]
      exact Ev.of_eq (α := Int) (ih (n + yl i) (i + 1) (by omega) (by omega) (by omega) (by omega) (by omega)) (by omega)
    · obtain rfl : i = y := by omega
      refine Ev.no (by simp) (Ev.of_eq (α := Int) (spec_DayNumber.months i m (by omega) hm h1m (m - 1).toNat n 1 (by omega) h1m (by omega) h0 (by omega)) (by simp [cumd]))
theorem spec_DayNumber.ev (y m d : Int) : Ev (fun n => spec_DayNumber n y m d) (dayV y m d) := by
  have bad : dayIn y m d = false → Ev (fun n => goRec spec_DayNumber.step n (spec_DayNumber.Pt.p4 y m d true)) (dayV y m d) := by
    intro h
    refine Ev.step ?_
    simp only [spec_DayNumber.step]
    exact Ev.yes rfl (Ev.pure' (by simp [dayV, h]))
  refine Ev.step ?_
  simp only [spec_DayNumber.step]
  refine Ev.cnd (fun c => bad (by have := of_decide_eq_true c; simp [dayIn]; omega)) fun c1 => Ev.cnd (fun c => bad (by have := of_decide_eq_true c; simp [dayIn]; omega)) fun c2 => Ev.cnd (fun c => bad (by have := of_decide_eq_true c; simp [dayIn]; omega)) fun c3 => Ev.cnd (fun c => bad (by have := of_decide_eq_true c; simp [dayIn]; omega)) fun c4 => Ev.cnd (fun c => bad (by have := of_decide_eq_true c; simp [dayIn]; omega)) fun c5 => ?_
  replace c1 := of_decide_eq_false c1; replace c2 := of_decide_eq_false c2; replace c3 := of_decide_eq_false c3; replace c4 := of_decide_eq_false c4; replace c5 := of_decide_eq_false c5
  refine Ev.bind (spec_l19Month.ev y m (by omega) (by omega) (by omega)) ?_
  have hb := mon_bd y m
  by_cases c6 : mon y m < d
  · rw [decide_eq_true c6]; exact bad (by simp [dayIn]; omega)
  · rw [decide_eq_false c6]
    have hin : dayIn y m d = true := by simp [dayIn]; omega
    refine Ev.step ?_
    simp only [spec_DayNumber.step]
    rw [w64 (n := d - 1) (by omega) (by omega)]
    refine Ev.no rfl (Ev.of_eq (α := Int) (spec_DayNumber.years y m (by omega) (by omega) (by omega) (by omega) (y - 1970).toNat (d - 1) 1970 (by omega) (by omega) (by omega) (by omega) (by omega)) ?_)
    rw [dayV, if_pos hin, dto_1970]; omega
theorem spec_l9In.ev (l : List Int) (x : Int) (hl : l.length ≤ 1048576) : Ev (fun n => spec_l9In n l x) (inIB l x) := by
  have go : ∀ d i, i + d = l.length → Ev (fun n => goRec spec_l9In.step n (spec_l9In.Pt.p7 x l (l.length : Int) (i : Int))) ((List.range' i d).any fun i => decide (l.getD i default = x)) := by
    intro d
    induction d with
    | zero =>
      intro i h
      rw [Nat.add_zero] at h; subst h
      refine Ev.step ?_
      simp only [spec_l9In.step]
      exact Ev.no lt_no (Ev.pure' (by simp))
    | succ d ih =>
      intro i h
      rw [List.range'_succ, List.any_cons]
      refine Ev.step ?_
      simp only [spec_l9In.step, toNat_cast, i64_nat (show i ≤ 4611686018427387904 by omega)]
      refine Ev.yes (lt_yes (by omega)) (Ev.yes (inB_nat (by omega)) (Ev.cnd (fun c => Ev.pure' (by rw [c]; rfl)) fun c => Ev.of_eq (ih (i + 1) (by omega)) (by rw [c]; rfl)))
  refine Ev.step ?_
  simp only [spec_l9In.step]
  have := go l.length 0 (by omega)
  rw [← List.range_eq_range'] at this
  exact this
theorem spec_InInterval.ev (x : ITV) (t : Int) (h : Sm 1048576 ITU x) (hz : -9223372036854775808 ≤ x.1 ∧ x.1 ≤ 9223372036854775807) : Ev (fun n => spec_InInterval n x t) (inItvB x t) := by
  have h4 : ∀ b, b = !(itvB x && timeB t) → Ev (fun n => goRec spec_InInterval.step n (spec_InInterval.Pt.p4 t b x.1 x.2.1 x.2.2.1 x.2.2.2.1 x.2.2.2.2.1 x.2.2.2.2.2.1 x.2.2.2.2.2.2.1)) (inItvB x t) := by
    rintro b rfl
    refine Ev.step ?_
    simp only [spec_InInterval.step]
    refine Ev.cnd (fun c => Ev.pure' (by rw [Bool.not_eq_true'] at c; rw [inItvB, c]; rfl)) fun c => ?_
    rw [Bool.not_eq_false'] at c
    refine Ev.bind (spec_DateOf.ev t x.1 hz) ?_
    generalize hD : dateV t x.1 = D
    simp only [inItvB, c, hD, Bool.true_and]
    refine Ev.cnd (fun c => Ev.pure' (by rw [c]; rfl)) fun c1 => ?_
    rw [c1, Bool.not_false, Bool.true_and]
    have h21 : ∀ b, b = (inRB x.2.2.2.1 D.2.2.1 || inRB x.2.2.2.1 (IntKind.wrap .i64 ((IntKind.wrap .i64 (D.2.2.1 - D.2.2.2.1)) - (1 : Int)))) → Ev (fun n => goRec spec_InInterval.step n (spec_InInterval.Pt.p21 b x.1 x.2.1 x.2.2.1 x.2.2.2.1 x.2.2.2.2.1 x.2.2.2.2.2.1 x.2.2.2.2.2.2.1 D.1 D.2.1 D.2.2.1 D.2.2.2.1 D.2.2.2.2.1 D.2.2.2.2.2.1))
        (inRB x.2.1 D.2.2.2.2.2.1 && inRB x.2.2.1 D.2.2.2.2.1 && (inRB x.2.2.2.1 D.2.2.1 || inRB x.2.2.2.1 (IntKind.wrap .i64 ((IntKind.wrap .i64 (D.2.2.1 - D.2.2.2.1)) - (1 : Int)))) && inRB x.2.2.2.2.1 D.2.1 && inRB x.2.2.2.2.2.1 D.1 && !inIB x.2.2.2.2.2.2.1 (dayV D.1 D.2.1 D.2.2.1)) := by
      intro b hb
      rw [← hb]
      refine Ev.step ?_
      simp only [spec_InInterval.step]
      refine Ev.cnd (fun c2 => ?_) fun c => Ev.pure' (by rw [c]; simp)
      rw [c2, Bool.and_true]
      refine Ev.bind (spec_l19In.ev _ _ h.2.1.1) (Ev.cnd (fun c3 => ?_) fun c => Ev.pure' (by rw [c]; rfl))
      refine Ev.bind (spec_l19In.ev _ _ h.2.2.1.1) (Ev.cnd (fun c4 => ?_) fun c => Ev.pure' (by rw [c]; simp))
      refine Ev.bind (spec_l19In.ev _ _ h.2.2.2.2.1.1) (Ev.cnd (fun c5 => ?_) fun c => Ev.pure' (by rw [c]; simp))
      refine Ev.bind (spec_l19In.ev _ _ h.2.2.2.2.2.1.1) (Ev.cnd (fun c6 => ?_) fun c => Ev.pure' (by rw [c]; simp))
      exact Ev.bind (spec_DayNumber.ev _ _ _) (Ev.bind (spec_l9In.ev _ _ h.2.2.2.2.2.2.1.1) (Ev.pure' (by rw [c3, c4, c5, c6]; simp)))
    refine Ev.cnd (fun c => h21 _ ?_) fun c => Ev.bind (spec_l19In.ev _ _ h.2.2.2.1.1) (Ev.cnd (fun c2 => h21 _ (by rw [c2]; rfl)) fun c2 => Ev.bind (spec_l19In.ev _ _ h.2.2.2.1.1) (h21 _ (by rw [c2]; rfl)))
    have c := of_decide_eq_true c
    simp [inRB, show x.2.2.2.1.length = 0 by omega]
  refine Ev.step ?_
  simp only [spec_InInterval.step]
  refine Ev.bind (spec_GoodInterval.ev x h) (Ev.cnd (fun c => h4 _ (by rw [Bool.not_eq_true'] at c; rw [c]; rfl)) fun c => Ev.bind (spec_l3Time.ev t) (h4 _ ?_))
  rw [Bool.not_eq_false'] at c; rw [c]; rfl
theorem spec_l21Muted.ev (c : NCE) (r t : Int) (h : Sm 1048576 NCU c) (hw : Wf NCU c) (hr : 0 ≤ r ∧ r < (c.1.length : Int)) (hn : notifyB c = true) : Ev (fun n => spec_l21Muted n c r t) (mutedB c (c.1.getD r.toNat default).2.2.2.2.2.2.1 t) := by
  have hi : r.toNat < c.1.length := by omega
  have hm : (c.1.getD r.toNat default).2.2.2.2.2.2.1.length ≤ 1048576 := (h.1.2 _ (getD_mem (d := default) hi)).2.2.2.2.2.2.1.1
  refine Ev.step ?_
  simp only [spec_l21Muted.step]
  refine Ev.yes (inB_of hr) ?_
  refine Ev.anyN (pt := fun j : Nat => spec_l21Muted.Pt.p7 t (c.1.getD r.toNat default).2.2.2.2.2.2.1 ((c.1.getD r.toNat default).2.2.2.2.2.2.1.length : Int) (j : Int) c.1 c.2.1 c.2.2.1 c.2.2.2.1) (fun j hj => ?_) ?_
  · have hin := mutes_in hn hi hj
    have hlt : ((c.1.getD r.toNat default).2.2.2.2.2.2.1.getD j default).toNat < c.2.1.length := by omega
    have call := spec_InInterval.ev (c.2.1.getD ((c.1.getD r.toNat default).2.2.2.2.2.2.1.getD j default).toNat default) t (h.2.1.2 _ (getD_mem hlt)) (wf_i64 (hw.2.1.2 _ (getD_mem hlt)).1)
    refine ⟨fun hp v hv => ?_, fun hp => ?_⟩
    · refine Ev.step ?_
      simp only [spec_l21Muted.step, toNat_cast, i64_nat (show j ≤ 4611686018427387904 by omega)]
      exact Ev.yes (lt_yes hj) (Ev.yes (inB_nat hj) (Ev.yes (inB_of hin) (Ev.bind call (Ev.no hp hv))))
    · refine Ev.step ?_
      simp only [spec_l21Muted.step, toNat_cast]
      exact Ev.yes (lt_yes hj) (Ev.yes (inB_nat hj) (Ev.yes (inB_of hin) (Ev.bind call (Ev.yes hp Ev.pure))))
  · refine Ev.step ?_
    simp only [spec_l21Muted.step]
    exact Ev.no lt_no Ev.pure
theorem spec_MutedAt.ev (c : NCE) (r t : Int) (h : Sm 1048576 NCU c) (hw : Wf NCU c) : Ev (fun n => spec_MutedAt n c r t) (mutedAtB c r t) := by
  refine Ev.step ?_
  simp only [spec_MutedAt.step]
  refine Ev.bind (spec_GoodNotify.ev c h) (Ev.cnd (fun e1 => Ev.cnd (fun e2 => Ev.cnd (fun e3 => Ev.bind (spec_l3Time.ev _) (Ev.cnd (fun e4 => ?_) fun e => Ev.pure' ?_)) fun e => Ev.pure' ?_) fun e => Ev.pure' ?_) fun e => Ev.pure' ?_)
  · refine Ev.bind (spec_l21Muted.ev c r t h hw ⟨by simpa using e2, by simpa using e3⟩ e1) (Ev.pure' ?_)
    rw [mutedAtB, e1, e2, e3, e4]; rfl
  · rw [mutedAtB, e]; simp
  · rw [mutedAtB, e]; simp
  · rw [mutedAtB, e]; simp
  · rw [mutedAtB, e]; rfl
theorem impl_depths_1.ev (l : List RTE) (hl : l.length ≤ 40) : ∀ d (deep : Nat) (out : List Int), deep + d = 8 → out.length ≤ l.length →
    EvP (fun n => impl_depths_1 n (deep : Int) out l ()) (fun r => match nodeN l smallB d out.length with | some q => r.1 = true ∧ r.2.length = q | none => r.1 = false) := by
  intro d
  induction d with
  | zero =>
    intro deep out hd ho
    have fin : ∀ b, b = true → EvP (fun n => goRec (fun n K => impl_depths_1.step n (fun x => K (.p0 x.1 x.2.1 x.2.2.1 x.2.2.2.1)) K) n (impl_depths_1.Pt.p4 (deep : Int) b l out)) (fun r => match nodeN l smallB 0 out.length with | some q => r.1 = true ∧ r.2.length = q | none => r.1 = false) := by
      rintro b rfl
      refine EvP.step ?_
      simp only [impl_depths_1.step]
      exact EvP.yes rfl (EvP.pure rfl)
    refine EvP.step ?_
    simp only [impl_depths_1.step]
    exact EvP.cnd (fun _ => fin _ rfl) fun _ => fin _ (by simp only [decide_eq_true_eq]; omega)
  | succ d ih =>
    intro deep out hd ho
    refine EvP.step ?_
    simp only [impl_depths_1.step]
    refine EvP.cnd (fun c => ?_) fun c => ?_
    · have c : out.length = l.length := by have := of_decide_eq_true c; omega
      refine EvP.step ?_
      simp only [impl_depths_1.step]
      refine EvP.yes rfl (EvP.pure ?_)
      rw [nodeN, if_neg (by simp; omega)]
    have hlt : out.length < l.length := by have := of_decide_eq_false c; omega
    rw [show decide ((8 : Int) ≤ (deep : Int)) = false by simp only [decide_eq_false_iff_not]; omega]
    refine EvP.step ?_
    simp only [impl_depths_1.step, toNat_cast]
    refine EvP.no rfl (EvP.yes (inB_nat hlt) (EvP.yes (room_ok (by simp; omega)) ?_))
    have bad : ∀ b, b = true → (decide (0 ≤ kidsOf l out.length) && smallB (l.getD out.length default)) = false → EvP (fun n => goRec (fun n K => impl_depths_1.step n (fun x => K (.p0 x.1 x.2.1 x.2.2.1 x.2.2.2.1)) K) n (impl_depths_1.Pt.p16 (deep : Int) (kidsOf l out.length) b l (out ++ [(deep : Int)]))) (fun r => match nodeN l smallB (d + 1) out.length with | some q => r.1 = true ∧ r.2.length = q | none => r.1 = false) := by
      rintro b rfl hb
      refine EvP.step ?_
      simp only [impl_depths_1.step]
      refine EvP.yes rfl (EvP.pure ?_)
      rw [nodeN, if_neg (by rw [Bool.and_assoc, hb]; simp)]
    refine EvP.cnd (fun c => bad _ rfl ?_) fun c => ?_
    · rw [show decide (0 ≤ kidsOf l out.length) = false from decide_eq_false (Int.not_le.mpr (of_decide_eq_true c))]; rfl
    have k0 : 0 ≤ kidsOf l out.length := by have := of_decide_eq_false c; simp only [kidsOf]; omega
    by_cases hs : smallB (l.getD out.length default) = true
    case neg =>
      rw [Bool.not_eq_true] at hs
      refine bad _ ?_ (by rw [hs]; simp)
      simp only [smallB, decide_eq_false_iff_not] at hs
      simp only [decide_eq_true_eq]; omega
    have hk : kidsOf l out.length ≤ 40 := of_decide_eq_true hs
    rw [show decide ((40 : Int) < (l.getD out.length default).2.2.2.2.2.2.2.2.1) = false from decide_eq_false (Int.not_lt.mpr hk)]
    refine EvP.step ?_
    simp only [impl_depths_1.step]
    refine EvP.no rfl ?_
    rw [nodeN, if_pos (by rw [decide_eq_true hlt, decide_eq_true k0, hs]; rfl)]
    obtain ⟨m, hm⟩ : ∃ m : Nat, kidsOf l out.length = (m : Int) := ⟨(kidsOf l out.length).toNat, by omega⟩
    have key : ∀ e i (o : List Int), i + e = m → o.length ≤ l.length → EvP (fun n => goRec (fun n K => impl_depths_1.step n (fun x => K (.p0 x.1 x.2.1 x.2.2.1 x.2.2.2.1)) K) n (impl_depths_1.Pt.p27 (deep : Int) (m : Int) (i : Int) l o)) (fun r => match manyN (nodeN l smallB d) e o.length with | some q => r.1 = true ∧ r.2.length = q | none => r.1 = false) := by
      intro e
      induction e with
      | zero =>
        intro i o hi ho
        obtain rfl : i = m := by omega
        refine EvP.step ?_
        simp only [impl_depths_1.step]
        exact EvP.no lt_no (EvP.pure ⟨rfl, rfl⟩)
      | succ e ihe =>
        intro i o hi ho
        refine EvP.step ?_
        simp only [impl_depths_1.step, i64_nat (show i ≤ 4611686018427387904 by omega), i64_nat (show deep ≤ 4611686018427387904 by omega)]
        refine EvP.yes (lt_yes (by omega)) (EvP.bindP (ih (deep + 1) o (by omega) ho) fun r hr => ?_)
        simp only [manyN]
        cases hn : nodeN l smallB d o.length with
        | none =>
          rw [hn] at hr
          exact EvP.yes (by rw [hr]; rfl) (EvP.pure rfl)
        | some q =>
          rw [hn] at hr
          obtain ⟨r1, r2⟩ := hr
          refine EvP.no (by rw [r1]; rfl) ?_
          have := ihe (i + 1) r.2 (by omega) (by rw [r2]; exact (nodeN_lt _ _ _ hn).2)
          rw [r2] at this
          exact this
    have := key m 0 (out ++ [(deep : Int)]) (by omega) (by simp; omega)
    rw [show (out ++ [(deep : Int)]).length = out.length + 1 by simp] at this
    rw [hm]
    have hm2 : (l.getD out.length default).2.2.2.2.2.2.2.2.1 = (m : Int) := hm
    rw [hm2]
    exact this
theorem impl_depths.ev (l : List RTE) : EvP (fun n => impl_depths n l) (fun r => r.isEmpty = !(decide (l.length ≠ 0) && decide (l.length ≤ 40) && decide (nodeN l smallB 8 0 = some l.length))) := by
  refine EvP.step ?_
  simp only [impl_depths.step]
  refine EvP.cnd (fun c => ?_) fun c => ?_
  · have c : l.length = 0 := by have := of_decide_eq_true c; omega
    refine EvP.step ?_
    simp only [impl_depths.step]
    exact EvP.yes rfl (EvP.pure (by simp [c]))
  have h0 : l.length ≠ 0 := by have := of_decide_eq_false c; omega
  refine EvP.step ?_
  simp only [impl_depths.step]
  refine EvP.cnd (fun c => EvP.pure ?_) fun c => ?_
  · have : ¬ l.length ≤ 40 := by have := of_decide_eq_true c; omega
    simp [this]
  have h40 : l.length ≤ 40 := by have := of_decide_eq_false c; omega
  refine EvP.bindP (impl_depths_1.ev l h40 8 0 [] rfl (by simp)) fun r hr => ?_
  simp only [List.length_nil] at hr
  cases hn : nodeN l smallB 8 0 with
  | none =>
    rw [hn] at hr
    exact EvP.yes (by rw [hr]; rfl) (EvP.pure (by simp))
  | some q =>
    rw [hn] at hr
    obtain ⟨r1, r2⟩ := hr
    refine EvP.no (by rw [r1]; rfl) (EvP.cnd (fun c => EvP.pure ?_) fun c => EvP.pure ?_)
    · rw [Bool.not_eq_true'] at c
      have c := of_decide_eq_false c
      have : q ≠ l.length := by omega
      simp [this]
    · rw [Bool.not_eq_false'] at c
      have c := of_decide_eq_true c
      have e : q = l.length := by omega
      have : r.2.isEmpty = false := by
        cases hr2 : r.2 with
        | nil => rw [hr2] at r2; simp at r2; omega
        | cons x y => rfl
      rw [this]
      simp [h0, h40, e]
theorem impl_digitByte.ev (b : Int) : Ev (fun n => impl_digitByte n b) (digitB b) := by
  refine Ev.step ?_
  simp only [impl_digitByte.step]
  exact Ev.cnd (fun h => Ev.pure' (by simp [digitB, h])) fun h => Ev.pure' (by simp [digitB, h])
theorem impl_letterByte.ev (b : Int) : Ev (fun n => impl_letterByte n b) (letterB b) := by
  refine Ev.step ?_
  simp only [impl_letterByte.step]
  refine Ev.cnd (fun h => Ev.cnd (fun h2 => Ev.pure' (by simp [letterB, h, h2])) fun h2 => Ev.cnd (fun h3 => Ev.pure' (by simp [letterB, h, h2, h3])) fun h3 => Ev.pure' (by simp [letterB, h, h2, h3])) fun h => Ev.cnd (fun h3 => Ev.pure' (by simp [letterB, h, h3])) fun h3 => Ev.pure' (by simp [letterB, h, h3])
theorem impl_wordByte.ev (b : Int) : Ev (fun n => impl_wordByte n b) (wordB b) := by
  refine Ev.step ?_
  simp only [impl_wordByte.step]
  refine Ev.bind (impl_letterByte.ev b) (Ev.cnd (fun h => Ev.pure' (by simp [wordB, h])) fun h => ?_)
  refine Ev.bind (impl_digitByte.ev b) (Ev.cnd (fun h2 => Ev.pure' (by simp [wordB, h2])) fun h2 => Ev.pure' (by simp [wordB, h, h2]))
theorem impl_isName.ev (s : ByteArray) (hs : s.size ≤ 1048576) : Ev (fun n => impl_isName n s) (nameB s) := by
  have go : Ev (fun n => goRec impl_isName.step n (impl_isName.Pt.p15 s (s.size : Int) 0)) (allB wordB s) := by
    refine Ev.allN (pt := fun i : Nat => impl_isName.Pt.p15 s (s.size : Int) (i : Int)) (fun i hi => ⟨fun hp v hv => ?_, fun hp => ?_⟩) ?_
    · refine Ev.step ?_
      simp only [impl_isName.step, i64_nat (show i ≤ 4611686018427387904 by omega)]
      exact Ev.yes (lt_yes hi) (Ev.yes (inB_nat hi) (Ev.bind (impl_wordByte.ev _) (Ev.no (by simp [hp]) hv)))
    · refine Ev.step ?_
      simp only [impl_isName.step]
      exact Ev.yes (lt_yes hi) (Ev.yes (inB_nat hi) (Ev.bind (impl_wordByte.ev _) (Ev.yes (by simp [hp]) Ev.pure)))
    · refine Ev.step ?_
      simp only [impl_isName.step]
      exact Ev.no lt_no Ev.pure
  refine Ev.step ?_
  simp only [impl_isName.step]
  have bad : nameB s = false → Ev (fun n => goRec impl_isName.step n (impl_isName.Pt.p4 s true)) (nameB s) := fun h => by
    refine Ev.step ?_
    simp only [impl_isName.step]
    exact Ev.yes rfl (Ev.pure' h.symm)
  refine Ev.cnd (fun h => bad ?_) fun h => Ev.cnd (fun h2 => bad ?_) fun h2 => Ev.yes ?_ (Ev.bind (impl_digitByte.ev _) (Ev.step ?_))
  · have : ¬ 1 ≤ s.size := by have := of_decide_eq_true (seq_empty.symm.trans h); omega
    simp [nameB, this]
  · have : ¬ s.size ≤ 40 := by simp at h2; omega
    simp [nameB, this]
  · exact inB_zero (by have := of_decide_eq_false (seq_empty.symm.trans h); omega)
  · have h1 : 1 ≤ s.size := by have := of_decide_eq_false (seq_empty.symm.trans h); omega
    have h3 : s.size ≤ 40 := by simp at h2; omega
    simp only [impl_isName.step]
    refine Ev.cnd (fun h4 => Ev.pure' (by simp [nameB, h4])) fun h4 => Ev.of_eq go ?_
    simp [nameB, h1, h3, h4]
theorem impl_printed.ev (s : ByteArray) (m : Nat) (hs : s.size ≤ 1048576) (hm : m ≤ 1000000) : Ev (fun n => impl_printed n s (m : Int)) (decide (s.size ≤ m) && printB s) := by
  refine Ev.step ?_
  simp only [impl_printed.step]
  refine Ev.cnd (fun h => Ev.pure' (by simp at h; simp; omega)) fun h => ?_
  have h2 : s.size ≤ m := by simp at h; omega
  simp only [h2, decide_true, Bool.true_and]
  refine Ev.allN (pt := fun i : Nat => impl_printed.Pt.p15 s (s.size : Int) (i : Int)) (fun i hi => ⟨fun hp v hv => ?_, fun hp => ?_⟩) ?_
  · refine Ev.step ?_
    simp only [Bool.and_eq_true, decide_eq_true_eq] at hp
    simp only [impl_printed.step, i64_nat (show i ≤ 4611686018427387904 by omega)]
    exact Ev.yes (lt_yes hi) (Ev.yes (inB_nat hi) (Ev.no (by simp; omega) (Ev.yes (inB_nat hi) (Ev.no (by simp; omega) hv))))
  · refine Ev.step ?_
    simp only [impl_printed.step]
    refine Ev.yes (lt_yes hi) (Ev.yes (inB_nat hi) (Ev.cnd (fun _ => Ev.pure) fun h => Ev.yes (inB_nat hi) (Ev.yes ?_ Ev.pure)))
    simp at hp h ⊢; omega
  · refine Ev.step ?_
    simp only [impl_printed.step]
    exact Ev.no lt_no Ev.pure
theorem strings_IndexByte.ev (s : ByteArray) (c : Int) : Ev (fun n => strings_IndexByte n s c) (Lib.indexByte s.data.toList c.toNat.toUInt8) := Ev.held rfl
theorem index_specials (c : Int) (h : 0 ≤ c ∧ c ≤ 255) : decide (Lib.indexByte (⟨#[42, 63, 124, 92]⟩ : ByteArray).data.toList c.toNat.toUInt8 < 0) = !decide (c = 42 ∨ c = 63 ∨ c = 124 ∨ c = 92) := by
  obtain ⟨k, rfl⟩ : ∃ k : Nat, c = (k : Int) := ⟨c.toNat, by omega⟩
  have hk : k < 256 := by omega
  have key : ∀ k : Fin 256, decide (Lib.indexByte (⟨#[42, 63, 124, 92]⟩ : ByteArray).data.toList (((k.val : Nat) : Int).toNat.toUInt8) < 0) = !decide (((k.val : Nat) : Int) = 42 ∨ ((k.val : Nat) : Int) = 63 ∨ ((k.val : Nat) : Int) = 124 ∨ ((k.val : Nat) : Int) = 92) := by decide +kernel
  exact key ⟨k, hk⟩
theorem impl_alternatives_1.ev (x : Int × Bool × Bool × Unit) (out : List (List (Int × Bool × Bool × Unit))) (now : List (Int × Bool × Bool × Unit)) (h1 : out.length ≤ 1000) (h2 : now.length ≤ 1000) : Ev (fun n => impl_alternatives_1 n x (out ++ [now])) (out ++ [now ++ [x]]) := by
  refine Ev.held ?_
  have hl : (out ++ [now]).length - 1 = out.length := by simp
  have hg : (out ++ [now]).getD out.length [] = now := by simp [List.getD_eq_getElem?_getD]
  rw [hl, hg, show decide (out ++ [now] ≠ [] ∧ (out ++ [now]).length ≤ 1000000 ∧ now.length ≤ 1000000) = true by simp; omega]
  simp
theorem impl_alternatives.loop (s : ByteArray) (hs : s.size ≤ 100) : ∀ d i (out : List (List Int)) (now : List Int), s.size ≤ i + d → i ≤ s.size → out.length ≤ i → now.length ≤ i →
    Ev (fun n => goRec impl_alternatives.step n (impl_alternatives.Pt.p19 s (i : Int) (out.map (List.map toP) ++ [now.map toP]))) (altP (pat ((octs s).drop i) out now)) := by
  intro d
  induction d with
  | zero =>
    intro i out now h h1 h2 h3
    obtain rfl : i = s.size := by omega
    refine Ev.step ?_
    simp only [impl_alternatives.step]
    refine Ev.no lt_no (Ev.pure' ?_)
    rw [octs_nil, pat_nil]; simp [altP]
  | succ d ih =>
    intro i out now h h1 h2 h3
    rcases Nat.eq_or_lt_of_le h1 with rfl | hi
    · refine Ev.step ?_
      simp only [impl_alternatives.step]
      refine Ev.no lt_no (Ev.pure' ?_)
      rw [octs_nil, pat_nil]; simp [altP]
    have one : ∀ (c : Int) (p : Int × Bool × Bool × Unit) (j : Nat), p = toP c → j ≤ s.size → i < j → s.size ≤ j + d → Ev (fun n => (impl_alternatives_1 n p (out.map (List.map toP) ++ [now.map toP])).bind fun r => goRec impl_alternatives.step n (impl_alternatives.Pt.p19 s (j : Int) r)) (altP (pat ((octs s).drop j) out (now ++ [c]))) := by
      rintro c p j rfl hj hij hjd
      refine Ev.bind (impl_alternatives_1.ev _ _ _ (by simp; omega) (by simp; omega)) ?_
      have := ih j out (now ++ [c]) (by omega) hj (by omega) (by simp; omega)
      rwa [List.map_append] at this
    refine Ev.step ?_
    simp only [impl_alternatives.step, i64_nat (show i ≤ 4611686018427387904 by omega)]
    rw [octs_drop hi, pat_cons]
    refine Ev.yes (lt_yes hi) (Ev.yes (inB_nat hi) (Ev.cnd (fun c => ?_) fun c => Ev.cnd (fun c2 => ?_) fun c2 => Ev.cnd (fun c3 => ?_) fun c3 => Ev.cnd (fun c4 => ?_) fun c4 => ?_))
    · rw [if_pos (by simpa using c)]
      refine Ev.yes (room_ok (by simp; omega)) ?_
      have := ih (i + 1) (out ++ [now]) [] (by omega) (by omega) (by simp; omega) (by simp)
      simpa using this
    · rw [if_neg (by simpa using c), if_pos (by simpa using c2)]
      exact one (-1) _ (i + 1) rfl (by omega) (by omega) (by omega)
    · rw [if_neg (by simpa using c), if_neg (by simpa using c2), if_pos (by simpa using c3)]
      exact one (-2) _ (i + 1) rfl (by omega) (by omega) (by omega)
    · rw [if_neg (by simpa using c), if_neg (by simpa using c2), if_neg (by simpa using c3), if_pos (by simpa using c4)]
      have bad : ∀ j : Int, Ev (fun n => goRec impl_alternatives.step n (impl_alternatives.Pt.p51 s j true (out.map (List.map toP) ++ [now.map toP]))) (altP none) := fun j => by
        refine Ev.step ?_
        simp only [impl_alternatives.step]
        exact Ev.yes rfl Ev.pure
      refine Ev.cnd (fun e => ?_) fun e => ?_
      · have e : i + 1 = s.size := by simp at e; omega
        rw [show (octs s).drop (i + 1) = [] by rw [e, octs_nil]]
        exact bad _
      · have hi1 : i + 1 < s.size := by simp at e; omega
        rw [octs_drop hi1]
        simp only
        have hr := bt_range (s := s) (i := ((i + 1 : Nat) : Int))
        generalize hq : bt s ((i + 1 : Nat) : Int) = q at hr
        refine Ev.yes (inB_nat hi1) (Ev.bind (strings_IndexByte.ev _ _) ?_)
        rw [index_specials _ hr]
        by_cases hg : q = 42 ∨ q = 63 ∨ q = 124 ∨ q = 92
        · rw [if_pos hg, show (!decide (q = 42 ∨ q = 63 ∨ q = 124 ∨ q = 92)) = false by simp [hg]]
          refine Ev.step ?_
          simp only [impl_alternatives.step, hq, i64_nat (show i + 1 ≤ 4611686018427387904 by omega)]
          refine Ev.no rfl (Ev.yes (inB_nat hi1) ?_)
          exact one q _ (i + 1 + 1) (by simp only [toP]; rw [if_neg (by omega), if_neg (by omega)]; rfl) (by omega) (by omega) (by omega)
        · rw [if_neg hg, show (!decide (q = 42 ∨ q = 63 ∨ q = 124 ∨ q = 92)) = true by simp [hg]]
          exact bad _
    · rw [if_neg (by simpa using c), if_neg (by simpa using c2), if_neg (by simpa using c3), if_neg (by simpa using c4)]
      have hr := bt_range (s := s) (i := (i : Int))
      exact one (bt s (i : Int)) _ (i + 1) (by simp only [toP]; rw [if_neg (by omega), if_neg (by omega)]; rfl) (by omega) (by omega) (by omega)
theorem impl_alternatives.ev (s : ByteArray) (hs : s.size ≤ 1048576) : Ev (fun n => impl_alternatives n s) (altP (alts s)) := by
  refine Ev.step ?_
  simp only [impl_alternatives.step]
  refine Ev.bind (impl_printed.ev s 100 hs (by omega)) (Ev.cnd (fun h => Ev.pure' ?_) fun h => ?_)
  · rw [alts, if_neg (by intro hh; simp [hh.1, hh.2] at h)]; rfl
  · have h : s.size ≤ 100 ∧ printB s = true := by simpa using h
    rw [alts, if_pos h]
    exact impl_alternatives.loop s h.1 s.size 0 [] [] (by omega) (by omega) (by simp) (by simp)
theorem impl_GoodPattern.ev (s : ByteArray) (hs : s.size ≤ 1048576) : Ev (fun n => impl_GoodPattern n s) (alts s).isSome := by
  refine Ev.step ?_
  simp only [impl_GoodPattern.step]
  refine Ev.bind (impl_alternatives.ev s hs) (Ev.pure' ?_)
  cases alts s <;> rfl
theorem impl_goodMatcher.ev (x : MT) (h : Sm 1048576 MU x) : Ev (fun n => impl_goodMatcher n x) (matcherB x) := by
  have h4 : ∀ b, b = !(nameB x.1 && decide (1 ≤ x.2.1) && decide (x.2.1 ≤ 4) && decide (x.2.2.1.size ≤ 100) && printB x.2.2.1) → Ev (fun n => goRec impl_goodMatcher.step n (impl_goodMatcher.Pt.p4 b x.1 x.2.1 x.2.2.1)) (matcherB x) := by
    rintro b rfl
    refine Ev.step ?_
    simp only [impl_goodMatcher.step]
    refine Ev.cnd (fun e => Ev.pure' ?_) fun e => Ev.cnd (fun e2 => Ev.pure' ?_) fun e2 => Ev.bind (impl_GoodPattern.ev _ h.2.2.1) (Ev.pure' ?_)
    · rw [Bool.not_eq_true'] at e
      rw [matcherB, e]; rfl
    · rw [Bool.not_eq_false'] at e
      rw [matcherB, e, e2]; rfl
    · rw [Bool.not_eq_false'] at e
      rw [matcherB, e, e2]; simp
  refine Ev.step ?_
  simp only [impl_goodMatcher.step]
  refine Ev.bind (impl_isName.ev _ h.1) (Ev.cnd (fun e => h4 _ (by simp at e; simp [e])) fun e1 => Ev.cnd (fun e => h4 _ (by simp at e; simp; omega)) fun e2 => Ev.cnd (fun e => h4 _ (by simp at e; simp; omega)) fun e3 => ?_)
  refine Ev.bind (impl_printed.ev _ 100 h.2.2.1 (by omega)) (h4 _ ?_)
  simp at e1 e2 e3
  simp [e1, e2, e3, Bool.and_assoc]
theorem impl_GoodMatchers_1.ev (x : MT) (h : Sm 1048576 MU x) : Ev (fun n => impl_GoodMatchers_1 n x) (!matcherB x) := by
  refine Ev.step ?_
  simp only [impl_GoodMatchers_1.step]
  exact Ev.bind (impl_goodMatcher.ev x h) Ev.pure
theorem slices_IndexFunc_Matcher_impl_GoodMatchers_1.ev (l : List ((ByteArray) × ((Int) × ((ByteArray) × (Unit)))))  (p : ((ByteArray) × ((Int) × ((ByteArray) × (Unit)))) → Bool) (hl : l.length ≤ 1048576) (hp : ∀ i, i < l.length → Ev (fun n => impl_GoodMatchers_1 n (l.getD i default)) (p (l.getD i default))) : Ev (fun n => slices_IndexFunc_Matcher_impl_GoodMatchers_1 n l) (match (List.range l.length).find? (fun i => p (l.getD i default)) with | some i => (i : Int) | none => -1) := by
  refine Ev.step ?_
  simp only [slices_IndexFunc_Matcher_impl_GoodMatchers_1.step]
  refine Ev.find (pt := fun i : Nat => slices_IndexFunc_Matcher_impl_GoodMatchers_1.Pt.p7 l ((List.length l) : Int) (i : Int)) (fun i hi => ⟨fun h v hv => ?_, fun h => ?_⟩) ?_
  · refine Ev.step ?_
    simp only [slices_IndexFunc_Matcher_impl_GoodMatchers_1.step, toNat_cast, i64_nat (show i ≤ 4611686018427387904 by omega)]
    exact Ev.yes (lt_yes hi) (Ev.yes (inB_nat hi) (Ev.bind (hp i hi) (Ev.no h hv)))
  · refine Ev.step ?_
    simp only [slices_IndexFunc_Matcher_impl_GoodMatchers_1.step, toNat_cast]
    exact Ev.yes (lt_yes hi) (Ev.yes (inB_nat hi) (Ev.bind (hp i hi) (Ev.yes h Ev.pure)))
  · refine Ev.step ?_
    simp only [slices_IndexFunc_Matcher_impl_GoodMatchers_1.step]
    exact Ev.no lt_no Ev.pure
theorem slices_ContainsFunc_Matcher_impl_GoodMatchers_1.ev (l : List ((ByteArray) × ((Int) × ((ByteArray) × (Unit)))))  (p : ((ByteArray) × ((Int) × ((ByteArray) × (Unit)))) → Bool) (hl : l.length ≤ 1048576) (hp : ∀ i, i < l.length → Ev (fun n => impl_GoodMatchers_1 n (l.getD i default)) (p (l.getD i default))) : Ev (fun n => slices_ContainsFunc_Matcher_impl_GoodMatchers_1 n l) ((List.range l.length).any fun i => p (l.getD i default)) := by
  refine Ev.step ?_
  simp only [slices_ContainsFunc_Matcher_impl_GoodMatchers_1.step]
  refine Ev.bind (slices_IndexFunc_Matcher_impl_GoodMatchers_1.ev l p hl hp) (Ev.pure' ?_)
  exact find_any
theorem impl_GoodMatchers.ev (l : List MT) (h : Sm 1048576 (.sl false MU) l) : Ev (fun n => impl_GoodMatchers n l) (matchersB l) := by
  refine Ev.step ?_
  simp only [impl_GoodMatchers.step]
  refine Ev.cnd (fun c => ?_) fun c => Ev.pure' (by simp at c; simp [matchersB]; omega)
  have h10 : l.length ≤ 10 := by simp at c; omega
  refine Ev.bind (slices_ContainsFunc_Matcher_impl_GoodMatchers_1.ev l (fun x => !matcherB x) (by omega) fun i hi => impl_GoodMatchers_1.ev _ (h.2 _ (getD_mem hi))) (Ev.pure' ?_)
  simp [matchersB, h10, List.all_eq_not_any_not]
theorem impl_rising_string.ev (l : List ByteArray) (h : Sm 1048576 (.sl false .str) l) : Ev (fun n => impl_rising_string n l) (risingB l) := by
  have hl : l.length ≤ 1048576 := h.1
  refine Ev.step ?_
  simp only [impl_rising_string.step]
  refine Ev.allN (pt := fun i : Nat => impl_rising_string.Pt.p7 l ((i + 1 : Nat) : Int)) (fun i hi => ⟨fun hp v hv => ?_, fun hp => ?_⟩) ?_
  · refine Ev.step ?_
    simp only [impl_rising_string.step, i64_pred (show i ≤ 4611686018427387904 by omega), i64_nat (show i + 1 ≤ 4611686018427387904 by omega), toNat_cast, slt_cmp]
    exact Ev.yes (lt_yes (by omega)) (Ev.yes (inB_nat (by omega)) (Ev.yes (inB_nat (by omega)) (Ev.no (by simp at hp; simp; omega) hv)))
  · refine Ev.step ?_
    simp only [impl_rising_string.step, i64_pred (show i ≤ 4611686018427387904 by omega), toNat_cast, slt_cmp]
    exact Ev.yes (lt_yes (by omega)) (Ev.yes (inB_nat (by omega)) (Ev.yes (inB_nat (by omega)) (Ev.yes (by simp at hp; simp; omega) Ev.pure)))
  · refine Ev.step ?_
    simp only [impl_rising_string.step]
    exact Ev.no (by simp; omega) Ev.pure
theorem impl_goodNames_1.ev (s : ByteArray) (h : s.size ≤ 1048576) : Ev (fun n => impl_goodNames_1 n s) (!nameB s) := by
  refine Ev.step ?_
  simp only [impl_goodNames_1.step]
  exact Ev.bind (impl_isName.ev s h) Ev.pure
theorem slices_IndexFunc_string_impl_goodNames_1.ev (l : List (ByteArray))  (p : (ByteArray) → Bool) (hl : l.length ≤ 1048576) (hp : ∀ i, i < l.length → Ev (fun n => impl_goodNames_1 n (l.getD i default)) (p (l.getD i default))) : Ev (fun n => slices_IndexFunc_string_impl_goodNames_1 n l) (match (List.range l.length).find? (fun i => p (l.getD i default)) with | some i => (i : Int) | none => -1) := by
  refine Ev.step ?_
  simp only [slices_IndexFunc_string_impl_goodNames_1.step]
  refine Ev.find (pt := fun i : Nat => slices_IndexFunc_string_impl_goodNames_1.Pt.p7 l ((List.length l) : Int) (i : Int)) (fun i hi => ⟨fun h v hv => ?_, fun h => ?_⟩) ?_
  · refine Ev.step ?_
    simp only [slices_IndexFunc_string_impl_goodNames_1.step, toNat_cast, i64_nat (show i ≤ 4611686018427387904 by omega)]
    exact Ev.yes (lt_yes hi) (Ev.yes (inB_nat hi) (Ev.bind (hp i hi) (Ev.no h hv)))
  · refine Ev.step ?_
    simp only [slices_IndexFunc_string_impl_goodNames_1.step, toNat_cast]
    exact Ev.yes (lt_yes hi) (Ev.yes (inB_nat hi) (Ev.bind (hp i hi) (Ev.yes h Ev.pure)))
  · refine Ev.step ?_
    simp only [slices_IndexFunc_string_impl_goodNames_1.step]
    exact Ev.no lt_no Ev.pure
theorem slices_ContainsFunc_string_impl_goodNames_1.ev (l : List (ByteArray))  (p : (ByteArray) → Bool) (hl : l.length ≤ 1048576) (hp : ∀ i, i < l.length → Ev (fun n => impl_goodNames_1 n (l.getD i default)) (p (l.getD i default))) : Ev (fun n => slices_ContainsFunc_string_impl_goodNames_1 n l) ((List.range l.length).any fun i => p (l.getD i default)) := by
  refine Ev.step ?_
  simp only [slices_ContainsFunc_string_impl_goodNames_1.step]
  refine Ev.bind (slices_IndexFunc_string_impl_goodNames_1.ev l p hl hp) (Ev.pure' ?_)
  exact find_any
theorem impl_goodNames.ev (l : List ByteArray) (h : Sm 1048576 (.sl false .str) l) : Ev (fun n => impl_goodNames n l) (namesB l) := by
  refine Ev.step ?_
  simp only [impl_goodNames.step]
  refine Ev.cnd (fun c => ?_) fun c => Ev.pure' (by have : ¬ l.length ≤ 10 := by simp at c; omega
                                                    simp [namesB, this])
  have h10 : l.length ≤ 10 := by simp at c; omega
  refine Ev.bind (impl_rising_string.ev l h) (Ev.cnd (fun c2 => ?_) fun c2 => Ev.pure' (by simp [namesB, c2]))
  refine Ev.bind (slices_ContainsFunc_string_impl_goodNames_1.ev l (fun x => !nameB x) (by omega) fun i hi => impl_goodNames_1.ev _ (h.2 _ (getD_mem hi))) (Ev.pure' ?_)
  simp [namesB, h10, c2, List.all_eq_not_any_not]
theorem impl_isTime.ev (b : Int) : Ev (fun n => impl_isTime n b) (timeB b) := by
  refine Ev.step ?_
  simp only [impl_isTime.step]
  exact Ev.cnd (fun h => Ev.pure' (by simp [timeB, h])) fun h => Ev.pure' (by simp [timeB, h])
theorem impl_rising_int.ev (l : List Int) (hl : l.length ≤ 1048576) : Ev (fun n => impl_rising_int n l) (risingI l) := by
  refine Ev.step ?_
  simp only [impl_rising_int.step]
  refine Ev.allN (pt := fun i : Nat => impl_rising_int.Pt.p7 l ((i + 1 : Nat) : Int)) (fun i hi => ⟨fun hp v hv => ?_, fun hp => ?_⟩) ?_
  · have hp := of_decide_eq_true hp
    refine Ev.step ?_
    simp only [impl_rising_int.step, i64_pred (show i ≤ 4611686018427387904 by omega), i64_nat (show i + 1 ≤ 4611686018427387904 by omega), toNat_cast]
    exact Ev.yes (lt_yes (by omega)) (Ev.yes (inB_nat (by omega)) (Ev.yes (inB_nat (by omega)) (Ev.no (decide_eq_false (by omega)) hv)))
  · have hp := of_decide_eq_false hp
    refine Ev.step ?_
    simp only [impl_rising_int.step, i64_pred (show i ≤ 4611686018427387904 by omega), toNat_cast]
    exact Ev.yes (lt_yes (by omega)) (Ev.yes (inB_nat (by omega)) (Ev.yes (inB_nat (by omega)) (Ev.yes (decide_eq_true (by omega)) Ev.pure)))
  · refine Ev.step ?_
    simp only [impl_rising_int.step]
    exact Ev.no (decide_eq_false (by omega)) Ev.pure
theorem impl_goodRoute.ev (r : RTE) (h : Sm 1048576 RTU r) : Ev (fun n => impl_goodRoute n r) (routeB r) := by
  have hml : r.2.2.2.2.2.2.1.length ≤ 1048576 := h.2.2.2.2.2.2.1.1
  have loop : r.2.2.2.2.2.2.1.length ≤ 20 → Ev (fun n => goRec impl_goodRoute.step n (impl_goodRoute.Pt.p15 r.2.2.2.2.2.2.1 (r.2.2.2.2.2.2.1.length : Int) 0)) (mutesB r.2.2.2.2.2.2.1) := by
    intro h20
    refine Ev.allN (pt := fun i : Nat => impl_goodRoute.Pt.p15 r.2.2.2.2.2.2.1 (r.2.2.2.2.2.2.1.length : Int) (i : Int)) (fun i hi => ⟨fun hp v hv => ?_, fun hp => ?_⟩) ?_
    · refine Ev.step ?_
      simp only [Bool.and_eq_true, decide_eq_true_eq] at hp
      simp only [impl_goodRoute.step, toNat_cast, i64_nat (show i ≤ 4611686018427387904 by omega)]
      exact Ev.yes (lt_yes hi) (Ev.yes (inB_nat hi) (Ev.no (by simp only [decide_eq_false_iff_not]; omega) (Ev.no (by simp only [decide_eq_false_iff_not]; omega) hv)))
    · refine Ev.step ?_
      simp only [impl_goodRoute.step, toNat_cast]
      refine Ev.yes (lt_yes hi) (Ev.yes (inB_nat hi) (Ev.cnd (fun _ => Ev.pure) fun e => Ev.yes ?_ Ev.pure))
      have e := of_decide_eq_false e
      rw [show decide (0 ≤ r.2.2.2.2.2.2.1.getD i default) = true by simp only [decide_eq_true_eq]; omega, Bool.true_and] at hp
      have hp := of_decide_eq_false hp
      simp only [decide_eq_true_eq]; omega
    · refine Ev.step ?_
      simp only [impl_goodRoute.step]
      exact Ev.no lt_no Ev.pure
  have p4 : ∀ b, (b = !(nameB r.1 && matchersB r.2.1 && namesB r.2.2.1 && timeB r.2.2.2.1 && posB r.2.2.2.2.1 && posB r.2.2.2.2.2.1 && (decide (r.2.2.2.2.2.2.1.length ≤ 20) && risingI r.2.2.2.2.2.2.1))) → Ev (fun n => goRec impl_goodRoute.step n (impl_goodRoute.Pt.p4 b r.1 r.2.1 r.2.2.1 r.2.2.2.1 r.2.2.2.2.1 r.2.2.2.2.2.1 r.2.2.2.2.2.2.1 r.2.2.2.2.2.2.2.1 r.2.2.2.2.2.2.2.2.1)) (routeB r) := by
    rintro b rfl
    refine Ev.step ?_
    simp only [impl_goodRoute.step]
    refine Ev.cnd (fun e => Ev.pure' ?_) fun e => ?_
    · rw [Bool.not_eq_true'] at e
      rw [routeB, e]; rfl
    · rw [Bool.not_eq_false'] at e
      have h20 : r.2.2.2.2.2.2.1.length ≤ 20 := by
        simp only [Bool.and_eq_true, decide_eq_true_eq] at e
        exact e.2.1
      exact Ev.of_eq (loop h20) (by rw [routeB, e]; rfl)
  refine Ev.step ?_
  simp only [impl_goodRoute.step]
  refine Ev.bind (impl_isName.ev _ h.1) (Ev.cnd (fun e => p4 _ (by rw [Bool.not_eq_true'] at e; simp [e])) fun e1 => ?_)
  refine Ev.bind (impl_GoodMatchers.ev _ h.2.1) (Ev.cnd (fun e => p4 _ (by rw [Bool.not_eq_true'] at e; simp [e])) fun e2 => ?_)
  refine Ev.bind (impl_goodNames.ev _ h.2.2.1) (Ev.cnd (fun e => p4 _ (by rw [Bool.not_eq_true'] at e; simp [e])) fun e3 => ?_)
  refine Ev.bind (impl_isTime.ev _) (Ev.cnd (fun e => p4 _ (by rw [Bool.not_eq_true'] at e; simp [e])) fun e4 => ?_)
  refine Ev.bind (impl_isTime.ev _) (Ev.cnd (fun e => p4 _ (by rw [Bool.not_eq_true'] at e; rw [posB_time, e]; simp)) fun e5 => ?_)
  refine Ev.cnd (fun e => p4 _ (by rw [posB_time, e]; simp)) fun e6 => ?_
  refine Ev.bind (impl_isTime.ev _) (Ev.cnd (fun e => p4 _ (by rw [Bool.not_eq_true'] at e; rw [posB_time (n := r.2.2.2.2.2.1), e]; simp)) fun e7 => ?_)
  refine Ev.cnd (fun e => p4 _ (by rw [posB_time (n := r.2.2.2.2.2.1), e]; simp)) fun e8 => ?_
  rw [Bool.not_eq_false'] at e5 e7
  have pa : posB r.2.2.2.2.1 = true := by rw [posB_time, e5, e6]; rfl
  have pb : posB r.2.2.2.2.2.1 = true := by rw [posB_time, e7, e8]; rfl
  refine Ev.cnd (fun e => p4 _ (by rw [show decide (r.2.2.2.2.2.2.1.length ≤ 20) = false by simp only [decide_eq_true_eq] at e; simp only [decide_eq_false_iff_not]; omega]; simp)) fun e9 => ?_
  have h20 : r.2.2.2.2.2.2.1.length ≤ 20 := by simp only [decide_eq_false_iff_not] at e9; omega
  refine Ev.bind (impl_rising_int.ev _ hml) (p4 _ ?_)
  rw [Bool.not_eq_false'] at e1 e2 e3 e4
  simp [e1, e2, e3, e4, pa, pb, h20]
theorem impl_GoodRoutes_1.ev (r : RTE) (h : Sm 1048576 RTU r) : Ev (fun n => impl_GoodRoutes_1 n r) (!routeB r) := by
  refine Ev.step ?_
  simp only [impl_GoodRoutes_1.step]
  exact Ev.bind (impl_goodRoute.ev r h) Ev.pure
theorem slices_IndexFunc_Route_impl_GoodRoutes_1.ev (l : List ((ByteArray) × ((List ((ByteArray) × ((Int) × ((ByteArray) × (Unit))))) × ((List (ByteArray)) × ((Int) × ((Int) × ((Int) × ((List (Int)) × ((Bool) × ((Int) × (Unit)))))))))))  (p : ((ByteArray) × ((List ((ByteArray) × ((Int) × ((ByteArray) × (Unit))))) × ((List (ByteArray)) × ((Int) × ((Int) × ((Int) × ((List (Int)) × ((Bool) × ((Int) × (Unit)))))))))) → Bool) (hl : l.length ≤ 1048576) (hp : ∀ i, i < l.length → Ev (fun n => impl_GoodRoutes_1 n (l.getD i default)) (p (l.getD i default))) : Ev (fun n => slices_IndexFunc_Route_impl_GoodRoutes_1 n l) (match (List.range l.length).find? (fun i => p (l.getD i default)) with | some i => (i : Int) | none => -1) := by
  refine Ev.step ?_
  simp only [slices_IndexFunc_Route_impl_GoodRoutes_1.step]
  refine Ev.find (pt := fun i : Nat => slices_IndexFunc_Route_impl_GoodRoutes_1.Pt.p7 l ((List.length l) : Int) (i : Int)) (fun i hi => ⟨fun h v hv => ?_, fun h => ?_⟩) ?_
  · refine Ev.step ?_
    simp only [slices_IndexFunc_Route_impl_GoodRoutes_1.step, toNat_cast, i64_nat (show i ≤ 4611686018427387904 by omega)]
    exact Ev.yes (lt_yes hi) (Ev.yes (inB_nat hi) (Ev.bind (hp i hi) (Ev.no h hv)))
  · refine Ev.step ?_
    simp only [slices_IndexFunc_Route_impl_GoodRoutes_1.step, toNat_cast]
    exact Ev.yes (lt_yes hi) (Ev.yes (inB_nat hi) (Ev.bind (hp i hi) (Ev.yes h Ev.pure)))
  · refine Ev.step ?_
    simp only [slices_IndexFunc_Route_impl_GoodRoutes_1.step]
    exact Ev.no lt_no Ev.pure
theorem slices_ContainsFunc_Route_impl_GoodRoutes_1.ev (l : List ((ByteArray) × ((List ((ByteArray) × ((Int) × ((ByteArray) × (Unit))))) × ((List (ByteArray)) × ((Int) × ((Int) × ((Int) × ((List (Int)) × ((Bool) × ((Int) × (Unit)))))))))))  (p : ((ByteArray) × ((List ((ByteArray) × ((Int) × ((ByteArray) × (Unit))))) × ((List (ByteArray)) × ((Int) × ((Int) × ((Int) × ((List (Int)) × ((Bool) × ((Int) × (Unit)))))))))) → Bool) (hl : l.length ≤ 1048576) (hp : ∀ i, i < l.length → Ev (fun n => impl_GoodRoutes_1 n (l.getD i default)) (p (l.getD i default))) : Ev (fun n => slices_ContainsFunc_Route_impl_GoodRoutes_1 n l) ((List.range l.length).any fun i => p (l.getD i default)) := by
  refine Ev.step ?_
  simp only [slices_ContainsFunc_Route_impl_GoodRoutes_1.step]
  refine Ev.bind (slices_IndexFunc_Route_impl_GoodRoutes_1.ev l p hl hp) (Ev.pure' ?_)
  exact find_any
theorem impl_GoodRoutes.ev (l : List RTE) (h : Sm 1048576 (.sl false RTU) l) : Ev (fun n => impl_GoodRoutes n l) (routesB l) := by
  refine Ev.step ?_
  simp only [impl_GoodRoutes.step]
  obtain ⟨r, h1, h2⟩ := impl_depths.ev l
  refine Ev.bind h1 ?_
  rw [h2, Bool.not_not]
  refine Ev.cnd (fun c => ?_) fun c => Ev.pure' ?_
  case refine_2 =>
    by_cases h40 : l.length ≤ 40
    · rw [routesB, routes_eq h40, ← Bool.and_assoc (decide (l.length ≠ 0) && decide (l.length ≤ 40)) (decide (nodeN l smallB 8 0 = some l.length)), c]; rfl
    · rw [routesB, decide_eq_false h40, Bool.and_false]; rfl
  have c' := c
  simp only [Bool.and_eq_true] at c'
  have h0 : l.length ≠ 0 := of_decide_eq_true c'.1.1
  have h40 : l.length ≤ 40 := of_decide_eq_true c'.1.2
  simp only [show (0 : Int).toNat = 0 from rfl]
  have ct := slices_ContainsFunc_Route_impl_GoodRoutes_1.ev l (fun r => !routeB r) (by omega) (fun i hi => impl_GoodRoutes_1.ev _ (h.2 _ (getD_mem hi)))
  refine Ev.yes (inB_zero (by omega)) (Ev.cnd (fun c2 => Ev.yes (inB_zero (by omega)) (Ev.cnd (fun c3 => Ev.bind ct (Ev.pure' ?_)) fun c3 => Ev.pure' ?_)) fun c2 => Ev.pure' ?_)
  · have c2 : (l.getD 0 default).2.1.length = 0 := by have := of_decide_eq_true c2; omega
    rw [routesB, routes_eq h40, ← Bool.and_assoc (decide (l.length ≠ 0) && decide (l.length ≤ 40)) (decide (nodeN l smallB 8 0 = some l.length)), c, c3, decide_eq_true c2, List.all_eq_not_any_not]
    simp
  · rw [routesB, c3, Bool.and_false, Bool.and_false]
  · have c2 : ¬ (l.getD 0 default).2.1.length = 0 := by have := of_decide_eq_false c2; omega
    rw [routesB, decide_eq_false c2, Bool.false_and, Bool.and_false]
theorem impl_GoodSilences.ev (l : List SIL) (h : Sm 1048576 (.sl false SIU) l) : Ev (fun n => impl_GoodSilences n l) (silsB l) := by
  have hl : l.length ≤ 1048576 := h.1
  refine Ev.step ?_
  simp only [impl_GoodSilences.step]
  refine Ev.cnd (fun c => Ev.pure' ?_) fun c => ?_
  · have : ¬ l.length ≤ 50 := by simp at c; omega
    simp [silsB, this]
  have h50 : l.length ≤ 50 := by simp at c; omega
  simp only [silsB, h50, decide_true, Bool.true_and]
  have go : ∀ i v, i < l.length → (silB l i = true → Ev (fun n => goRec impl_GoodSilences.step n (impl_GoodSilences.Pt.p15 l l (l.length : Int) ((i + 1 : Nat) : Int))) v) → (silB l i = false → v = false) →
      Ev (fun n => goRec impl_GoodSilences.step n (impl_GoodSilences.Pt.p15 l l (l.length : Int) (i : Int))) v := by
    intro i v hi hv hv2
    have hx := h.2 _ (getD_mem (d := default) hi)
    have hs := (silB.eq_1 l i).symm
    have h26 : ∀ b, (b = !silB l i) → Ev (fun n => goRec impl_GoodSilences.step n (impl_GoodSilences.Pt.p26 l l (l.length : Int) (i : Int) b)) v := by
      rintro b rfl
      refine Ev.step ?_
      simp only [impl_GoodSilences.step, i64_nat (show i ≤ 4611686018427387904 by omega)]
      exact Ev.cnd (fun e => Ev.pure' (hv2 (by simpa using e)).symm) fun e => hv (by simpa using e)
    refine Ev.step ?_
    simp only [impl_GoodSilences.step, toNat_cast]
    generalize hxe : l.getD i default = x at hx hs
    have bad : silB l i = false → Ev (fun n => goRec impl_GoodSilences.step n (impl_GoodSilences.Pt.p26 l l (l.length : Int) (i : Int) true)) v := fun e => h26 _ (by rw [e]; rfl)
    refine Ev.yes (lt_yes hi) (Ev.yes (inB_nat hi) ?_)
    refine Ev.bind (impl_isName.ev _ hx.1) (Ev.cnd (fun e => bad (by rw [← hs]; simp at e; simp [e])) fun e1 => ?_)
    have rest : ((decide (i = 0) || decide (cmpT (l.getD (i - 1) default).1 x.1 < 0)) = true) → Ev (fun n => cond (decide ((x.2.1.length : Int) = 0)) (goRec impl_GoodSilences.step n (impl_GoodSilences.Pt.p26 l l (l.length : Int) (i : Int) true))
        ((impl_GoodMatchers n x.2.1).bind fun r8 => cond (!r8) (goRec impl_GoodSilences.step n (impl_GoodSilences.Pt.p26 l l (l.length : Int) (i : Int) true)) ((impl_isTime n x.2.2.1).bind fun r9 => cond (!r9) (goRec impl_GoodSilences.step n (impl_GoodSilences.Pt.p26 l l (l.length : Int) (i : Int) true))
          ((impl_isTime n x.2.2.2.1).bind fun r10 => cond (!r10) (goRec impl_GoodSilences.step n (impl_GoodSilences.Pt.p26 l l (l.length : Int) (i : Int) true)) (goRec impl_GoodSilences.step n (impl_GoodSilences.Pt.p26 l l (l.length : Int) (i : Int) (decide (x.2.2.2.1 < x.2.2.1)))))))) v := by
      intro e7
      rw [e7] at hs
      refine Ev.cnd (fun e => bad (by rw [← hs]; simp at e; simp [e])) fun e2 => ?_
      refine Ev.bind (impl_GoodMatchers.ev _ hx.2.1) (Ev.cnd (fun e => bad (by rw [← hs]; simp at e; simp [e])) fun e3 => ?_)
      refine Ev.bind (impl_isTime.ev _) (Ev.cnd (fun e => bad (by rw [← hs]; simp at e; simp [e])) fun e4 => ?_)
      refine Ev.bind (impl_isTime.ev _) (Ev.cnd (fun e => bad (by rw [← hs]; simp at e; simp [e])) fun e5 => h26 _ ?_)
      simp at e1 e2 e3 e4 e5
      rw [← hs]; simp [e1, e2, e3, e4, e5]
      rw [← decide_not]
      exact decide_eq_decide.2 (by omega)
    cases i with
    | zero => exact Ev.no (by simp) (rest (by simp))
    | succ k =>
      refine Ev.yes (by simp) ?_
      simp only [i64_pred (show k ≤ 4611686018427387904 by omega), toNat_cast]
      refine Ev.yes (inB_nat (by omega)) ?_
      rw [slt_cmp]
      refine Ev.cnd (fun e => bad (by rw [← hs]; simp at e; simp; omega)) fun e => rest ?_
      simp at e
      simp; omega
  refine Ev.allN (pt := fun i : Nat => impl_GoodSilences.Pt.p15 l l (l.length : Int) (i : Int)) (fun i hi => ⟨fun hp v hv => go i v hi (fun _ => hv) (fun h => by rw [hp] at h; cases h), fun hp => go i false hi (fun h => by rw [hp] at h; cases h) (fun _ => rfl)⟩) ?_
  refine Ev.step ?_
  simp only [impl_GoodSilences.step]
  exact Ev.no lt_no Ev.pure
theorem impl_GoodInhibits_1.ev (x : INH) (hx : Sm 1048576 INU x) : Ev (fun n => impl_GoodInhibits_1 n x) (!inhB x) := by
  have hs := (inhB.eq_1 x).symm
  refine Ev.step ?_
  simp only [impl_GoodInhibits_1.step]
  refine Ev.cnd (fun e => Ev.pure' (by rw [← hs]; simp at e; simp [e])) fun e1 => Ev.cnd (fun e => Ev.pure' (by rw [← hs]; simp at e; simp [e])) fun e2 => ?_
  refine Ev.bind (impl_GoodMatchers.ev _ hx.1) (Ev.cnd (fun e => Ev.pure' (by rw [← hs]; simp at e; simp [e])) fun e3 => ?_)
  refine Ev.bind (impl_GoodMatchers.ev _ hx.2.1) (Ev.cnd (fun e => Ev.pure' (by rw [← hs]; simp at e; simp [e])) fun e4 => ?_)
  refine Ev.bind (impl_goodNames.ev _ hx.2.2.1) (Ev.pure' ?_)
  simp at e1 e2 e3 e4
  rw [← hs]; simp [e1, e2, e3, e4]
theorem slices_IndexFunc_Inhibit_impl_GoodInhibits_1.ev (l : List ((List ((ByteArray) × ((Int) × ((ByteArray) × (Unit))))) × ((List ((ByteArray) × ((Int) × ((ByteArray) × (Unit))))) × ((List (ByteArray)) × (Unit)))))  (p : ((List ((ByteArray) × ((Int) × ((ByteArray) × (Unit))))) × ((List ((ByteArray) × ((Int) × ((ByteArray) × (Unit))))) × ((List (ByteArray)) × (Unit)))) → Bool) (hl : l.length ≤ 1048576) (hp : ∀ i, i < l.length → Ev (fun n => impl_GoodInhibits_1 n (l.getD i default)) (p (l.getD i default))) : Ev (fun n => slices_IndexFunc_Inhibit_impl_GoodInhibits_1 n l) (match (List.range l.length).find? (fun i => p (l.getD i default)) with | some i => (i : Int) | none => -1) := by
  refine Ev.step ?_
  simp only [slices_IndexFunc_Inhibit_impl_GoodInhibits_1.step]
  refine Ev.find (pt := fun i : Nat => slices_IndexFunc_Inhibit_impl_GoodInhibits_1.Pt.p7 l ((List.length l) : Int) (i : Int)) (fun i hi => ⟨fun h v hv => ?_, fun h => ?_⟩) ?_
  · refine Ev.step ?_
    simp only [slices_IndexFunc_Inhibit_impl_GoodInhibits_1.step, toNat_cast, i64_nat (show i ≤ 4611686018427387904 by omega)]
    exact Ev.yes (lt_yes hi) (Ev.yes (inB_nat hi) (Ev.bind (hp i hi) (Ev.no h hv)))
  · refine Ev.step ?_
    simp only [slices_IndexFunc_Inhibit_impl_GoodInhibits_1.step, toNat_cast]
    exact Ev.yes (lt_yes hi) (Ev.yes (inB_nat hi) (Ev.bind (hp i hi) (Ev.yes h Ev.pure)))
  · refine Ev.step ?_
    simp only [slices_IndexFunc_Inhibit_impl_GoodInhibits_1.step]
    exact Ev.no lt_no Ev.pure
theorem slices_ContainsFunc_Inhibit_impl_GoodInhibits_1.ev (l : List ((List ((ByteArray) × ((Int) × ((ByteArray) × (Unit))))) × ((List ((ByteArray) × ((Int) × ((ByteArray) × (Unit))))) × ((List (ByteArray)) × (Unit)))))  (p : ((List ((ByteArray) × ((Int) × ((ByteArray) × (Unit))))) × ((List ((ByteArray) × ((Int) × ((ByteArray) × (Unit))))) × ((List (ByteArray)) × (Unit)))) → Bool) (hl : l.length ≤ 1048576) (hp : ∀ i, i < l.length → Ev (fun n => impl_GoodInhibits_1 n (l.getD i default)) (p (l.getD i default))) : Ev (fun n => slices_ContainsFunc_Inhibit_impl_GoodInhibits_1 n l) ((List.range l.length).any fun i => p (l.getD i default)) := by
  refine Ev.step ?_
  simp only [slices_ContainsFunc_Inhibit_impl_GoodInhibits_1.step]
  refine Ev.bind (slices_IndexFunc_Inhibit_impl_GoodInhibits_1.ev l p hl hp) (Ev.pure' ?_)
  exact find_any
theorem impl_GoodInhibits.ev (l : List INH) (h : Sm 1048576 (.sl false INU) l) : Ev (fun n => impl_GoodInhibits n l) (inhsB l) := by
  refine Ev.step ?_
  simp only [impl_GoodInhibits.step]
  refine Ev.cnd (fun c => ?_) fun c => Ev.pure' (by have : ¬ l.length ≤ 20 := by simp at c; omega
                                                    simp [inhsB, this])
  have h20 : l.length ≤ 20 := by simp at c; omega
  refine Ev.bind (slices_ContainsFunc_Inhibit_impl_GoodInhibits_1.ev l (fun x => !inhB x) (by omega) fun i hi => impl_GoodInhibits_1.ev _ (h.2 _ (getD_mem hi))) (Ev.pure' ?_)
  simp [inhsB, h20, List.all_eq_not_any_not]
theorem impl_goodRanges_1.ev (r : RG) (lo hi : Int) : Ev (fun n => impl_goodRanges_1 n r lo hi) (!rangeB lo hi r) := by
  refine Ev.step ?_
  simp only [impl_goodRanges_1.step]
  refine Ev.cnd (fun c => Ev.pure' ?_) fun c => Ev.cnd (fun c2 => Ev.pure' ?_) fun c2 => Ev.pure' ?_
  · have c := of_decide_eq_true c; simp [rangeB, show ¬ r.1 ≤ r.2.1 by omega]
  · have c2 : r.1 < lo := of_decide_eq_true c2
    simp [rangeB, show ¬ lo ≤ r.1 by omega]
  · have c := of_decide_eq_false c
    have c2 : ¬ r.1 < lo := of_decide_eq_false c2
    simp only [rangeB, show lo ≤ r.1 by omega, show r.1 ≤ r.2.1 by omega, decide_true, Bool.true_and]
    show decide (hi < r.2.1) = _
    rw [← decide_not]; exact decide_eq_decide.2 (by omega)
theorem slices_IndexFunc_Range_impl_goodRanges_1.ev (l : List ((Int) × ((Int) × (Unit)))) (a1 : Int) (a2 : Int) (p : ((Int) × ((Int) × (Unit))) → Bool) (hl : l.length ≤ 1048576) (hp : ∀ i, i < l.length → Ev (fun n => impl_goodRanges_1 n (l.getD i default) a1 a2) (p (l.getD i default))) : Ev (fun n => slices_IndexFunc_Range_impl_goodRanges_1 n l a1 a2) (match (List.range l.length).find? (fun i => p (l.getD i default)) with | some i => (i : Int) | none => -1) := by
  refine Ev.step ?_
  simp only [slices_IndexFunc_Range_impl_goodRanges_1.step]
  refine Ev.find (pt := fun i : Nat => slices_IndexFunc_Range_impl_goodRanges_1.Pt.p7 l ((List.length l) : Int) (i : Int) a1 a2) (fun i hi => ⟨fun h v hv => ?_, fun h => ?_⟩) ?_
  · refine Ev.step ?_
    simp only [slices_IndexFunc_Range_impl_goodRanges_1.step, toNat_cast, i64_nat (show i ≤ 4611686018427387904 by omega)]
    exact Ev.yes (lt_yes hi) (Ev.yes (inB_nat hi) (Ev.bind (hp i hi) (Ev.no h hv)))
  · refine Ev.step ?_
    simp only [slices_IndexFunc_Range_impl_goodRanges_1.step, toNat_cast]
    exact Ev.yes (lt_yes hi) (Ev.yes (inB_nat hi) (Ev.bind (hp i hi) (Ev.yes h Ev.pure)))
  · refine Ev.step ?_
    simp only [slices_IndexFunc_Range_impl_goodRanges_1.step]
    exact Ev.no lt_no Ev.pure
theorem slices_ContainsFunc_Range_impl_goodRanges_1.ev (l : List ((Int) × ((Int) × (Unit)))) (a1 : Int) (a2 : Int) (p : ((Int) × ((Int) × (Unit))) → Bool) (hl : l.length ≤ 1048576) (hp : ∀ i, i < l.length → Ev (fun n => impl_goodRanges_1 n (l.getD i default) a1 a2) (p (l.getD i default))) : Ev (fun n => slices_ContainsFunc_Range_impl_goodRanges_1 n l a1 a2) ((List.range l.length).any fun i => p (l.getD i default)) := by
  refine Ev.step ?_
  simp only [slices_ContainsFunc_Range_impl_goodRanges_1.step]
  refine Ev.bind (slices_IndexFunc_Range_impl_goodRanges_1.ev l a1 a2 p hl hp) (Ev.pure' ?_)
  exact find_any
theorem impl_goodRanges.ev (l : List RG) (lo hi : Int) (hl : l.length ≤ 1048576) : Ev (fun n => impl_goodRanges n l lo hi) (rangesB l lo hi) := by
  refine Ev.step ?_
  simp only [impl_goodRanges.step]
  refine Ev.cnd (fun c => ?_) fun c => Ev.pure' (by have c := of_decide_eq_false c; simp [rangesB, show ¬ l.length ≤ 10 by omega])
  have c := of_decide_eq_true c
  refine Ev.bind (slices_ContainsFunc_Range_impl_goodRanges_1.ev l lo hi (fun r => !rangeB lo hi r) hl fun i hi' => impl_goodRanges_1.ev _ lo hi) (Ev.pure' ?_)
  simp [rangesB, show l.length ≤ 10 by omega, List.all_eq_not_any_not]
theorem impl_GoodInterval.free (l : List Int) (hl : l.length ≤ 1048576) : ∀ d i b, i + d = l.length → Ev (fun n => goRec impl_GoodInterval.step n (impl_GoodInterval.Pt.p26 b l (l.length : Int) (i : Int))) (b && (List.range' i d).all fun i => freeB (l.getD i default)) := by
  intro d
  induction d with
  | zero =>
    intro i b h
    rw [Nat.add_zero] at h; subst h
    refine Ev.step ?_
    simp only [impl_GoodInterval.step]
    exact Ev.no lt_no (Ev.pure' (by simp))
  | succ d ih =>
    intro i b h
    rw [List.range'_succ, List.all_cons]
    have ih' := fun b => ih (i + 1) b (by omega)
    generalize ((List.range' (i + 1) d).all fun i => freeB (l.getD i default)) = v at ih'
    refine Ev.step ?_
    simp only [impl_GoodInterval.step, toNat_cast, i64_nat (show i ≤ 4611686018427387904 by omega)]
    generalize l.getD i default = r
    refine Ev.yes (lt_yes (by omega)) (Ev.yes (inB_nat (by omega)) (Ev.cnd (fun c => Ev.cnd (fun c2 => Ev.of_eq (ih' _) ?_) fun c2 => Ev.of_eq (ih' _) ?_) fun c => Ev.of_eq (ih' _) ?_))
    · simp [c, freeB, of_decide_eq_true c2]
    · simp [c, freeB, of_decide_eq_false c2]
    · simp [c]
theorem impl_GoodInterval.days (l : List RG) (hl : l.length ≤ 1048576) (z : Int) (m w mo y : List RG) (f : List Int) (hf : f.length ≤ 1048576) : ∀ d i b, i + d = l.length → Ev (fun n => goRec impl_GoodInterval.step n (impl_GoodInterval.Pt.p9 b l (l.length : Int) (i : Int) z m w l mo y f)) (b && ((List.range' i d).all fun i => dayRB (l.getD i default)) && allG freeB f) := by
  intro d
  induction d with
  | zero =>
    intro i b h
    rw [Nat.add_zero] at h; subst h
    refine Ev.step ?_
    simp only [impl_GoodInterval.step]
    refine Ev.no lt_no (Ev.of_eq (impl_GoodInterval.free f hf f.length 0 b (by omega)) ?_)
    rw [allG, List.range_eq_range']; simp
  | succ d ih =>
    intro i b h
    rw [List.range'_succ, List.all_cons]
    have ih' := fun b => ih (i + 1) b (by omega)
    generalize ((List.range' (i + 1) d).all fun i => dayRB (l.getD i default)) = v at ih'
    refine Ev.step ?_
    simp only [impl_GoodInterval.step, toNat_cast, i64_nat (show i ≤ 4611686018427387904 by omega)]
    generalize l.getD i default = r
    refine Ev.yes (lt_yes (by omega)) (Ev.yes (inB_nat (by omega)) (Ev.cnd (fun c => Ev.cnd (fun c2 => Ev.of_eq (ih' _) ?_) fun c2 => Ev.of_eq (ih' _) ?_) fun c => Ev.of_eq (ih' _) ?_))
    · simp [c, dayRB, of_decide_eq_true c2]
    · simp [c, dayRB, of_decide_eq_false c2]
    · simp [c]
theorem impl_GoodInterval.ev (x : ITV) (h : Sm 1048576 ITU x) : Ev (fun n => impl_GoodInterval n x) (itvB x) := by
  have h3 : ∀ b, Ev (fun n => goRec impl_GoodInterval.step n (impl_GoodInterval.Pt.p3 b x.1 x.2.1 x.2.2.1 x.2.2.2.1 x.2.2.2.2.1 x.2.2.2.2.2.1 x.2.2.2.2.2.2.1)) (b && allG dayRB x.2.2.2.1 && allG freeB x.2.2.2.2.2.2.1) := by
    intro b
    refine Ev.step ?_
    simp only [impl_GoodInterval.step]
    have := impl_GoodInterval.days x.2.2.2.1 h.2.2.2.1.1 x.1 x.2.1 x.2.2.1 x.2.2.2.2.1 x.2.2.2.2.2.1 x.2.2.2.2.2.2.1 h.2.2.2.2.2.2.1.1 x.2.2.2.1.length 0 b (by omega)
    rw [← List.range_eq_range'] at this
    exact this
  have bad : (∀ r, (r = itvB x) → r = false) → Ev (fun n => goRec impl_GoodInterval.step n (impl_GoodInterval.Pt.p3 false x.1 x.2.1 x.2.2.1 x.2.2.2.1 x.2.2.2.2.1 x.2.2.2.2.2.1 x.2.2.2.2.2.2.1)) (itvB x) := fun e => Ev.of_eq (h3 false) (by rw [e _ rfl]; rfl)
  refine Ev.step ?_
  simp only [impl_GoodInterval.step]
  refine Ev.cnd (fun c1 => ?_) fun c => bad (by rintro _ rfl; simp [itvB, of_decide_eq_false c])
  refine Ev.cnd (fun c2 => ?_) fun c => bad (by rintro _ rfl; simp [itvB, of_decide_eq_false c])
  refine Ev.bind (impl_goodRanges.ev _ _ _ h.2.1.1) (Ev.cnd (fun c3 => ?_) fun c => bad (by rintro _ rfl; simp [itvB, c]))
  refine Ev.bind (impl_goodRanges.ev _ _ _ h.2.2.1.1) (Ev.cnd (fun c4 => ?_) fun c => bad (by rintro _ rfl; simp [itvB, c]))
  refine Ev.bind (impl_goodRanges.ev _ _ _ h.2.2.2.1.1) (Ev.cnd (fun c5 => ?_) fun c => bad (by rintro _ rfl; simp [itvB, c]))
  refine Ev.bind (impl_goodRanges.ev _ _ _ h.2.2.2.2.1.1) (Ev.cnd (fun c6 => ?_) fun c => bad (by rintro _ rfl; simp [itvB, c]))
  refine Ev.bind (impl_goodRanges.ev _ _ _ h.2.2.2.2.2.1.1) (Ev.cnd (fun c7 => ?_) fun c => bad (by rintro _ rfl; simp [itvB, c]))
  refine Ev.cnd (fun c8 => ?_) fun c => bad (by rintro _ rfl; have c := of_decide_eq_false c; simp [itvB, show ¬ x.2.2.2.2.2.2.1.length ≤ 10 by omega])
  have c8 := of_decide_eq_true c8
  refine Ev.bind (impl_rising_int.ev _ h.2.2.2.2.2.2.1.1) (Ev.of_eq (h3 _) ?_)
  simp [itvB, of_decide_eq_true c1, of_decide_eq_true c2, c3, c4, c5, c6, c7, show x.2.2.2.2.2.2.1.length ≤ 10 by omega]
theorem impl_GoodNotify_1.ev (x : ITV) (h : Sm 1048576 ITU x) : Ev (fun n => impl_GoodNotify_1 n x) (!itvB x) := by
  refine Ev.step ?_
  simp only [impl_GoodNotify_1.step]
  exact Ev.bind (impl_GoodInterval.ev x h) Ev.pure
theorem slices_IndexFunc_Interval_impl_GoodNotify_1.ev (l : List ((Int) × ((List ((Int) × ((Int) × (Unit)))) × ((List ((Int) × ((Int) × (Unit)))) × ((List ((Int) × ((Int) × (Unit)))) × ((List ((Int) × ((Int) × (Unit)))) × ((List ((Int) × ((Int) × (Unit)))) × ((List (Int)) × (Unit)))))))))  (p : ((Int) × ((List ((Int) × ((Int) × (Unit)))) × ((List ((Int) × ((Int) × (Unit)))) × ((List ((Int) × ((Int) × (Unit)))) × ((List ((Int) × ((Int) × (Unit)))) × ((List ((Int) × ((Int) × (Unit)))) × ((List (Int)) × (Unit)))))))) → Bool) (hl : l.length ≤ 1048576) (hp : ∀ i, i < l.length → Ev (fun n => impl_GoodNotify_1 n (l.getD i default)) (p (l.getD i default))) : Ev (fun n => slices_IndexFunc_Interval_impl_GoodNotify_1 n l) (match (List.range l.length).find? (fun i => p (l.getD i default)) with | some i => (i : Int) | none => -1) := by
  refine Ev.step ?_
  simp only [slices_IndexFunc_Interval_impl_GoodNotify_1.step]
  refine Ev.find (pt := fun i : Nat => slices_IndexFunc_Interval_impl_GoodNotify_1.Pt.p7 l ((List.length l) : Int) (i : Int)) (fun i hi => ⟨fun h v hv => ?_, fun h => ?_⟩) ?_
  · refine Ev.step ?_
    simp only [slices_IndexFunc_Interval_impl_GoodNotify_1.step, toNat_cast, i64_nat (show i ≤ 4611686018427387904 by omega)]
    exact Ev.yes (lt_yes hi) (Ev.yes (inB_nat hi) (Ev.bind (hp i hi) (Ev.no h hv)))
  · refine Ev.step ?_
    simp only [slices_IndexFunc_Interval_impl_GoodNotify_1.step, toNat_cast]
    exact Ev.yes (lt_yes hi) (Ev.yes (inB_nat hi) (Ev.bind (hp i hi) (Ev.yes h Ev.pure)))
  · refine Ev.step ?_
    simp only [slices_IndexFunc_Interval_impl_GoodNotify_1.step]
    exact Ev.no lt_no Ev.pure
theorem slices_ContainsFunc_Interval_impl_GoodNotify_1.ev (l : List ((Int) × ((List ((Int) × ((Int) × (Unit)))) × ((List ((Int) × ((Int) × (Unit)))) × ((List ((Int) × ((Int) × (Unit)))) × ((List ((Int) × ((Int) × (Unit)))) × ((List ((Int) × ((Int) × (Unit)))) × ((List (Int)) × (Unit)))))))))  (p : ((Int) × ((List ((Int) × ((Int) × (Unit)))) × ((List ((Int) × ((Int) × (Unit)))) × ((List ((Int) × ((Int) × (Unit)))) × ((List ((Int) × ((Int) × (Unit)))) × ((List ((Int) × ((Int) × (Unit)))) × ((List (Int)) × (Unit)))))))) → Bool) (hl : l.length ≤ 1048576) (hp : ∀ i, i < l.length → Ev (fun n => impl_GoodNotify_1 n (l.getD i default)) (p (l.getD i default))) : Ev (fun n => slices_ContainsFunc_Interval_impl_GoodNotify_1 n l) ((List.range l.length).any fun i => p (l.getD i default)) := by
  refine Ev.step ?_
  simp only [slices_ContainsFunc_Interval_impl_GoodNotify_1.step]
  refine Ev.bind (slices_IndexFunc_Interval_impl_GoodNotify_1.ev l p hl hp) (Ev.pure' ?_)
  exact find_any
theorem impl_GoodNotify.ev (c : NCE) (h : Sm 1048576 NCU c) : Ev (fun n => impl_GoodNotify n c) (notifyB c) := by
  have hl1 : c.1.length ≤ 1048576 := h.1.1
  have hl2 : c.2.1.length ≤ 1048576 := h.2.1.1
  have routes : Ev (fun n => goRec impl_GoodNotify.step n (impl_GoodNotify.Pt.p15 c.1 (c.1.length : Int) 0 c.1 c.2.1 c.2.2.1 c.2.2.2.1)) (rmutesB c.2.1.length c.1) := by
    refine Ev.allN (pt := fun i : Nat => impl_GoodNotify.Pt.p15 c.1 (c.1.length : Int) (i : Int) c.1 c.2.1 c.2.2.1 c.2.2.2.1) (fun i hi => ?_) ?_
    · have hx := h.1.2 _ (getD_mem (d := default) hi)
      have hm : (c.1.getD i default).2.2.2.2.2.2.1.length ≤ 1048576 := hx.2.2.2.2.2.2.1.1
      have inner : ∀ b, (mutesOK c.2.1.length (c.1.getD i default).2.2.2.2.2.2.1 = true → Ev (fun n => goRec impl_GoodNotify.step n (impl_GoodNotify.Pt.p15 c.1 (c.1.length : Int) ((i + 1 : Nat) : Int) c.1 c.2.1 c.2.2.1 c.2.2.2.1)) b) → Ev (fun n => goRec impl_GoodNotify.step n (impl_GoodNotify.Pt.p15 c.1 (c.1.length : Int) (i : Int) c.1 c.2.1 c.2.2.1 c.2.2.2.1)) (mutesOK c.2.1.length (c.1.getD i default).2.2.2.2.2.2.1 && b) := by
        intro b hb
        refine Ev.step ?_
        simp only [impl_GoodNotify.step, toNat_cast]
        refine Ev.yes (lt_yes hi) (Ev.yes (inB_nat hi) ?_)
        refine Ev.allK (pt := fun j : Nat => impl_GoodNotify.Pt.p29 c.1 (c.1.length : Int) (i : Int) (c.1.getD i default).2.2.2.2.2.2.1 ((c.1.getD i default).2.2.2.2.2.2.1.length : Int) (j : Int) c.1 c.2.1 c.2.2.1 c.2.2.2.1) (fun j hj => ⟨fun hp v hv => ?_, fun hp => ?_⟩) (fun hp => ?_)
        · refine Ev.step ?_
          simp only [impl_GoodNotify.step, toNat_cast, i64_nat (show j ≤ 4611686018427387904 by omega)]
          exact Ev.yes (lt_yes hj) (Ev.yes (inB_nat hj) (Ev.no (by simpa using hp) hv))
        · refine Ev.step ?_
          simp only [impl_GoodNotify.step, toNat_cast]
          exact Ev.yes (lt_yes hj) (Ev.yes (inB_nat hj) (Ev.yes (by simpa using hp) Ev.pure))
        · refine Ev.step ?_
          simp only [impl_GoodNotify.step, i64_nat (show i ≤ 4611686018427387904 by omega)]
          exact Ev.no lt_no (hb hp)
      exact ⟨fun hp v hv => Ev.of_eq (inner v fun _ => hv) (by rw [hp]; rfl), fun hp => Ev.of_eq (inner false fun e => by rw [e] at hp; cases hp) (by rw [hp]; rfl)⟩
    · refine Ev.step ?_
      simp only [impl_GoodNotify.step]
      exact Ev.no lt_no Ev.pure
  have p4 : ∀ b, b = !((routesB c.1 && silsB c.2.2.1 && inhsB c.2.2.2.1) && decide (c.2.1.length ≤ 20) && itvsB c.2.1) → Ev (fun n => goRec impl_GoodNotify.step n (impl_GoodNotify.Pt.p4 b c.1 c.2.1 c.2.2.1 c.2.2.2.1)) (notifyB c) := by
    rintro b rfl
    refine Ev.step ?_
    simp only [impl_GoodNotify.step]
    refine Ev.cnd (fun e => Ev.pure' ?_) fun e => ?_
    · rw [Bool.not_eq_true'] at e
      rw [notifyB, e]; rfl
    · rw [Bool.not_eq_false'] at e
      exact Ev.of_eq routes (by rw [notifyB, e, Bool.true_and])
  refine Ev.step ?_
  simp only [impl_GoodNotify.step]
  refine Ev.bind (impl_GoodRoutes.ev _ h.1) (Ev.cnd (fun e => p4 _ (by rw [Bool.not_eq_true'] at e; rw [e]; rfl)) fun e1 => Ev.bind (impl_GoodSilences.ev _ h.2.2.1) (Ev.cnd (fun e => p4 _ (by rw [Bool.not_eq_true'] at e; rw [e]; simp)) fun e2 => Ev.bind (impl_GoodInhibits.ev _ h.2.2.2.1) (Ev.cnd (fun e => p4 _ (by rw [Bool.not_eq_true'] at e; rw [e]; simp)) fun e3 => Ev.cnd (fun e => p4 _ ?_) fun e4 => ?_)))
  · rw [show decide (c.2.1.length ≤ 20) = false by simp only [decide_eq_true_eq] at e; simp only [decide_eq_false_iff_not]; omega]; simp
  rw [Bool.not_eq_false'] at e1 e2 e3
  refine Ev.bind (slices_ContainsFunc_Interval_impl_GoodNotify_1.ev c.2.1 (fun x => !itvB x) hl2 fun i hi => impl_GoodNotify_1.ev _ (h.2.1.2 _ (getD_mem hi))) (p4 _ ?_)
  rw [e1, e2, e3, show decide (c.2.1.length ≤ 20) = true by simp only [decide_eq_false_iff_not] at e4; simp only [decide_eq_true_eq]; omega]
  simp only [itvsB, Bool.true_and, List.not_all_eq_any_not]
theorem impl_daysTo.ev (y : Int) (h : 1970 ≤ y) (h' : y ≤ 100000) : Ev (fun n => impl_daysTo n y) (dto y) := by
  refine Ev.step ?_
  simp only [impl_daysTo.step]
  refine Ev.pure' ?_
  have t (c : Int) : Int.tdiv (y - 1) c = (y - 1) / c := Int.tdiv_eq_ediv_of_nonneg (by omega)
  rw [w64 (n := y - 1970) (by omega) (by omega), w64 (n := y - 1) (by omega) (by omega), t, t, t]
  rw [w64 (n := (y - 1970) * 365) (by omega) (by omega), w64 (n := (y - 1) / 4) (by omega) (by omega), w64 (n := (y - 1) / 100) (by omega) (by omega), w64 (n := (y - 1) / 400) (by omega) (by omega)]
  rw [w64 (n := (y - 1) / 4 - (y - 1) / 100) (by omega) (by omega), w64 (n := (y - 1) / 4 - (y - 1) / 100 + (y - 1) / 400) (by omega) (by omega), w64 (n := (y - 1970) * 365 + ((y - 1) / 4 - (y - 1) / 100 + (y - 1) / 400)) (by omega) (by omega), w64 (by omega) (by omega)]
  rfl
theorem impl_leap.ev (y : Int) (h : 0 ≤ y) : Ev (fun n => impl_leap n y) (decide (lp y = 1)) := by
  refine Ev.step ?_
  simp only [impl_leap.step]
  rw [Int.tmod_eq_emod_of_nonneg h, Int.tmod_eq_emod_of_nonneg h, Int.tmod_eq_emod_of_nonneg h]
  refine Ev.cnd (fun c => Ev.cnd (fun c2 => Ev.pure' ?_) fun c2 => Ev.pure' ?_) fun c => Ev.pure' ?_ <;> simp at * <;> simp [lp, *]
theorem impl_daysIn.ev (y m : Int) (h : 0 ≤ y) (h1 : 1 ≤ m) (h2 : m ≤ 12) : Ev (fun n => impl_daysIn n y m) (mon y m) := by
  refine Ev.step ?_
  simp only [impl_daysIn.step]
  have hin : inB m 13 = true := by simp [inB]; omega
  have hl := lp_01 y
  refine Ev.cnd (fun c => Ev.bind (impl_leap.ev y h) (Ev.cnd (fun c2 => Ev.pure' ?_) fun c2 => Ev.yes hin (Ev.pure' ?_))) fun c => Ev.yes hin (Ev.pure' ?_)
  · simp at c c2; simp [mon, c, c2]
  · have c2 := of_decide_eq_false c2
    have c := of_decide_eq_true c
    subst c
    have h0 : lp y = 0 := by omega
    simp [mon, h0]
  · simp at c
    have hm : m = 1 ∨ m = 3 ∨ m = 4 ∨ m = 5 ∨ m = 6 ∨ m = 7 ∨ m = 8 ∨ m = 9 ∨ m = 10 ∨ m = 11 ∨ m = 12 := by omega
    rcases hm with rfl | rfl | rfl | rfl | rfl | rfl | rfl | rfl | rfl | rfl | rfl <;> simp [mon]
theorem impl_DateOf.months (t day y m n : Int) (ht : 0 ≤ t ∧ t ≤ 2000000000000) (hdy : 0 ≤ day ∧ day ≤ 20000000) (hy : 0 ≤ y) (h1 : 1 ≤ m) (h2 : m ≤ 12) (hn : 0 ≤ n) (hn' : n < 400) (hm : cumd y m ≤ n) (hm' : n < cumd y m + mon y m) (d : Nat) : ∀ i : Int, 1 ≤ i → i ≤ m → (m - i).toNat ≤ d →
    Ev (fun k => goRec impl_DateOf.step k (impl_DateOf.Pt.p34 t day y (n - cumd y i) i 0 0 0 0 0 0)) ((y, m, n - cumd y m + 1, mon y m, (day + 4) % 7, t % 86400 / 60, ()) : DTE) := by
  have last : Ev (fun k => goRec impl_DateOf.step k (impl_DateOf.Pt.p34 t day y (n - cumd y m) m 0 0 0 0 0 0)) ((y, m, n - cumd y m + 1, mon y m, (day + 4) % 7, t % 86400 / 60, ()) : DTE) := by
    have hc := cumd_nn y m
    refine Ev.step ?_
    simp only [impl_DateOf.step]
    refine Ev.bind (impl_daysIn.ev y m hy h1 h2) (Ev.no (decide_eq_false (by omega)) (Ev.bind (impl_daysIn.ev y m hy h1 h2) ?_))
    rw [w64 (n := n - cumd y m + 1) (by omega) (by omega), w64 (n := day + 4) (by omega) (by omega), Int.tmod_eq_emod_of_nonneg (show 0 ≤ day + 4 by omega), Int.tmod_eq_emod_of_nonneg (show 0 ≤ t by omega), Int.tdiv_eq_ediv_of_nonneg (show 0 ≤ t % 86400 by omega), w64 (n := t % 86400 / 60) (by omega) (by omega)]
    exact Ev.pure
  induction d with
  | zero =>
    intro i hi hi' hd
    obtain rfl : i = m := by omega
    exact last
  | succ d ih =>
    intro i hi hi' hd
    by_cases c : i = m
    · subst c; exact last
    · have hc := cumd_nn y i
      have hlt := mon_lt y m i n hi (by omega) h2 hm
      have hs := cumd_succ y i hi (by omega)
      have hb := mon_bd y i
      have e := ih (i + 1) (by omega) (by omega) (by omega)
      rw [hs, show n - (cumd y i + mon y i) = n - cumd y i - mon y i by omega] at e
      refine Ev.step ?_
      simp only [impl_DateOf.step]
      refine Ev.bind (impl_daysIn.ev y i hy hi (by omega)) (Ev.yes (decide_eq_true (by omega)) (Ev.bind (impl_daysIn.ev y i hy hi (by omega)) ?_))
      rw [w64 (n := n - cumd y i - mon y i) (by omega) (by omega), w64 (n := i + 1) (by omega) (by omega)]
      exact e
theorem impl_DateOf.years (t day y : Int) (r : DTE) (hd0 : 0 ≤ day) (hd1 : day ≤ 20000000) (hy : 1970 ≤ y) (hy' : y ≤ 60000) (h1 : dto y ≤ day) (h2 : day < dto (y + 1)) (e : Ev (fun k => goRec impl_DateOf.step k (impl_DateOf.Pt.p34 t day y (day - dto y) 1 0 0 0 0 0 0)) r) (d : Nat) : ∀ i : Int, 1970 ≤ i → i ≤ y → (y - i).toNat ≤ d →
    Ev (fun k => goRec impl_DateOf.step k (impl_DateOf.Pt.p19 t day i 0 0 0 0 0 0)) r := by
  have hb := dto_bd y hy
  have last : Ev (fun k => goRec impl_DateOf.step k (impl_DateOf.Pt.p19 t day y 0 0 0 0 0 0)) r := by
    refine Ev.step ?_
    simp only [impl_DateOf.step]
    rw [w64 (n := y + 1) (by omega) (by omega)]
    refine Ev.bind (impl_daysTo.ev (y + 1) (by omega) (by omega)) (Ev.no (decide_eq_false (by omega)) (Ev.bind (impl_daysTo.ev y hy (by omega)) ?_))
    rw [w64 (n := day - dto y) (by omega) (by omega)]
    exact e
  induction d with
  | zero =>
    intro i hi hi' hd
    obtain rfl : i = y := by omega
    exact last
  | succ d ih =>
    intro i hi hi' hd
    by_cases c : i = y
    · subst c; exact last
    · have hl := dto_lt (i + 1) y (by omega)
      have e2 := ih (i + 1) (by omega) (by omega) (by omega)
      refine Ev.step ?_
      simp only [impl_DateOf.step]
      rw [w64 (n := i + 1) (by omega) (by omega)]
      exact Ev.bind (impl_daysTo.ev (i + 1) (by omega) (by omega)) (Ev.yes (decide_eq_true (by omega)) e2)
theorem impl_DateOf.ev (t z : Int) (hz : -9223372036854775808 ≤ z ∧ z ≤ 9223372036854775807) : Ev (fun n => impl_DateOf n t z) (dateV t z) := by
  have bad : dateIn t z = false → Ev (fun n => goRec impl_DateOf.step n (impl_DateOf.Pt.p4 t z true 0 0 0 0 0 0)) (dateV t z) := by
    intro h
    refine Ev.step ?_
    simp only [impl_DateOf.step]
    exact Ev.yes rfl (Ev.pure' (by simp [dateV, h] <;> rfl))
  refine Ev.step ?_
  simp only [impl_DateOf.step]
  refine Ev.bind (impl_isTime.ev t) (Ev.cnd (fun c => bad (by simp at c; simp [dateIn, c])) fun c1 => Ev.cnd (fun c => bad (by have c := of_decide_eq_true c; simp [dateIn, show ¬ -1440 ≤ z by omega])) fun c2 => Ev.cnd (fun c => bad (by have c := of_decide_eq_true c; simp [dateIn, show ¬ z ≤ 1440 by omega])) fun c3 => ?_)
  replace c2 := of_decide_eq_false c2; replace c3 := of_decide_eq_false c3
  have ht : 0 ≤ t ∧ t ≤ 1000000000000 := by simp [timeB] at c1; exact c1
  have hT : timeB t = true := by simpa using c1
  rw [w64 (n := 60 * z) (by omega) (by omega), w64 (n := t + 60 * z) (by omega) (by omega)]
  by_cases c4 : t + 60 * z < 0
  · rw [decide_eq_true c4]; exact bad (by simp [dateIn, show ¬ 0 ≤ t + 60 * z by omega])
  rw [decide_eq_false c4]
  have hin : dateIn t z = true := by simp [dateIn, hT]; omega
  rw [dateV, if_pos hin]
  refine Ev.step ?_
  simp only [impl_DateOf.step]
  rw [w64 (n := 60 * z) (by omega) (by omega), w64 (n := t + 60 * z) (by omega) (by omega), Int.tdiv_eq_ediv_of_nonneg (show 0 ≤ t + 60 * z by omega), w64 (n := (t + 60 * z) / 86400) (by omega) (by omega), Int.tdiv_eq_ediv_of_nonneg (show 0 ≤ (t + 60 * z) / 86400 by omega), w64 (n := (t + 60 * z) / 86400 / 366) (by omega) (by omega), w64 (n := 1970 + (t + 60 * z) / 86400 / 366) (by omega) (by omega)]
  have hmi : (t + 60 * z) / 60 % 1440 = (t + 60 * z) % 86400 / 60 := by omega
  rw [hmi]
  generalize hday : (t + 60 * z) / 86400 = day
  have hday0 : 0 ≤ day := by omega
  have hday1 : day ≤ 20000000 := by omega
  obtain ⟨hy, hy1, hy2⟩ := yearOf_spec day hday0
  have hyb := dto_bd (yearOf day) hy
  have hs := dto_succ (yearOf day)
  have hlp := lp_01 (yearOf day)
  have hyl : yl (yearOf day) = 365 + lp (yearOf day) := rfl
  obtain ⟨hm1, hm2, hm3, hm4⟩ := monthOf_spec (yearOf day) (day - dto (yearOf day)) (by omega) (by omega)
  have e := impl_DateOf.months (t + 60 * z) day (yearOf day) (monthOf (yearOf day) (day - dto (yearOf day))) (day - dto (yearOf day)) ⟨by omega, by omega⟩ ⟨hday0, hday1⟩ (by omega) hm1 hm2 (by omega) (by omega) hm3 hm4 12 1 (by omega) hm1 (by omega)
  rw [show cumd (yearOf day) 1 = 0 by simp [cumd], Int.sub_zero] at e
  have hg : 1970 + day / 366 ≤ yearOf day := by
    by_cases c : 1970 + day / 366 ≤ yearOf day
    · exact c
    · have a := dto_lt (yearOf day + 1) (1970 + day / 366) (by omega)
      have b := dto_bd (1970 + day / 366) (by omega)
      omega
  exact Ev.no rfl (impl_DateOf.years (t + 60 * z) day (yearOf day) _ hday0 hday1 hy (by omega) hy1 hy2 e (yearOf day - (1970 + day / 366)).toNat (1970 + day / 366) (by omega) hg (by omega))
theorem impl_inRanges.ev (l : List RG) (ns : List Int) (hl : l.length ≤ 1048576) (hn : ns.length ≤ 1048576) : Ev (fun n => impl_inRanges n l ns) (decide (l.length = 0) || (List.range l.length).any fun i => (List.range ns.length).any fun j => decide ((l.getD i default).1 ≤ ns.getD j default) && decide (ns.getD j default ≤ (l.getD i default).2.1)) := by
  have go : ∀ d i, i + d = l.length → Ev (fun n => goRec impl_inRanges.step n (impl_inRanges.Pt.p15 ns l (l.length : Int) (i : Int))) ((List.range' i d).any fun i => (List.range ns.length).any fun j => decide ((l.getD i default).1 ≤ ns.getD j default) && decide (ns.getD j default ≤ (l.getD i default).2.1)) := by
    intro d
    induction d with
    | zero =>
      intro i h
      rw [Nat.add_zero] at h; subst h
      refine Ev.step ?_
      simp only [impl_inRanges.step]
      exact Ev.no lt_no (Ev.pure' (by simp))
    | succ d ih =>
      intro i h
      rw [List.range'_succ, List.any_cons]
      have ih' := ih (i + 1) (by omega)
      generalize ((List.range' (i + 1) d).any fun i => (List.range ns.length).any fun j => decide ((l.getD i default).1 ≤ ns.getD j default) && decide (ns.getD j default ≤ (l.getD i default).2.1)) = v at ih'
      refine Ev.step ?_
      simp only [impl_inRanges.step, toNat_cast]
      refine Ev.yes (lt_yes (by omega)) (Ev.yes (inB_nat (by omega)) ?_)
      generalize l.getD i default = r
      have inner : ∀ e j, j + e = ns.length → Ev (fun n => goRec impl_inRanges.step n (impl_inRanges.Pt.p29 ns l (l.length : Int) (i : Int) ns (ns.length : Int) (j : Int) r.1 r.2.1)) (((List.range' j e).any fun j => decide (r.1 ≤ ns.getD j default) && decide (ns.getD j default ≤ r.2.1)) || v) := by
        intro e
        induction e with
        | zero =>
          intro j hj
          rw [Nat.add_zero] at hj; subst hj
          refine Ev.step ?_
          simp only [impl_inRanges.step, i64_nat (show i ≤ 4611686018427387904 by omega)]
          exact Ev.no lt_no (Ev.of_eq ih' (by simp))
        | succ e ihe =>
          intro j hj
          rw [List.range'_succ, List.any_cons]
          have ihe' := ihe (j + 1) (by omega)
          generalize ((List.range' (j + 1) e).any fun j => decide (r.1 ≤ ns.getD j default) && decide (ns.getD j default ≤ r.2.1)) = u at ihe'
          refine Ev.step ?_
          simp only [impl_inRanges.step, toNat_cast, i64_nat (show j ≤ 4611686018427387904 by omega)]
          generalize ns.getD j default = q
          refine Ev.yes (lt_yes (by omega)) (Ev.yes (inB_nat (by omega)) (Ev.cnd (fun c => Ev.cnd (fun c2 => Ev.pure' ?_) fun c2 => Ev.of_eq ihe' ?_) fun c => Ev.of_eq ihe' ?_))
          · simp [of_decide_eq_true c, of_decide_eq_true c2]
          · simp [of_decide_eq_false c2]
          · simp [of_decide_eq_false c]
      have := inner ns.length 0 (by omega)
      rw [← List.range_eq_range'] at this
      exact this
  refine Ev.step ?_
  simp only [impl_inRanges.step]
  refine Ev.cnd (fun c => Ev.pure' (by have c := of_decide_eq_true c; simp [show l.length = 0 by omega])) fun c => ?_
  have c := of_decide_eq_false c
  have := go l.length 0 (by omega)
  rw [← List.range_eq_range'] at this
  rw [decide_eq_false (show ¬ l.length = 0 by omega), Bool.false_or]
  exact this
theorem inRs_one (l : List RG) (a : Int) : (decide (l.length = 0) || (List.range l.length).any fun i => (List.range [a].length).any fun j => decide ((l.getD i default).1 ≤ [a].getD j default) && decide ([a].getD j default ≤ (l.getD i default).2.1)) = inRB l a := by
  simp [inRB, List.range_succ]
theorem inRs_two (l : List RG) (a b : Int) : (decide (l.length = 0) || (List.range l.length).any fun i => (List.range [a, b].length).any fun j => decide ((l.getD i default).1 ≤ [a, b].getD j default) && decide ([a, b].getD j default ≤ (l.getD i default).2.1)) = (inRB l a || inRB l b) := by
  have e : ∀ i, ((List.range [a, b].length).any fun j => decide ((l.getD i default).1 ≤ [a, b].getD j default) && decide ([a, b].getD j default ≤ (l.getD i default).2.1)) = ((decide ((l.getD i default).1 ≤ a) && decide (a ≤ (l.getD i default).2.1)) || (decide ((l.getD i default).1 ≤ b) && decide (b ≤ (l.getD i default).2.1))) := by
    intro i; simp [List.range_succ]
  simp only [e, inRB]
  rw [Bool.eq_iff_iff]
  simp only [Bool.or_eq_true, List.any_eq_true]
  constructor
  · rintro (h | ⟨i, hi, h | h⟩)
    · exact .inl (.inl h)
    · exact .inl (.inr ⟨i, hi, h⟩)
    · exact .inr (.inr ⟨i, hi, h⟩)
  · rintro ((h | ⟨i, hi, h⟩) | (h | ⟨i, hi, h⟩))
    · exact .inl h
    · exact .inr ⟨i, hi, .inl h⟩
    · exact .inl h
    · exact .inr ⟨i, hi, .inr h⟩
theorem impl_DayNumber.months (y m : Int) (hy : 0 ≤ y) (hm : m ≤ 12) (h1m : 1 ≤ m) (d : Nat) : ∀ (n i : Int), 1 ≤ i → i ≤ m → (m - i).toNat ≤ d → 0 ≤ n → n ≤ 100000000 + 31 * i → Ev (fun k => goRec impl_DayNumber.step k (impl_DayNumber.Pt.p17 y m n i)) (n + cumd y m - cumd y i) := by
  induction d with
  | zero =>
    intro n i h1 hi hd h0 hn
    obtain rfl : i = m := by omega
    refine Ev.step ?_
    simp only [impl_DayNumber.step]
    exact Ev.no (by simp) (Ev.pure' (α := Int) (by omega))
  | succ d ih =>
    intro n i h1 hi hd h0 hn
    refine Ev.step ?_
    simp only [impl_DayNumber.step]
    by_cases c : i < m
    · have hb := mon_bd y i
      have hc := cumd_succ y i h1 (by omega)
      refine Ev.yes (by simpa using c) (Ev.bind (impl_daysIn.ev y i hy h1 (by omega)) ?_)
      rw [w64 (n := n + mon y i) (by omega) (by omega), w64 (n := i + 1) (by omega) (by omega)]
      exact Ev.of_eq (α := Int) (ih (n + mon y i) (i + 1) (by omega) (by omega) (by omega) (by omega) (by omega)) (by omega)
    · obtain rfl : i = m := by omega
      exact Ev.no (by simp) (Ev.pure' (α := Int) (by omega))
theorem impl_DayNumber.ev (y m d : Int) : Ev (fun n => impl_DayNumber n y m d) (dayV y m d) := by
  have bad : dayIn y m d = false → Ev (fun n => goRec impl_DayNumber.step n (impl_DayNumber.Pt.p4 y m d true)) (dayV y m d) := by
    intro h
    refine Ev.step ?_
    simp only [impl_DayNumber.step]
    exact Ev.yes rfl (Ev.pure' (by simp [dayV, h]))
  refine Ev.step ?_
  simp only [impl_DayNumber.step]
  refine Ev.cnd (fun c => bad (by have := of_decide_eq_true c; simp [dayIn]; omega)) fun c1 => Ev.cnd (fun c => bad (by have := of_decide_eq_true c; simp [dayIn]; omega)) fun c2 => Ev.cnd (fun c => bad (by have := of_decide_eq_true c; simp [dayIn]; omega)) fun c3 => Ev.cnd (fun c => bad (by have := of_decide_eq_true c; simp [dayIn]; omega)) fun c4 => Ev.cnd (fun c => bad (by have := of_decide_eq_true c; simp [dayIn]; omega)) fun c5 => ?_
  replace c1 := of_decide_eq_false c1; replace c2 := of_decide_eq_false c2; replace c3 := of_decide_eq_false c3; replace c4 := of_decide_eq_false c4; replace c5 := of_decide_eq_false c5
  refine Ev.bind (impl_daysIn.ev y m (by omega) (by omega) (by omega)) ?_
  have hb := mon_bd y m
  by_cases c6 : mon y m < d
  · rw [decide_eq_true c6]; exact bad (by simp [dayIn]; omega)
  · rw [decide_eq_false c6]
    have hin : dayIn y m d = true := by simp [dayIn]; omega
    have hd := dto_bd y (by omega)
    refine Ev.step ?_
    simp only [impl_DayNumber.step]
    refine Ev.no rfl (Ev.bind (impl_daysTo.ev y (by omega) (by omega)) ?_)
    rw [w64 (n := dto y + d) (by omega) (by omega), w64 (n := dto y + d - 1) (by omega) (by omega)]
    refine Ev.of_eq (α := Int) (impl_DayNumber.months y m (by omega) (by omega) (by omega) (m - 1).toNat (dto y + d - 1) 1 (by omega) (by omega) (by omega) (by omega) (by omega)) ?_
    rw [dayV, if_pos hin]; simp [cumd]
theorem slices_Index_int.ev (l : List Int) (x : Int) (hl : l.length ≤ 1048576) : Ev (fun n => slices_Index_int n l x) (match (List.range l.length).find? (fun i => decide (l.getD i default = x)) with | some i => (i : Int) | none => -1) := by
  refine Ev.step ?_
  simp only [slices_Index_int.step]
  refine Ev.find (pt := fun i : Nat => slices_Index_int.Pt.p7 l x (l.length : Int) (i : Int)) (fun i hi => ⟨fun h v hv => ?_, fun h => ?_⟩) ?_
  · have h := of_decide_eq_false h
    refine Ev.step ?_
    simp only [slices_Index_int.step, toNat_cast, i64_nat (show i ≤ 4611686018427387904 by omega)]
    exact Ev.yes (lt_yes hi) (Ev.yes (inB_nat hi) (Ev.no (decide_eq_false fun e => h e.symm) hv))
  · have h := of_decide_eq_true h
    refine Ev.step ?_
    simp only [slices_Index_int.step, toNat_cast]
    exact Ev.yes (lt_yes hi) (Ev.yes (inB_nat hi) (Ev.yes (decide_eq_true h.symm) Ev.pure))
  · refine Ev.step ?_
    simp only [slices_Index_int.step]
    exact Ev.no lt_no Ev.pure
theorem slices_Contains_int.ev (l : List Int) (x : Int) (hl : l.length ≤ 1048576) : Ev (fun n => slices_Contains_int n l x) (inIB l x) := by
  refine Ev.step ?_
  simp only [slices_Contains_int.step]
  exact Ev.bind (slices_Index_int.ev l x hl) (Ev.pure' find_any)
theorem impl_InInterval.ev (x : ITV) (t : Int) (h : Sm 1048576 ITU x) (hz : -9223372036854775808 ≤ x.1 ∧ x.1 ≤ 9223372036854775807) : Ev (fun n => impl_InInterval n x t) (inItvB x t) := by
  have h4 : ∀ b, b = !(itvB x && timeB t) → Ev (fun n => goRec impl_InInterval.step n (impl_InInterval.Pt.p4 t b x.1 x.2.1 x.2.2.1 x.2.2.2.1 x.2.2.2.2.1 x.2.2.2.2.2.1 x.2.2.2.2.2.2.1)) (inItvB x t) := by
    rintro b rfl
    refine Ev.step ?_
    simp only [impl_InInterval.step]
    refine Ev.cnd (fun c => Ev.pure' (by rw [Bool.not_eq_true'] at c; rw [inItvB, c]; rfl)) fun c => ?_
    rw [Bool.not_eq_false'] at c
    refine Ev.bind (impl_DateOf.ev t x.1 hz) ?_
    generalize hD : dateV t x.1 = D
    simp only [inItvB, c, hD, Bool.true_and]
    refine Ev.cnd (fun c => Ev.pure' (by rw [c]; rfl)) fun c1 => ?_
    rw [c1, Bool.not_false, Bool.true_and]
    refine Ev.bind (Ev.of_eq (impl_inRanges.ev _ _ h.2.1.1 (by simp)) (inRs_one _ _)) (Ev.cnd (fun c2 => ?_) fun c => Ev.pure' (by rw [c]; rfl))
    rw [c2, Bool.true_and]
    refine Ev.bind (Ev.of_eq (impl_inRanges.ev _ _ h.2.2.1.1 (by simp)) (inRs_one _ _)) (Ev.cnd (fun c3 => ?_) fun c => Ev.pure' (by rw [c]; rfl))
    rw [c3, Bool.true_and]
    refine Ev.bind (Ev.of_eq (impl_inRanges.ev _ _ h.2.2.2.1.1 (by simp)) (inRs_two _ _ _)) (Ev.cnd (fun c4 => ?_) fun c => Ev.pure' (by rw [c]; rfl))
    rw [c4, Bool.true_and]
    refine Ev.bind (Ev.of_eq (impl_inRanges.ev _ _ h.2.2.2.2.1.1 (by simp)) (inRs_one _ _)) (Ev.cnd (fun c5 => ?_) fun c => Ev.pure' (by rw [c]; rfl))
    rw [c5, Bool.true_and]
    refine Ev.bind (Ev.of_eq (impl_inRanges.ev _ _ h.2.2.2.2.2.1.1 (by simp)) (inRs_one _ _)) (Ev.cnd (fun c6 => ?_) fun c => Ev.pure' (by rw [c]; rfl))
    rw [c6, Bool.true_and]
    exact Ev.bind (impl_DayNumber.ev _ _ _) (Ev.bind (slices_Contains_int.ev _ _ h.2.2.2.2.2.2.1.1) Ev.pure)
  refine Ev.step ?_
  simp only [impl_InInterval.step]
  refine Ev.bind (impl_GoodInterval.ev x h) (Ev.cnd (fun c => h4 _ (by rw [Bool.not_eq_true'] at c; rw [c]; rfl)) fun c => Ev.bind (impl_isTime.ev t) (h4 _ ?_))
  rw [Bool.not_eq_false'] at c; rw [c]; rfl
theorem impl_mutedAt_1.ev (n : Int) (c : NCE) (t : Int) (h : Sm 1048576 NCU c) (hw : Wf NCU c) (hn : 0 ≤ n ∧ n < (c.2.1.length : Int)) : Ev (fun k => impl_mutedAt_1 k n c t) (inItvB (c.2.1.getD n.toNat default) t) := by
  have hlt : n.toNat < c.2.1.length := by omega
  refine Ev.step ?_
  simp only [impl_mutedAt_1.step]
  exact Ev.yes (inB_of hn) (Ev.bind (impl_InInterval.ev _ t (h.2.1.2 _ (getD_mem hlt)) (wf_i64 (hw.2.1.2 _ (getD_mem hlt)).1)) Ev.pure)
theorem slices_IndexFunc_int_impl_mutedAt_1.ev (l : List (Int)) (a1 : (List ((ByteArray) × ((List ((ByteArray) × ((Int) × ((ByteArray) × (Unit))))) × ((List (ByteArray)) × ((Int) × ((Int) × ((Int) × ((List (Int)) × ((Bool) × ((Int) × (Unit))))))))))) × ((List ((Int) × ((List ((Int) × ((Int) × (Unit)))) × ((List ((Int) × ((Int) × (Unit)))) × ((List ((Int) × ((Int) × (Unit)))) × ((List ((Int) × ((Int) × (Unit)))) × ((List ((Int) × ((Int) × (Unit)))) × ((List (Int)) × (Unit))))))))) × ((List ((ByteArray) × ((List ((ByteArray) × ((Int) × ((ByteArray) × (Unit))))) × ((Int) × ((Int) × (Unit)))))) × ((List ((List ((ByteArray) × ((Int) × ((ByteArray) × (Unit))))) × ((List ((ByteArray) × ((Int) × ((ByteArray) × (Unit))))) × ((List (ByteArray)) × (Unit))))) × (Unit))))) (a2 : Int) (p : (Int) → Bool) (hl : l.length ≤ 1048576) (hp : ∀ i, i < l.length → Ev (fun n => impl_mutedAt_1 n (l.getD i default) a1 a2) (p (l.getD i default))) : Ev (fun n => slices_IndexFunc_int_impl_mutedAt_1 n l a1 a2) (match (List.range l.length).find? (fun i => p (l.getD i default)) with | some i => (i : Int) | none => -1) := by
  refine Ev.step ?_
  simp only [slices_IndexFunc_int_impl_mutedAt_1.step]
  refine Ev.find (pt := fun i : Nat => slices_IndexFunc_int_impl_mutedAt_1.Pt.p7 l ((List.length l) : Int) (i : Int) a1 a2) (fun i hi => ⟨fun h v hv => ?_, fun h => ?_⟩) ?_
  · refine Ev.step ?_
    simp only [slices_IndexFunc_int_impl_mutedAt_1.step, toNat_cast, i64_nat (show i ≤ 4611686018427387904 by omega)]
    exact Ev.yes (lt_yes hi) (Ev.yes (inB_nat hi) (Ev.bind (hp i hi) (Ev.no h hv)))
  · refine Ev.step ?_
    simp only [slices_IndexFunc_int_impl_mutedAt_1.step, toNat_cast]
    exact Ev.yes (lt_yes hi) (Ev.yes (inB_nat hi) (Ev.bind (hp i hi) (Ev.yes h Ev.pure)))
  · refine Ev.step ?_
    simp only [slices_IndexFunc_int_impl_mutedAt_1.step]
    exact Ev.no lt_no Ev.pure
theorem slices_ContainsFunc_int_impl_mutedAt_1.ev (l : List (Int)) (a1 : (List ((ByteArray) × ((List ((ByteArray) × ((Int) × ((ByteArray) × (Unit))))) × ((List (ByteArray)) × ((Int) × ((Int) × ((Int) × ((List (Int)) × ((Bool) × ((Int) × (Unit))))))))))) × ((List ((Int) × ((List ((Int) × ((Int) × (Unit)))) × ((List ((Int) × ((Int) × (Unit)))) × ((List ((Int) × ((Int) × (Unit)))) × ((List ((Int) × ((Int) × (Unit)))) × ((List ((Int) × ((Int) × (Unit)))) × ((List (Int)) × (Unit))))))))) × ((List ((ByteArray) × ((List ((ByteArray) × ((Int) × ((ByteArray) × (Unit))))) × ((Int) × ((Int) × (Unit)))))) × ((List ((List ((ByteArray) × ((Int) × ((ByteArray) × (Unit))))) × ((List ((ByteArray) × ((Int) × ((ByteArray) × (Unit))))) × ((List (ByteArray)) × (Unit))))) × (Unit))))) (a2 : Int) (p : (Int) → Bool) (hl : l.length ≤ 1048576) (hp : ∀ i, i < l.length → Ev (fun n => impl_mutedAt_1 n (l.getD i default) a1 a2) (p (l.getD i default))) : Ev (fun n => slices_ContainsFunc_int_impl_mutedAt_1 n l a1 a2) ((List.range l.length).any fun i => p (l.getD i default)) := by
  refine Ev.step ?_
  simp only [slices_ContainsFunc_int_impl_mutedAt_1.step]
  refine Ev.bind (slices_IndexFunc_int_impl_mutedAt_1.ev l a1 a2 p hl hp) (Ev.pure' ?_)
  exact find_any
theorem impl_mutedAt.ev (c : NCE) (r t : Int) (h : Sm 1048576 NCU c) (hw : Wf NCU c) (hr : 0 ≤ r ∧ r < (c.1.length : Int)) (hn : notifyB c = true) : Ev (fun n => impl_mutedAt n c r t) (mutedB c (c.1.getD r.toNat default).2.2.2.2.2.2.1 t) := by
  have hi : r.toNat < c.1.length := by omega
  have hm : (c.1.getD r.toNat default).2.2.2.2.2.2.1.length ≤ 1048576 := (h.1.2 _ (getD_mem (d := default) hi)).2.2.2.2.2.2.1.1
  refine Ev.step ?_
  simp only [impl_mutedAt.step]
  exact Ev.yes (inB_of hr) (Ev.bind (slices_ContainsFunc_int_impl_mutedAt_1.ev _ c t (fun n => inItvB (c.2.1.getD n.toNat default) t) hm fun j hj => impl_mutedAt_1.ev _ c t h hw (mutes_in hn hi hj)) Ev.pure)
theorem impl_MutedAt.ev (c : NCE) (r t : Int) (h : Sm 1048576 NCU c) (hw : Wf NCU c) : Ev (fun n => impl_MutedAt n c r t) (mutedAtB c r t) := by
  refine Ev.step ?_
  simp only [impl_MutedAt.step]
  refine Ev.bind (impl_GoodNotify.ev c h) (Ev.cnd (fun e1 => Ev.cnd (fun e2 => Ev.cnd (fun e3 => Ev.bind (impl_isTime.ev _) (Ev.cnd (fun e4 => ?_) fun e => Ev.pure' ?_)) fun e => Ev.pure' ?_) fun e => Ev.pure' ?_) fun e => Ev.pure' ?_)
  · refine Ev.bind (impl_mutedAt.ev c r t h hw ⟨by simpa using e2, by simpa using e3⟩ e1) (Ev.pure' ?_)
    rw [mutedAtB, e1, e2, e3, e4]; rfl
  · rw [mutedAtB, e]; simp
  · rw [mutedAtB, e]; simp
  · rw [mutedAtB, e]; simp
  · rw [mutedAtB, e]; rfl
theorem laws_eqMatcher.ev (x y : (ByteArray) × ((Int) × ((ByteArray) × (Unit)))) (hx : Sm 1048576 (.pair .str (.pair (.int .i64) (.pair .str .unit))) x) (hy : Sm 1048576 (.pair .str (.pair (.int .i64) (.pair .str .unit))) y) : Ev (fun n => laws_eqMatcher n x y) (eqB x y) := by
  refine Ev.step ?_
  simp only [laws_eqMatcher.step]
  refine Ev.cnd (fun h => Ev.pure' (eqB_no fun e => by subst e; simp [seq, eqB] at h).symm) fun h1 => ?_
  replace h1 : x.1 = y.1 := by simpa [seq, eqB] using h1
  refine Ev.cnd (fun h => Ev.pure' (eqB_no fun e => by subst e; simp [seq, eqB] at h).symm) fun h2 => ?_
  replace h2 : x.2.1 = y.2.1 := by simpa [seq, eqB] using h2
  refine Ev.cnd (fun h => Ev.pure' (eqB_no fun e => by subst e; simp [seq, eqB] at h).symm) fun h3 => ?_
  replace h3 : x.2.2.1 = y.2.2.1 := by simpa [seq, eqB] using h3
  exact Ev.pure' (eqB_yes (Prod.ext h1 (Prod.ext h2 (Prod.ext h3 rfl)))).symm
theorem laws_eqMatcherS.loop (l m : List ((ByteArray) × ((Int) × ((ByteArray) × (Unit))))) (hl : Sm 1048576 (.sl false (.pair .str (.pair (.int .i64) (.pair .str .unit)))) l) (hm : Sm 1048576 (.sl false (.pair .str (.pair (.int .i64) (.pair .str .unit)))) m) (hlm : l.length = m.length) : ∀ d i, i + d = l.length → (∀ j, j < i → l.getD j default = m.getD j default) → Ev (fun n => goRec laws_eqMatcherS.step n (.p15 l m (i : Int))) (eqB l m) := by
  have hk : l.length ≤ 1048576 := hl.1
  intro d
  induction d with
  | zero =>
    intro i hd hj
    rw [Nat.add_zero] at hd
    subst hd
    refine Ev.step ?_
    simp only [laws_eqMatcherS.step]
    exact Ev.no lt_no (Ev.pure' (eqB_yes (ext_getD (d := default) hlm (fun j hj2 => hj j (by omega)))).symm)
  | succ d ih =>
    intro i hd hj
    have hi : i < l.length := by omega
    refine Ev.step ?_
    simp only [laws_eqMatcherS.step, toNat_cast]
    refine Ev.yes (lt_yes hi) (Ev.yes (inB_nat hi) (Ev.yes (inB_nat (by omega)) ?_))
    refine Ev.bind (laws_eqMatcher.ev (l.getD i default) (m.getD i default) (hl.2 _ (getD_mem hi)) (hm.2 _ (getD_mem (by omega)))) ?_
    refine Ev.cnd (fun h => Ev.pure' (eqB_no fun e => by subst e; simp [seq, eqB] at h).symm) fun h => ?_
    rw [i64_nat (by omega)]
    refine ih (i + 1) (by omega) fun j hj2 => ?_
    by_cases e : j = i
    · subst e; simpa [seq, eqB] using h
    · exact hj j (by omega)
theorem laws_eqMatcherS.ev (l m : List ((ByteArray) × ((Int) × ((ByteArray) × (Unit))))) (hl : Sm 1048576 (.sl false (.pair .str (.pair (.int .i64) (.pair .str .unit)))) l) (hm : Sm 1048576 (.sl false (.pair .str (.pair (.int .i64) (.pair .str .unit)))) m) : Ev (fun n => laws_eqMatcherS n l m) (eqB l m) := by
  refine Ev.step ?_
  simp only [laws_eqMatcherS.step]
  refine Ev.cnd (fun h => Ev.pure' (eqB_no fun e => by subst e; simp at h).symm) fun h => ?_
  replace h : l.length = m.length := by simp at h; omega
  exact laws_eqMatcherS.loop l m hl hm h l.length 0 (by omega) (by omega)
theorem laws_eqStringS.loop (l m : List (ByteArray)) (hl : Sm 1048576 (.sl false .str) l) (hm : Sm 1048576 (.sl false .str) m) (hlm : l.length = m.length) : ∀ d i, i + d = l.length → (∀ j, j < i → l.getD j default = m.getD j default) → Ev (fun n => goRec laws_eqStringS.step n (.p15 l m (i : Int))) (eqB l m) := by
  have hk : l.length ≤ 1048576 := hl.1
  intro d
  induction d with
  | zero =>
    intro i hd hj
    rw [Nat.add_zero] at hd
    subst hd
    refine Ev.step ?_
    simp only [laws_eqStringS.step]
    exact Ev.no lt_no (Ev.pure' (eqB_yes (ext_getD (d := default) hlm (fun j hj2 => hj j (by omega)))).symm)
  | succ d ih =>
    intro i hd hj
    have hi : i < l.length := by omega
    refine Ev.step ?_
    simp only [laws_eqStringS.step, toNat_cast]
    refine Ev.yes (lt_yes hi) (Ev.yes (inB_nat hi) (Ev.yes (inB_nat (by omega)) ?_))
    refine Ev.cnd (fun h => Ev.pure' (eqB_no fun e => by subst e; simp [seq, eqB] at h).symm) fun h => ?_
    rw [i64_nat (by omega)]
    refine ih (i + 1) (by omega) fun j hj2 => ?_
    by_cases e : j = i
    · subst e; simpa [seq, eqB] using h
    · exact hj j (by omega)
theorem laws_eqStringS.ev (l m : List (ByteArray)) (hl : Sm 1048576 (.sl false .str) l) (hm : Sm 1048576 (.sl false .str) m) : Ev (fun n => laws_eqStringS n l m) (eqB l m) := by
  refine Ev.step ?_
  simp only [laws_eqStringS.step]
  refine Ev.cnd (fun h => Ev.pure' (eqB_no fun e => by subst e; simp at h).symm) fun h => ?_
  replace h : l.length = m.length := by simp at h; omega
  exact laws_eqStringS.loop l m hl hm h l.length 0 (by omega) (by omega)
theorem laws_eqIntS.loop (l m : List (Int)) (hl : Sm 1048576 (.sl false (.int .i64)) l) (hm : Sm 1048576 (.sl false (.int .i64)) m) (hlm : l.length = m.length) : ∀ d i, i + d = l.length → (∀ j, j < i → l.getD j default = m.getD j default) → Ev (fun n => goRec laws_eqIntS.step n (.p15 l m (i : Int))) (eqB l m) := by
  have hk : l.length ≤ 1048576 := hl.1
  intro d
  induction d with
  | zero =>
    intro i hd hj
    rw [Nat.add_zero] at hd
    subst hd
    refine Ev.step ?_
    simp only [laws_eqIntS.step]
    exact Ev.no lt_no (Ev.pure' (eqB_yes (ext_getD (d := default) hlm (fun j hj2 => hj j (by omega)))).symm)
  | succ d ih =>
    intro i hd hj
    have hi : i < l.length := by omega
    refine Ev.step ?_
    simp only [laws_eqIntS.step, toNat_cast]
    refine Ev.yes (lt_yes hi) (Ev.yes (inB_nat hi) (Ev.yes (inB_nat (by omega)) ?_))
    refine Ev.cnd (fun h => Ev.pure' (eqB_no fun e => by subst e; simp [seq, eqB] at h).symm) fun h => ?_
    rw [i64_nat (by omega)]
    refine ih (i + 1) (by omega) fun j hj2 => ?_
    by_cases e : j = i
    · subst e; simpa [seq, eqB] using h
    · exact hj j (by omega)
theorem laws_eqIntS.ev (l m : List (Int)) (hl : Sm 1048576 (.sl false (.int .i64)) l) (hm : Sm 1048576 (.sl false (.int .i64)) m) : Ev (fun n => laws_eqIntS n l m) (eqB l m) := by
  refine Ev.step ?_
  simp only [laws_eqIntS.step]
  refine Ev.cnd (fun h => Ev.pure' (eqB_no fun e => by subst e; simp at h).symm) fun h => ?_
  replace h : l.length = m.length := by simp at h; omega
  exact laws_eqIntS.loop l m hl hm h l.length 0 (by omega) (by omega)
theorem laws_eqRoute.ev (x y : (ByteArray) × ((List ((ByteArray) × ((Int) × ((ByteArray) × (Unit))))) × ((List (ByteArray)) × ((Int) × ((Int) × ((Int) × ((List (Int)) × ((Bool) × ((Int) × (Unit)))))))))) (hx : Sm 1048576 (.pair .str (.pair (.sl false (.pair .str (.pair (.int .i64) (.pair .str .unit)))) (.pair (.sl false .str) (.pair (.int .i64) (.pair (.int .i64) (.pair (.int .i64) (.pair (.sl false (.int .i64)) (.pair .bool (.pair (.int .i64) .unit))))))))) x) (hy : Sm 1048576 (.pair .str (.pair (.sl false (.pair .str (.pair (.int .i64) (.pair .str .unit)))) (.pair (.sl false .str) (.pair (.int .i64) (.pair (.int .i64) (.pair (.int .i64) (.pair (.sl false (.int .i64)) (.pair .bool (.pair (.int .i64) .unit))))))))) y) : Ev (fun n => laws_eqRoute n x y) (eqB x y) := by
  refine Ev.step ?_
  simp only [laws_eqRoute.step]
  refine Ev.cnd (fun h => Ev.pure' (eqB_no fun e => by subst e; simp [seq, eqB] at h).symm) fun h1 => ?_
  replace h1 : x.1 = y.1 := by simpa [seq, eqB] using h1
  refine Ev.bind (laws_eqMatcherS.ev x.2.1 y.2.1 hx.2.1 hy.2.1) ?_
  refine Ev.cnd (fun h => Ev.pure' (eqB_no fun e => by subst e; simp [seq, eqB] at h).symm) fun h2 => ?_
  replace h2 : x.2.1 = y.2.1 := by simpa [seq, eqB] using h2
  refine Ev.bind (laws_eqStringS.ev x.2.2.1 y.2.2.1 hx.2.2.1 hy.2.2.1) ?_
  refine Ev.cnd (fun h => Ev.pure' (eqB_no fun e => by subst e; simp [seq, eqB] at h).symm) fun h3 => ?_
  replace h3 : x.2.2.1 = y.2.2.1 := by simpa [seq, eqB] using h3
  refine Ev.cnd (fun h => Ev.pure' (eqB_no fun e => by subst e; simp [seq, eqB] at h).symm) fun h4 => ?_
  replace h4 : x.2.2.2.1 = y.2.2.2.1 := by simpa [seq, eqB] using h4
  refine Ev.cnd (fun h => Ev.pure' (eqB_no fun e => by subst e; simp [seq, eqB] at h).symm) fun h5 => ?_
  replace h5 : x.2.2.2.2.1 = y.2.2.2.2.1 := by simpa [seq, eqB] using h5
  refine Ev.cnd (fun h => Ev.pure' (eqB_no fun e => by subst e; simp [seq, eqB] at h).symm) fun h6 => ?_
  replace h6 : x.2.2.2.2.2.1 = y.2.2.2.2.2.1 := by simpa [seq, eqB] using h6
  refine Ev.bind (laws_eqIntS.ev x.2.2.2.2.2.2.1 y.2.2.2.2.2.2.1 hx.2.2.2.2.2.2.1 hy.2.2.2.2.2.2.1) ?_
  refine Ev.cnd (fun h => Ev.pure' (eqB_no fun e => by subst e; simp [seq, eqB] at h).symm) fun h7 => ?_
  replace h7 : x.2.2.2.2.2.2.1 = y.2.2.2.2.2.2.1 := by simpa [seq, eqB] using h7
  refine Ev.cnd (fun h => Ev.pure' (eqB_no fun e => by subst e; simp [seq, eqB] at h).symm) fun h8 => ?_
  replace h8 : x.2.2.2.2.2.2.2.1 = y.2.2.2.2.2.2.2.1 := by simpa [seq, eqB] using h8
  refine Ev.cnd (fun h => Ev.pure' (eqB_no fun e => by subst e; simp [seq, eqB] at h).symm) fun h9 => ?_
  replace h9 : x.2.2.2.2.2.2.2.2.1 = y.2.2.2.2.2.2.2.2.1 := by simpa [seq, eqB] using h9
  exact Ev.pure' (eqB_yes (Prod.ext h1 (Prod.ext h2 (Prod.ext h3 (Prod.ext h4 (Prod.ext h5 (Prod.ext h6 (Prod.ext h7 (Prod.ext h8 (Prod.ext h9 rfl)))))))))).symm
theorem laws_eqRouteS.loop (l m : List ((ByteArray) × ((List ((ByteArray) × ((Int) × ((ByteArray) × (Unit))))) × ((List (ByteArray)) × ((Int) × ((Int) × ((Int) × ((List (Int)) × ((Bool) × ((Int) × (Unit))))))))))) (hl : Sm 1048576 (.sl false (.pair .str (.pair (.sl false (.pair .str (.pair (.int .i64) (.pair .str .unit)))) (.pair (.sl false .str) (.pair (.int .i64) (.pair (.int .i64) (.pair (.int .i64) (.pair (.sl false (.int .i64)) (.pair .bool (.pair (.int .i64) .unit)))))))))) l) (hm : Sm 1048576 (.sl false (.pair .str (.pair (.sl false (.pair .str (.pair (.int .i64) (.pair .str .unit)))) (.pair (.sl false .str) (.pair (.int .i64) (.pair (.int .i64) (.pair (.int .i64) (.pair (.sl false (.int .i64)) (.pair .bool (.pair (.int .i64) .unit)))))))))) m) (hlm : l.length = m.length) : ∀ d i, i + d = l.length → (∀ j, j < i → l.getD j default = m.getD j default) → Ev (fun n => goRec laws_eqRouteS.step n (.p15 l m (i : Int))) (eqB l m) := by
  have hk : l.length ≤ 1048576 := hl.1
  intro d
  induction d with
  | zero =>
    intro i hd hj
    rw [Nat.add_zero] at hd
    subst hd
    refine Ev.step ?_
    simp only [laws_eqRouteS.step]
    exact Ev.no lt_no (Ev.pure' (eqB_yes (ext_getD (d := default) hlm (fun j hj2 => hj j (by omega)))).symm)
  | succ d ih =>
    intro i hd hj
    have hi : i < l.length := by omega
    refine Ev.step ?_
    simp only [laws_eqRouteS.step, toNat_cast]
    refine Ev.yes (lt_yes hi) (Ev.yes (inB_nat hi) (Ev.yes (inB_nat (by omega)) ?_))
    refine Ev.bind (laws_eqRoute.ev (l.getD i default) (m.getD i default) (hl.2 _ (getD_mem hi)) (hm.2 _ (getD_mem (by omega)))) ?_
    refine Ev.cnd (fun h => Ev.pure' (eqB_no fun e => by subst e; simp [seq, eqB] at h).symm) fun h => ?_
    rw [i64_nat (by omega)]
    refine ih (i + 1) (by omega) fun j hj2 => ?_
    by_cases e : j = i
    · subst e; simpa [seq, eqB] using h
    · exact hj j (by omega)
theorem laws_eqRouteS.ev (l m : List ((ByteArray) × ((List ((ByteArray) × ((Int) × ((ByteArray) × (Unit))))) × ((List (ByteArray)) × ((Int) × ((Int) × ((Int) × ((List (Int)) × ((Bool) × ((Int) × (Unit))))))))))) (hl : Sm 1048576 (.sl false (.pair .str (.pair (.sl false (.pair .str (.pair (.int .i64) (.pair .str .unit)))) (.pair (.sl false .str) (.pair (.int .i64) (.pair (.int .i64) (.pair (.int .i64) (.pair (.sl false (.int .i64)) (.pair .bool (.pair (.int .i64) .unit)))))))))) l) (hm : Sm 1048576 (.sl false (.pair .str (.pair (.sl false (.pair .str (.pair (.int .i64) (.pair .str .unit)))) (.pair (.sl false .str) (.pair (.int .i64) (.pair (.int .i64) (.pair (.int .i64) (.pair (.sl false (.int .i64)) (.pair .bool (.pair (.int .i64) .unit)))))))))) m) : Ev (fun n => laws_eqRouteS n l m) (eqB l m) := by
  refine Ev.step ?_
  simp only [laws_eqRouteS.step]
  refine Ev.cnd (fun h => Ev.pure' (eqB_no fun e => by subst e; simp at h).symm) fun h => ?_
  replace h : l.length = m.length := by simp at h; omega
  exact laws_eqRouteS.loop l m hl hm h l.length 0 (by omega) (by omega)
theorem laws_eqRange.ev (x y : (Int) × ((Int) × (Unit))) (hx : Sm 1048576 (.pair (.int .i64) (.pair (.int .i64) .unit)) x) (hy : Sm 1048576 (.pair (.int .i64) (.pair (.int .i64) .unit)) y) : Ev (fun n => laws_eqRange n x y) (eqB x y) := by
  refine Ev.step ?_
  simp only [laws_eqRange.step]
  refine Ev.cnd (fun h => Ev.pure' (eqB_no fun e => by subst e; simp [seq, eqB] at h).symm) fun h1 => ?_
  replace h1 : x.1 = y.1 := by simpa [seq, eqB] using h1
  refine Ev.cnd (fun h => Ev.pure' (eqB_no fun e => by subst e; simp [seq, eqB] at h).symm) fun h2 => ?_
  replace h2 : x.2.1 = y.2.1 := by simpa [seq, eqB] using h2
  exact Ev.pure' (eqB_yes (Prod.ext h1 (Prod.ext h2 rfl))).symm
theorem laws_eqRangeS.loop (l m : List ((Int) × ((Int) × (Unit)))) (hl : Sm 1048576 (.sl false (.pair (.int .i64) (.pair (.int .i64) .unit))) l) (hm : Sm 1048576 (.sl false (.pair (.int .i64) (.pair (.int .i64) .unit))) m) (hlm : l.length = m.length) : ∀ d i, i + d = l.length → (∀ j, j < i → l.getD j default = m.getD j default) → Ev (fun n => goRec laws_eqRangeS.step n (.p15 l m (i : Int))) (eqB l m) := by
  have hk : l.length ≤ 1048576 := hl.1
  intro d
  induction d with
  | zero =>
    intro i hd hj
    rw [Nat.add_zero] at hd
    subst hd
    refine Ev.step ?_
    simp only [laws_eqRangeS.step]
    exact Ev.no lt_no (Ev.pure' (eqB_yes (ext_getD (d := default) hlm (fun j hj2 => hj j (by omega)))).symm)
  | succ d ih =>
    intro i hd hj
    have hi : i < l.length := by omega
    refine Ev.step ?_
    simp only [laws_eqRangeS.step, toNat_cast]
    refine Ev.yes (lt_yes hi) (Ev.yes (inB_nat hi) (Ev.yes (inB_nat (by omega)) ?_))
    refine Ev.bind (laws_eqRange.ev (l.getD i default) (m.getD i default) (hl.2 _ (getD_mem hi)) (hm.2 _ (getD_mem (by omega)))) ?_
    refine Ev.cnd (fun h => Ev.pure' (eqB_no fun e => by subst e; simp [seq, eqB] at h).symm) fun h => ?_
    rw [i64_nat (by omega)]
    refine ih (i + 1) (by omega) fun j hj2 => ?_
    by_cases e : j = i
    · subst e; simpa [seq, eqB] using h
    · exact hj j (by omega)
theorem laws_eqRangeS.ev (l m : List ((Int) × ((Int) × (Unit)))) (hl : Sm 1048576 (.sl false (.pair (.int .i64) (.pair (.int .i64) .unit))) l) (hm : Sm 1048576 (.sl false (.pair (.int .i64) (.pair (.int .i64) .unit))) m) : Ev (fun n => laws_eqRangeS n l m) (eqB l m) := by
  refine Ev.step ?_
  simp only [laws_eqRangeS.step]
  refine Ev.cnd (fun h => Ev.pure' (eqB_no fun e => by subst e; simp at h).symm) fun h => ?_
  replace h : l.length = m.length := by simp at h; omega
  exact laws_eqRangeS.loop l m hl hm h l.length 0 (by omega) (by omega)
theorem laws_eqInterval.ev (x y : (Int) × ((List ((Int) × ((Int) × (Unit)))) × ((List ((Int) × ((Int) × (Unit)))) × ((List ((Int) × ((Int) × (Unit)))) × ((List ((Int) × ((Int) × (Unit)))) × ((List ((Int) × ((Int) × (Unit)))) × ((List (Int)) × (Unit)))))))) (hx : Sm 1048576 (.pair (.int .i64) (.pair (.sl false (.pair (.int .i64) (.pair (.int .i64) .unit))) (.pair (.sl false (.pair (.int .i64) (.pair (.int .i64) .unit))) (.pair (.sl false (.pair (.int .i64) (.pair (.int .i64) .unit))) (.pair (.sl false (.pair (.int .i64) (.pair (.int .i64) .unit))) (.pair (.sl false (.pair (.int .i64) (.pair (.int .i64) .unit))) (.pair (.sl false (.int .i64)) .unit))))))) x) (hy : Sm 1048576 (.pair (.int .i64) (.pair (.sl false (.pair (.int .i64) (.pair (.int .i64) .unit))) (.pair (.sl false (.pair (.int .i64) (.pair (.int .i64) .unit))) (.pair (.sl false (.pair (.int .i64) (.pair (.int .i64) .unit))) (.pair (.sl false (.pair (.int .i64) (.pair (.int .i64) .unit))) (.pair (.sl false (.pair (.int .i64) (.pair (.int .i64) .unit))) (.pair (.sl false (.int .i64)) .unit))))))) y) : Ev (fun n => laws_eqInterval n x y) (eqB x y) := by
  refine Ev.step ?_
  simp only [laws_eqInterval.step]
  refine Ev.cnd (fun h => Ev.pure' (eqB_no fun e => by subst e; simp [seq, eqB] at h).symm) fun h1 => ?_
  replace h1 : x.1 = y.1 := by simpa [seq, eqB] using h1
  refine Ev.bind (laws_eqRangeS.ev x.2.1 y.2.1 hx.2.1 hy.2.1) ?_
  refine Ev.cnd (fun h => Ev.pure' (eqB_no fun e => by subst e; simp [seq, eqB] at h).symm) fun h2 => ?_
  replace h2 : x.2.1 = y.2.1 := by simpa [seq, eqB] using h2
  refine Ev.bind (laws_eqRangeS.ev x.2.2.1 y.2.2.1 hx.2.2.1 hy.2.2.1) ?_
  refine Ev.cnd (fun h => Ev.pure' (eqB_no fun e => by subst e; simp [seq, eqB] at h).symm) fun h3 => ?_
  replace h3 : x.2.2.1 = y.2.2.1 := by simpa [seq, eqB] using h3
  refine Ev.bind (laws_eqRangeS.ev x.2.2.2.1 y.2.2.2.1 hx.2.2.2.1 hy.2.2.2.1) ?_
  refine Ev.cnd (fun h => Ev.pure' (eqB_no fun e => by subst e; simp [seq, eqB] at h).symm) fun h4 => ?_
  replace h4 : x.2.2.2.1 = y.2.2.2.1 := by simpa [seq, eqB] using h4
  refine Ev.bind (laws_eqRangeS.ev x.2.2.2.2.1 y.2.2.2.2.1 hx.2.2.2.2.1 hy.2.2.2.2.1) ?_
  refine Ev.cnd (fun h => Ev.pure' (eqB_no fun e => by subst e; simp [seq, eqB] at h).symm) fun h5 => ?_
  replace h5 : x.2.2.2.2.1 = y.2.2.2.2.1 := by simpa [seq, eqB] using h5
  refine Ev.bind (laws_eqRangeS.ev x.2.2.2.2.2.1 y.2.2.2.2.2.1 hx.2.2.2.2.2.1 hy.2.2.2.2.2.1) ?_
  refine Ev.cnd (fun h => Ev.pure' (eqB_no fun e => by subst e; simp [seq, eqB] at h).symm) fun h6 => ?_
  replace h6 : x.2.2.2.2.2.1 = y.2.2.2.2.2.1 := by simpa [seq, eqB] using h6
  refine Ev.bind (laws_eqIntS.ev x.2.2.2.2.2.2.1 y.2.2.2.2.2.2.1 hx.2.2.2.2.2.2.1 hy.2.2.2.2.2.2.1) ?_
  refine Ev.cnd (fun h => Ev.pure' (eqB_no fun e => by subst e; simp [seq, eqB] at h).symm) fun h7 => ?_
  replace h7 : x.2.2.2.2.2.2.1 = y.2.2.2.2.2.2.1 := by simpa [seq, eqB] using h7
  exact Ev.pure' (eqB_yes (Prod.ext h1 (Prod.ext h2 (Prod.ext h3 (Prod.ext h4 (Prod.ext h5 (Prod.ext h6 (Prod.ext h7 rfl)))))))).symm
theorem laws_eqIntervalS.loop (l m : List ((Int) × ((List ((Int) × ((Int) × (Unit)))) × ((List ((Int) × ((Int) × (Unit)))) × ((List ((Int) × ((Int) × (Unit)))) × ((List ((Int) × ((Int) × (Unit)))) × ((List ((Int) × ((Int) × (Unit)))) × ((List (Int)) × (Unit))))))))) (hl : Sm 1048576 (.sl false (.pair (.int .i64) (.pair (.sl false (.pair (.int .i64) (.pair (.int .i64) .unit))) (.pair (.sl false (.pair (.int .i64) (.pair (.int .i64) .unit))) (.pair (.sl false (.pair (.int .i64) (.pair (.int .i64) .unit))) (.pair (.sl false (.pair (.int .i64) (.pair (.int .i64) .unit))) (.pair (.sl false (.pair (.int .i64) (.pair (.int .i64) .unit))) (.pair (.sl false (.int .i64)) .unit)))))))) l) (hm : Sm 1048576 (.sl false (.pair (.int .i64) (.pair (.sl false (.pair (.int .i64) (.pair (.int .i64) .unit))) (.pair (.sl false (.pair (.int .i64) (.pair (.int .i64) .unit))) (.pair (.sl false (.pair (.int .i64) (.pair (.int .i64) .unit))) (.pair (.sl false (.pair (.int .i64) (.pair (.int .i64) .unit))) (.pair (.sl false (.pair (.int .i64) (.pair (.int .i64) .unit))) (.pair (.sl false (.int .i64)) .unit)))))))) m) (hlm : l.length = m.length) : ∀ d i, i + d = l.length → (∀ j, j < i → l.getD j default = m.getD j default) → Ev (fun n => goRec laws_eqIntervalS.step n (.p15 l m (i : Int))) (eqB l m) := by
  have hk : l.length ≤ 1048576 := hl.1
  intro d
  induction d with
  | zero =>
    intro i hd hj
    rw [Nat.add_zero] at hd
    subst hd
    refine Ev.step ?_
    simp only [laws_eqIntervalS.step]
    exact Ev.no lt_no (Ev.pure' (eqB_yes (ext_getD (d := default) hlm (fun j hj2 => hj j (by omega)))).symm)
  | succ d ih =>
    intro i hd hj
    have hi : i < l.length := by omega
    refine Ev.step ?_
    simp only [laws_eqIntervalS.step, toNat_cast]
    refine Ev.yes (lt_yes hi) (Ev.yes (inB_nat hi) (Ev.yes (inB_nat (by omega)) ?_))
    refine Ev.bind (laws_eqInterval.ev (l.getD i default) (m.getD i default) (hl.2 _ (getD_mem hi)) (hm.2 _ (getD_mem (by omega)))) ?_
    refine Ev.cnd (fun h => Ev.pure' (eqB_no fun e => by subst e; simp [seq, eqB] at h).symm) fun h => ?_
    rw [i64_nat (by omega)]
    refine ih (i + 1) (by omega) fun j hj2 => ?_
    by_cases e : j = i
    · subst e; simpa [seq, eqB] using h
    · exact hj j (by omega)
theorem laws_eqIntervalS.ev (l m : List ((Int) × ((List ((Int) × ((Int) × (Unit)))) × ((List ((Int) × ((Int) × (Unit)))) × ((List ((Int) × ((Int) × (Unit)))) × ((List ((Int) × ((Int) × (Unit)))) × ((List ((Int) × ((Int) × (Unit)))) × ((List (Int)) × (Unit))))))))) (hl : Sm 1048576 (.sl false (.pair (.int .i64) (.pair (.sl false (.pair (.int .i64) (.pair (.int .i64) .unit))) (.pair (.sl false (.pair (.int .i64) (.pair (.int .i64) .unit))) (.pair (.sl false (.pair (.int .i64) (.pair (.int .i64) .unit))) (.pair (.sl false (.pair (.int .i64) (.pair (.int .i64) .unit))) (.pair (.sl false (.pair (.int .i64) (.pair (.int .i64) .unit))) (.pair (.sl false (.int .i64)) .unit)))))))) l) (hm : Sm 1048576 (.sl false (.pair (.int .i64) (.pair (.sl false (.pair (.int .i64) (.pair (.int .i64) .unit))) (.pair (.sl false (.pair (.int .i64) (.pair (.int .i64) .unit))) (.pair (.sl false (.pair (.int .i64) (.pair (.int .i64) .unit))) (.pair (.sl false (.pair (.int .i64) (.pair (.int .i64) .unit))) (.pair (.sl false (.pair (.int .i64) (.pair (.int .i64) .unit))) (.pair (.sl false (.int .i64)) .unit)))))))) m) : Ev (fun n => laws_eqIntervalS n l m) (eqB l m) := by
  refine Ev.step ?_
  simp only [laws_eqIntervalS.step]
  refine Ev.cnd (fun h => Ev.pure' (eqB_no fun e => by subst e; simp at h).symm) fun h => ?_
  replace h : l.length = m.length := by simp at h; omega
  exact laws_eqIntervalS.loop l m hl hm h l.length 0 (by omega) (by omega)
theorem laws_eqSilence.ev (x y : (ByteArray) × ((List ((ByteArray) × ((Int) × ((ByteArray) × (Unit))))) × ((Int) × ((Int) × (Unit))))) (hx : Sm 1048576 (.pair .str (.pair (.sl false (.pair .str (.pair (.int .i64) (.pair .str .unit)))) (.pair (.int .i64) (.pair (.int .i64) .unit)))) x) (hy : Sm 1048576 (.pair .str (.pair (.sl false (.pair .str (.pair (.int .i64) (.pair .str .unit)))) (.pair (.int .i64) (.pair (.int .i64) .unit)))) y) : Ev (fun n => laws_eqSilence n x y) (eqB x y) := by
  refine Ev.step ?_
  simp only [laws_eqSilence.step]
  refine Ev.cnd (fun h => Ev.pure' (eqB_no fun e => by subst e; simp [seq, eqB] at h).symm) fun h1 => ?_
  replace h1 : x.1 = y.1 := by simpa [seq, eqB] using h1
  refine Ev.bind (laws_eqMatcherS.ev x.2.1 y.2.1 hx.2.1 hy.2.1) ?_
  refine Ev.cnd (fun h => Ev.pure' (eqB_no fun e => by subst e; simp [seq, eqB] at h).symm) fun h2 => ?_
  replace h2 : x.2.1 = y.2.1 := by simpa [seq, eqB] using h2
  refine Ev.cnd (fun h => Ev.pure' (eqB_no fun e => by subst e; simp [seq, eqB] at h).symm) fun h3 => ?_
  replace h3 : x.2.2.1 = y.2.2.1 := by simpa [seq, eqB] using h3
  refine Ev.cnd (fun h => Ev.pure' (eqB_no fun e => by subst e; simp [seq, eqB] at h).symm) fun h4 => ?_
  replace h4 : x.2.2.2.1 = y.2.2.2.1 := by simpa [seq, eqB] using h4
  exact Ev.pure' (eqB_yes (Prod.ext h1 (Prod.ext h2 (Prod.ext h3 (Prod.ext h4 rfl))))).symm
theorem laws_eqSilenceS.loop (l m : List ((ByteArray) × ((List ((ByteArray) × ((Int) × ((ByteArray) × (Unit))))) × ((Int) × ((Int) × (Unit)))))) (hl : Sm 1048576 (.sl false (.pair .str (.pair (.sl false (.pair .str (.pair (.int .i64) (.pair .str .unit)))) (.pair (.int .i64) (.pair (.int .i64) .unit))))) l) (hm : Sm 1048576 (.sl false (.pair .str (.pair (.sl false (.pair .str (.pair (.int .i64) (.pair .str .unit)))) (.pair (.int .i64) (.pair (.int .i64) .unit))))) m) (hlm : l.length = m.length) : ∀ d i, i + d = l.length → (∀ j, j < i → l.getD j default = m.getD j default) → Ev (fun n => goRec laws_eqSilenceS.step n (.p15 l m (i : Int))) (eqB l m) := by
  have hk : l.length ≤ 1048576 := hl.1
  intro d
  induction d with
  | zero =>
    intro i hd hj
    rw [Nat.add_zero] at hd
    subst hd
    refine Ev.step ?_
    simp only [laws_eqSilenceS.step]
    exact Ev.no lt_no (Ev.pure' (eqB_yes (ext_getD (d := default) hlm (fun j hj2 => hj j (by omega)))).symm)
  | succ d ih =>
    intro i hd hj
    have hi : i < l.length := by omega
    refine Ev.step ?_
    simp only [laws_eqSilenceS.step, toNat_cast]
    refine Ev.yes (lt_yes hi) (Ev.yes (inB_nat hi) (Ev.yes (inB_nat (by omega)) ?_))
    refine Ev.bind (laws_eqSilence.ev (l.getD i default) (m.getD i default) (hl.2 _ (getD_mem hi)) (hm.2 _ (getD_mem (by omega)))) ?_
    refine Ev.cnd (fun h => Ev.pure' (eqB_no fun e => by subst e; simp [seq, eqB] at h).symm) fun h => ?_
    rw [i64_nat (by omega)]
    refine ih (i + 1) (by omega) fun j hj2 => ?_
    by_cases e : j = i
    · subst e; simpa [seq, eqB] using h
    · exact hj j (by omega)
theorem laws_eqSilenceS.ev (l m : List ((ByteArray) × ((List ((ByteArray) × ((Int) × ((ByteArray) × (Unit))))) × ((Int) × ((Int) × (Unit)))))) (hl : Sm 1048576 (.sl false (.pair .str (.pair (.sl false (.pair .str (.pair (.int .i64) (.pair .str .unit)))) (.pair (.int .i64) (.pair (.int .i64) .unit))))) l) (hm : Sm 1048576 (.sl false (.pair .str (.pair (.sl false (.pair .str (.pair (.int .i64) (.pair .str .unit)))) (.pair (.int .i64) (.pair (.int .i64) .unit))))) m) : Ev (fun n => laws_eqSilenceS n l m) (eqB l m) := by
  refine Ev.step ?_
  simp only [laws_eqSilenceS.step]
  refine Ev.cnd (fun h => Ev.pure' (eqB_no fun e => by subst e; simp at h).symm) fun h => ?_
  replace h : l.length = m.length := by simp at h; omega
  exact laws_eqSilenceS.loop l m hl hm h l.length 0 (by omega) (by omega)
theorem laws_eqInhibit.ev (x y : (List ((ByteArray) × ((Int) × ((ByteArray) × (Unit))))) × ((List ((ByteArray) × ((Int) × ((ByteArray) × (Unit))))) × ((List (ByteArray)) × (Unit)))) (hx : Sm 1048576 (.pair (.sl false (.pair .str (.pair (.int .i64) (.pair .str .unit)))) (.pair (.sl false (.pair .str (.pair (.int .i64) (.pair .str .unit)))) (.pair (.sl false .str) .unit))) x) (hy : Sm 1048576 (.pair (.sl false (.pair .str (.pair (.int .i64) (.pair .str .unit)))) (.pair (.sl false (.pair .str (.pair (.int .i64) (.pair .str .unit)))) (.pair (.sl false .str) .unit))) y) : Ev (fun n => laws_eqInhibit n x y) (eqB x y) := by
  refine Ev.step ?_
  simp only [laws_eqInhibit.step]
  refine Ev.bind (laws_eqMatcherS.ev x.1 y.1 hx.1 hy.1) ?_
  refine Ev.cnd (fun h => Ev.pure' (eqB_no fun e => by subst e; simp [seq, eqB] at h).symm) fun h1 => ?_
  replace h1 : x.1 = y.1 := by simpa [seq, eqB] using h1
  refine Ev.bind (laws_eqMatcherS.ev x.2.1 y.2.1 hx.2.1 hy.2.1) ?_
  refine Ev.cnd (fun h => Ev.pure' (eqB_no fun e => by subst e; simp [seq, eqB] at h).symm) fun h2 => ?_
  replace h2 : x.2.1 = y.2.1 := by simpa [seq, eqB] using h2
  refine Ev.bind (laws_eqStringS.ev x.2.2.1 y.2.2.1 hx.2.2.1 hy.2.2.1) ?_
  refine Ev.cnd (fun h => Ev.pure' (eqB_no fun e => by subst e; simp [seq, eqB] at h).symm) fun h3 => ?_
  replace h3 : x.2.2.1 = y.2.2.1 := by simpa [seq, eqB] using h3
  exact Ev.pure' (eqB_yes (Prod.ext h1 (Prod.ext h2 (Prod.ext h3 rfl)))).symm
theorem laws_eqInhibitS.loop (l m : List ((List ((ByteArray) × ((Int) × ((ByteArray) × (Unit))))) × ((List ((ByteArray) × ((Int) × ((ByteArray) × (Unit))))) × ((List (ByteArray)) × (Unit))))) (hl : Sm 1048576 (.sl false (.pair (.sl false (.pair .str (.pair (.int .i64) (.pair .str .unit)))) (.pair (.sl false (.pair .str (.pair (.int .i64) (.pair .str .unit)))) (.pair (.sl false .str) .unit)))) l) (hm : Sm 1048576 (.sl false (.pair (.sl false (.pair .str (.pair (.int .i64) (.pair .str .unit)))) (.pair (.sl false (.pair .str (.pair (.int .i64) (.pair .str .unit)))) (.pair (.sl false .str) .unit)))) m) (hlm : l.length = m.length) : ∀ d i, i + d = l.length → (∀ j, j < i → l.getD j default = m.getD j default) → Ev (fun n => goRec laws_eqInhibitS.step n (.p15 l m (i : Int))) (eqB l m) := by
  have hk : l.length ≤ 1048576 := hl.1
  intro d
  induction d with
  | zero =>
    intro i hd hj
    rw [Nat.add_zero] at hd
    subst hd
    refine Ev.step ?_
    simp only [laws_eqInhibitS.step]
    exact Ev.no lt_no (Ev.pure' (eqB_yes (ext_getD (d := default) hlm (fun j hj2 => hj j (by omega)))).symm)
  | succ d ih =>
    intro i hd hj
    have hi : i < l.length := by omega
    refine Ev.step ?_
    simp only [laws_eqInhibitS.step, toNat_cast]
    refine Ev.yes (lt_yes hi) (Ev.yes (inB_nat hi) (Ev.yes (inB_nat (by omega)) ?_))
    refine Ev.bind (laws_eqInhibit.ev (l.getD i default) (m.getD i default) (hl.2 _ (getD_mem hi)) (hm.2 _ (getD_mem (by omega)))) ?_
    refine Ev.cnd (fun h => Ev.pure' (eqB_no fun e => by subst e; simp [seq, eqB] at h).symm) fun h => ?_
    rw [i64_nat (by omega)]
    refine ih (i + 1) (by omega) fun j hj2 => ?_
    by_cases e : j = i
    · subst e; simpa [seq, eqB] using h
    · exact hj j (by omega)
theorem laws_eqInhibitS.ev (l m : List ((List ((ByteArray) × ((Int) × ((ByteArray) × (Unit))))) × ((List ((ByteArray) × ((Int) × ((ByteArray) × (Unit))))) × ((List (ByteArray)) × (Unit))))) (hl : Sm 1048576 (.sl false (.pair (.sl false (.pair .str (.pair (.int .i64) (.pair .str .unit)))) (.pair (.sl false (.pair .str (.pair (.int .i64) (.pair .str .unit)))) (.pair (.sl false .str) .unit)))) l) (hm : Sm 1048576 (.sl false (.pair (.sl false (.pair .str (.pair (.int .i64) (.pair .str .unit)))) (.pair (.sl false (.pair .str (.pair (.int .i64) (.pair .str .unit)))) (.pair (.sl false .str) .unit)))) m) : Ev (fun n => laws_eqInhibitS n l m) (eqB l m) := by
  refine Ev.step ?_
  simp only [laws_eqInhibitS.step]
  refine Ev.cnd (fun h => Ev.pure' (eqB_no fun e => by subst e; simp at h).symm) fun h => ?_
  replace h : l.length = m.length := by simp at h; omega
  exact laws_eqInhibitS.loop l m hl hm h l.length 0 (by omega) (by omega)
theorem laws_eqNotifyConf.ev (x y : (List ((ByteArray) × ((List ((ByteArray) × ((Int) × ((ByteArray) × (Unit))))) × ((List (ByteArray)) × ((Int) × ((Int) × ((Int) × ((List (Int)) × ((Bool) × ((Int) × (Unit))))))))))) × ((List ((Int) × ((List ((Int) × ((Int) × (Unit)))) × ((List ((Int) × ((Int) × (Unit)))) × ((List ((Int) × ((Int) × (Unit)))) × ((List ((Int) × ((Int) × (Unit)))) × ((List ((Int) × ((Int) × (Unit)))) × ((List (Int)) × (Unit))))))))) × ((List ((ByteArray) × ((List ((ByteArray) × ((Int) × ((ByteArray) × (Unit))))) × ((Int) × ((Int) × (Unit)))))) × ((List ((List ((ByteArray) × ((Int) × ((ByteArray) × (Unit))))) × ((List ((ByteArray) × ((Int) × ((ByteArray) × (Unit))))) × ((List (ByteArray)) × (Unit))))) × (Unit))))) (hx : Sm 1048576 (.pair (.sl false (.pair .str (.pair (.sl false (.pair .str (.pair (.int .i64) (.pair .str .unit)))) (.pair (.sl false .str) (.pair (.int .i64) (.pair (.int .i64) (.pair (.int .i64) (.pair (.sl false (.int .i64)) (.pair .bool (.pair (.int .i64) .unit)))))))))) (.pair (.sl false (.pair (.int .i64) (.pair (.sl false (.pair (.int .i64) (.pair (.int .i64) .unit))) (.pair (.sl false (.pair (.int .i64) (.pair (.int .i64) .unit))) (.pair (.sl false (.pair (.int .i64) (.pair (.int .i64) .unit))) (.pair (.sl false (.pair (.int .i64) (.pair (.int .i64) .unit))) (.pair (.sl false (.pair (.int .i64) (.pair (.int .i64) .unit))) (.pair (.sl false (.int .i64)) .unit)))))))) (.pair (.sl false (.pair .str (.pair (.sl false (.pair .str (.pair (.int .i64) (.pair .str .unit)))) (.pair (.int .i64) (.pair (.int .i64) .unit))))) (.pair (.sl false (.pair (.sl false (.pair .str (.pair (.int .i64) (.pair .str .unit)))) (.pair (.sl false (.pair .str (.pair (.int .i64) (.pair .str .unit)))) (.pair (.sl false .str) .unit)))) .unit)))) x) (hy : Sm 1048576 (.pair (.sl false (.pair .str (.pair (.sl false (.pair .str (.pair (.int .i64) (.pair .str .unit)))) (.pair (.sl false .str) (.pair (.int .i64) (.pair (.int .i64) (.pair (.int .i64) (.pair (.sl false (.int .i64)) (.pair .bool (.pair (.int .i64) .unit)))))))))) (.pair (.sl false (.pair (.int .i64) (.pair (.sl false (.pair (.int .i64) (.pair (.int .i64) .unit))) (.pair (.sl false (.pair (.int .i64) (.pair (.int .i64) .unit))) (.pair (.sl false (.pair (.int .i64) (.pair (.int .i64) .unit))) (.pair (.sl false (.pair (.int .i64) (.pair (.int .i64) .unit))) (.pair (.sl false (.pair (.int .i64) (.pair (.int .i64) .unit))) (.pair (.sl false (.int .i64)) .unit)))))))) (.pair (.sl false (.pair .str (.pair (.sl false (.pair .str (.pair (.int .i64) (.pair .str .unit)))) (.pair (.int .i64) (.pair (.int .i64) .unit))))) (.pair (.sl false (.pair (.sl false (.pair .str (.pair (.int .i64) (.pair .str .unit)))) (.pair (.sl false (.pair .str (.pair (.int .i64) (.pair .str .unit)))) (.pair (.sl false .str) .unit)))) .unit)))) y) : Ev (fun n => laws_eqNotifyConf n x y) (eqB x y) := by
  refine Ev.step ?_
  simp only [laws_eqNotifyConf.step]
  refine Ev.bind (laws_eqRouteS.ev x.1 y.1 hx.1 hy.1) ?_
  refine Ev.cnd (fun h => Ev.pure' (eqB_no fun e => by subst e; simp [seq, eqB] at h).symm) fun h1 => ?_
  replace h1 : x.1 = y.1 := by simpa [seq, eqB] using h1
  refine Ev.bind (laws_eqIntervalS.ev x.2.1 y.2.1 hx.2.1 hy.2.1) ?_
  refine Ev.cnd (fun h => Ev.pure' (eqB_no fun e => by subst e; simp [seq, eqB] at h).symm) fun h2 => ?_
  replace h2 : x.2.1 = y.2.1 := by simpa [seq, eqB] using h2
  refine Ev.bind (laws_eqSilenceS.ev x.2.2.1 y.2.2.1 hx.2.2.1 hy.2.2.1) ?_
  refine Ev.cnd (fun h => Ev.pure' (eqB_no fun e => by subst e; simp [seq, eqB] at h).symm) fun h3 => ?_
  replace h3 : x.2.2.1 = y.2.2.1 := by simpa [seq, eqB] using h3
  refine Ev.bind (laws_eqInhibitS.ev x.2.2.2.1 y.2.2.2.1 hx.2.2.2.1 hy.2.2.2.1) ?_
  refine Ev.cnd (fun h => Ev.pure' (eqB_no fun e => by subst e; simp [seq, eqB] at h).symm) fun h4 => ?_
  replace h4 : x.2.2.2.1 = y.2.2.2.1 := by simpa [seq, eqB] using h4
  exact Ev.pure' (eqB_yes (Prod.ext h1 (Prod.ext h2 (Prod.ext h3 (Prod.ext h4 rfl))))).symm
theorem laws_FnExactMutedAt.ev (a0 : NCE) (a1 a2 : Int) (hw : Wf NCU a0) (_ : Wf (.int .i64) a1) (_ : Wf (.int .i64) a2) : Ev (fun n => laws_FnExactMutedAt n a0 a1 a2) true := by
  refine Ev.step ?_
  simp only [laws_FnExactMutedAt.step]
  obtain ⟨r, h1, h2, h3⟩ := laws_szNotifyConf.ev a0 1048576 (by omega) (by omega) hw
  refine Ev.bind h1 (Ev.cnd (fun _ => Ev.pure) fun c => ?_)
  have hs := h3 (by simpa using c)
  have to := laws_toNotifyConf.ev a0 hs
  refine Ev.bind to (Ev.bind (spec_MutedAt.ev a0 a1 a2 hs hw) (Ev.bind to (Ev.bind (impl_MutedAt.ev a0 a1 a2 hs hw) (Ev.no (by simp) (Ev.bind to (Ev.bind (laws_eqNotifyConf.ev a0 a0 hs hs) (Ev.no (by simp [eqB]) Ev.pure)))))))
end Go.NU
