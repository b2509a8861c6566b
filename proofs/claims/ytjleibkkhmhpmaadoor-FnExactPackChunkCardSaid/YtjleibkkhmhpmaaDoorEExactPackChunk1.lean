/- What these functions come to, part 1. -/
import Derived.Test.YtjleibkkhmhpmaaDoorV1
import Derived.Test.YtjleibkkhmhpmaaDoorV2
import Derived.Test.YtjleibkkhmhpmaaDoorV3
import Derived.Test.YtjleibkkhmhpmaaDoorFExactPackChunk1
open Go Go.VM
set_option maxRecDepth 100000
namespace Go.PK
set_option linter.unusedVariables false
set_option linter.unusedSimpArgs false
abbrev MT := ByteArray × Int × ByteArray × Unit
def matcherB (x : MT) : Bool := nameB x.1 && decide (1 ≤ x.2.1) && decide (x.2.1 ≤ 4) && decide (x.2.2.1.size ≤ 100) && printB x.2.2.1 && (decide (x.2.1 < 3) || (alts x.2.2.1).isSome)
def matchersB (l : List MT) : Bool := decide (l.length ≤ 10) && (List.range l.length).all fun i => matcherB (l.getD i default)
abbrev MU : U := .pair .str (.pair (.int .i64) (.pair .str .unit))
abbrev SIL := ByteArray × List MT × Int × Int × Unit
abbrev SIU : U := .pair .str (.pair (.sl false MU) (.pair (.int .i64) (.pair (.int .i64) .unit)))
def silB (l : List SIL) (i : Nat) : Bool := nameB (l.getD i default).1 && matchersB (l.getD i default).2.1 && decide ((l.getD i default).2.1.length ≠ 0) && timeB (l.getD i default).2.2.1 && timeB (l.getD i default).2.2.2.1 &&
  decide ((l.getD i default).2.2.1 ≤ (l.getD i default).2.2.2.1) && (decide (i = 0) || decide (cmpT (l.getD (i - 1) default).1 (l.getD i default).1 < 0))
def silsB (l : List SIL) : Bool := decide (l.length ≤ 50) && (List.range l.length).all (silB l)
/-- texts that rise -/
def risingB (l : List ByteArray) : Bool := (List.range (l.length - 1)).all fun i => decide (cmpT (l.getD i default) (l.getD (i + 1) default) < 0)
def namesB (l : List ByteArray) : Bool := decide (l.length ≤ 10) && risingB l && (List.range l.length).all fun i => nameB (l.getD i default)
abbrev INH := List MT × List MT × List ByteArray × Unit
abbrev INU : U := .pair (.sl false MU) (.pair (.sl false MU) (.pair (.sl false .str) .unit))
def inhB (x : INH) : Bool := matchersB x.1 && matchersB x.2.1 && decide (x.1.length ≠ 0) && decide (x.2.1.length ≠ 0) && namesB x.2.2.1
def inhsB (l : List INH) : Bool := decide (l.length ≤ 20) && (List.range l.length).all fun i => inhB (l.getD i default)
def lp (y : Int) : Int := if y % 4 = 0 ∧ (y % 100 ≠ 0 ∨ y % 400 = 0) then 1 else 0
def yl (y : Int) : Int := 365 + lp y
def dto (y : Int) : Int := (y - 1970) * 365 + ((y - 1) / 4 - (y - 1) / 100 + (y - 1) / 400) - 477
def mon (y m : Int) : Int := if m = 2 then 28 + lp y else if m = 4 ∨ m = 6 ∨ m = 9 ∨ m = 11 then 30 else 31
def cumd (y m : Int) : Int := if m ≤ 1 then 0 else if m = 2 then 31 else if m = 3 then 59 + lp y else if m = 4 then 90 + lp y else if m = 5 then 120 + lp y else if m = 6 then 151 + lp y else if m = 7 then 181 + lp y else if m = 8 then 212 + lp y else if m = 9 then 243 + lp y else if m = 10 then 273 + lp y else if m = 11 then 304 + lp y else if m = 12 then 334 + lp y else 365 + lp y
noncomputable def yearOf (day : Int) : Int := @dite _ (∃ y, 1970 ≤ y ∧ dto y ≤ day ∧ day < dto (y + 1)) (Classical.propDecidable _) (fun h => h.choose) (fun _ => 0)
noncomputable def monthOf (y n : Int) : Int := @dite _ (∃ m, 1 ≤ m ∧ m ≤ 12 ∧ cumd y m ≤ n ∧ n < cumd y m + mon y m) (Classical.propDecidable _) (fun h => h.choose) (fun _ => 0)
abbrev DTE := Int × Int × Int × Int × Int × Int × Unit
noncomputable def dateOfDay (day mi : Int) : DTE := (yearOf day, monthOf (yearOf day) (day - dto (yearOf day)), day - dto (yearOf day) - cumd (yearOf day) (monthOf (yearOf day) (day - dto (yearOf day))) + 1, mon (yearOf day) (monthOf (yearOf day) (day - dto (yearOf day))), (day + 4) % 7, mi, ())
def dateIn (t z : Int) : Bool := timeB t && decide (-1440 ≤ z) && decide (z ≤ 1440) && decide (0 ≤ t + 60 * z)
noncomputable def dateV (t z : Int) : DTE := if dateIn t z = true then dateOfDay ((t + 60 * z) / 86400) ((t + 60 * z) / 60 % 1440) else (0, 0, 0, 0, 0, 0, ())
def dayIn (y m d : Int) : Bool := decide (1970 ≤ y) && decide (y ≤ 40000) && decide (1 ≤ m) && decide (m ≤ 12) && decide (1 ≤ d) && decide (d ≤ mon y m)
def dayV (y m d : Int) : Int := if dayIn y m d = true then dto y + d - 1 + cumd y m else -1
theorem lp_01 (y : Int) : lp y = 0 ∨ lp y = 1 := by unfold lp; split <;> simp
theorem dto_succ (y : Int) : dto (y + 1) = dto y + yl y := by unfold dto yl lp; split <;> omega
theorem dto_1970 : dto 1970 = 0 := by decide
theorem mon_bd (y m : Int) : 28 ≤ mon y m ∧ mon y m ≤ 31 := by
  have := lp_01 y
  unfold mon; split
  · omega
  · split <;> omega
theorem dto_bd (y : Int) (h : 1970 ≤ y) : 365 * (y - 1970) ≤ dto y ∧ dto y ≤ 366 * (y - 1970) := by unfold dto; omega
theorem dto_mono (a : Int) (d : Nat) : dto a + 365 * d ≤ dto (a + d) := by
  induction d with
  | zero => simp
  | succ d ih =>
    have h := dto_succ (a + d)
    have hl := lp_01 (a + d)
    have hyl : yl (a + d) = 365 + lp (a + d) := rfl
    rw [show a + ((d + 1 : Nat) : Int) = a + d + 1 by omega]
    omega
theorem dto_lt (a b : Int) (h : a ≤ b) : dto a + 365 * (b - a) ≤ dto b := by
  have := dto_mono a (b - a).toNat
  rw [show a + ((b - a).toNat : Int) = b by omega] at this
  omega
theorem year_of (day : Int) (h : 0 ≤ day) : ∃ y, 1970 ≤ y ∧ dto y ≤ day ∧ day < dto (y + 1) := by
  have key : ∀ d : Nat, dto 1970 ≤ day ∧ day < dto (1970 + d) → ∃ y, 1970 ≤ y ∧ dto y ≤ day ∧ day < dto (y + 1) := by
    intro d
    induction d with
    | zero => intro ⟨h1, h2⟩; simp at h2; omega
    | succ d ih =>
      intro ⟨h1, h2⟩
      by_cases c : day < dto (1970 + d)
      · exact ih ⟨h1, c⟩
      · exact ⟨1970 + d, by omega, by omega, by rw [show (1970 : Int) + d + 1 = 1970 + ((d + 1 : Nat) : Int) by omega]; exact h2⟩
  refine key (day.toNat + 1) ⟨by rw [dto_1970]; exact h, ?_⟩
  have := dto_mono 1970 (day.toNat + 1)
  rw [dto_1970] at this
  omega
theorem yearOf_spec (day : Int) (h : 0 ≤ day) : 1970 ≤ yearOf day ∧ dto (yearOf day) ≤ day ∧ day < dto (yearOf day + 1) := by
  unfold yearOf
  rw [dif_pos (year_of day h)]
  exact (year_of day h).choose_spec
theorem cumd_succ (y m : Int) (h1 : 1 ≤ m) (h2 : m ≤ 12) : cumd y (m + 1) = cumd y m + mon y m := by
  have hm : m = 1 ∨ m = 2 ∨ m = 3 ∨ m = 4 ∨ m = 5 ∨ m = 6 ∨ m = 7 ∨ m = 8 ∨ m = 9 ∨ m = 10 ∨ m = 11 ∨ m = 12 := by omega
  rcases hm with rfl | rfl | rfl | rfl | rfl | rfl | rfl | rfl | rfl | rfl | rfl | rfl <;> simp [cumd, mon] <;> omega
theorem ite_nn {c : Prop} [Decidable c] {a b : Int} (ha : 0 ≤ a) (hb : 0 ≤ b) : 0 ≤ (if c then a else b) := by split <;> assumption
theorem cumd_nn (y m : Int) : 0 ≤ cumd y m := by
  have := lp_01 y
  unfold cumd
  iterate 12 (refine ite_nn (by omega) ?_)
  omega
theorem ite_le {c : Prop} [Decidable c] {a b k : Int} (ha : a ≤ k) (hb : b ≤ k) : (if c then a else b) ≤ k := by split <;> assumption
theorem cumd_le (y m : Int) : cumd y m ≤ 366 := by
  have := lp_01 y
  unfold cumd
  iterate 12 (refine ite_le (by omega) ?_)
  omega
theorem month_of (y n : Int) (h : 0 ≤ n) (h' : n < yl y) : ∃ m, 1 ≤ m ∧ m ≤ 12 ∧ cumd y m ≤ n ∧ n < cumd y m + mon y m := by
  have h13 : cumd y 13 = yl y := by simp [cumd, yl]
  have h1 : cumd y 1 = 0 := by simp [cumd]
  have key : ∀ d : Nat, d ≤ 12 → n < cumd y (1 + d) → ∃ m, 1 ≤ m ∧ m ≤ 12 ∧ cumd y m ≤ n ∧ n < cumd y m + mon y m := by
    intro d
    induction d with
    | zero => intro _ h2; simp at h2; omega
    | succ d ih =>
      intro hd h2
      by_cases c : n < cumd y (1 + d)
      · exact ih (by omega) c
      · refine ⟨1 + d, by omega, by omega, by omega, ?_⟩
        rw [← cumd_succ y (1 + d) (by omega) (by omega), show (1 : Int) + d + 1 = 1 + ((d + 1 : Nat) : Int) by omega]; exact h2
  exact key 12 (Nat.le_refl _) (by rw [show (1 : Int) + ((12 : Nat) : Int) = 13 from rfl, h13]; exact h')
theorem monthOf_spec (y n : Int) (h : 0 ≤ n) (h' : n < yl y) : 1 ≤ monthOf y n ∧ monthOf y n ≤ 12 ∧ cumd y (monthOf y n) ≤ n ∧ n < cumd y (monthOf y n) + mon y (monthOf y n) := by
  unfold monthOf
  rw [dif_pos (month_of y n h h')]
  exact (month_of y n h h').choose_spec
theorem mon_lt (y m i n : Int) (h1 : 1 ≤ i) (hi : i < m) (h2 : m ≤ 12) (hm : cumd y m ≤ n) : mon y i ≤ n - cumd y i := by
  have key : ∀ d : Nat, i + d + 1 ≤ m → cumd y (i + 1) ≤ cumd y (i + 1 + d) := by
    intro d
    induction d with
    | zero => intro _; simp
    | succ d ih =>
      intro hd
      have := cumd_succ y (i + 1 + d) (by omega) (by omega)
      have hb := mon_bd y (i + 1 + d)
      rw [show i + 1 + ((d + 1 : Nat) : Int) = i + 1 + d + 1 by omega]
      have := ih (by omega)
      omega
  have a := key (m - i - 1).toNat (by omega)
  rw [show i + 1 + ((m - i - 1).toNat : Int) = m by omega] at a
  have b := cumd_succ y i h1 (by omega)
  omega
theorem w64 {n : Int} (h : -9223372036854775808 ≤ n) (h' : n ≤ 9223372036854775807) : IntKind.wrap .i64 n = n := i64_ok h h'
abbrev RG := Int × Int × Unit
abbrev RGU : U := .pair (.int .i64) (.pair (.int .i64) .unit)
abbrev ITV := Int × List RG × List RG × List RG × List RG × List RG × List Int × Unit
abbrev ITU : U := .pair (.int .i64) (.pair (.sl false RGU) (.pair (.sl false RGU) (.pair (.sl false RGU) (.pair (.sl false RGU) (.pair (.sl false RGU) (.pair (.sl false (.int .i64)) .unit))))))
def rangeB (lo hi : Int) (r : RG) : Bool := decide (r.1 ≤ r.2.1) && decide (lo ≤ r.1) && decide (r.2.1 ≤ hi)
def rangesB (l : List RG) (lo hi : Int) : Bool := decide (l.length ≤ 10) && (List.range l.length).all fun i => rangeB lo hi (l.getD i default)
/-- numbers that rise -/
def risingI (l : List Int) : Bool := (List.range (l.length - 1)).all fun i => decide (l.getD i default < l.getD (i + 1) default)
def freeB (n : Int) : Bool := decide (0 ≤ n) && decide (n ≤ 20000000)
def dayRB (r : RG) : Bool := decide (0 < r.1) || decide (r.2.1 < 0)
def dayRS (r : RG) : Bool := !decide (r.1 = 0) && !decide (r.2.1 = 0) && (decide (r.1 < 0) == decide (r.2.1 < 0))
def allG {α : Type} [Inhabited α] (p : α → Bool) (l : List α) : Bool := (List.range l.length).all fun i => p (l.getD i default)
def itvB (x : ITV) : Bool := decide (-1440 ≤ x.1) && decide (x.1 ≤ 1440) && rangesB x.2.1 0 1439 && rangesB x.2.2.1 0 6 && rangesB x.2.2.2.1 (-31) 31 && rangesB x.2.2.2.2.1 1 12 && rangesB x.2.2.2.2.2.1 1970 40000 &&
  decide (x.2.2.2.2.2.2.1.length ≤ 10) && risingI x.2.2.2.2.2.2.1 && allG dayRB x.2.2.2.1 && allG freeB x.2.2.2.2.2.2.1
def inRB (l : List RG) (n : Int) : Bool := decide (l.length = 0) || (List.range l.length).any fun i => decide ((l.getD i default).1 ≤ n) && decide (n ≤ (l.getD i default).2.1)
def inIB (l : List Int) (n : Int) : Bool := (List.range l.length).any fun i => decide (l.getD i default = n)
noncomputable def inItvB (x : ITV) (t : Int) : Bool := itvB x && timeB t && !decide ((dateV t x.1).1 = 0) && inRB x.2.1 (dateV t x.1).2.2.2.2.2.1 && inRB x.2.2.1 (dateV t x.1).2.2.2.2.1 &&
  (inRB x.2.2.2.1 (dateV t x.1).2.2.1 || inRB x.2.2.2.1 (IntKind.wrap .i64 ((IntKind.wrap .i64 ((dateV t x.1).2.2.1 - (dateV t x.1).2.2.2.1)) - (1 : Int)))) && inRB x.2.2.2.2.1 (dateV t x.1).2.1 && inRB x.2.2.2.2.2.1 (dateV t x.1).1 &&
  !inIB x.2.2.2.2.2.2.1 (dayV (dateV t x.1).1 (dateV t x.1).2.1 (dateV t x.1).2.2.1)
theorem days_same (l : List RG) (lo hi : Int) : (allG dayRS l && rangesB l lo hi) = (allG dayRB l && rangesB l lo hi) := by
  cases h : rangesB l lo hi with
  | false => simp
  | true =>
    simp only [rangesB, Bool.and_eq_true, List.all_eq_true] at h
    rw [Bool.and_true, Bool.and_true, allG, allG, Bool.eq_iff_iff, List.all_eq_true, List.all_eq_true]
    have key : ∀ i ∈ List.range l.length, dayRS (l.getD i default) = dayRB (l.getD i default) := by
      intro i hi
      have := h.2 i hi
      simp only [rangeB, Bool.and_eq_true, decide_eq_true_eq] at this
      generalize l.getD i default = r at this
      simp only [dayRS, dayRB]
      have e1 : (r.1 = 0) = (¬ r.1 < 0 ∧ ¬ 0 < r.1) := propext (by omega)
      have e2 : (r.2.1 = 0) = (¬ r.2.1 < 0 ∧ ¬ 0 < r.2.1) := propext (by omega)
      by_cases a : r.1 < 0 <;> by_cases a' : 0 < r.1 <;> by_cases b : r.2.1 < 0 <;> by_cases b' : 0 < r.2.1 <;> first | (exfalso; omega) | simp [e1, e2, a, a', b, b']
    exact ⟨fun hh i hi => by rw [← key i hi]; exact hh i hi, fun hh i hi => by rw [key i hi]; exact hh i hi⟩
theorem wf_i64 {n : Int} (h : (Lit.int .i64 n).wf = true) : -9223372036854775808 ≤ n ∧ n ≤ 9223372036854775807 := by
  have h2 : decide (IntKind.i64.min ≤ n) && decide (n ≤ IntKind.i64.max) := h
  rw [Bool.and_eq_true] at h2
  have a : IntKind.i64.min ≤ n := of_decide_eq_true h2.1
  have b : n ≤ IntKind.i64.max := of_decide_eq_true h2.2
  have ea : IntKind.i64.min = -9223372036854775808 := by decide
  have eb : IntKind.i64.max = 9223372036854775807 := by decide
  omega
abbrev LB := ByteArray × ByteArray × Unit
abbrev LU : U := .pair .str (.pair .str .unit)
def valueB (s : ByteArray) : Bool := decide (1 ≤ s.size) && decide (s.size ≤ 100) && printB s
def labB (l : List LB) (i : Nat) : Bool := nameB (l.getD i default).1 && valueB (l.getD i default).2.1 && (decide (i = 0) || decide (cmpT (l.getD (i - 1) default).1 (l.getD i default).1 < 0))
def labelsB (l : List LB) : Bool := decide (l.length ≤ 20) && (List.range l.length).all (labB l)
def valL : List LB → ByteArray → ByteArray
  | [], _ => ⟨#[]⟩
  | x :: r, k => bif seq x.1 k then x.2.1 else valL r k
theorem drop_getD {α : Type} [Inhabited α] {l : List α} {i : Nat} (h : i < l.length) : l.drop i = l.getD i default :: l.drop (i + 1) := by
  rw [List.drop_eq_getElem_cons h, List.getD_eq_getElem?_getD, List.getElem?_eq_getElem h]; rfl
theorem labelsB_value {l : List LB} (h : labelsB l = true) : ∀ i, i < l.length → (l.getD i default).2.1.size ≤ 100 := by
  intro i hi
  simp only [labelsB, Bool.and_eq_true, List.all_eq_true, List.mem_range] at h
  have := h.2 i hi
  simp only [labB, valueB, Bool.and_eq_true, decide_eq_true_eq] at this
  exact this.1.2.1.2
theorem valL_small {l : List LB} {k : ByteArray} (h : ∀ x ∈ l, x.2.1.size ≤ 100) : (valL l k).size ≤ 100 := by
  induction l with
  | nil => simp [valL, size_empty]
  | cons x l ih =>
    simp only [valL]
    cases seq x.1 k with
    | true => exact h x (by simp)
    | false => exact ih fun y hy => h y (by simp [hy])
theorem labelsB_small {l : List LB} (h : labelsB l = true) {k : ByteArray} : (valL l k).size ≤ 100 := valL_small fun x hx => by
  obtain ⟨j, hj, rfl⟩ := List.getElem_of_mem hx
  have := labelsB_value h j hj
  rwa [List.getD_eq_getElem?_getD, List.getElem?_eq_getElem hj] at this
/-- whether a pattern's codes fit bytes -/
def mt : List Int → List Int → Bool
  | [], s => s.isEmpty
  | c :: p, s => if c = -1 then mt p s || (match s with | [] => false | _ :: r => mt (c :: p) r) else match s with | [] => false | x :: r => (decide (c = -2) || decide (c = x)) && mt p r
termination_by p s => p.length + s.length
decreasing_by all_goals simp_wf; try omega
def fitsP (p s : ByteArray) : Bool := match alts p with | some l => (List.range l.length).any fun i => mt (l.getD i default) (octs s) | none => false
def cellM (p : List Int) (s : ByteArray) (j i : Nat) : Bool := mt (p.drop j) ((octs s).drop i)
theorem cell_end {p : List Int} {s : ByteArray} {i : Nat} (hi : i ≤ s.size) : cellM p s p.length i = decide (i = s.size) := by
  rw [cellM, List.drop_length, mt.eq_def]
  rcases Nat.eq_or_lt_of_le hi with rfl | hi
  · rw [octs_nil]; simp
  · rw [octs_drop hi]; simp; omega
theorem dropI {p : List Int} {j : Nat} (h : j < p.length) : p.drop j = p.getD j default :: p.drop (j + 1) := drop_getD h
theorem cell_star {p : List Int} {s : ByteArray} {j i : Nat} (hj : j < p.length) (hi : i ≤ s.size) (h : p.getD j default = -1) : cellM p s j i = (cellM p s (j + 1) i || (decide (i < s.size) && cellM p s j (i + 1))) := by
  simp only [cellM]
  rw [dropI hj, h]
  rw [mt.eq_def]
  simp only [if_true]
  rcases Nat.eq_or_lt_of_le hi with rfl | hi
  · rw [octs_nil]; simp
  · rw [octs_drop hi]; simp [hi]
theorem cell_one {p : List Int} {s : ByteArray} {j i : Nat} (hj : j < p.length) (hi : i < s.size) (h : p.getD j default ≠ -1) : cellM p s j i = ((decide (p.getD j default = -2) || decide (p.getD j default = bt s i)) && cellM p s (j + 1) (i + 1)) := by
  simp only [cellM]
  rw [dropI hj, mt.eq_def]
  simp only [if_neg h]
  rw [octs_drop hi]
theorem cell_no {p : List Int} {s : ByteArray} {j : Nat} (hj : j < p.length) (h : p.getD j default ≠ -1) : cellM p s j s.size = false := by
  simp only [cellM]
  rw [dropI hj, mt.eq_def]
  simp only [if_neg h]
  rw [octs_nil]
theorem i64_down {k : Nat} (h : k ≤ 4611686018427387904) : IntKind.wrap .i64 ((k : Int) - 1) = (k : Int) - 1 := by rw [i64_ok] <;> omega
theorem inC_eq {n : Nat} (h : n ≤ 1000000000) : inC (n : Int) (n : Int) 1000000000 = true := by simp only [inC, decide_eq_true_eq]; omega
/-- comes to something of which this holds -/
def EvP {α : Type} (f : Nat → Option α) (Q : α → Prop) : Prop := ∃ v, Ev f v ∧ Q v
namespace EvP
variable {α β : Type} {Q : α → Prop}
theorem pure {v : α} (h : Q v) : EvP (fun _ => some v) Q := ⟨v, Ev.pure, h⟩
theorem of {f : Nat → Option α} {v : α} (h : Ev f v) (q : Q v) : EvP f Q := ⟨v, h, q⟩
theorem imp {f : Nat → Option α} {R : α → Prop} (h : EvP f Q) (q : ∀ v, Q v → R v) : EvP f R := ⟨h.choose, h.choose_spec.1, q _ h.choose_spec.2⟩
theorem bind {f : Nat → Option β} {g : Nat → β → Option α} {a : β} (h : Ev f a) (h' : EvP (fun n => g n a) Q) : EvP (fun n => (f n).bind (g n)) Q := ⟨h'.choose, Ev.bind h h'.choose_spec.1, h'.choose_spec.2⟩
theorem bindP {f : Nat → Option β} {g : Nat → β → Option α} {R : β → Prop} (h : EvP f R) (h' : ∀ a, R a → EvP (fun n => g n a) Q) : EvP (fun n => (f n).bind (g n)) Q := by
  obtain ⟨a, h1, h2⟩ := h
  exact bind h1 (h' a h2)
theorem cnd {c : Bool} {f g : Nat → Option α} (ht : c = true → EvP f Q) (hf : c = false → EvP g Q) : EvP (fun n => cond c (f n) (g n)) Q := by
  cases c with
  | true => exact ht rfl
  | false => exact hf rfl
theorem yes {c : Bool} {f g : Nat → Option α} (hc : c = true) (h : EvP f Q) : EvP (fun n => cond c (f n) (g n)) Q := by subst hc; exact h
theorem no {c : Bool} {f g : Nat → Option α} (hc : c = false) (h : EvP g Q) : EvP (fun n => cond c (f n) (g n)) Q := by subst hc; exact h
theorem step {P : Type} {s : Nat → (P → Option α) → P → Option α} {p : P} (h : EvP (fun n => s n (goRec s n) p) Q) : EvP (fun n => goRec s n p) Q := ⟨h.choose, Ev.step h.choose_spec.1, h.choose_spec.2⟩
end EvP
theorem toP_star (c : Int) : (toP c).2.2.1 = decide (c = -1) := by
  simp only [toP]
  by_cases h : c = -1
  · simp [h]
  · by_cases h2 : c = -2 <;> simp [h, h2]
theorem toP_any {c : Int} : (toP c).2.1 = decide (c = -2) := by
  simp only [toP]
  by_cases h : c = -1
  · simp [h]
  · by_cases h2 : c = -2 <;> simp [h, h2]
theorem toP_byte {c : Int} (h : c ≠ -1) (h2 : c ≠ -2) : (toP c).1 = c := by simp [toP, h, h2]
theorem pat_len : ∀ (n : Nat) (r : List Int) (out : List (List Int)) (now : List Int) (l : List (List Int)), r.length ≤ n → pat r out now = some l → l.length ≤ out.length + 1 + r.length ∧ ∀ a ∈ l, a ∈ out ∨ a.length ≤ now.length + r.length := by
  intro n
  induction n with
  | zero =>
    intro r out now l hr h
    obtain rfl : r = [] := List.length_eq_zero_iff.1 (by omega)
    rw [pat_nil] at h
    cases h
    refine ⟨by simp, fun a ha => ?_⟩
    rcases List.mem_append.1 ha with ha | ha
    · exact .inl ha
    · right; simp at ha; subst ha; simp
  | succ n ih =>
    intro r out now l hr h
    match r, hr, h with
    | [], hr, h =>
      rw [pat_nil] at h
      cases h
      refine ⟨by simp, fun a ha => ?_⟩
      rcases List.mem_append.1 ha with ha | ha
      · exact .inl ha
      · right; simp at ha; subst ha; simp
    | c :: r, hr, h =>
      simp only [List.length_cons] at hr ⊢
      have one : ∀ e, pat r out (now ++ [e]) = some l → l.length ≤ out.length + 1 + (r.length + 1) ∧ ∀ a ∈ l, a ∈ out ∨ a.length ≤ now.length + (r.length + 1) := by
        intro e h
        obtain ⟨h1, h2⟩ := ih r out _ l (by omega) h
        refine ⟨by omega, fun a ha => ?_⟩
        rcases h2 a ha with h3 | h3
        · exact .inl h3
        · right; simp at h3; omega
      rw [pat_cons] at h
      split at h
      · obtain ⟨h1, h2⟩ := ih r _ _ l (by omega) h
        refine ⟨by simp at h1; omega, fun a ha => ?_⟩
        rcases h2 a ha with h3 | h3
        · rcases List.mem_append.1 h3 with h3 | h3
          · exact .inl h3
          · right; simp at h3; subst h3; omega
        · right; simp at h3; omega
      · split at h
        · exact one _ h
        · split at h
          · exact one _ h
          · split at h
            · match r, h with
              | e :: r', h =>
                simp only at h
                split at h
                · obtain ⟨h1, h2⟩ := ih r' out _ l (by simp only [List.length_cons] at hr; omega) h
                  refine ⟨by simp only [List.length_cons]; omega, fun a ha => ?_⟩
                  rcases h2 a ha with h3 | h3
                  · exact .inl h3
                  · right; simp at h3; simp only [List.length_cons]; omega
                · cases h
            · exact one _ h
theorem alts_len {s : ByteArray} {l : List (List Int)} (h : alts s = some l) : l.length ≤ 101 ∧ ∀ a ∈ l, a.length ≤ 100 := by
  rw [alts] at h
  split at h
  · rename_i hs
    obtain ⟨h1, h2⟩ := pat_len _ (octs s) [] [] l (Nat.le_refl _) h
    rw [octs_len] at h1 h2
    refine ⟨by simp at h1; omega, fun a ha => ?_⟩
    rcases h2 a ha with h3 | h3
    · cases h3
    · simp at h3; omega
  · cases h
def matchOne (x : MT) (v : ByteArray) : Bool := if x.2.1 = 1 then seq v x.2.2.1 else if x.2.1 = 2 then !seq v x.2.2.1 else if x.2.1 = 3 then fitsP x.2.2.1 v else !fitsP x.2.2.1 v
def fitsB (ms : List MT) (l : List LB) : Bool := (List.range ms.length).all fun i => matchOne (ms.getD i default) (valL l (ms.getD i default).1)
theorem range_map_getD {α : Type} [Inhabited α] (l : List α) : (List.range l.length).map (fun i => l.getD i default) = l := by
  refine ext_getD (d := default) (by simp) fun j hj => ?_
  simp [List.getD_eq_getElem?_getD, hj]
theorem any_range {α : Type} [Inhabited α] (l : List α) (p : α → Bool) : ((List.range l.length).any fun i => p (l.getD i default)) = l.any p := by
  conv => rhs; rw [← range_map_getD l, List.any_map]
  rfl
theorem all_range {α : Type} [Inhabited α] (l : List α) (p : α → Bool) : ((List.range l.length).all fun i => p (l.getD i default)) = l.all p := by
  conv => rhs; rw [← range_map_getD l, List.all_map]
  rfl
def inhOne (x : INH) (s t : List LB) : Bool := (fitsB x.1 s && !(fitsB x.2.1 s && fitsB x.1 t)) && x.2.2.1.all fun k => seq (valL s k) (valL t k)
def inhibitedB (l : List INH) (ss : List (List LB)) (t : List LB) : Bool := l.any fun x => fitsB x.2.1 t && ss.any fun s => inhOne x s t
def inhibitedF (l : List INH) (ss : List (List LB)) (t : List LB) : Bool := (inhsB l && decide (ss.length ≤ 200) && labelsB t && ss.all labelsB) && inhibitedB l ss t
theorem Ev.bindP {α β : Type} {f : Nat → Option β} {g : Nat → β → Option α} {R : β → Prop} {v : α} (h : EvP f R) (h' : ∀ a, R a → Ev (fun n => g n a) v) : Ev (fun n => (f n).bind (g n)) v := by
  obtain ⟨a, h1, h2⟩ := h
  exact Ev.bind h1 (h' a h2)
def silP (t : List LB) (n : Int) (x : SIL) : Bool := fitsB x.2.1 t && decide (x.2.2.1 ≤ n) && decide (n ≤ x.2.2.2.1)
def silL (l : List SIL) (t : List LB) (n : Int) : List ByteArray := (l.filter (silP t n)).map fun x => x.1
def silencedF (l : List SIL) (t : List LB) (n : Int) : List ByteArray := if (silsB l && labelsB t && timeB n) = true then silL l t n else []
theorem silencedF_small {l : List SIL} {t : List LB} {n : Int} (h : Sm 1048576 (.sl false SIU) l) : Sm 1048576 (.sl false .str) (silencedF l t n) := by
  have hl : l.length ≤ 1048576 := h.1
  rw [silencedF]
  split
  · refine ⟨?_, fun x hx => ?_⟩
    · have := List.length_filter_le (silP t n) l
      simp only [silL, List.length_map]
      omega
    · obtain ⟨y, hy, rfl⟩ := List.mem_map.1 hx
      exact (h.2 y (List.mem_filter.1 hy).1).1
  · exact ⟨by simp, fun x hx => by cases hx⟩
abbrev RTE := ByteArray × List MT × List ByteArray × Int × Int × Int × List Int × Bool × Int × Unit
abbrev RTU : U := .pair .str (.pair (.sl false MU) (.pair (.sl false .str) (.pair (.int .i64) (.pair (.int .i64) (.pair (.int .i64) (.pair (.sl false (.int .i64)) (.pair .bool (.pair (.int .i64) .unit))))))))
def mutesB (l : List Int) : Bool := (List.range l.length).all fun i => decide (0 ≤ l.getD i default) && decide (l.getD i default < 20)
def posB (n : Int) : Bool := decide (1 ≤ n) && decide (n ≤ 1000000000000)
def routeB (r : RTE) : Bool := nameB r.1 && matchersB r.2.1 && namesB r.2.2.1 && timeB r.2.2.2.1 && posB r.2.2.2.2.1 && posB r.2.2.2.2.2.1 && (decide (r.2.2.2.2.2.2.1.length ≤ 20) && risingI r.2.2.2.2.2.2.1) && mutesB r.2.2.2.2.2.2.1
def kidsOf (l : List RTE) (i : Nat) : Int := (l.getD i default).2.2.2.2.2.2.2.2.1
def manyN (f : Nat → Option Nat) : Nat → Nat → Option Nat
  | 0, p => some p
  | k + 1, p => match f p with | some q => manyN f k q | none => none
def nodeN (l : List RTE) (g : RTE → Bool) : Nat → Nat → Option Nat
  | 0, _ => none
  | d + 1, i => if (decide (i < l.length) && decide (0 ≤ kidsOf l i) && g (l.getD i default)) = true then manyN (nodeN l g d) (kidsOf l i).toNat (i + 1) else none
theorem posB_time {n : Int} : posB n = (timeB n && !decide (n = 0)) := by
  simp only [posB, timeB]
  by_cases h : n = 0
  · subst h; rfl
  · by_cases h2 : 0 ≤ n
    · have : 1 ≤ n := by omega
      simp [h, h2, this]
    · have : ¬ 1 ≤ n := by omega
      simp [h2, this]
def smallB (r : RTE) : Bool := decide (r.2.2.2.2.2.2.2.2.1 ≤ 40)
theorem manyN_le {f : Nat → Option Nat} (hf : ∀ p q, f p = some q → p < q) : ∀ k p q, manyN f k p = some q → p + k ≤ q
  | 0, p, q, h => by simp only [manyN, Option.some.injEq] at h; omega
  | k + 1, p, q, h => by
    simp only [manyN] at h
    cases hp : f p with
    | none => rw [hp] at h; cases h
    | some r =>
      rw [hp] at h
      have := hf p r hp
      have := manyN_le hf k r q h
      omega
theorem manyN_top {f : Nat → Option Nat} {m : Nat} (hf : ∀ p q, f p = some q → q ≤ m) : ∀ k p q, p ≤ m → manyN f k p = some q → q ≤ m
  | 0, p, q, hp, h => by simp only [manyN, Option.some.injEq] at h; omega
  | k + 1, p, q, hp, h => by
    simp only [manyN] at h
    cases hp' : f p with
    | none => rw [hp'] at h; cases h
    | some r =>
      rw [hp'] at h
      exact manyN_top hf k r q (hf p r hp') h
theorem nodeN_lt {l : List RTE} {g : RTE → Bool} : ∀ d i n, nodeN l g d i = some n → i < n ∧ n ≤ l.length
  | 0, i, n, h => by simp [nodeN] at h
  | d + 1, i, n, h => by
    simp only [nodeN] at h
    split at h
    · rename_i hc
      simp only [Bool.and_eq_true, decide_eq_true_eq] at hc
      have h1 := manyN_le (fun p q hq => (nodeN_lt d p q hq).1) _ _ _ h
      have h2 := manyN_top (m := l.length) (fun p q hq => (nodeN_lt d p q hq).2) _ _ _ (by omega) h
      omega
    · cases h
def tkV : Option Nat → Int | some q => (q : Int) | none => -1
theorem manyN_SI {f g : Nat → Option Nat} {G : Nat → Prop} (hf : ∀ p q, f p = some q → p < q ∧ g p = some q ∧ ∀ j, p ≤ j → j < q → G j) : ∀ k p q, manyN f k p = some q → manyN g k p = some q ∧ ∀ j, p ≤ j → j < q → G j
  | 0, p, q, h => by
    simp only [manyN, Option.some.injEq] at h
    subst h
    exact ⟨rfl, fun j h1 h2 => by omega⟩
  | k + 1, p, q, h => by
    simp only [manyN] at h ⊢
    cases hp : f p with
    | none => rw [hp] at h; cases h
    | some r =>
      rw [hp] at h
      obtain ⟨h1, h2, h3⟩ := hf p r hp
      obtain ⟨h4, h5⟩ := manyN_SI hf k r q h
      rw [h2]
      exact ⟨h4, fun j j1 j2 => if hj : j < r then h3 j j1 hj else h5 j (by omega) j2⟩
theorem nodeN_SI {l : List RTE} (hl : l.length ≤ 40) : ∀ d i n, nodeN l routeB d i = some n → nodeN l smallB d i = some n ∧ ∀ j, i ≤ j → j < n → routeB (l.getD j default) = true
  | 0, i, n, h => by simp [nodeN] at h
  | d + 1, i, n, h => by
    have hn := nodeN_lt _ _ _ h
    simp only [nodeN] at h ⊢
    split at h
    · rename_i hc
      have hc' := hc
      simp only [Bool.and_eq_true, decide_eq_true_eq] at hc
      have h1 := manyN_le (fun p q hq => (nodeN_lt d p q hq).1) _ _ _ h
      have hs : smallB (l.getD i default) = true := decide_eq_true (show kidsOf l i ≤ 40 by omega)
      obtain ⟨h2, h3⟩ := manyN_SI (G := fun j => routeB (l.getD j default) = true) (g := nodeN l smallB d) (fun p q hq => ⟨(nodeN_lt d p q hq).1, nodeN_SI hl d p q hq⟩) _ _ _ h
      rw [if_pos (by rw [decide_eq_true hc.1.1, decide_eq_true hc.1.2, hs]; rfl)]
      refine ⟨h2, fun j j1 j2 => ?_⟩
      rcases Nat.eq_or_lt_of_le j1 with rfl | j1
      · exact hc.2
      · exact h3 j (by omega) j2
    · cases h
theorem manyN_IS {f g : Nat → Option Nat} {G : Nat → Prop} (hl : ∀ p q, g p = some q → p < q) (hg : ∀ p q, g p = some q → (∀ j, p ≤ j → j < q → G j) → f p = some q) : ∀ k p q, manyN g k p = some q → (∀ j, p ≤ j → j < q → G j) → manyN f k p = some q
  | 0, p, q, h, _ => by simpa only [manyN] using h
  | k + 1, p, q, h, hG => by
    simp only [manyN] at h ⊢
    cases hp : g p with
    | none => rw [hp] at h; cases h
    | some r =>
      rw [hp] at h
      have h1 := hl p r hp
      have h2 := manyN_le hl k r q h
      rw [hg p r hp (fun j j1 j2 => hG j j1 (by omega))]
      exact manyN_IS hl hg k r q h (fun j j1 j2 => hG j (by omega) j2)
theorem nodeN_IS {l : List RTE} : ∀ d i n, nodeN l smallB d i = some n → (∀ j, i ≤ j → j < n → routeB (l.getD j default) = true) → nodeN l routeB d i = some n
  | 0, i, n, h, _ => by simp [nodeN] at h
  | d + 1, i, n, h, hG => by
    have hn := nodeN_lt _ _ _ h
    simp only [nodeN] at h ⊢
    split at h
    · rename_i hc
      simp only [Bool.and_eq_true, decide_eq_true_eq] at hc
      rw [if_pos (by rw [decide_eq_true hc.1.1, decide_eq_true hc.1.2, hG i (Nat.le_refl _) hn.1]; rfl)]
      exact manyN_IS (fun p q hq => (nodeN_lt d p q hq).1) (fun p q hq => nodeN_IS d p q hq) _ _ _ h (fun j j1 j2 => hG j (by omega) j2)
    · cases h
def routesB (l : List RTE) : Bool := (decide (l.length ≠ 0) && decide (l.length ≤ 40) && decide (nodeN l routeB 8 0 = some l.length)) && (decide ((l.getD 0 default).2.1.length = 0) && !(l.getD 0 default).2.2.2.2.2.2.2.1)
theorem routes_eq {l : List RTE} (hl : l.length ≤ 40) : decide (nodeN l routeB 8 0 = some l.length) = (decide (nodeN l smallB 8 0 = some l.length) && (List.range l.length).all fun i => routeB (l.getD i default)) := by
  rw [Bool.eq_iff_iff]
  simp only [decide_eq_true_eq, Bool.and_eq_true, List.all_eq_true, List.mem_range]
  exact ⟨fun h => ⟨(nodeN_SI hl _ _ _ h).1, fun i hi => (nodeN_SI hl _ _ _ h).2 i (Nat.zero_le _) hi⟩, fun h => nodeN_IS _ _ _ h.1 fun j _ j2 => h.2 j j2⟩
theorem Ev.filt {P α : Type} [Inhabited α] {step : Nat → (P → Option (List α)) → P → Option (List α)} {l : List α} {p : α → Bool} {pt : Nat → List α → P}
    (hy : ∀ i out, i < l.length → out.length ≤ i → p (l.getD i default) = true → ∀ v, Ev (fun n => goRec step n (pt (i + 1) (out ++ [l.getD i default]))) v → Ev (fun n => goRec step n (pt i out)) v)
    (hn : ∀ i out, i < l.length → out.length ≤ i → p (l.getD i default) = false → ∀ v, Ev (fun n => goRec step n (pt (i + 1) out)) v → Ev (fun n => goRec step n (pt i out)) v)
    (he : ∀ out, Ev (fun n => goRec step n (pt l.length out)) out) : Ev (fun n => goRec step n (pt 0 [])) (l.filter p) := by
  have key : ∀ d i out, i + d = l.length → out.length ≤ i → Ev (fun n => goRec step n (pt i out)) (out ++ (l.drop i).filter p) := by
    intro d
    induction d with
    | zero =>
      intro i out h ho
      obtain rfl : i = l.length := by omega
      exact Ev.of_eq (he out) (by simp)
    | succ d ih =>
      intro i out h ho
      have hi : i < l.length := by omega
      rw [drop_getD hi, List.filter_cons]
      cases c : p (l.getD i default) with
      | true => exact hy i out hi ho c _ (Ev.of_eq (ih (i + 1) _ (by omega) (by simp; omega)) (by simp))
      | false => exact hn i out hi ho c _ (Ev.of_eq (ih (i + 1) _ (by omega) (by omega)) (by simp))
  exact key l.length 0 [] (by omega) (by simp)
theorem any_getD {α : Type} [Inhabited α] {l : List α} {p : α → Bool} : l.any p = (List.range l.length).any fun i => p (l.getD i default) := by
  rw [Bool.eq_iff_iff, List.any_eq_true, List.any_eq_true]
  constructor
  · rintro ⟨x, hx, hp⟩
    obtain ⟨i, hi, rfl⟩ := List.getElem_of_mem hx
    refine ⟨i, by simpa using hi, ?_⟩
    rwa [List.getD_eq_getElem?_getD, List.getElem?_eq_getElem hi]
  · rintro ⟨i, hi, hp⟩
    exact ⟨_, getD_mem (by simpa using hi), hp⟩
def hasB (l : List ByteArray) (x : ByteArray) : Bool := (List.range l.length).any fun i => decide (l.getD i default = x)
def groupF (l : List RTE) (k : Int) (t : List LB) : List LB := if (routesB l && decide (0 ≤ k) && decide (k < (l.length : Int)) && labelsB t) = true then t.filter (fun x => hasB (l.getD k.toNat default).2.2.1 x.1) else []
theorem groupF_small {l : List RTE} {k : Int} {t : List LB} (h : Sm 1048576 (.sl false LU) t) : Sm 1048576 (.sl false LU) (groupF l k t) := by
  have hl : t.length ≤ 1048576 := h.1
  rw [groupF]
  split
  · exact ⟨by have := List.length_filter_le (fun x => hasB (l.getD k.toNat default).2.2.1 x.1) t; omega, fun x hx => h.2 x (List.mem_filter.1 hx).1⟩
  · exact ⟨by simp, fun x hx => by cases hx⟩
/-- a loop that goes on while p holds, and something else behind it -/
theorem Ev.allK {P : Type} {step : Nat → (P → Option Bool) → P → Option Bool} {n : Nat} {p : Nat → Bool} {pt : Nat → P} {b : Bool}
    (hs : ∀ i, i < n → (p i = true → ∀ v, Ev (fun m => goRec step m (pt (i + 1))) v → Ev (fun m => goRec step m (pt i)) v) ∧ (p i = false → Ev (fun m => goRec step m (pt i)) false))
    (he : (List.range n).all p = true → Ev (fun m => goRec step m (pt n)) b) : Ev (fun m => goRec step m (pt 0)) ((List.range n).all p && b) := by
  have key : ∀ d i, i + d = n → (∀ j, j < i → p j = true) → Ev (fun m => goRec step m (pt i)) ((List.range' i d).all p && b) := by
    intro d
    induction d with
    | zero =>
      intro i h hj
      rw [Nat.add_zero] at h
      subst h
      exact he (by simpa using hj)
    | succ d ih =>
      intro i h hj
      obtain ⟨h1, h2⟩ := hs i (by omega)
      rw [List.range'_succ, List.all_cons]
      cases hp : p i with
      | false => rw [Bool.false_and, Bool.false_and]; exact h2 hp
      | true =>
        rw [Bool.true_and]
        refine h1 hp _ (ih (i + 1) (by omega) fun j h => ?_)
        rcases Nat.lt_succ_iff_lt_or_eq.1 h with h | rfl
        · exact hj j h
        · exact hp
  have := key n 0 (by omega) (by omega)
  rwa [List.range_eq_range']
abbrev NCE := List RTE × List ITV × List SIL × List INH × Unit
abbrev NCU : U := .pair (.sl false RTU) (.pair (.sl false ITU) (.pair (.sl false SIU) (.pair (.sl false INU) .unit)))
def mutesOK (m : Nat) (l : List Int) : Bool := (List.range l.length).all fun j => !decide ((m : Int) ≤ l.getD j default)
def itvsB (l : List ITV) : Bool := (List.range l.length).all fun i => itvB (l.getD i default)
def rmutesB (m : Nat) (l : List RTE) : Bool := (List.range l.length).all fun i => mutesOK m (l.getD i default).2.2.2.2.2.2.1
def notifyB (c : NCE) : Bool := (routesB c.1 && silsB c.2.2.1 && inhsB c.2.2.2.1) && decide (c.2.1.length ≤ 20) && itvsB c.2.1 && rmutesB c.2.1.length c.1
abbrev CUE := Int × Int × Int × Int × Unit
abbrev CUU : U := .pair (.int .i64) (.pair (.int .i64) (.pair (.int .i64) (.pair (.int .i64) .unit)))
abbrev MCE := Int × Int × List CUE × List CUE × Unit
abbrev MCU : U := .pair (.int .i64) (.pair (.int .i64) (.pair (.sl false CUU) (.pair (.sl false CUU) .unit)))
def cutB (m : Int) (d : Bool) (x : CUE) : Bool := timeB x.2.2.1 && timeB x.2.2.2.1 && decide (0 ≤ x.1) && decide (x.1 < m) && decide (0 ≤ x.2.1) && decide (x.2.1 < m) && !(d && !decide (x.2.1 = 0))
def cutsB (l : List CUE) (m : Int) (d : Bool) : Bool := decide (l.length ≤ 20) && (List.range l.length).all fun i => cutB m d (l.getD i default)
def slowB (l : List RTE) (k : Int) : Bool := (List.range l.length).all fun i => !decide ((l.getD i default).2.2.2.2.1 ≤ k)
def membersB (c : NCE) (m : MCE) : Bool := (notifyB c && decide (1 ≤ m.1) && decide (m.1 ≤ 5) && timeB m.2.1 && cutsB m.2.2.1 m.1 false && cutsB m.2.2.2.1 m.1 true) && slowB c.1 (IntKind.wrap .i64 ((IntKind.wrap .i64 (m.1 - (1 : Int))) * m.2.1))
theorem routesB_all {l : List RTE} (h : routesB l = true) : l.length ≤ 40 ∧ nodeN l routeB 8 0 = some l.length ∧ ∀ i, i < l.length → routeB (l.getD i default) = true := by
  simp only [routesB, Bool.and_eq_true, decide_eq_true_eq] at h
  exact ⟨h.1.1.2, h.1.2, fun i hi => (nodeN_SI h.1.1.2 _ _ _ h.1.2).2 i (Nat.zero_le _) hi⟩
noncomputable def mutedB (c : NCE) (l : List Int) (t : Int) : Bool := (List.range l.length).any fun j => inItvB (c.2.1.getD (l.getD j default).toNat default) t
noncomputable def mutedAtB (c : NCE) (r t : Int) : Bool := notifyB c && decide (0 ≤ r) && decide (r < (c.1.length : Int)) && timeB t && mutedB c (c.1.getD r.toNat default).2.2.2.2.2.2.1 t
/-- the mutes of a route of good routes name intervals -/
theorem mutes_in {c : NCE} (h : notifyB c = true) {i : Nat} (hi : i < c.1.length) {j : Nat} (hj : j < (c.1.getD i default).2.2.2.2.2.2.1.length) : 0 ≤ (c.1.getD i default).2.2.2.2.2.2.1.getD j default ∧ (c.1.getD i default).2.2.2.2.2.2.1.getD j default < (c.2.1.length : Int) := by
  simp only [notifyB, Bool.and_eq_true] at h
  have h1 := (routesB_all h.1.1.1.1.1).2.2 i hi
  have h2 := h.2
  simp only [rmutesB, List.all_eq_true, List.mem_range] at h2
  have h3 := h2 i hi
  simp only [mutesOK, List.all_eq_true, List.mem_range, Bool.not_eq_true', decide_eq_false_iff_not] at h3
  have h3 := h3 j hj
  simp only [routeB, Bool.and_eq_true] at h1
  have h4 := h1.2
  simp only [mutesB, List.all_eq_true, List.mem_range, Bool.and_eq_true, decide_eq_true_eq] at h4
  have h4 := h4 j hj
  exact ⟨h4.1, by omega⟩
theorem inB_of {i : Int} {n : Nat} (h : 0 ≤ i ∧ i < (n : Int)) : inB i n = true := by simpa [inB] using h
/-- a loop that goes on until p holds -/
theorem Ev.anyN {P : Type} {step : Nat → (P → Option Bool) → P → Option Bool} {n : Nat} {p : Nat → Bool} {pt : Nat → P}
    (hs : ∀ i, i < n → (p i = false → ∀ v, Ev (fun m => goRec step m (pt (i + 1))) v → Ev (fun m => goRec step m (pt i)) v) ∧ (p i = true → Ev (fun m => goRec step m (pt i)) true))
    (he : Ev (fun m => goRec step m (pt n)) false) : Ev (fun m => goRec step m (pt 0)) ((List.range n).any p) := by
  have key : ∀ d i, i + d = n → Ev (fun m => goRec step m (pt i)) ((List.range' i d).any p) := by
    intro d
    induction d with
    | zero => intro i h; rw [Nat.add_zero] at h; subst h; exact he
    | succ d ih =>
      intro i h
      obtain ⟨h1, h2⟩ := hs i (by omega)
      rw [List.range'_succ, List.any_cons]
      cases hp : p i with
      | true => rw [Bool.true_or]; exact h2 hp
      | false => rw [Bool.false_or]; exact h1 hp _ (ih (i + 1) (by omega))
  have := key n 0 (by omega)
  rwa [List.range_eq_range']
def onB (l : List RTE) (i : Nat) : Bool := (l.getD i default).2.2.2.2.2.2.2.1
def fitI (l : List RTE) (t : List LB) (i : Nat) : Bool := fitsB (l.getD i default).2.1 t
def takeK (f : Nat → Option Nat) (g : Nat → List Int) (fit on : Nat → Bool) : Nat → Nat → Bool → List Int
  | 0, _, _ => []
  | k + 1, p, go => if (go && fit p) = true then g p ++ takeK f g fit on k ((f p).getD 0) (on p) else takeK f g fit on k ((f p).getD 0) go
def takeN (l : List RTE) (t : List LB) : Nat → Nat → List Int
  | 0, _ => []
  | d + 1, i => if (takeK (nodeN l routeB d) (takeN l t d) (fitI l t) (onB l) (kidsOf l i).toNat (i + 1) true).isEmpty = true then [(i : Int)] else takeK (nodeN l routeB d) (takeN l t d) (fitI l t) (onB l) (kidsOf l i).toNat (i + 1) true
/-- in order, within bounds -/
def InO (r : List Int) (p q : Nat) : Prop := r.Pairwise (· ≤ ·) ∧ (∀ x ∈ r, (p : Int) ≤ x ∧ x < (q : Int)) ∧ r.length ≤ q - p
theorem InO.app {r s : List Int} {p q n : Nat} (h1 : InO r p q) (h2 : InO s q n) (hp : p ≤ q) (hq : q ≤ n) : InO (r ++ s) p n := by
  obtain ⟨a1, a2, a3⟩ := h1
  obtain ⟨b1, b2, b3⟩ := h2
  refine ⟨List.pairwise_append.2 ⟨a1, b1, fun x hx y hy => ?_⟩, fun x hx => ?_, by rw [List.length_append]; omega⟩
  · have := a2 x hx
    have := b2 y hy
    omega
  · rcases List.mem_append.1 hx with hx | hx
    · have := a2 x hx; omega
    · have := b2 x hx; omega
theorem InO.up {s : List Int} {p q n : Nat} (h : InO s q n) (hp : p ≤ q) : InO s p n := ⟨h.1, fun x hx => by have := h.2.1 x hx; omega, by have := h.2.2; omega⟩
theorem takeK_in {f : Nat → Option Nat} {g : Nat → List Int} {fit on : Nat → Bool} (hf : ∀ p q, f p = some q → p < q ∧ InO (g p) p q) : ∀ k p q go, manyN f k p = some q → p ≤ q ∧ InO (takeK f g fit on k p go) p q
  | 0, p, q, go, h => by
    simp only [manyN, Option.some.injEq] at h
    subst h
    exact ⟨Nat.le_refl _, by simp [takeK, InO]⟩
  | k + 1, p, q, go, h => by
    simp only [manyN] at h
    cases hp : f p with
    | none => rw [hp] at h; cases h
    | some r =>
      rw [hp] at h
      obtain ⟨h1, h2⟩ := hf p r hp
      simp only [takeK, hp, Option.getD_some]
      split
      · obtain ⟨h3, h4⟩ := takeK_in (fit := fit) (on := on) hf k r q (on p) h
        exact ⟨by omega, h2.app h4 (by omega) h3⟩
      · obtain ⟨h3, h4⟩ := takeK_in (fit := fit) (on := on) hf k r q go h
        exact ⟨by omega, h4.up (by omega)⟩
theorem takeN_in {l : List RTE} {t : List LB} : ∀ d i n, nodeN l routeB d i = some n → i < n ∧ InO (takeN l t d i) i n
  | 0, i, n, h => by simp [nodeN] at h
  | d + 1, i, n, h => by
    have hn := nodeN_lt _ _ _ h
    simp only [nodeN] at h
    split at h
    · have hk := takeK_in (fit := fitI l t) (on := onB l) (fun p q hq => takeN_in (t := t) d p q hq) _ _ _ true h
      refine ⟨hn.1, ?_⟩
      simp only [takeN]
      split
      · exact ⟨by simp, fun x hx => by simp at hx; omega, by simp; omega⟩
      · exact hk.2.up (by omega)
    · cases h
theorem manyN_mono {f g : Nat → Option Nat} (hf : ∀ p q, f p = some q → g p = some q) : ∀ k p q, manyN f k p = some q → manyN g k p = some q
  | 0, p, q, h => h
  | k + 1, p, q, h => by
    simp only [manyN] at h ⊢
    cases hp : f p with
    | none => rw [hp] at h; cases h
    | some r => rw [hp] at h; rw [hf p r hp]; exact manyN_mono hf k r q h
theorem nodeN_up {l : List RTE} {g : RTE → Bool} : ∀ d i n, nodeN l g d i = some n → nodeN l g (d + 1) i = some n
  | 0, i, n, h => by simp [nodeN] at h
  | d + 1, i, n, h => by
    rw [nodeN] at h ⊢
    split at h
    · rename_i hc
      rw [if_pos hc]
      exact manyN_mono (fun p q hq => nodeN_up d p q hq) _ _ _ h
    · cases h
theorem nodeN_to {l : List RTE} {g : RTE → Bool} {d i n : Nat} (h : nodeN l g d i = some n) {e : Nat} (he : d ≤ e) : nodeN l g e i = some n := by
  obtain ⟨k, rfl⟩ := Nat.le.dest he
  clear he
  induction k with
  | zero => exact h
  | succ k ih => exact nodeN_up _ _ _ ih
def forF (l : List RTE) (t : List LB) : List Int := if (routesB l && labelsB t) = true then takeN l t 8 0 else []
theorem forF_small {l : List RTE} {t : List LB} : Sm 1048576 (.sl false (.int .i64)) (forF l t) := by
  rw [forF]
  split
  · rename_i h
    simp only [Bool.and_eq_true] at h
    have := routesB_all h.1
    have h2 := (takeN_in (t := t) _ _ _ this.2.1).2.2.2
    exact ⟨by omega, fun _ _ => trivial⟩
  · exact ⟨by simp, fun x hx => by cases hx⟩
theorem takeN_sort {l : List RTE} {t : List LB} {d i n : Nat} (h : nodeN l routeB d i = some n) : (takeN l t d i).mergeSort (fun x y => decide (x ≤ y)) = takeN l t d i := by
  refine List.mergeSort_of_pairwise ?_
  exact ((takeN_in (t := t) _ _ _ h).2.1).imp fun h => by simpa using h
theorem wrapu {x : Int} : IntKind.wrap .u64 x = x % 18446744073709551616 := rfl
theorem wrapu_nat {n : Nat} (h : n < 18446744073709551616) : IntKind.wrap .u64 (n : Int) = (n : Int) := by rw [wrapu]; omega
theorem i64_id {n : Nat} (h : n ≤ 4611686018427387904) : IntKind.wrap .i64 (n : Int) = (n : Int) := i64_ok (by omega) (by omega)
theorem tmod_nat {s k : Nat} : Int.tmod (s : Int) (k : Int) = ((s % k : Nat) : Int) := by rw [Int.tmod_eq_emod_of_nonneg (by omega)]; rfl
theorem tdiv_nat {s k : Nat} : Int.tdiv (s : Int) (k : Int) = ((s / k : Nat) : Int) := by rw [Int.tdiv_eq_ediv_of_nonneg (by omega)]; rfl
theorem band1 {z : Nat} : band .u64 (z : Int) 1 = ((z % 2 : Nat) : Int) := by
  have e : (BitVec.ofInt 64 (z : Int) &&& BitVec.ofInt 64 1).toNat = z % 2 := by
    rw [BitVec.toNat_and]
    have h1 : (BitVec.ofInt 64 1).toNat = 1 := by decide
    have h2 : (BitVec.ofInt 64 (z : Int)).toNat = z % 2 ^ 64 := by rw [BitVec.toNat_ofInt]; omega
    rw [h1, h2, Nat.and_one_is_mod]
    omega
  show IntKind.wrap .u64 ((BitVec.ofInt 64 (z : Int) &&& BitVec.ofInt 64 1).toNat : Int) = _
  rw [e]
  exact wrapu_nat (by omega)
theorem shr_nat {y k : Nat} (hk : k ≤ 64) : shr .u64 (y : Int) (k : Int) = ((y / 2 ^ k : Nat) : Int) := by
  show Int.fdiv (y : Int) (2 ^ (min (Int.toNat (k : Int)) 64)) = _
  rw [Int.toNat_natCast, Nat.min_eq_left hk, Int.fdiv_eq_ediv_of_nonneg _ (Int.pow_nonneg (by decide))]
  rw [show ((2 : Int) ^ k) = ((2 ^ k : Nat) : Int) by simp]
  rfl
def bitN (y k : Nat) : Nat := y / 2 ^ k % 2
theorem bit_eq {y k : Nat} (hk : k ≤ 64) : band .u64 (shr .u64 (y : Int) (k : Int)) 1 = (bitN y k : Int) := by rw [shr_nat hk, band1]; rfl
theorem bitN_test {y k : Nat} : y.testBit k = decide (bitN y k = 1) := Nat.testBit_eq_decide_div_mod_eq
theorem bitN_lt {y k : Nat} : bitN y k < 2 := Nat.mod_lt _ (by decide)
def lzN (y : Nat) : Nat := 63 - Nat.log2 y
def tzN (y : Nat) : Nat := ((List.range 64).find? fun i => y.testBit i).getD 64
theorem log2_le {y : Nat} (h0 : y ≠ 0) (h : y < 18446744073709551616) : Nat.log2 y ≤ 63 := by
  have := (Nat.log2_lt h0 (k := 64)).2 h
  omega
theorem tz_spec {y : Nat} (h0 : y ≠ 0) (h : y < 18446744073709551616) : tzN y < 64 ∧ y.testBit (tzN y) = true ∧ ∀ j, j < tzN y → y.testBit j = false := by
  have hl := log2_le h0 h
  have hb : y.testBit (Nat.log2 y) = true := Nat.testBit_log2 h0
  cases hf : (List.range 64).find? fun i => y.testBit i with
  | none =>
    have := List.find?_eq_none.1 hf (Nat.log2 y) (by simp; omega)
    exact absurd hb this
  | some b =>
    rw [tzN, hf, Option.getD_some]
    have h1 := List.find?_some hf
    have h2 := List.mem_of_find?_eq_some hf
    refine ⟨by simpa using h2, h1, fun j hj => ?_⟩
    rw [List.find?_eq_some_iff_append] at hf
    obtain ⟨_, l1, l2, e, h3⟩ := hf
    have hlen : l1.length = b := by
      have := congrArg (fun l => l[l1.length]?) e
      simp only [List.getElem?_append_right (Nat.le_refl _), Nat.sub_self, List.getElem?_cons_zero] at this
      have := List.getElem?_eq_some_iff.1 this
      obtain ⟨_, h5⟩ := this
      simpa using h5
    have hj1 : l1[j]? = some j := by
      have := congrArg (fun l => l[j]?) e
      simp only [List.getElem?_append_left (show j < l1.length by omega)] at this
      rw [← this]
      have hb64 : b < 64 := by simpa using h2
      exact List.getElem?_range (by omega)
    have := h3 j (List.mem_of_getElem? hj1)
    simpa using this
theorem lz_tz {y : Nat} (h0 : y ≠ 0) (h : y < 18446744073709551616) : lzN y + tzN y ≤ 63 := by
  have hl := log2_le h0 h
  obtain ⟨h1, h2, h3⟩ := tz_spec h0 h
  have : tzN y ≤ Nat.log2 y := by
    rcases Nat.lt_or_ge (Nat.log2 y) (tzN y) with h4 | h4
    · have := h3 _ h4; rw [Nat.testBit_log2 h0] at this; cases this
    · exact h4
  rw [lzN]; omega
theorem log2_shift {y k : Nat} (h : 2 ^ k ≤ y) : Nat.log2 y = Nat.log2 (y / 2 ^ k) + k := by
  have hp : 0 < 2 ^ k := Nat.pos_of_ne_zero (by simp)
  have h0 : y ≠ 0 := by omega
  have h1 : y / 2 ^ k ≠ 0 := by have := Nat.div_pos h hp; omega
  obtain ⟨a, b⟩ := (Nat.log2_eq_iff h1).1 rfl
  refine (Nat.log2_eq_iff h0).2 ⟨?_, ?_⟩
  · rw [Nat.pow_add]; exact (Nat.le_div_iff_mul_le hp).1 a
  · rw [show Nat.log2 (y / 2 ^ k) + k + 1 = Nat.log2 (y / 2 ^ k) + 1 + k by omega, Nat.pow_add]; exact (Nat.div_lt_iff_lt_mul hp).1 b
def len8T : ByteArray := ⟨#[0, 1, 2, 2, 3, 3, 3, 3, 4, 4, 4, 4, 4, 4, 4, 4, 5, 5, 5, 5, 5, 5, 5, 5, 5, 5, 5, 5, 5, 5, 5, 5, 6, 6, 6, 6, 6, 6, 6, 6, 6, 6, 6, 6, 6, 6, 6, 6, 6, 6, 6, 6, 6, 6, 6, 6, 6, 6, 6, 6, 6, 6, 6, 6, 7, 7, 7, 7, 7, 7, 7, 7, 7, 7, 7, 7, 7, 7, 7, 7, 7, 7, 7, 7, 7, 7, 7, 7, 7, 7, 7, 7, 7, 7, 7, 7, 7, 7, 7, 7, 7, 7, 7, 7, 7, 7, 7, 7, 7, 7, 7, 7, 7, 7, 7, 7, 7, 7, 7, 7, 7, 7, 7, 7, 7, 7, 7, 7, 8, 8, 8, 8, 8, 8, 8, 8, 8, 8, 8, 8, 8, 8, 8, 8, 8, 8, 8, 8, 8, 8, 8, 8, 8, 8, 8, 8, 8, 8, 8, 8, 8, 8, 8, 8, 8, 8, 8, 8, 8, 8, 8, 8, 8, 8, 8, 8, 8, 8, 8, 8, 8, 8, 8, 8, 8, 8, 8, 8, 8, 8, 8, 8, 8, 8, 8, 8, 8, 8, 8, 8, 8, 8, 8, 8, 8, 8, 8, 8, 8, 8, 8, 8, 8, 8, 8, 8, 8, 8, 8, 8, 8, 8, 8, 8, 8, 8, 8, 8, 8, 8, 8, 8, 8, 8, 8, 8, 8, 8, 8, 8, 8, 8, 8, 8, 8, 8, 8, 8, 8, 8, 8, 8, 8, 8, 8, 8]⟩
theorem len8_ok : ∀ z : Nat, z < 256 → z = 0 ∨ IntKind.wrap .i64 (bt len8T (z : Int)) = ((Nat.log2 z + 1 : Nat) : Int) := by decide +kernel
theorem u8_id {z : Nat} (h : z < 256) : IntKind.wrap .u8 (z : Int) = (z : Int) := by
  show (z : Int) % 256 = _
  omega
def tzT : List Int := [0, 1, 56, 2, 57, 49, 28, 3, 61, 58, 42, 50, 38, 29, 17, 4, 62, 47, 59, 36, 45, 43, 51, 22, 53, 39, 33, 30, 24, 18, 12, 5, 63, 55, 48, 27, 60, 41, 37, 16, 46, 35, 44, 21, 52, 32, 23, 11, 54, 26, 40, 15, 34, 20, 31, 10, 25, 14, 19, 9, 13, 8, 7, 6]
theorem tz_tab : ∀ t : Nat, t < 64 → inB (shr .u64 (IntKind.wrap .u64 ((285870213051353865 : Int) * ((2 ^ t : Nat) : Int))) (58 : Int)) 64 = true ∧ IntKind.wrap .i64 (List.getD (List.getD [tzT] 0 default) (Int.toNat (shr .u64 (IntKind.wrap .u64 ((285870213051353865 : Int) * ((2 ^ t : Nat) : Int))) (58 : Int))) default) = (t : Int) := by decide +kernel
theorem low_bit {y : Nat} (h0 : y ≠ 0) (h : y < 18446744073709551616) : band .u64 (y : Int) (IntKind.wrap .u64 ((0 : Int) - (y : Int))) = ((2 ^ tzN y : Nat) : Int) := by
  obtain ⟨t1, t2, t3⟩ := tz_spec h0 h
  have hy : BitVec.ofInt 64 (y : Int) = BitVec.ofNat 64 y := BitVec.ofInt_natCast _ _
  have hn : BitVec.ofInt 64 (IntKind.wrap .u64 ((0 : Int) - (y : Int))) = -BitVec.ofNat 64 y := by
    apply BitVec.eq_of_toNat_eq
    rw [BitVec.toNat_ofInt, BitVec.toNat_neg, BitVec.toNat_ofNat, wrapu]
    omega
  have key : BitVec.ofNat 64 y &&& -BitVec.ofNat 64 y = BitVec.twoPow 64 (tzN y) := by
    apply BitVec.eq_of_getLsbD_eq
    intro i hi
    rw [BitVec.getLsbD_and, BitVec.getLsbD_neg, BitVec.getLsbD_twoPow, BitVec.getLsbD_ofNat]
    simp only [hi, decide_true, Bool.true_and]
    rcases Nat.lt_trichotomy i (tzN y) with h1 | h1 | h1
    · rw [t3 i h1, Bool.false_and]
      rw [decide_eq_false (show ¬ tzN y = i by omega), Bool.and_false]
    · subst h1
      rw [t2]
      have : ¬ ∃ j, j < tzN y ∧ (BitVec.ofNat 64 y).getLsbD j = true := by
        rintro ⟨j, hj, h5⟩
        rw [BitVec.getLsbD_ofNat, t3 j hj] at h5
        simp at h5
      simp [this, t1]
    · have : ∃ j, j < i ∧ (BitVec.ofNat 64 y).getLsbD j = true := ⟨tzN y, h1, by rw [BitVec.getLsbD_ofNat, t2]; simp [t1]⟩
      simp only [this, decide_true]
      have hne : decide (tzN y = i) = false := by simp only [decide_eq_false_iff_not]; omega
      cases y.testBit i <;> simp [hne]
  show IntKind.wrap .u64 ((BitVec.ofInt 64 (y : Int) &&& BitVec.ofInt 64 (IntKind.wrap .u64 ((0 : Int) - (y : Int)))).toNat : Int) = _
  rw [hy, hn, key, BitVec.toNat_twoPow]
  have : 2 ^ tzN y < 2 ^ 64 := Nat.pow_lt_pow_right (by decide) t1
  rw [Nat.mod_eq_of_lt this]
  exact wrapu_nat this
abbrev SME := Int × Int × Unit
abbrev SMU : U := .pair (.int .i64) (.pair (.int .i64) .unit)
abbrev BBE := List Int × Nat
theorem tmod8 {s : Nat} : Int.tmod (s : Int) 8 = ((s % 8 : Nat) : Int) := tmod_nat (k := 8)
theorem tdiv8 {s : Nat} : Int.tdiv (s : Int) 8 = ((s / 8 : Nat) : Int) := tdiv_nat (k := 8)
def bitAt (v : Int) (k : Nat) : Bool := decide (band .u64 (shr .u64 (IntKind.wrap .u64 v) (k : Int)) (1 : Int) = 1)
theorem bit_val {v : Int} {k : Nat} (hk : k ≤ 64) : band .u64 (shr .u64 (IntKind.wrap .u64 v) (k : Int)) (1 : Int) = if bitAt v k = true then 1 else 0 := by
  obtain ⟨w, hw⟩ : ∃ w : Nat, IntKind.wrap .u64 v = (w : Int) := ⟨(v % 18446744073709551616).toNat, by rw [wrapu]; omega⟩
  rw [bitAt, hw, bit_eq hk]
  have := @bitN_lt w k
  by_cases h : bitN w k = 1
  · rw [h]; rfl
  · rw [if_neg (by simp only [decide_eq_true_eq]; omega)]; omega
def growB (b : BBE) : List Int := if b.2 % 8 = 0 then b.1 ++ [0] else b.1
def put1 (b : BBE) (x : Bool) : BBE := (if x = true then (growB b).set (b.2 / 8) (bor .u8 ((growB b).getD (b.2 / 8) default) (shr .u8 (128 : Int) ((b.2 % 8 : Nat) : Int))) else growB b, b.2 + 1)
def puts (v : Int) : Nat → BBE → BBE
  | 0, b => b
  | k + 1, b => puts v k (put1 b (bitAt v k))
def OKB (b : BBE) : Prop := b.1.length = (b.2 + 7) / 8
theorem growB_len {b : BBE} (h : OKB b) : (growB b).length = b.2 / 8 + 1 := by
  simp only [OKB] at h
  rw [growB]
  split
  · rw [List.length_append, h, List.length_singleton]; omega
  · rw [h]; omega
theorem put1_ok {b : BBE} {x : Bool} (h : OKB b) : OKB (put1 b x) := by
  have := growB_len h
  simp only [OKB, put1]
  split
  · rw [List.length_set, this]; omega
  · rw [this]; omega
theorem puts_ok {v : Int} : ∀ {n : Nat} {b : BBE}, OKB b → OKB (puts v n b)
  | 0, b, h => h
  | n + 1, b, h => puts_ok (n := n) (put1_ok h)
theorem puts_sz {v : Int} : ∀ {n : Nat} {b : BBE}, (puts v n b).2 = b.2 + n
  | 0, b => rfl
  | n + 1, b => by rw [puts, puts_sz, put1]; omega
def outB (b : BBE) : List Int × Int × Unit := (b.1, ((b.2 : Nat) : Int), ())
def bendB (b : BBE) (e : Int) : BBE :=
  if e = 0 then puts 0 1 b else if -63 ≤ e ∧ e ≤ 64 then puts (IntKind.wrap .i64 (e + 63)) 7 (puts 2 2 b) else if -255 ≤ e ∧ e ≤ 256 then puts (IntKind.wrap .i64 (e + 255)) 9 (puts 6 3 b)
  else if -2047 ≤ e ∧ e ≤ 2048 then puts (IntKind.wrap .i64 (e + 2047)) 12 (puts 14 4 b) else puts e 64 (puts 15 4 b)
theorem bendB_ok {b : BBE} {e : Int} (h : OKB b) : OKB (bendB b e) ∧ (bendB b e).2 ≤ b.2 + 68 := by
  simp only [bendB]
  split
  · exact ⟨puts_ok h, by rw [puts_sz]; omega⟩
  split
  · exact ⟨puts_ok (puts_ok h), by rw [puts_sz, puts_sz]; omega⟩
  split
  · exact ⟨puts_ok (puts_ok h), by rw [puts_sz, puts_sz]; omega⟩
  split
  · exact ⟨puts_ok (puts_ok h), by rw [puts_sz, puts_sz]; omega⟩
  · exact ⟨puts_ok (puts_ok h), by rw [puts_sz, puts_sz]; omega⟩
def turnN (a p : Int) : Nat := (BitVec.ofInt 64 a ^^^ BitVec.ofInt 64 p).toNat
theorem turn_lt {a p : Int} : turnN a p < 18446744073709551616 := (BitVec.ofInt 64 a ^^^ BitVec.ofInt 64 p).isLt
theorem turn_i {a p : Int} : IntKind.wrap .u64 (bxor .i64 a p) = (turnN a p : Int) := by
  have := @turn_lt a p
  show IntKind.wrap .u64 (IntKind.wrap .i64 (turnN a p : Int)) = _
  rw [wrapu]
  show (if (true && decide ((turnN a p : Int) % 18446744073709551616 ≥ 9223372036854775808)) = true then (turnN a p : Int) % 18446744073709551616 - 18446744073709551616 else (turnN a p : Int) % 18446744073709551616) % 18446744073709551616 = _
  split <;> omega
theorem ofInt_wrapu {a : Int} : BitVec.ofInt 64 (IntKind.wrap .u64 a) = BitVec.ofInt 64 a := by
  apply BitVec.eq_of_toNat_eq
  rw [BitVec.toNat_ofInt, BitVec.toNat_ofInt, wrapu]
  omega
theorem turn_u {a p : Int} : bxor .u64 (IntKind.wrap .u64 a) (IntKind.wrap .u64 p) = (turnN a p : Int) := by
  show IntKind.wrap .u64 ((BitVec.ofInt 64 (IntKind.wrap .u64 a) ^^^ BitVec.ofInt 64 (IntKind.wrap .u64 p)).toNat : Int) = _
  rw [ofInt_wrapu, ofInt_wrapu]
  exact wrapu_nat turn_lt
abbrev FRE := Option (Nat × Nat)
def frB (st : FRE) (y : Nat) : Bool := match st with | some (ld, tr) => decide (ld ≤ lzN y) && decide (tr ≤ tzN y) | none => false
def leadN (st : FRE) : Nat := (st.getD (0, 0)).1
def leadI (st : FRE) : Int := match st with | some p => (p.1 : Int) | none => -1
def trailN (st : FRE) : Nat := (st.getD (0, 0)).2
def oldB (b : BBE) (st : FRE) (y : Nat) : BBE := puts (IntKind.wrap .i64 ((y / 2 ^ trailN st : Nat) : Int)) (64 - leadN st - trailN st) (puts 2 2 b)
def newB (b : BBE) (y : Nat) : BBE := puts (IntKind.wrap .i64 ((y / 2 ^ tzN y : Nat) : Int)) (64 - lzN y - tzN y) (puts ((64 - lzN y - tzN y - 1 : Nat) : Int) 6 (puts (lzN y : Int) 6 (puts 3 2 b)))
def valB (b : BBE) (st : FRE) (y : Nat) : BBE × FRE := if y = 0 then (puts 0 1 b, st) else if frB st y = true then (oldB b st y, st) else (newB b y, some (lzN y, tzN y))
def nowI (l : List SME) (i : Nat) : Int := IntKind.wrap .i64 ((l.getD i default).1 - (l.getD (i - 1) default).1)
def bendI (l : List SME) (i : Nat) (step : Int) : Int := if i = 1 then nowI l i else IntKind.wrap .i64 (nowI l i - step)
def turnI (l : List SME) (i : Nat) : Nat := turnN (l.getD i default).2.1 (l.getD (i - 1) default).2.1
def packR (l : List SME) : Nat → Nat → BBE → FRE → Int → BBE
  | 0, _, b, _, _ => b
  | d + 1, i, b, st, step => if i = 0 then packR l d (i + 1) (puts (l.getD i default).2.1 64 (puts (l.getD i default).1 40 b)) st step
    else packR l d (i + 1) (valB (bendB b (bendI l i step)) st (turnI l i)).1 (valB (bendB b (bendI l i step)) st (turnI l i)).2 (nowI l i)
def packV (l : List SME) : BBE := packR l l.length 0 (puts (l.length : Int) 8 ([], 0)) none 0
def FrOK (st : FRE) : Prop := leadN st + trailN st ≤ 63
theorem valB_ok {b : BBE} {st : FRE} {y : Nat} (h : OKB b) (hs : FrOK st) (hy : y < 18446744073709551616) : OKB (valB b st y).1 ∧ (valB b st y).1.2 ≤ b.2 + 78 ∧ FrOK (valB b st y).2 := by
  simp only [valB]
  split
  · exact ⟨puts_ok h, by rw [puts_sz]; omega, hs⟩
  rename_i h0
  split
  · exact ⟨puts_ok (puts_ok h), by rw [oldB, puts_sz, puts_sz]; omega, hs⟩
  · exact ⟨puts_ok (puts_ok (puts_ok (puts_ok h))), by rw [newB, puts_sz, puts_sz, puts_sz, puts_sz]; omega, lz_tz h0 hy⟩
theorem packR_ok {l : List SME} : ∀ d i b st step, OKB b → FrOK st → OKB (packR l d i b st step) ∧ (packR l d i b st step).2 ≤ b.2 + 150 * d
  | 0, i, b, st, step, h, hs => ⟨h, by simp [packR]⟩
  | d + 1, i, b, st, step, h, hs => by
    simp only [packR]
    split
    · have := packR_ok (l := l) d (i + 1) (puts (l.getD i default).2.1 64 (puts (l.getD i default).1 40 b)) st step (puts_ok (puts_ok h)) hs
      rw [puts_sz, puts_sz] at this
      exact ⟨this.1, by omega⟩
    · obtain ⟨h1, h2⟩ := bendB_ok (e := bendI l i step) h
      obtain ⟨h3, h4, h5⟩ := valB_ok h1 hs (turn_lt (a := (l.getD i default).2.1) (p := (l.getD (i - 1) default).2.1))
      have := packR_ok (l := l) d (i + 1) _ _ (nowI l i) h3 h5
      exact ⟨this.1, by have := this.2; simp only [turnI] at *; omega⟩
def samplesB (l : List SME) : Bool := ((List.range l.length).all fun i => timeB (l.getD i default).1 && !(decide (0 < i) && decide ((l.getD i default).1 ≤ (l.getD (i - 1) default).1))) && decide (l.length ≤ 2000)
def chunkF (l : List SME) : BBE := if (samplesB l && decide (l.length ≤ 120)) = true then packV l else ([], 0)
theorem chunkF_ok {l : List SME} : OKB (chunkF l) ∧ (chunkF l).2 ≤ 100000 := by
  rw [chunkF]
  split
  · rename_i h
    simp only [Bool.and_eq_true, decide_eq_true_eq] at h
    have := packR_ok (l := l) l.length 0 (puts (l.length : Int) 8 ([], 0)) none 0 (puts_ok rfl) (by simp [FrOK, leadN, trailN])
    rw [puts_sz] at this
    exact ⟨this.1, by rw [packV]; omega⟩
  · exact ⟨rfl, by decide⟩
theorem len_lt {a b : Nat} (h : a + b ≤ 63) : IntKind.wrap .i64 (IntKind.wrap .i64 ((64 : Int) - (a : Int)) - (b : Int)) = ((64 - a - b : Nat) : Int) := by
  rw [i64_ok (x := (64 : Int) - (a : Int)) (by omega) (by omega), i64_ok (by omega) (by omega)]; omega
theorem len_pred {a b : Nat} (h : a + b ≤ 63) : IntKind.wrap .i64 (((64 - a - b : Nat) : Int) - 1) = ((64 - a - b - 1 : Nat) : Int) := by
  rw [i64_ok (by omega) (by omega)]; omega
theorem pred_i64 {i : Nat} (h : i ≠ 0) (h2 : i ≤ 4611686018427387904) : IntKind.wrap .i64 ((i : Int) - 1) = ((i - 1 : Nat) : Int) := by
  rw [i64_ok (by omega) (by omega)]; omega
theorem laws_szSampleS.ev (l : List ((Int) × ((Int) × (Unit)))) (left : Int) (h0 : 0 ≤ left) (h1 : left ≤ 1048576) (hw : Wf (.sl false (.pair (.int .i64) (.pair (.int .i64) .unit))) l) : Sz (fun n => laws_szSampleS n l left) left (Sm 1048576 (.sl false (.pair (.int .i64) (.pair (.int .i64) .unit))) l) := by
  refine Sz.step ?_
  simp only [laws_szSampleS.step]
  have b1 : l.length ≤ 9223372036854775807 := by have := hw.1; simp only [maxLen] at this; omega
  have e1 : IntKind.wrap .i64 (left - ((List.length l) : Int)) = left - ((List.length l) : Int) := i64_ok (by omega) (by omega)
  simp only [e1]
  by_cases c1 : left - ((List.length l) : Int) < 0
  · exact Sz.yes (by simpa using c1) (Sz.neg h0)
  refine Sz.no (by simpa using c1) ?_
  exact ⟨_, Ev.pure, by omega, fun _ => ⟨by omega, fun x _ => ⟨trivial, ⟨trivial, trivial⟩⟩⟩⟩
theorem laws_toSample.ev (x : (Int) × ((Int) × (Unit))) (h : Sm 1048576 (.pair (.int .i64) (.pair (.int .i64) .unit)) x) : Ev (fun n => laws_toSample n x) x := by
  refine Ev.step ?_
  simp only [laws_toSample.step]
  exact Ev.pure
theorem laws_toSampleS.loop (l : List ((Int) × ((Int) × (Unit)))) (h : Sm 1048576 (.sl false (.pair (.int .i64) (.pair (.int .i64) .unit))) l) : ∀ d i (out : List ((Int) × ((Int) × (Unit)))), i + d = l.length → out.length = l.length → (∀ j, j < i → out.getD j default = l.getD j default) → Ev (fun n => goRec laws_toSampleS.step n (.p9 l (i : Int) out)) l := by
  have hl : l.length ≤ 1048576 := h.1
  intro d
  induction d with
  | zero =>
    intro i out hd ho hj
    rw [Nat.add_zero] at hd
    subst hd
    refine Ev.step ?_
    simp only [laws_toSampleS.step]
    exact Ev.no lt_no (Ev.pure' (ext_getD ho hj))
  | succ d ih =>
    intro i out hd ho hj
    have hi : i < l.length := by omega
    refine Ev.step ?_
    simp only [laws_toSampleS.step, toNat_cast, Nat.zero_add]
    refine Ev.yes (lt_yes hi) (Ev.yes (inB_nat hi) ?_)
    refine Ev.bind (laws_toSample.ev (l.getD i default) (h.2 _ (getD_mem hi))) ?_
    refine Ev.yes (inB_nat (by omega)) ?_
    rw [i64_nat (by omega)]
    refine ih (i + 1) _ (by omega) (by simpa using ho) fun j hj2 => ?_
    by_cases e : j = i
    · subst e; rw [getD_set_same (by omega)]
    · rw [getD_set_other e]; exact hj j (by omega)
theorem laws_toSampleS.ev (l : List ((Int) × ((Int) × (Unit)))) (h : Sm 1048576 (.sl false (.pair (.int .i64) (.pair (.int .i64) .unit))) l) : Ev (fun n => laws_toSampleS n l) l := by
  have hl : l.length ≤ 1048576 := h.1
  refine Ev.step ?_
  simp only [laws_toSampleS.step, toNat_cast]
  refine Ev.yes (inC_nat (Nat.le_refl _) (by omega)) ?_
  exact laws_toSampleS.loop l h l.length 0 _ (by omega) (by simp) (by omega)
theorem spec_l3Time.ev (b : Int) : Ev (fun n => spec_l3Time n b) (timeB b) := by
  refine Ev.step ?_
  simp only [spec_l3Time.step]
  exact Ev.cnd (fun h => Ev.pure' (by simp [timeB, h])) fun h => Ev.pure' (by simp [timeB, h])
theorem spec_GoodSamples.ev (l : List SME) (hl : l.length ≤ 1048576) : Ev (fun n => spec_GoodSamples n l) (samplesB l) := by
  refine Ev.step ?_
  simp only [spec_GoodSamples.step]
  refine Ev.allK (pt := fun i : Nat => spec_GoodSamples.Pt.p7 l l (l.length : Int) (i : Int)) (fun i hi => ?_) (fun _ => ?_)
  · have fin : ∀ b, b = !(timeB (l.getD i default).1 && !(decide (0 < i) && decide ((l.getD i default).1 ≤ (l.getD (i - 1) default).1))) → ((timeB (l.getD i default).1 && !(decide (0 < i) && decide ((l.getD i default).1 ≤ (l.getD (i - 1) default).1))) = true → ∀ v, Ev (fun m => goRec spec_GoodSamples.step m (spec_GoodSamples.Pt.p7 l l (l.length : Int) ((i + 1 : Nat) : Int))) v → Ev (fun m => goRec spec_GoodSamples.step m (spec_GoodSamples.Pt.p18 l l (l.length : Int) (i : Int) b)) v) ∧
        ((timeB (l.getD i default).1 && !(decide (0 < i) && decide ((l.getD i default).1 ≤ (l.getD (i - 1) default).1))) = false → Ev (fun m => goRec spec_GoodSamples.step m (spec_GoodSamples.Pt.p18 l l (l.length : Int) (i : Int) b)) false) := by
      rintro b rfl
      refine ⟨fun h v hv => ?_, fun h => ?_⟩
      · refine Ev.step ?_
        simp only [spec_GoodSamples.step, i64_nat (show i ≤ 4611686018427387904 by omega)]
        exact Ev.no (by rw [h]; rfl) hv
      · refine Ev.step ?_
        simp only [spec_GoodSamples.step]
        exact Ev.yes (by rw [h]; rfl) Ev.pure
    have run : ∀ v, (∀ b, b = !(timeB (l.getD i default).1 && !(decide (0 < i) && decide ((l.getD i default).1 ≤ (l.getD (i - 1) default).1))) → Ev (fun m => goRec spec_GoodSamples.step m (spec_GoodSamples.Pt.p18 l l (l.length : Int) (i : Int) b)) v) → Ev (fun m => goRec spec_GoodSamples.step m (spec_GoodSamples.Pt.p7 l l (l.length : Int) (i : Int))) v := by
      intro v hv
      refine Ev.step ?_
      simp only [spec_GoodSamples.step, toNat_cast]
      refine Ev.yes (lt_yes hi) (Ev.yes (inB_nat hi) (Ev.bind (spec_l3Time.ev _) (Ev.cnd (fun c => hv _ ?_) fun c => Ev.cnd (fun c2 => ?_) fun c2 => hv _ ?_)))
      · rw [Bool.not_eq_true'] at c; rw [c]; rfl
      · have c2 : 0 < i := by simp only [decide_eq_true_eq] at c2; omega
        rw [Bool.not_eq_false'] at c
        rw [pred_i64 (by omega) (by omega), toNat_cast]
        refine Ev.yes (inB_nat (by omega)) (hv _ ?_)
        rw [c, decide_eq_true c2]; simp
      · have c2 : ¬ 0 < i := by simp only [decide_eq_false_iff_not] at c2; omega
        rw [Bool.not_eq_false'] at c
        rw [c, decide_eq_false c2]; rfl
    exact ⟨fun h v hv => run v fun b hb => (fin b hb).1 h v hv, fun h => run false fun b hb => (fin b hb).2 h⟩
  · refine Ev.step ?_
    simp only [spec_GoodSamples.step]
    exact Ev.no lt_no (Ev.pure' (by
      by_cases h : l.length ≤ 2000
      · rw [decide_eq_true h, decide_eq_true (show (l.length : Int) ≤ 2000 by omega)]
      · rw [decide_eq_false h, decide_eq_false (show ¬ (l.length : Int) ≤ 2000 by omega)]))
theorem spec_l1Put.ev (b : BBE) (x : Bool) (hb : OKB b) (hs : b.2 + 1 ≤ 1000000) : Ev (fun m => spec_l1Put m (b.1, (((b.2 : Nat) : Int), ())) (if x = true then 1 else 0)) (outB (put1 b x)) := by
  have hg := growB_len hb
  have hl : b.1.length = (b.2 + 7) / 8 := hb
  have p3 : Ev (fun m => goRec spec_l1Put.step m (spec_l1Put.Pt.p3 (if x = true then 1 else 0) ((b.2 : Nat) : Int) (default : Int) (growB b) [])) (outB (put1 b x)) := by
    refine Ev.step ?_
    simp only [spec_l1Put.step, tmod8, tdiv8, i64_id (show b.2 / 8 ≤ 4611686018427387904 by omega), toNat_cast, Nat.zero_add, i64_nat (show b.2 ≤ 4611686018427387904 by omega), wrapu_nat (show b.2 % 8 < 18446744073709551616 by omega)]
    cases x with
    | true =>
      refine Ev.yes (by decide) (Ev.yes (inB_nat (by omega)) (Ev.yes (by simp only [decide_eq_true_eq]; omega) (Ev.yes (inB_nat (by omega)) (Ev.pure' ?_))))
      simp only [outB, put1, if_true]
    | false =>
      refine Ev.no (by decide) (Ev.pure' ?_)
      simp [outB, put1]
  refine Ev.step ?_
  simp only [spec_l1Put.step, tmod8]
  refine Ev.cnd (fun c => Ev.yes (room_ok (by simp; omega)) ?_) fun c => ?_
  · have c : b.2 % 8 = 0 := by simp only [decide_eq_true_eq] at c; omega
    rw [growB, if_pos c] at p3
    exact p3
  · have c : ¬ b.2 % 8 = 0 := by simp only [decide_eq_false_iff_not] at c; omega
    rw [growB, if_neg c] at p3
    exact p3
theorem spec_l1Add.ev (b : BBE) (v : Int) (n : Nat) (hb : OKB b) (hn : n ≤ 64) (hs : b.2 + n ≤ 1000000) : Ev (fun m => spec_l1Add m (b.1, (((b.2 : Nat) : Int), ())) v (n : Int)) (outB (puts v n b)) := by
  have key : ∀ k b, OKB b → k ≤ 64 → b.2 + k ≤ 1000000 → Ev (fun m => goRec spec_l1Add.step m (spec_l1Add.Pt.p7 v ((k : Int) - 1) ((b.2 : Nat) : Int) (default : Int) b.1 [])) (outB (puts v k b)) := by
    intro k
    induction k with
    | zero =>
      intro b hb _ hs
      refine Ev.step ?_
      simp only [spec_l1Add.step]
      exact Ev.no (by decide) Ev.pure
    | succ k ih =>
      intro b hb hk hs
      refine Ev.step ?_
      simp only [spec_l1Add.step, show ((k + 1 : Nat) : Int) - 1 = (k : Int) by omega, wrapu_nat (show k < 18446744073709551616 by omega), bit_val (show k ≤ 64 by omega)]
      have e1 : IntKind.wrap .i64 (if bitAt v k = true then (1 : Int) else 0) = if bitAt v k = true then 1 else 0 := by cases bitAt v k <;> decide
      rw [e1, i64_ok (x := (k : Int) - 1) (by omega) (by omega)]
      refine Ev.yes (by simp only [decide_eq_true_eq]; omega) (Ev.yes (by simp only [decide_eq_true_eq]; omega) (Ev.bind (spec_l1Put.ev b (bitAt v k) hb (by omega)) ?_))
      exact ih (put1 b (bitAt v k)) (put1_ok hb) (by omega) (by show b.2 + 1 + k ≤ 1000000; omega)
  refine Ev.step ?_
  simp only [spec_l1Add.step]
  rw [i64_ok (by omega) (by omega)]
  exact key n b hb hn hs
theorem spec_l6PutBend.ev (b : BBE) (e : Int) (hb : OKB b) (hs : b.2 + 100 ≤ 1000000) : Ev (fun m => spec_l6PutBend m (b.1, (((b.2 : Nat) : Int), ())) e) (outB (bendB b e)) := by
  have two : ∀ (v w : Int) (n k : Nat), n + k ≤ 68 → n ≤ 64 → k ≤ 64 → Ev (fun m => (spec_l1Add m (b.1, (((b.2 : Nat) : Int), ())) v (n : Int)).bind fun r9 => (spec_l1Add m (r9.1, r9.2) w (k : Int)).bind fun r10 => some (r10.1, r10.2)) (outB (puts w k (puts v n b))) := by
    intro v w n k h1 h2 h3
    exact Ev.bind (spec_l1Add.ev b v n hb h2 (by omega)) (Ev.bind (spec_l1Add.ev (puts v n b) w k (puts_ok hb) h3 (by rw [puts_sz]; omega)) Ev.pure)
  refine Ev.step ?_
  simp only [spec_l6PutBend.step]
  rw [bendB]
  refine Ev.cnd (fun c => ?_) fun c => ?_
  · rw [if_pos (by simpa using c)]
    exact Ev.bind (spec_l1Add.ev b 0 1 hb (by decide) (by omega)) Ev.pure
  rw [if_neg (by simpa using c)]
  have p23 : ∀ x, x = decide (-2047 ≤ e ∧ e ≤ 2048) → Ev (fun m => goRec spec_l6PutBend.step m (spec_l6PutBend.Pt.p23 e x ((b.2 : Nat) : Int) (default : Int) b.1 [])) (outB (if -2047 ≤ e ∧ e ≤ 2048 then puts (IntKind.wrap .i64 (e + 2047)) 12 (puts 14 4 b) else puts e 64 (puts 15 4 b))) := by
    rintro x rfl
    refine Ev.step ?_
    simp only [spec_l6PutBend.step]
    refine Ev.cnd (fun c => ?_) fun c => ?_
    · rw [if_pos (by simpa using c)]; exact two _ _ 4 12 (by decide) (by decide) (by decide)
    · rw [if_neg (by simpa using c)]; exact two _ _ 4 64 (by decide) (by decide) (by decide)
  have p17 : ∀ x, x = decide (-255 ≤ e ∧ e ≤ 256) → Ev (fun m => goRec spec_l6PutBend.step m (spec_l6PutBend.Pt.p17 e x ((b.2 : Nat) : Int) (default : Int) b.1 [])) (outB (if -255 ≤ e ∧ e ≤ 256 then puts (IntKind.wrap .i64 (e + 255)) 9 (puts 6 3 b) else if -2047 ≤ e ∧ e ≤ 2048 then puts (IntKind.wrap .i64 (e + 2047)) 12 (puts 14 4 b) else puts e 64 (puts 15 4 b))) := by
    rintro x rfl
    refine Ev.step ?_
    simp only [spec_l6PutBend.step]
    refine Ev.cnd (fun c => ?_) fun c => ?_
    · rw [if_pos (by simpa using c)]; exact two _ _ 3 9 (by decide) (by decide) (by decide)
    · rw [if_neg (by simpa using c)]
      exact Ev.cnd (fun c2 => p23 _ (by simp only [decide_eq_true_eq] at c2; simp [c2])) fun c2 => p23 _ (by simp only [decide_eq_false_iff_not] at c2; simp [c2])
  have p11 : ∀ x, x = decide (-63 ≤ e ∧ e ≤ 64) → Ev (fun m => goRec spec_l6PutBend.step m (spec_l6PutBend.Pt.p11 e x ((b.2 : Nat) : Int) (default : Int) b.1 [])) (outB (if -63 ≤ e ∧ e ≤ 64 then puts (IntKind.wrap .i64 (e + 63)) 7 (puts 2 2 b) else if -255 ≤ e ∧ e ≤ 256 then puts (IntKind.wrap .i64 (e + 255)) 9 (puts 6 3 b) else if -2047 ≤ e ∧ e ≤ 2048 then puts (IntKind.wrap .i64 (e + 2047)) 12 (puts 14 4 b) else puts e 64 (puts 15 4 b))) := by
    rintro x rfl
    refine Ev.step ?_
    simp only [spec_l6PutBend.step]
    refine Ev.cnd (fun c => ?_) fun c => ?_
    · rw [if_pos (by simpa using c)]; exact two _ _ 2 7 (by decide) (by decide) (by decide)
    · rw [if_neg (by simpa using c)]
      exact Ev.cnd (fun c2 => p17 _ (by simp only [decide_eq_true_eq] at c2; simp [c2])) fun c2 => p17 _ (by simp only [decide_eq_false_iff_not] at c2; simp [c2])
  exact Ev.cnd (fun c2 => p11 _ (by simp only [decide_eq_true_eq] at c2; simp [c2])) fun c2 => p11 _ (by simp only [decide_eq_false_iff_not] at c2; simp [c2])
theorem spec_l6Zeros.ev (y : Nat) (h0 : y ≠ 0) (h : y < 18446744073709551616) : Ev (fun n => spec_l6Zeros n (y : Int)) ((lzN y : Int), (tzN y : Int)) := by
  have hl := log2_le h0 h
  obtain ⟨t1, t2, t3⟩ := tz_spec h0 h
  have two : ∀ (a : Nat) (d b : Nat), b + d = tzN y → Ev (fun n => goRec spec_l6Zeros.step n (spec_l6Zeros.Pt.p20 (y : Int) (a : Int) (b : Int))) ((a : Int), (tzN y : Int)) := by
    intro a d
    induction d with
    | zero =>
      intro b hb
      obtain rfl : b = tzN y := by omega
      refine Ev.step ?_
      simp only [spec_l6Zeros.step, wrapu_nat (show tzN y < 18446744073709551616 by omega), bit_eq (show tzN y ≤ 64 by omega)]
      rw [bitN_test, decide_eq_true_eq] at t2
      exact Ev.yes (by simp only [decide_eq_true_eq]; omega) (Ev.yes (by simp only [decide_eq_true_eq]; omega) (Ev.no (by rw [t2]; rfl) Ev.pure))
    | succ d ih =>
      intro b hb
      refine Ev.step ?_
      simp only [spec_l6Zeros.step, wrapu_nat (show b < 18446744073709551616 by omega), bit_eq (show b ≤ 64 by omega), i64_nat (show b ≤ 4611686018427387904 by omega)]
      have := t3 b (by omega)
      rw [bitN_test, decide_eq_false_iff_not] at this
      have h2 := @bitN_lt y b
      exact Ev.yes (by simp only [decide_eq_true_eq]; omega) (Ev.yes (by simp only [decide_eq_true_eq]; omega) (Ev.yes (by simp only [decide_eq_true_eq]; omega) (ih (b + 1) (by omega))))
  have one : ∀ (d a : Nat), a + d = 63 → y < 2 ^ (64 - a) → Ev (fun n => goRec spec_l6Zeros.step n (spec_l6Zeros.Pt.p7 (y : Int) (a : Int))) ((lzN y : Int), (tzN y : Int)) := by
    intro d
    induction d with
    | zero =>
      intro a ha hy
      obtain rfl : a = 63 := by omega
      have hy1 : y = 1 := by simp at hy; omega
      subst hy1
      refine Ev.step ?_
      simp only [spec_l6Zeros.step]
      refine Ev.yes (by decide) (Ev.yes (by decide) (Ev.no (by decide) ?_))
      exact two 63 (tzN 1) 0 (by omega)
    | succ d ih =>
      intro a ha hy
      refine Ev.step ?_
      have e1 : IntKind.wrap .i64 ((63 : Int) - (a : Int)) = ((63 - a : Nat) : Int) := by rw [i64_ok (by omega) (by omega)]; omega
      simp only [spec_l6Zeros.step, e1, wrapu_nat (show 63 - a < 18446744073709551616 by omega), bit_eq (show 63 - a ≤ 64 by omega), i64_nat (show a ≤ 4611686018427387904 by omega)]
      have hp : 0 < 2 ^ (63 - a) := Nat.pos_of_ne_zero (by simp)
      have hy2 : y < 2 ^ (63 - a) * 2 := by rw [← Nat.pow_succ]; rwa [show (63 - a).succ = 64 - a by omega]
      have hd : y / 2 ^ (63 - a) < 2 := (Nat.div_lt_iff_lt_mul hp).2 (by rw [Nat.mul_comm]; exact hy2)
      have hb : bitN y (63 - a) = y / 2 ^ (63 - a) := Nat.mod_eq_of_lt hd
      refine Ev.yes (by simp only [decide_eq_true_eq]; omega) (Ev.yes (by simp only [decide_eq_true_eq]; omega) (Ev.cnd (fun c => ?_) fun c => ?_))
      · refine ih (a + 1) (by omega) ?_
        have c : bitN y (63 - a) = 0 := by simp only [decide_eq_true_eq] at c; omega
        rw [hb] at c
        rw [show 64 - (a + 1) = 63 - a by omega]
        exact (Nat.div_eq_zero_iff_lt hp).1 c
      · have c : bitN y (63 - a) ≠ 0 := by simp only [decide_eq_false_iff_not] at c; omega
        rw [hb] at c
        have hge : 2 ^ (63 - a) ≤ y := by
          rcases Nat.lt_or_ge y (2 ^ (63 - a)) with h3 | h3
          · exact absurd ((Nat.div_eq_zero_iff_lt hp).2 h3) c
          · exact h3
        have hlg : Nat.log2 y = 63 - a := (Nat.log2_eq_iff h0).2 ⟨hge, by rw [show 63 - a + 1 = 64 - a by omega]; exact hy⟩
        have hlz : lzN y = a := by rw [lzN, hlg]; omega
        rw [hlz]
        exact two a (tzN y) 0 (by omega)
  refine Ev.step ?_
  simp only [spec_l6Zeros.step]
  exact one 63 0 rfl (by simpa using h)
theorem spec_l6Pack.ev (l : List SME) (hl : l.length ≤ 120) : Ev (fun n => spec_l6Pack n l) (outB (packV l)) := by
  have key : ∀ d i (b : BBE) (st : FRE) (step : Int), i + d = l.length → OKB b → b.2 ≤ 8 + 150 * i → FrOK st → Ev (fun n => goRec spec_l6Pack.step n (spec_l6Pack.Pt.p15 l (leadI st) (trailN st : Int) step l (l.length : Int) (i : Int) (default : Int) ((b.2 : Nat) : Int) [] b.1)) (outB (packR l d i b st step)) := by
    intro d
    induction d with
    | zero =>
      intro i b st step h hb hs hf
      obtain rfl : i = l.length := by omega
      refine Ev.step ?_
      simp only [spec_l6Pack.step]
      exact Ev.no lt_no Ev.pure
    | succ d ih =>
      intro i b st step h hb hs hf
      have hi : i < l.length := by omega
      refine Ev.step ?_
      simp only [spec_l6Pack.step, toNat_cast, i64_nat (show i ≤ 4611686018427387904 by omega)]
      refine Ev.yes (lt_yes hi) (Ev.yes (inB_nat hi) (Ev.cnd (fun c => ?_) fun c => ?_))
      · have c : i = 0 := by simp only [decide_eq_true_eq] at c; omega
        refine Ev.bind (spec_l1Add.ev b _ 40 hb (by decide) (by omega)) (Ev.bind (spec_l1Add.ev (puts (l.getD i default).1 40 b) _ 64 (puts_ok hb) (by decide) (by rw [puts_sz]; omega)) ?_)
        rw [packR, if_pos c]
        exact ih (i + 1) (puts (l.getD i default).2.1 64 (puts (l.getD i default).1 40 b)) st step (by omega) (puts_ok (puts_ok hb)) (by rw [puts_sz, puts_sz]; omega) hf
      have c : i ≠ 0 := by simp only [decide_eq_false_iff_not] at c; omega
      rw [packR, if_neg c]
      have hb2 := bendB_ok (e := bendI l i step) hb
      have hv := valB_ok hb2.1 hf (turn_lt (a := (l.getD i default).2.1) (p := (l.getD (i - 1) default).2.1))
      have next := ih (i + 1) (valB (bendB b (bendI l i step)) st (turnI l i)).1 (valB (bendB b (bendI l i step)) st (turnI l i)).2 (nowI l i) (by omega) hv.1 (by have := hv.2.1; simp only [turnI] at *; omega) hv.2.2
      have hll : -1 ≤ leadI st := by cases st <;> simp only [leadI] <;> omega
      have p61 : turnI l i ≠ 0 → ∀ x, x = frB st (turnI l i) → Ev (fun n => goRec spec_l6Pack.step n (spec_l6Pack.Pt.p61 l (leadI st) (trailN st : Int) (nowI l i) (turnI l i : Int) (lzN (turnI l i) : Int) (tzN (turnI l i) : Int) l (l.length : Int) (i : Int) x (default : Int) (((bendB b (bendI l i step)).2 : Nat) : Int) [] (bendB b (bendI l i step)).1)) (outB (packR l d (i + 1) (valB (bendB b (bendI l i step)) st (turnI l i)).1 (valB (bendB b (bendI l i step)) st (turnI l i)).2 (nowI l i))) := by
        rintro hy x rfl
        have hyl : turnI l i < 18446744073709551616 := turn_lt
        have hlt := lz_tz hy hyl
        have hb2' := hb2
        revert hb2' next
        generalize bendB b (bendI l i step) = B
        revert hy hyl hlt
        generalize turnI l i = y
        intro hy hyl hlt next hb2
        refine Ev.step ?_
        simp only [spec_l6Pack.step, i64_nat (show i ≤ 4611686018427387904 by omega)]
        refine Ev.cnd (fun e => ?_) fun e => ?_
        · rw [valB, if_neg hy, if_pos e] at next ⊢
          cases st with
          | none => cases e
          | some p =>
            obtain ⟨ld, tr⟩ := p
            have hf' : ld + tr ≤ 63 := hf
            simp only [show trailN (some (ld, tr)) = tr from rfl, show leadI (some (ld, tr)) = (ld : Int) from rfl, wrapu_nat (show tr < 18446744073709551616 by omega), shr_nat (show tr ≤ 64 by omega), len_lt hf']
            refine Ev.bind (spec_l1Add.ev B 2 2 hb2.1 (by decide) (by omega)) (Ev.yes (by simp only [decide_eq_true_eq]; omega) (Ev.bind (spec_l1Add.ev (puts 2 2 B) _ (64 - ld - tr) (puts_ok hb2.1) (by omega) (by rw [puts_sz]; omega)) ?_))
            exact next
        · rw [valB, if_neg hy, if_neg (by rw [e]; simp)] at next ⊢
          simp only [wrapu_nat (show tzN y < 18446744073709551616 by omega), shr_nat (show tzN y ≤ 64 by omega), len_lt hlt, len_pred hlt]
          refine Ev.bind (spec_l1Add.ev B 3 2 hb2.1 (by decide) (by omega)) (Ev.bind (spec_l1Add.ev (puts 3 2 B) _ 6 (puts_ok hb2.1) (by decide) (by rw [puts_sz]; omega)) (Ev.bind (spec_l1Add.ev (puts (lzN y : Int) 6 (puts 3 2 B)) _ 6 (puts_ok (puts_ok hb2.1)) (by decide) (by rw [puts_sz, puts_sz]; omega)) (Ev.yes (by simp only [decide_eq_true_eq]; omega) (Ev.bind (spec_l1Add.ev (puts ((64 - lzN y - tzN y - 1 : Nat) : Int) 6 (puts (lzN y : Int) 6 (puts 3 2 B))) _ (64 - lzN y - tzN y) (puts_ok (puts_ok (puts_ok hb2.1))) (by omega) (by rw [puts_sz, puts_sz, puts_sz]; omega)) ?_))))
          exact next
      have p38 : Ev (fun n => goRec spec_l6Pack.step n (spec_l6Pack.Pt.p38 l (leadI st) (trailN st : Int) (i : Int) (nowI l i) (bendI l i step) l (l.length : Int) (i : Int) (default : Int) ((b.2 : Nat) : Int) (l.getD i default).1 (l.getD i default).2.1 [] b.1)) (outB (packR l d (i + 1) (valB (bendB b (bendI l i step)) st (turnI l i)).1 (valB (bendB b (bendI l i step)) st (turnI l i)).2 (nowI l i))) := by
        refine Ev.step ?_
        simp only [spec_l6Pack.step, pred_i64 c (show i ≤ 4611686018427387904 by omega), toNat_cast, turn_u, i64_nat (show i ≤ 4611686018427387904 by omega)]
        refine Ev.bind (spec_l6PutBend.ev b (bendI l i step) hb (by omega)) (Ev.yes (inB_nat (by omega)) (Ev.cnd (fun e => ?_) fun e => ?_))
        · have e : turnI l i = 0 := by simp only [decide_eq_true_eq] at e; simp only [turnI]; omega
          rw [valB, if_pos e] at next ⊢
          refine Ev.bind (spec_l1Add.ev (bendB b (bendI l i step)) 0 1 hb2.1 (by decide) (by omega)) ?_
          exact next
        · have e : turnI l i ≠ 0 := by simp only [decide_eq_false_iff_not] at e; simp only [turnI]; omega
          refine Ev.bind (spec_l6Zeros.ev (turnI l i) e turn_lt) ?_
          cases st with
          | none => exact Ev.no (by simp [leadI]) (p61 e _ rfl)
          | some p =>
            obtain ⟨ld, tr⟩ := p
            refine Ev.yes (by show decide ((0 : Int) ≤ (ld : Int)) = true; simp) (Ev.cnd (fun e2 => p61 e _ ?_) fun e2 => p61 e _ ?_)
            · simp only [decide_eq_true_eq] at e2
              simp only [leadI] at e2
              simp only [frB, trailN, Option.getD_some]
              rw [decide_eq_true (show ld ≤ lzN (turnI l i) by omega), Bool.true_and]
              exact decide_eq_decide.2 (by omega)
            · simp only [decide_eq_false_iff_not] at e2
              simp only [leadI] at e2
              simp only [frB]
              rw [decide_eq_false (show ¬ ld ≤ lzN (turnI l i) by omega), Bool.false_and]
      rw [pred_i64 c (by omega), toNat_cast]
      refine Ev.yes (inB_nat (by omega)) (Ev.cnd (fun e => ?_) fun e => ?_)
      · have e : i = 1 := by simp only [decide_eq_true_eq] at e; omega
        rw [bendI, if_pos e] at p38 ⊢
        exact p38
      · have e : ¬ i = 1 := by simp only [decide_eq_false_iff_not] at e; omega
        rw [bendI, if_neg e] at p38 ⊢
        exact p38
  refine Ev.step ?_
  simp only [spec_l6Pack.step]
  refine Ev.bind (spec_l1Add.ev ([], 0) (l.length : Int) 8 rfl (by decide) (by decide)) ?_
  exact key l.length 0 (puts (l.length : Int) 8 ([], 0)) none 0 (by omega) (puts_ok rfl) (by rw [puts_sz]; omega) (by simp [FrOK, leadN, trailN])
theorem spec_PackChunk.ev (l : List SME) (hl : l.length ≤ 1048576) : Ev (fun n => spec_PackChunk n l) (outB (chunkF l)) := by
  refine Ev.step ?_
  simp only [spec_PackChunk.step]
  refine Ev.bind (spec_GoodSamples.ev l hl) (Ev.cnd (fun c => Ev.pure' ?_) fun c1 => Ev.cnd (fun c => Ev.pure' ?_) fun c2 => ?_)
  · rw [Bool.not_eq_true'] at c; rw [chunkF, c]; rfl
  · have c : ¬ l.length ≤ 120 := by simp only [decide_eq_true_eq] at c; omega
    rw [chunkF, decide_eq_false c, Bool.and_false]; rfl
  · have c2 : l.length ≤ 120 := by simp only [decide_eq_false_iff_not] at c2; omega
    rw [Bool.not_eq_false'] at c1
    rw [chunkF, c1, decide_eq_true c2]
    exact Ev.bind (spec_l6Pack.ev l c2) Ev.pure
theorem impl_isTime.ev (b : Int) : Ev (fun n => impl_isTime n b) (timeB b) := by
  refine Ev.step ?_
  simp only [impl_isTime.step]
  exact Ev.cnd (fun h => Ev.pure' (by simp [timeB, h])) fun h => Ev.pure' (by simp [timeB, h])
theorem impl_GoodSamples.ev (l : List SME) (hl : l.length ≤ 1048576) : Ev (fun n => impl_GoodSamples n l) (samplesB l) := by
  refine Ev.step ?_
  simp only [impl_GoodSamples.step]
  refine Ev.cnd (fun c => Ev.pure' ?_) fun c => ?_
  · have c : ¬ l.length ≤ 2000 := by simp only [decide_eq_true_eq] at c; omega
    rw [samplesB, decide_eq_false c, Bool.and_false]
  have c : l.length ≤ 2000 := by simp only [decide_eq_false_iff_not] at c; omega
  rw [samplesB, decide_eq_true c]
  refine Ev.allK (pt := fun i : Nat => impl_GoodSamples.Pt.p15 l l (l.length : Int) (i : Int)) (fun i hi => ?_) (fun _ => ?_)
  · have fin : ∀ b, b = !(timeB (l.getD i default).1 && !(decide (0 < i) && decide ((l.getD i default).1 ≤ (l.getD (i - 1) default).1))) → ((timeB (l.getD i default).1 && !(decide (0 < i) && decide ((l.getD i default).1 ≤ (l.getD (i - 1) default).1))) = true → ∀ v, Ev (fun m => goRec impl_GoodSamples.step m (impl_GoodSamples.Pt.p15 l l (l.length : Int) ((i + 1 : Nat) : Int))) v → Ev (fun m => goRec impl_GoodSamples.step m (impl_GoodSamples.Pt.p26 l l (l.length : Int) (i : Int) b)) v) ∧
        ((timeB (l.getD i default).1 && !(decide (0 < i) && decide ((l.getD i default).1 ≤ (l.getD (i - 1) default).1))) = false → Ev (fun m => goRec impl_GoodSamples.step m (impl_GoodSamples.Pt.p26 l l (l.length : Int) (i : Int) b)) false) := by
      rintro b rfl
      refine ⟨fun h v hv => ?_, fun h => ?_⟩
      · refine Ev.step ?_
        simp only [impl_GoodSamples.step, i64_nat (show i ≤ 4611686018427387904 by omega)]
        exact Ev.no (by rw [h]; rfl) hv
      · refine Ev.step ?_
        simp only [impl_GoodSamples.step]
        exact Ev.yes (by rw [h]; rfl) Ev.pure
    have run : ∀ v, (∀ b, b = !(timeB (l.getD i default).1 && !(decide (0 < i) && decide ((l.getD i default).1 ≤ (l.getD (i - 1) default).1))) → Ev (fun m => goRec impl_GoodSamples.step m (impl_GoodSamples.Pt.p26 l l (l.length : Int) (i : Int) b)) v) → Ev (fun m => goRec impl_GoodSamples.step m (impl_GoodSamples.Pt.p15 l l (l.length : Int) (i : Int))) v := by
      intro v hv
      refine Ev.step ?_
      simp only [impl_GoodSamples.step, toNat_cast]
      refine Ev.yes (lt_yes hi) (Ev.yes (inB_nat hi) (Ev.bind (impl_isTime.ev _) (Ev.cnd (fun c => hv _ ?_) fun c => Ev.cnd (fun c2 => ?_) fun c2 => hv _ ?_)))
      · rw [Bool.not_eq_true'] at c; rw [c]; rfl
      · have c2 : 0 < i := by simp only [decide_eq_true_eq] at c2; omega
        rw [Bool.not_eq_false'] at c
        rw [pred_i64 (by omega) (by omega), toNat_cast]
        refine Ev.yes (inB_nat (by omega)) (hv _ ?_)
        rw [c, decide_eq_true c2]; simp
      · have c2 : ¬ 0 < i := by simp only [decide_eq_false_iff_not] at c2; omega
        rw [Bool.not_eq_false'] at c
        rw [c, decide_eq_false c2]; rfl
    exact ⟨fun h v hv => run v fun b hb => (fin b hb).1 h v hv, fun h => run false fun b hb => (fin b hb).2 h⟩
  · refine Ev.step ?_
    simp only [impl_GoodSamples.step]
    exact Ev.no lt_no Ev.pure
theorem impl_bitWriter__put.ev (b : BBE) (v : Int) (n : Nat) (hb : OKB b) (hn : n ≤ 64) (hs : b.2 + n ≤ 1000000) : Ev (fun m => impl_bitWriter__put m (b.1, (((b.2 : Nat) : Int), ())) v (n : Int)) (outB (puts v n b)) := by
  have key : ∀ k b, OKB b → k ≤ 64 → b.2 + k ≤ 1000000 → Ev (fun m => goRec impl_bitWriter__put.step m (impl_bitWriter__put.Pt.p4 v ((k : Int) - 1) ((b.2 : Nat) : Int) b.1)) (outB (puts v k b)) := by
    intro k
    induction k with
    | zero =>
      intro b hb _ hs
      refine Ev.step ?_
      simp only [impl_bitWriter__put.step]
      exact Ev.no (by decide) Ev.pure
    | succ k ih =>
      intro b hb hk hs
      have hg := growB_len hb
      have p13 : Ev (fun m => goRec impl_bitWriter__put.step m (impl_bitWriter__put.Pt.p13 v (k : Int) ((b.2 : Nat) : Int) (growB b))) (outB (puts v (k + 1) b)) := by
        refine Ev.step ?_
        simp only [impl_bitWriter__put.step, tmod8, tdiv8, i64_id (show b.2 / 8 ≤ 4611686018427387904 by omega), toNat_cast, Nat.zero_add, i64_nat (show b.2 ≤ 4611686018427387904 by omega)]
        have hi : ∀ y : BBE, y = put1 b (bitAt v k) → Ev (fun m => goRec impl_bitWriter__put.step m (impl_bitWriter__put.Pt.p4 v (IntKind.wrap .i64 ((k : Int) - 1)) ((b.2 + 1 : Nat) : Int) y.1)) (outB (puts v (k + 1) b)) := by
          rintro y rfl
          rw [i64_ok (by omega) (by omega)]
          exact ih (put1 b (bitAt v k)) (put1_ok hb) (by omega) (by show b.2 + 1 + k ≤ 1000000; omega)
        refine Ev.yes (by simp only [decide_eq_true_eq]; omega) (Ev.cnd (fun c => ?_) fun c => ?_)
        · refine Ev.yes (inB_nat (by omega)) (Ev.yes (by simp only [decide_eq_true_eq]; omega) (Ev.yes (inB_nat (by omega)) ?_))
          exact hi (_, b.2 + 1) (by rw [put1, show bitAt v k = true from c, if_pos rfl])
        · exact hi (growB b, b.2 + 1) (by rw [put1, show bitAt v k = false from c, if_neg (by simp)])
      refine Ev.step ?_
      simp only [impl_bitWriter__put.step, tmod8, show ((k + 1 : Nat) : Int) - 1 = (k : Int) by omega]
      have hl : b.1.length = (b.2 + 7) / 8 := hb
      refine Ev.yes (by simp only [decide_eq_true_eq]; omega) (Ev.cnd (fun c => Ev.yes (room_ok (by simp; omega)) ?_) fun c => ?_)
      · have c : b.2 % 8 = 0 := by simp only [decide_eq_true_eq] at c; omega
        rw [growB, if_pos c] at p13
        exact p13
      · have c : ¬ b.2 % 8 = 0 := by simp only [decide_eq_false_iff_not] at c; omega
        rw [growB, if_neg c] at p13
        exact p13
  refine Ev.step ?_
  simp only [impl_bitWriter__put.step]
  rw [i64_ok (by omega) (by omega)]
  exact key n b hb hn hs
theorem bits_Len64.ev (y : Nat) (h0 : y ≠ 0) (h : y < 18446744073709551616) : Ev (fun n => bits_Len64 n (y : Int)) ((Nat.log2 y + 1 : Nat) : Int) := by
  have fin : ∀ (z n : Nat), z ≠ 0 → z < 65536 → n ≤ 64 → Ev (fun m => goRec bits_Len64.step m (bits_Len64.Pt.p11 (z : Int) (n : Int))) ((n + Nat.log2 z + 1 : Nat) : Int) := by
    intro z n hz hz2 hn
    refine Ev.step ?_
    simp only [bits_Len64.step]
    have hs : shr .u64 (z : Int) (8 : Int) = ((z / 2 ^ 8 : Nat) : Int) := shr_nat (k := 8) (by decide)
    rw [hs]
    refine Ev.cnd (fun c => ?_) fun c => ?_
    · have c : 2 ^ 8 ≤ z := by simp only [decide_eq_true_eq] at c; omega
      have hq : z / 2 ^ 8 < 256 := by omega
      have hlog := log2_shift c
      rw [u8_id hq]
      refine Ev.yes (inB_nat (n := 256) hq) (Ev.pure' ?_)
      have h8 := (len8_ok (z / 2 ^ 8) hq).resolve_left (by omega)
      have hlt : Nat.log2 (z / 2 ^ 8) < 8 := (Nat.log2_lt (by omega)).2 hq
      show IntKind.wrap .i64 (IntKind.wrap .i64 ((n : Int) + 8) + IntKind.wrap .i64 (bt len8T ((z / 2 ^ 8 : Nat) : Int))) = _
      rw [h8, i64_ok (x := (n : Int) + 8) (by omega) (by omega), i64_ok (by omega) (by omega), hlog]
      omega
    · have c : z < 256 := by simp only [decide_eq_false_iff_not] at c; omega
      rw [u8_id c]
      refine Ev.yes (inB_nat (n := 256) c) (Ev.pure' ?_)
      have h8 := (len8_ok z c).resolve_left hz
      have hlt : Nat.log2 z < 8 := (Nat.log2_lt hz).2 c
      show IntKind.wrap .i64 ((n : Int) + IntKind.wrap .i64 (bt len8T (z : Int))) = _
      rw [h8, i64_ok (by omega) (by omega)]
      omega
  have h16 : ∀ (z : Nat), shr .u64 (z : Int) (16 : Int) = ((z / 2 ^ 16 : Nat) : Int) := fun z => shr_nat (k := 16) (by decide)
  have h32 : shr .u64 (y : Int) (32 : Int) = ((y / 2 ^ 32 : Nat) : Int) := shr_nat (k := 32) (by decide)
  refine Ev.step ?_
  simp only [bits_Len64.step, h32, h16]
  refine Ev.cnd (fun c => ?_) fun c => ?_
  · have c : 2 ^ 32 ≤ y := by simp only [decide_eq_true_eq] at c; omega
    have hl := log2_shift c
    refine Ev.cnd (fun c2 => ?_) fun c2 => ?_
    · have c2 : 2 ^ 16 ≤ y / 2 ^ 32 := by simp only [decide_eq_true_eq] at c2; omega
      have hl2 := log2_shift c2
      refine Ev.of_eq (α := Int) (fin (y / 2 ^ 32 / 2 ^ 16) 48 (by omega) (by omega) (by omega)) ?_
      rw [hl, hl2]; omega
    · have c2 : y / 2 ^ 32 < 65536 := by simp only [decide_eq_false_iff_not] at c2; omega
      refine Ev.of_eq (α := Int) (fin (y / 2 ^ 32) 32 (by omega) (by omega) (by omega)) ?_
      rw [hl]; omega
  · have c : y < 4294967296 := by simp only [decide_eq_false_iff_not] at c; omega
    refine Ev.cnd (fun c2 => ?_) fun c2 => ?_
    · have c2 : 2 ^ 16 ≤ y := by simp only [decide_eq_true_eq] at c2; omega
      have hl2 := log2_shift c2
      refine Ev.of_eq (α := Int) (fin (y / 2 ^ 16) 16 (by omega) (by omega) (by omega)) ?_
      rw [hl2]; omega
    · have c2 : y < 65536 := by simp only [decide_eq_false_iff_not] at c2; omega
      refine Ev.of_eq (α := Int) (fin y 0 h0 c2 (by omega)) ?_
      omega
theorem bits_LeadingZeros64.ev (y : Nat) (h0 : y ≠ 0) (h : y < 18446744073709551616) : Ev (fun n => bits_LeadingZeros64 n (y : Int)) (lzN y : Int) := by
  have hl := log2_le h0 h
  refine Ev.step ?_
  simp only [bits_LeadingZeros64.step]
  refine Ev.bind (bits_Len64.ev y h0 h) (Ev.pure' (α := Int) ?_)
  rw [i64_ok (by omega) (by omega), lzN]; omega
theorem bits_TrailingZeros64.ev (y : Nat) (h0 : y ≠ 0) (h : y < 18446744073709551616) : Ev (fun n => bits_TrailingZeros64 n (y : Int)) (tzN y : Int) := by
  obtain ⟨t1, t2, t3⟩ := tz_spec h0 h
  obtain ⟨a, b⟩ := tz_tab (tzN y) t1
  refine Ev.step ?_
  simp only [bits_TrailingZeros64.step, low_bit h0 h]
  exact Ev.no (by simp only [decide_eq_false_iff_not]; omega) (Ev.yes a (Ev.pure' b))
set_option maxHeartbeats 2000000 in
theorem impl_packChunk.ev (l : List SME) (hl : l.length ≤ 120) : Ev (fun n => impl_packChunk n l) (outB (packV l)) := by
  have key : ∀ d i (b : BBE) (st : FRE) (step : Int), i + d = l.length → OKB b → b.2 ≤ 8 + 150 * i → FrOK st → Ev (fun n => goRec impl_packChunk.step n (impl_packChunk.Pt.p15 l step st.isSome (leadN st : Int) (trailN st : Int) l (l.length : Int) (i : Int) (default : Int) ((b.2 : Nat) : Int) [] b.1)) (outB (packR l d i b st step)) := by
    intro d
    induction d with
    | zero =>
      intro i b st step h hb hs hf
      obtain rfl : i = l.length := by omega
      refine Ev.step ?_
      simp only [impl_packChunk.step]
      exact Ev.no lt_no Ev.pure
    | succ d ih =>
      intro i b st step h hb hs hf
      have hi : i < l.length := by omega
      refine Ev.step ?_
      simp only [impl_packChunk.step, toNat_cast, i64_nat (show i ≤ 4611686018427387904 by omega)]
      refine Ev.yes (lt_yes hi) (Ev.yes (inB_nat hi) (Ev.cnd (fun c => ?_) fun c => ?_))
      · have c : i = 0 := by simp only [decide_eq_true_eq] at c; omega
        refine Ev.bind (impl_bitWriter__put.ev b _ 40 hb (by decide) (by omega)) (Ev.bind (impl_bitWriter__put.ev (puts (l.getD i default).1 40 b) _ 64 (puts_ok hb) (by decide) (by rw [puts_sz]; omega)) ?_)
        rw [packR, if_pos c]
        exact ih (i + 1) (puts (l.getD i default).2.1 64 (puts (l.getD i default).1 40 b)) st step (by omega) (puts_ok (puts_ok hb)) (by rw [puts_sz, puts_sz]; omega) hf
      have c : i ≠ 0 := by simp only [decide_eq_false_iff_not] at c; omega
      rw [packR, if_neg c]
      have hb2 := bendB_ok (e := bendI l i step) hb
      have hv := valB_ok hb2.1 hf (turn_lt (a := (l.getD i default).2.1) (p := (l.getD (i - 1) default).2.1))
      have next := ih (i + 1) (valB (bendB b (bendI l i step)) st (turnI l i)).1 (valB (bendB b (bendI l i step)) st (turnI l i)).2 (nowI l i) (by omega) hv.1 (by have := hv.2.1; simp only [turnI] at *; omega) hv.2.2
      have p88 : turnI l i ≠ 0 → ∀ x, x = frB st (turnI l i) → Ev (fun n => goRec impl_packChunk.step n (impl_packChunk.Pt.p88 l (nowI l i) st.isSome (leadN st : Int) (trailN st : Int) (turnI l i : Int) (lzN (turnI l i) : Int) (tzN (turnI l i) : Int) l (l.length : Int) (i : Int) x (default : Int) (((bendB b (bendI l i step)).2 : Nat) : Int) [] (bendB b (bendI l i step)).1)) (outB (packR l d (i + 1) (valB (bendB b (bendI l i step)) st (turnI l i)).1 (valB (bendB b (bendI l i step)) st (turnI l i)).2 (nowI l i))) := by
        rintro hy x rfl
        have hyl : turnI l i < 18446744073709551616 := turn_lt
        have hlt := lz_tz hy hyl
        have hb2' := hb2
        revert hb2' next
        generalize bendB b (bendI l i step) = B
        revert hy hyl hlt
        generalize turnI l i = y
        intro hy hyl hlt next hb2
        have hf' : leadN st + trailN st ≤ 63 := hf
        refine Ev.step ?_
        simp only [impl_packChunk.step, i64_nat (show i ≤ 4611686018427387904 by omega), shr_nat (show trailN st ≤ 64 by omega), shr_nat (show tzN y ≤ 64 by omega), len_lt hf', len_lt hlt, len_pred hlt]
        refine Ev.cnd (fun e => ?_) fun e => ?_
        · rw [valB, if_neg hy, if_pos e] at next ⊢
          refine Ev.bind (impl_bitWriter__put.ev B 2 2 hb2.1 (by decide) (by omega)) (Ev.yes (by simp only [decide_eq_true_eq]; omega) (Ev.bind (impl_bitWriter__put.ev (puts 2 2 B) _ (64 - leadN st - trailN st) (puts_ok hb2.1) (by omega) (by rw [puts_sz]; omega)) ?_))
          exact next
        · rw [valB, if_neg hy, if_neg (by rw [e]; simp)] at next ⊢
          refine Ev.bind (impl_bitWriter__put.ev B 3 2 hb2.1 (by decide) (by omega)) (Ev.bind (impl_bitWriter__put.ev (puts 3 2 B) _ 6 (puts_ok hb2.1) (by decide) (by rw [puts_sz]; omega)) (Ev.bind (impl_bitWriter__put.ev (puts (lzN y : Int) 6 (puts 3 2 B)) _ 6 (puts_ok (puts_ok hb2.1)) (by decide) (by rw [puts_sz, puts_sz]; omega)) (Ev.yes (by simp only [decide_eq_true_eq]; omega) (Ev.bind (impl_bitWriter__put.ev (puts ((64 - lzN y - tzN y - 1 : Nat) : Int) 6 (puts (lzN y : Int) 6 (puts 3 2 B))) _ (64 - lzN y - tzN y) (puts_ok (puts_ok (puts_ok hb2.1))) (by omega) (by rw [puts_sz, puts_sz, puts_sz]; omega)) ?_))))
          exact next
      have p49 : Ev (fun n => goRec impl_packChunk.step n (impl_packChunk.Pt.p49 l (nowI l i) st.isSome (leadN st : Int) (trailN st : Int) (i : Int) l (l.length : Int) (i : Int) (default : Int) (((bendB b (bendI l i step)).2 : Nat) : Int) (l.getD i default).1 (l.getD i default).2.1 [] (bendB b (bendI l i step)).1)) (outB (packR l d (i + 1) (valB (bendB b (bendI l i step)) st (turnI l i)).1 (valB (bendB b (bendI l i step)) st (turnI l i)).2 (nowI l i))) := by
        refine Ev.step ?_
        simp only [impl_packChunk.step, pred_i64 c (show i ≤ 4611686018427387904 by omega), toNat_cast, turn_i, i64_nat (show i ≤ 4611686018427387904 by omega)]
        refine Ev.yes (inB_nat (by omega)) (Ev.cnd (fun e => ?_) fun e => ?_)
        · have e : turnI l i = 0 := by simp only [decide_eq_true_eq] at e; simp only [turnI]; omega
          rw [valB, if_pos e] at next ⊢
          refine Ev.bind (impl_bitWriter__put.ev (bendB b (bendI l i step)) 0 1 hb2.1 (by decide) (by omega)) ?_
          exact next
        · have e : turnI l i ≠ 0 := by simp only [decide_eq_false_iff_not] at e; simp only [turnI]; omega
          refine Ev.bind (bits_LeadingZeros64.ev (turnI l i) e turn_lt) (Ev.bind (bits_TrailingZeros64.ev (turnI l i) e turn_lt) ?_)
          cases st with
          | none => exact Ev.no rfl (p88 e _ rfl)
          | some p =>
            obtain ⟨ld, tr⟩ := p
            refine Ev.yes rfl (Ev.cnd (fun e2 => p88 e _ ?_) fun e2 => p88 e _ ?_)
            · have e2 : (ld : Int) ≤ (lzN (turnI l i) : Int) := of_decide_eq_true e2
              simp only [frB, trailN, Option.getD_some]
              rw [decide_eq_true (show ld ≤ lzN (turnI l i) by omega), Bool.true_and]
              exact decide_eq_decide.2 (by omega)
            · have e2 : ¬ (ld : Int) ≤ (lzN (turnI l i) : Int) := of_decide_eq_false e2
              simp only [frB]
              rw [decide_eq_false (show ¬ ld ≤ lzN (turnI l i) by omega), Bool.false_and]
      have p42 : Ev (fun n => goRec impl_packChunk.step n (impl_packChunk.Pt.p42 l (nowI l i) st.isSome (leadN st : Int) (trailN st : Int) (i : Int) (bendI l i step) l (l.length : Int) (i : Int) (default : Int) ((b.2 : Nat) : Int) (l.getD i default).1 (l.getD i default).2.1 [] b.1)) (outB (packR l d (i + 1) (valB (bendB b (bendI l i step)) st (turnI l i)).1 (valB (bendB b (bendI l i step)) st (turnI l i)).2 (nowI l i))) := by
        have p49 : Ev (fun n => goRec impl_packChunk.step n (impl_packChunk.Pt.p49 l (nowI l i) st.isSome (leadN st : Int) (trailN st : Int) (i : Int) l (l.length : Int) (i : Int) (default : Int) (outB (bendB b (bendI l i step))).2.1 (l.getD i default).1 (l.getD i default).2.1 [] (outB (bendB b (bendI l i step))).1)) (outB (packR l d (i + 1) (valB (bendB b (bendI l i step)) st (turnI l i)).1 (valB (bendB b (bendI l i step)) st (turnI l i)).2 (nowI l i))) := p49
        revert p49
        generalize packR l d (i + 1) (valB (bendB b (bendI l i step)) st (turnI l i)).1 (valB (bendB b (bendI l i step)) st (turnI l i)).2 (nowI l i) = R
        rw [bendB]
        generalize bendI l i step = e
        intro p49
        have two : ∀ (v w : Int) (q k : Nat), q + k ≤ 68 → q ≤ 64 → k ≤ 64 → Ev (fun n => goRec impl_packChunk.step n (impl_packChunk.Pt.p49 l (nowI l i) st.isSome (leadN st : Int) (trailN st : Int) (i : Int) l (l.length : Int) (i : Int) (default : Int) (outB (puts w k (puts v q b))).2.1 (l.getD i default).1 (l.getD i default).2.1 [] (outB (puts w k (puts v q b))).1)) (outB R) →
            Ev (fun m => (impl_bitWriter__put m (b.1, (((b.2 : Nat) : Int), ())) v (q : Int)).bind fun r20 => (impl_bitWriter__put m (r20.1, r20.2) w (k : Int)).bind fun r21 => goRec impl_packChunk.step m (impl_packChunk.Pt.p49 l (nowI l i) st.isSome (leadN st : Int) (trailN st : Int) (i : Int) l (l.length : Int) (i : Int) (default : Int) r21.2.1 (l.getD i default).1 (l.getD i default).2.1 [] r21.1)) (outB R) := by
          intro v w q k h1 h2 h3 h4
          exact Ev.bind (impl_bitWriter__put.ev b v q hb h2 (by omega)) (Ev.bind (impl_bitWriter__put.ev (puts v q b) w k (puts_ok hb) h3 (by rw [puts_sz]; omega)) h4)
        have p66 : Ev (fun n => goRec impl_packChunk.step n (impl_packChunk.Pt.p49 l (nowI l i) st.isSome (leadN st : Int) (trailN st : Int) (i : Int) l (l.length : Int) (i : Int) (default : Int) (outB ((if -2047 ≤ e ∧ e ≤ 2048 then puts (IntKind.wrap .i64 (e + 2047)) 12 (puts 14 4 b) else puts e 64 (puts 15 4 b)))).2.1 (l.getD i default).1 (l.getD i default).2.1 [] (outB ((if -2047 ≤ e ∧ e ≤ 2048 then puts (IntKind.wrap .i64 (e + 2047)) 12 (puts 14 4 b) else puts e 64 (puts 15 4 b)))).1)) (outB R) → ∀ x, x = decide (-2047 ≤ e ∧ e ≤ 2048) → Ev (fun n => goRec impl_packChunk.step n (impl_packChunk.Pt.p66 l (nowI l i) st.isSome (leadN st : Int) (trailN st : Int) (i : Int) e l (l.length : Int) (i : Int) x (default : Int) ((b.2 : Nat) : Int) (l.getD i default).1 (l.getD i default).2.1 [] b.1)) (outB R) := by
          rintro h x rfl
          refine Ev.step ?_
          simp only [impl_packChunk.step]
          refine Ev.cnd (fun c => ?_) fun c => ?_
          · rw [if_pos (by simpa using c)] at h; exact two _ _ 4 12 (by decide) (by decide) (by decide) h
          · rw [if_neg (by simpa using c)] at h; exact two _ _ 4 64 (by decide) (by decide) (by decide) h
        have p60 : Ev (fun n => goRec impl_packChunk.step n (impl_packChunk.Pt.p49 l (nowI l i) st.isSome (leadN st : Int) (trailN st : Int) (i : Int) l (l.length : Int) (i : Int) (default : Int) (outB ((if -255 ≤ e ∧ e ≤ 256 then puts (IntKind.wrap .i64 (e + 255)) 9 (puts 6 3 b) else (if -2047 ≤ e ∧ e ≤ 2048 then puts (IntKind.wrap .i64 (e + 2047)) 12 (puts 14 4 b) else puts e 64 (puts 15 4 b))))).2.1 (l.getD i default).1 (l.getD i default).2.1 [] (outB ((if -255 ≤ e ∧ e ≤ 256 then puts (IntKind.wrap .i64 (e + 255)) 9 (puts 6 3 b) else (if -2047 ≤ e ∧ e ≤ 2048 then puts (IntKind.wrap .i64 (e + 2047)) 12 (puts 14 4 b) else puts e 64 (puts 15 4 b))))).1)) (outB R) → ∀ x, x = decide (-255 ≤ e ∧ e ≤ 256) → Ev (fun n => goRec impl_packChunk.step n (impl_packChunk.Pt.p60 l (nowI l i) st.isSome (leadN st : Int) (trailN st : Int) (i : Int) e l (l.length : Int) (i : Int) x (default : Int) ((b.2 : Nat) : Int) (l.getD i default).1 (l.getD i default).2.1 [] b.1)) (outB R) := by
          rintro h x rfl
          refine Ev.step ?_
          simp only [impl_packChunk.step]
          refine Ev.cnd (fun c => ?_) fun c => ?_
          · rw [if_pos (by simpa using c)] at h; exact two _ _ 3 9 (by decide) (by decide) (by decide) h
          · rw [if_neg (by simpa using c)] at h
            exact Ev.cnd (fun c2 => p66 h _ (by simp only [decide_eq_true_eq] at c2; simp [c2])) fun c2 => p66 h _ (by simp only [decide_eq_false_iff_not] at c2; simp [c2])
        have p54 : Ev (fun n => goRec impl_packChunk.step n (impl_packChunk.Pt.p49 l (nowI l i) st.isSome (leadN st : Int) (trailN st : Int) (i : Int) l (l.length : Int) (i : Int) (default : Int) (outB ((if -63 ≤ e ∧ e ≤ 64 then puts (IntKind.wrap .i64 (e + 63)) 7 (puts 2 2 b) else (if -255 ≤ e ∧ e ≤ 256 then puts (IntKind.wrap .i64 (e + 255)) 9 (puts 6 3 b) else (if -2047 ≤ e ∧ e ≤ 2048 then puts (IntKind.wrap .i64 (e + 2047)) 12 (puts 14 4 b) else puts e 64 (puts 15 4 b)))))).2.1 (l.getD i default).1 (l.getD i default).2.1 [] (outB ((if -63 ≤ e ∧ e ≤ 64 then puts (IntKind.wrap .i64 (e + 63)) 7 (puts 2 2 b) else (if -255 ≤ e ∧ e ≤ 256 then puts (IntKind.wrap .i64 (e + 255)) 9 (puts 6 3 b) else (if -2047 ≤ e ∧ e ≤ 2048 then puts (IntKind.wrap .i64 (e + 2047)) 12 (puts 14 4 b) else puts e 64 (puts 15 4 b)))))).1)) (outB R) → ∀ x, x = decide (-63 ≤ e ∧ e ≤ 64) → Ev (fun n => goRec impl_packChunk.step n (impl_packChunk.Pt.p54 l (nowI l i) st.isSome (leadN st : Int) (trailN st : Int) (i : Int) e l (l.length : Int) (i : Int) x (default : Int) ((b.2 : Nat) : Int) (l.getD i default).1 (l.getD i default).2.1 [] b.1)) (outB R) := by
          rintro h x rfl
          refine Ev.step ?_
          simp only [impl_packChunk.step]
          refine Ev.cnd (fun c => ?_) fun c => ?_
          · rw [if_pos (by simpa using c)] at h; exact two _ _ 2 7 (by decide) (by decide) (by decide) h
          · rw [if_neg (by simpa using c)] at h
            exact Ev.cnd (fun c2 => p60 h _ (by simp only [decide_eq_true_eq] at c2; simp [c2])) fun c2 => p60 h _ (by simp only [decide_eq_false_iff_not] at c2; simp [c2])
        refine Ev.step ?_
        simp only [impl_packChunk.step]
        refine Ev.cnd (fun c => ?_) fun c => ?_
        · rw [if_pos (by simpa using c)] at p49
          exact Ev.bind (impl_bitWriter__put.ev b 0 1 hb (by decide) (by omega)) p49
        · rw [if_neg (by simpa using c)] at p49
          exact Ev.cnd (fun c2 => p54 p49 _ (by simp only [decide_eq_true_eq] at c2; simp [c2])) fun c2 => p54 p49 _ (by simp only [decide_eq_false_iff_not] at c2; simp [c2])
      rw [pred_i64 c (by omega), toNat_cast]
      refine Ev.yes (inB_nat (by omega)) (Ev.cnd (fun e => ?_) fun e => ?_)
      · have e : i = 1 := by simp only [decide_eq_true_eq] at e; omega
        rw [bendI, if_pos e] at p42 ⊢
        exact p42
      · have e : ¬ i = 1 := by simp only [decide_eq_false_iff_not] at e; omega
        rw [bendI, if_neg e] at p42 ⊢
        exact p42
  refine Ev.step ?_
  simp only [impl_packChunk.step]
  refine Ev.bind (impl_bitWriter__put.ev ([], 0) (l.length : Int) 8 rfl (by decide) (by decide)) ?_
  exact key l.length 0 (puts (l.length : Int) 8 ([], 0)) none 0 (by omega) (puts_ok rfl) (by rw [puts_sz]; omega) (by simp [FrOK, leadN, trailN])
theorem impl_PackChunk.ev (l : List SME) (hl : l.length ≤ 1048576) : Ev (fun n => impl_PackChunk n l) (outB (chunkF l)) := by
  refine Ev.step ?_
  simp only [impl_PackChunk.step]
  refine Ev.cnd (fun c => Ev.pure' ?_) fun c2 => Ev.bind (impl_GoodSamples.ev l hl) (Ev.cnd (fun c => Ev.pure' ?_) fun c1 => ?_)
  · have c : ¬ l.length ≤ 120 := by simp only [decide_eq_true_eq] at c; omega
    rw [chunkF, decide_eq_false c, Bool.and_false]; rfl
  · rw [Bool.not_eq_true'] at c; rw [chunkF, c]; rfl
  · have c2 : l.length ≤ 120 := by simp only [decide_eq_false_iff_not] at c2; omega
    rw [Bool.not_eq_false'] at c1
    rw [chunkF, c1, decide_eq_true c2]
    exact Ev.bind (impl_packChunk.ev l c2) Ev.pure
theorem laws_eqByteS.loop (l m : List (Int)) (hl : Sm 1048576 (.sl false (.int .u8)) l) (hm : Sm 1048576 (.sl false (.int .u8)) m) (hlm : l.length = m.length) : ∀ d i, i + d = l.length → (∀ j, j < i → l.getD j default = m.getD j default) → Ev (fun n => goRec laws_eqByteS.step n (.p15 l m (i : Int))) (eqB l m) := by
  have hk : l.length ≤ 1048576 := hl.1
  intro d
  induction d with
  | zero =>
    intro i hd hj
    rw [Nat.add_zero] at hd
    subst hd
    refine Ev.step ?_
    simp only [laws_eqByteS.step]
    exact Ev.no lt_no (Ev.pure' (eqB_yes (ext_getD (d := default) hlm (fun j hj2 => hj j (by omega)))).symm)
  | succ d ih =>
    intro i hd hj
    have hi : i < l.length := by omega
    refine Ev.step ?_
    simp only [laws_eqByteS.step, toNat_cast]
    refine Ev.yes (lt_yes hi) (Ev.yes (inB_nat hi) (Ev.yes (inB_nat (by omega)) ?_))
    refine Ev.cnd (fun h => Ev.pure' (eqB_no fun e => by subst e; simp [seq, eqB] at h).symm) fun h => ?_
    rw [i64_nat (by omega)]
    refine ih (i + 1) (by omega) fun j hj2 => ?_
    by_cases e : j = i
    · subst e; simpa [seq, eqB] using h
    · exact hj j (by omega)
theorem laws_eqByteS.ev (l m : List (Int)) (hl : Sm 1048576 (.sl false (.int .u8)) l) (hm : Sm 1048576 (.sl false (.int .u8)) m) : Ev (fun n => laws_eqByteS n l m) (eqB l m) := by
  refine Ev.step ?_
  simp only [laws_eqByteS.step]
  refine Ev.cnd (fun h => Ev.pure' (eqB_no fun e => by subst e; simp at h).symm) fun h => ?_
  replace h : l.length = m.length := by simp at h; omega
  exact laws_eqByteS.loop l m hl hm h l.length 0 (by omega) (by omega)
theorem laws_eqBits.ev (x y : (List (Int)) × ((Int) × (Unit))) (hx : Sm 1048576 (.pair (.sl false (.int .u8)) (.pair (.int .i64) .unit)) x) (hy : Sm 1048576 (.pair (.sl false (.int .u8)) (.pair (.int .i64) .unit)) y) : Ev (fun n => laws_eqBits n x y) (eqB x y) := by
  refine Ev.step ?_
  simp only [laws_eqBits.step]
  refine Ev.bind (laws_eqByteS.ev x.1 y.1 hx.1 hy.1) ?_
  refine Ev.cnd (fun h => Ev.pure' (eqB_no fun e => by subst e; simp [seq, eqB] at h).symm) fun h1 => ?_
  replace h1 : x.1 = y.1 := by simpa [seq, eqB] using h1
  refine Ev.cnd (fun h => Ev.pure' (eqB_no fun e => by subst e; simp [seq, eqB] at h).symm) fun h2 => ?_
  replace h2 : x.2.1 = y.2.1 := by simpa [seq, eqB] using h2
  exact Ev.pure' (eqB_yes (Prod.ext h1 (Prod.ext h2 rfl))).symm
theorem laws_eqSample.ev (x y : (Int) × ((Int) × (Unit))) (hx : Sm 1048576 (.pair (.int .i64) (.pair (.int .i64) .unit)) x) (hy : Sm 1048576 (.pair (.int .i64) (.pair (.int .i64) .unit)) y) : Ev (fun n => laws_eqSample n x y) (eqB x y) := by
  refine Ev.step ?_
  simp only [laws_eqSample.step]
  refine Ev.cnd (fun h => Ev.pure' (eqB_no fun e => by subst e; simp [seq, eqB] at h).symm) fun h1 => ?_
  replace h1 : x.1 = y.1 := by simpa [seq, eqB] using h1
  refine Ev.cnd (fun h => Ev.pure' (eqB_no fun e => by subst e; simp [seq, eqB] at h).symm) fun h2 => ?_
  replace h2 : x.2.1 = y.2.1 := by simpa [seq, eqB] using h2
  exact Ev.pure' (eqB_yes (Prod.ext h1 (Prod.ext h2 rfl))).symm
theorem laws_eqSampleS.loop (l m : List ((Int) × ((Int) × (Unit)))) (hl : Sm 1048576 (.sl false (.pair (.int .i64) (.pair (.int .i64) .unit))) l) (hm : Sm 1048576 (.sl false (.pair (.int .i64) (.pair (.int .i64) .unit))) m) (hlm : l.length = m.length) : ∀ d i, i + d = l.length → (∀ j, j < i → l.getD j default = m.getD j default) → Ev (fun n => goRec laws_eqSampleS.step n (.p15 l m (i : Int))) (eqB l m) := by
  have hk : l.length ≤ 1048576 := hl.1
  intro d
  induction d with
  | zero =>
    intro i hd hj
    rw [Nat.add_zero] at hd
    subst hd
    refine Ev.step ?_
    simp only [laws_eqSampleS.step]
    exact Ev.no lt_no (Ev.pure' (eqB_yes (ext_getD (d := default) hlm (fun j hj2 => hj j (by omega)))).symm)
  | succ d ih =>
    intro i hd hj
    have hi : i < l.length := by omega
    refine Ev.step ?_
    simp only [laws_eqSampleS.step, toNat_cast]
    refine Ev.yes (lt_yes hi) (Ev.yes (inB_nat hi) (Ev.yes (inB_nat (by omega)) ?_))
    refine Ev.bind (laws_eqSample.ev (l.getD i default) (m.getD i default) (hl.2 _ (getD_mem hi)) (hm.2 _ (getD_mem (by omega)))) ?_
    refine Ev.cnd (fun h => Ev.pure' (eqB_no fun e => by subst e; simp [seq, eqB] at h).symm) fun h => ?_
    rw [i64_nat (by omega)]
    refine ih (i + 1) (by omega) fun j hj2 => ?_
    by_cases e : j = i
    · subst e; simpa [seq, eqB] using h
    · exact hj j (by omega)
theorem laws_eqSampleS.ev (l m : List ((Int) × ((Int) × (Unit)))) (hl : Sm 1048576 (.sl false (.pair (.int .i64) (.pair (.int .i64) .unit))) l) (hm : Sm 1048576 (.sl false (.pair (.int .i64) (.pair (.int .i64) .unit))) m) : Ev (fun n => laws_eqSampleS n l m) (eqB l m) := by
  refine Ev.step ?_
  simp only [laws_eqSampleS.step]
  refine Ev.cnd (fun h => Ev.pure' (eqB_no fun e => by subst e; simp at h).symm) fun h => ?_
  replace h : l.length = m.length := by simp at h; omega
  exact laws_eqSampleS.loop l m hl hm h l.length 0 (by omega) (by omega)
theorem laws_markSampleS.loop (l : List ((Int) × ((Int) × (Unit)))) (h : Sm 1048576 (.sl false (.pair (.int .i64) (.pair (.int .i64) .unit))) l) : ∀ d i (k : Nat) (m : List ((Int) × ((Int) × (Unit)))), i + d = l.length → m.length = l.length → (∀ j, i ≤ j → j < l.length → m.getD j default = l.getD j default) → k + d * 2 ≤ 1152921504606846976 →
    EvP (fun n => goRec laws_markSampleS.step n (laws_markSampleS.Pt.p7 (k : Int) (i : Int) m)) (fun r => ∃ k2 : Nat, r.1 = (k2 : Int) ∧ k ≤ k2 ∧ k2 ≤ k + d * 2 ∧ r.2.length = l.length) := by
  have hl : l.length ≤ 1048576 := h.1
  intro d
  induction d with
  | zero =>
    intro i k m hd h1 h2 hb
    refine EvP.step ?_
    simp only [laws_markSampleS.step]
    exact EvP.no (by simp; omega) (EvP.pure ⟨k, rfl, by omega, by omega, h1⟩)
  | succ d ih =>
    intro i k m hd h1 h2 hb
    have hi : i < m.length := by omega
    have hx := h.2 _ (getD_mem (d := default) (show i < l.length by omega))
    refine EvP.step ?_
    simp only [laws_markSampleS.step, toNat_cast, Nat.zero_add, List.length_set, getD_set_same hi, List.set_set, i64_nat (show i ≤ 4611686018427387904 by omega), i64_nat (show k ≤ 4611686018427387904 by omega), i64_nat (show k + 1 ≤ 4611686018427387904 by omega), i64_nat (show k + 1 + 1 ≤ 4611686018427387904 by omega)]
    refine EvP.yes (lt_yes hi) ?_
    refine EvP.yes (inB_nat hi) ?_
    refine EvP.yes (inB_nat hi) ?_
    refine (ih (i + 1) (k + 1 + 1) _ (by omega) (by simpa using h1) (fun j hj1 hj2 => ?_) (by omega)).imp fun r hr => ?_
    · rw [getD_set_other (by omega)]; exact h2 j (by omega) hj2
    · obtain ⟨k9, e9, m9, n9, o9⟩ := hr
      exact ⟨k9, e9, by omega, by omega, o9⟩
theorem laws_markSampleS.ev (l : List ((Int) × ((Int) × (Unit)))) (k : Nat) (h : Sm 1048576 (.sl false (.pair (.int .i64) (.pair (.int .i64) .unit))) l) (hk : k + 2097152 ≤ 1152921504606846976) : EvP (fun n => laws_markSampleS n l (k : Int)) (fun r => ∃ k2 : Nat, r.1 = (k2 : Int) ∧ k ≤ k2 ∧ k2 ≤ k + 2097152 ∧ r.2.length = l.length) := by
  have hl : l.length ≤ 1048576 := h.1
  refine EvP.step ?_
  simp only [laws_markSampleS.step]
  refine (laws_markSampleS.loop l h l.length 0 k l (by omega) rfl (fun _ _ _ => rfl) (by omega)).imp fun r hr => ?_
  obtain ⟨k9, e9, m9, n9, o9⟩ := hr
  exact ⟨k9, e9, m9, by omega, o9⟩
theorem laws_markByteS.ev (l : List Int) (k : Nat) (hl : l.length ≤ 1048576) (hk : k ≤ 1152921504606846976) : EvP (fun n => laws_markByteS n l (k : Int)) (fun r => r.1 = ((k + l.length : Nat) : Int) ∧ r.2.length = l.length ∧ ∀ j, j < l.length → r.2.getD j default = IntKind.wrap .u8 ((k + j : Nat) : Int)) := by
  have loop : ∀ d i (m : List Int), i + d = l.length → m.length = l.length → (∀ j, j < i → m.getD j default = IntKind.wrap .u8 ((k + j : Nat) : Int)) →
    EvP (fun n => goRec laws_markByteS.step n (laws_markByteS.Pt.p7 ((k + i : Nat) : Int) (i : Int) m)) (fun r => r.1 = ((k + l.length : Nat) : Int) ∧ r.2.length = l.length ∧ ∀ j, j < l.length → r.2.getD j default = IntKind.wrap .u8 ((k + j : Nat) : Int)) := by
    intro d
    induction d with
    | zero =>
      intro i m h h1 h2
      obtain rfl : i = l.length := by omega
      refine EvP.step ?_
      simp only [laws_markByteS.step]
      exact EvP.no (by simp; omega) (EvP.pure ⟨rfl, h1, h2⟩)
    | succ d ih =>
      intro i m h h1 h2
      have hi : i < m.length := by omega
      refine EvP.step ?_
      simp only [laws_markByteS.step, toNat_cast, Nat.zero_add, i64_nat (show i ≤ 4611686018427387904 by omega), i64_nat (show k + i ≤ 4611686018427387904 by omega)]
      refine EvP.yes (lt_yes hi) (EvP.yes (inB_nat hi) ?_)
      refine ih (i + 1) _ (by omega) (by simpa using h1) fun j hj => ?_
      by_cases e : j = i
      · subst e; rw [getD_set_same hi]
      · rw [getD_set_other e]; exact h2 j (by omega)
  refine EvP.step ?_
  simp only [laws_markByteS.step]
  exact loop l.length 0 l (by omega) rfl (fun j hj => by omega)
theorem laws_markBits.ev (l : List Int) (z : Int) (k : Nat) (hl : l.length ≤ 1048576) (hk : k ≤ 1152921504606846976) : EvP (fun n => laws_markBits n l z (k : Int)) (fun r => r.1 = ((k + l.length : Nat) : Int) ∧ r.2.length = l.length ∧ ∀ j, j < l.length → r.2.getD j default = IntKind.wrap .u8 ((k + j : Nat) : Int)) := by
  refine EvP.step ?_
  simp only [laws_markBits.step]
  exact EvP.bindP (laws_markByteS.ev l k hl hk) fun r hr => EvP.pure hr
theorem laws_heldByteS.ev (l : List Int) (k : Nat) (hl : l.length ≤ 1048576) (hk : k ≤ 1152921504606846976) (hm : ∀ j, j < l.length → l.getD j default = IntKind.wrap .u8 ((k + j : Nat) : Int)) : Ev (fun n => laws_heldByteS n l (k : Int)) ((k + l.length : Nat) : Int) := by
  have loop : ∀ d i, i + d = l.length → Ev (fun n => goRec laws_heldByteS.step n (laws_heldByteS.Pt.p7 l ((k + i : Nat) : Int) (i : Int))) ((k + l.length : Nat) : Int) := by
    intro d
    induction d with
    | zero =>
      intro i h
      obtain rfl : i = l.length := by omega
      refine Ev.step ?_
      simp only [laws_heldByteS.step]
      exact Ev.no lt_no Ev.pure
    | succ d ih =>
      intro i h
      have hi : i < l.length := by omega
      refine Ev.step ?_
      simp only [laws_heldByteS.step, toNat_cast, i64_nat (show i ≤ 4611686018427387904 by omega), i64_nat (show k + i ≤ 4611686018427387904 by omega), hm i hi]
      exact Ev.yes (lt_yes hi) (Ev.yes (inB_nat hi) (Ev.no (by simp) (ih (i + 1) (by omega))))
  refine Ev.step ?_
  simp only [laws_heldByteS.step]
  exact loop l.length 0 (by omega)
theorem laws_heldBits.ev (l : List Int) (z : Int) (k : Nat) (hl : l.length ≤ 1048576) (hk : k ≤ 1152921504606846976) (hm : ∀ j, j < l.length → l.getD j default = IntKind.wrap .u8 ((k + j : Nat) : Int)) : Ev (fun n => laws_heldBits n (l, (z, ())) (k : Int)) ((k + l.length : Nat) : Int) := by
  refine Ev.step ?_
  simp only [laws_heldBits.step]
  exact Ev.bind (laws_heldByteS.ev l k hl hk hm) (Ev.no (by simp; omega) Ev.pure)
theorem laws_FnExactPackChunk.ev (l : List SME) (hw : Wf (.sl false SMU) l) : Ev (fun n => laws_FnExactPackChunk n l) true := by
  refine Ev.step ?_
  simp only [laws_FnExactPackChunk.step]
  obtain ⟨q0, g0, i0, s0⟩ := laws_szSampleS.ev l 1048576 (by omega) (by omega) hw
  refine Ev.bind g0 (Ev.cnd (fun _ => Ev.pure) fun c0 => ?_)
  have b0 : 0 ≤ q0 := by simpa using c0
  have t0 := s0 b0
  obtain ⟨ok, sz⟩ := @chunkF_ok l
  have hlen : (chunkF l).1.length ≤ 1048576 := by have : (chunkF l).1.length = _ := ok; omega
  have tF : Sm 1048576 (.pair (.sl false (.int .u8)) (.pair (.int .i64) .unit)) (outB (chunkF l)) := ⟨⟨hlen, fun _ _ => trivial⟩, trivial, trivial⟩
  have to0 := laws_toSampleS.ev l t0
  have im := impl_PackChunk.ev l t0.1
  have eqF := laws_eqBits.ev (outB (chunkF l)) (outB (chunkF l)) tF tF
  refine Ev.bind to0 (Ev.bind (spec_PackChunk.ev l t0.1) (Ev.bind to0 (Ev.bind im (Ev.bind eqF (Ev.no (by simp [eqB]) ?_)))))
  refine Ev.bind to0 (Ev.bind (laws_eqSampleS.ev l l t0 t0) (Ev.no (by simp [eqB]) ?_))
  refine Ev.bindP (laws_markSampleS.ev l 1 t0 (by omega)) ?_
  rintro r ⟨k, e, k1, k2, _⟩
  rw [e]
  refine Ev.no (by simp) (Ev.bind eqF ?_)
  rw [show (!eqB (outB (chunkF l)) (outB (chunkF l))) = false by simp [eqB]]
  refine Ev.step ?_
  simp only [laws_FnExactPackChunk.step]
  refine Ev.no rfl (Ev.bindP (laws_markBits.ev (chunkF l).1 _ 1 hlen (by omega)) ?_)
  rintro r3 ⟨e3, l3, m3⟩
  have held := laws_heldBits.ev r3.2 (outB (chunkF l)).2.1 1 (by rw [l3]; exact hlen) (by omega) (fun j hj => m3 j (by omega))
  rw [l3] at held
  rw [e3]
  refine Ev.bind held (Ev.no (by simp; omega) (Ev.no (by simp) ?_))
  refine Ev.bind to0 (Ev.bind im (Ev.bind eqF (Ev.no (by simp [eqB]) ?_)))
  exact Ev.bind held (Ev.no (by simp; omega) (Ev.no (by simp) Ev.pure))
end Go.PK
