/- What these functions come to, part 1. -/
import Derived.Test.YthlinnbamejmaabDoorV1
import Derived.Test.YthlinnbamejmaabDoorV2
import Derived.Test.YthlinnbamejmaabDoorV3
import Derived.Test.YthlinnbamejmaabDoorFChunks1
open Go Go.VM
set_option maxRecDepth 100000
namespace Go.CH
set_option linter.unusedVariables false
set_option linter.unusedSimpArgs false
abbrev MT := ByteArray × Int × ByteArray × Unit
def matcherB (x : MT) : Bool := nameB x.1 && decide (1 ≤ x.2.1) && decide (x.2.1 ≤ 4) && decide (x.2.2.1.size ≤ 100) && printB x.2.2.1 && (decide (x.2.1 < 3) || (alts x.2.2.1).isSome)
def matchersB (l : List MT) : Bool := decide (l.length ≤ 10) && (List.range l.length).all fun i => matcherB (l.getD i default)
abbrev MU : U := .pair .str (.pair (.int .i64) (.pair .str .unit))
abbrev SIL := ByteArray × List MT × Int × Int × Unit
abbrev SIU : U := .pair .str (.pair (.sl false MU) (.pair (.int .i64) (.pair (.int .i64) .unit)))
def silB (l : List SIL) (i : Nat) : Bool := nameB (l.getD i default).1 && matchersB (l.getD i default).2.1 && decide ((l.getD i default).2.1.length ≠ 0) && timeB (l.getD i default).2.2.1 && timeB (l.getD i default).2.2.2.1 &&
  decide ((l.getD i default).2.2.1 ≤ (l.getD i default).2.2.2.1) && (decide (i = 0) || decide (cmpT (l.getD (i - 1) default).1 (l.getD i default).1 < 0))
def silsB (l : List SIL) : Bool := decide (l.length ≤ 50) && (List.range l.length).all (silB l)
/-- texts that rise -/
def risingB (l : List ByteArray) : Bool := (List.range (l.length - 1)).all fun i => decide (cmpT (l.getD i default) (l.getD (i + 1) default) < 0)
def namesB (l : List ByteArray) : Bool := decide (l.length ≤ 10) && risingB l && (List.range l.length).all fun i => nameB (l.getD i default)
abbrev INH := List MT × List MT × List ByteArray × Unit
abbrev INU : U := .pair (.sl false MU) (.pair (.sl false MU) (.pair (.sl false .str) .unit))
def inhB (x : INH) : Bool := matchersB x.1 && matchersB x.2.1 && decide (x.1.length ≠ 0) && decide (x.2.1.length ≠ 0) && namesB x.2.2.1
def inhsB (l : List INH) : Bool := decide (l.length ≤ 20) && (List.range l.length).all fun i => inhB (l.getD i default)
def lp (y : Int) : Int := if y % 4 = 0 ∧ (y % 100 ≠ 0 ∨ y % 400 = 0) then 1 else 0
def yl (y : Int) : Int := 365 + lp y
def dto (y : Int) : Int := (y - 1970) * 365 + ((y - 1) / 4 - (y - 1) / 100 + (y - 1) / 400) - 477
def mon (y m : Int) : Int := if m = 2 then 28 + lp y else if m = 4 ∨ m = 6 ∨ m = 9 ∨ m = 11 then 30 else 31
def cumd (y m : Int) : Int := if m ≤ 1 then 0 else if m = 2 then 31 else if m = 3 then 59 + lp y else if m = 4 then 90 + lp y else if m = 5 then 120 + lp y else if m = 6 then 151 + lp y else if m = 7 then 181 + lp y else if m = 8 then 212 + lp y else if m = 9 then 243 + lp y else if m = 10 then 273 + lp y else if m = 11 then 304 + lp y else if m = 12 then 334 + lp y else 365 + lp y
noncomputable def yearOf (day : Int) : Int := @dite _ (∃ y, 1970 ≤ y ∧ dto y ≤ day ∧ day < dto (y + 1)) (Classical.propDecidable _) (fun h => h.choose) (fun _ => 0)
noncomputable def monthOf (y n : Int) : Int := @dite _ (∃ m, 1 ≤ m ∧ m ≤ 12 ∧ cumd y m ≤ n ∧ n < cumd y m + mon y m) (Classical.propDecidable _) (fun h => h.choose) (fun _ => 0)
abbrev DTE := Int × Int × Int × Int × Int × Int × Unit
noncomputable def dateOfDay (day mi : Int) : DTE := (yearOf day, monthOf (yearOf day) (day - dto (yearOf day)), day - dto (yearOf day) - cumd (yearOf day) (monthOf (yearOf day) (day - dto (yearOf day))) + 1, mon (yearOf day) (monthOf (yearOf day) (day - dto (yearOf day))), (day + 4) % 7, mi, ())
def dateIn (t z : Int) : Bool := timeB t && decide (-1440 ≤ z) && decide (z ≤ 1440) && decide (0 ≤ t + 60 * z)
noncomputable def dateV (t z : Int) : DTE := if dateIn t z = true then dateOfDay ((t + 60 * z) / 86400) ((t + 60 * z) / 60 % 1440) else (0, 0, 0, 0, 0, 0, ())
def dayIn (y m d : Int) : Bool := decide (1970 ≤ y) && decide (y ≤ 40000) && decide (1 ≤ m) && decide (m ≤ 12) && decide (1 ≤ d) && decide (d ≤ mon y m)
def dayV (y m d : Int) : Int := if dayIn y m d = true then dto y + d - 1 + cumd y m else -1
theorem lp_01 (y : Int) : lp y = 0 ∨ lp y = 1 := by unfold lp; split <;> simp
theorem dto_succ (y : Int) : dto (y + 1) = dto y + yl y := by unfold dto yl lp; split <;> omega
theorem dto_1970 : dto 1970 = 0 := by decide
theorem mon_bd (y m : Int) : 28 ≤ mon y m ∧ mon y m ≤ 31 := by
  have := lp_01 y
  unfold mon; split
  · omega
  · split <;> omega
theorem dto_bd (y : Int) (h : 1970 ≤ y) : 365 * (y - 1970) ≤ dto y ∧ dto y ≤ 366 * (y - 1970) := by unfold dto; omega
theorem dto_mono (a : Int) (d : Nat) : dto a + 365 * d ≤ dto (a + d) := by
  induction d with
  | zero => simp
  | succ d ih =>
    have h := dto_succ (a + d)
    have hl := lp_01 (a + d)
    have hyl : yl (a + d) = 365 + lp (a + d) := rfl
    rw [show a + ((d + 1 : Nat) : Int) = a + d + 1 by omega]
    omega
theorem dto_lt (a b : Int) (h : a ≤ b) : dto a + 365 * (b - a) ≤ dto b := by
  have := dto_mono a (b - a).toNat
  rw [show a + ((b - a).toNat : Int) = b by omega] at this
  omega
theorem year_of (day : Int) (h : 0 ≤ day) : ∃ y, 1970 ≤ y ∧ dto y ≤ day ∧ day < dto (y + 1) := by
  have key : ∀ d : Nat, dto 1970 ≤ day ∧ day < dto (1970 + d) → ∃ y, 1970 ≤ y ∧ dto y ≤ day ∧ day < dto (y + 1) := by
    intro d
    induction d with
    | zero => intro ⟨h1, h2⟩; simp at h2; omega
    | succ d ih =>
      intro ⟨h1, h2⟩
      by_cases c : day < dto (1970 + d)
      · exact ih ⟨h1, c⟩
      · exact ⟨1970 + d, by omega, by omega, by rw [show (1970 : Int) + d + 1 = 1970 + ((d + 1 : Nat) : Int) by omega]; exact h2⟩
  refine key (day.toNat + 1) ⟨by rw [dto_1970]; exact h, ?_⟩
  have := dto_mono 1970 (day.toNat + 1)
  rw [dto_1970] at this
  omega
theorem yearOf_spec (day : Int) (h : 0 ≤ day) : 1970 ≤ yearOf day ∧ dto (yearOf day) ≤ day ∧ day < dto (yearOf day + 1) := by
  unfold yearOf
  rw [dif_pos (year_of day h)]
  exact (year_of day h).choose_spec
theorem cumd_succ (y m : Int) (h1 : 1 ≤ m) (h2 : m ≤ 12) : cumd y (m + 1) = cumd y m + mon y m := by
  have hm : m = 1 ∨ m = 2 ∨ m = 3 ∨ m = 4 ∨ m = 5 ∨ m = 6 ∨ m = 7 ∨ m = 8 ∨ m = 9 ∨ m = 10 ∨ m = 11 ∨ m = 12 := by omega
  rcases hm with rfl | rfl | rfl | rfl | rfl | rfl | rfl | rfl | rfl | rfl | rfl | rfl <;> simp [cumd, mon] <;> omega
theorem ite_nn {c : Prop} [Decidable c] {a b : Int} (ha : 0 ≤ a) (hb : 0 ≤ b) : 0 ≤ (if c then a else b) := by split <;> assumption
theorem cumd_nn (y m : Int) : 0 ≤ cumd y m := by
  have := lp_01 y
  unfold cumd
  iterate 12 (refine ite_nn (by omega) ?_)
  omega
theorem ite_le {c : Prop} [Decidable c] {a b k : Int} (ha : a ≤ k) (hb : b ≤ k) : (if c then a else b) ≤ k := by split <;> assumption
theorem cumd_le (y m : Int) : cumd y m ≤ 366 := by
  have := lp_01 y
  unfold cumd
  iterate 12 (refine ite_le (by omega) ?_)
  omega
theorem month_of (y n : Int) (h : 0 ≤ n) (h' : n < yl y) : ∃ m, 1 ≤ m ∧ m ≤ 12 ∧ cumd y m ≤ n ∧ n < cumd y m + mon y m := by
  have h13 : cumd y 13 = yl y := by simp [cumd, yl]
  have h1 : cumd y 1 = 0 := by simp [cumd]
  have key : ∀ d : Nat, d ≤ 12 → n < cumd y (1 + d) → ∃ m, 1 ≤ m ∧ m ≤ 12 ∧ cumd y m ≤ n ∧ n < cumd y m + mon y m := by
    intro d
    induction d with
    | zero => intro _ h2; simp at h2; omega
    | succ d ih =>
      intro hd h2
      by_cases c : n < cumd y (1 + d)
      · exact ih (by omega) c
      · refine ⟨1 + d, by omega, by omega, by omega, ?_⟩
        rw [← cumd_succ y (1 + d) (by omega) (by omega), show (1 : Int) + d + 1 = 1 + ((d + 1 : Nat) : Int) by omega]; exact h2
  exact key 12 (Nat.le_refl _) (by rw [show (1 : Int) + ((12 : Nat) : Int) = 13 from rfl, h13]; exact h')
theorem monthOf_spec (y n : Int) (h : 0 ≤ n) (h' : n < yl y) : 1 ≤ monthOf y n ∧ monthOf y n ≤ 12 ∧ cumd y (monthOf y n) ≤ n ∧ n < cumd y (monthOf y n) + mon y (monthOf y n) := by
  unfold monthOf
  rw [dif_pos (month_of y n h h')]
  exact (month_of y n h h').choose_spec
theorem mon_lt (y m i n : Int) (h1 : 1 ≤ i) (hi : i < m) (h2 : m ≤ 12) (hm : cumd y m ≤ n) : mon y i ≤ n - cumd y i := by
  have key : ∀ d : Nat, i + d + 1 ≤ m → cumd y (i + 1) ≤ cumd y (i + 1 + d) := by
    intro d
    induction d with
    | zero => intro _; simp
    | succ d ih =>
      intro hd
      have := cumd_succ y (i + 1 + d) (by omega) (by omega)
      have hb := mon_bd y (i + 1 + d)
      rw [show i + 1 + ((d + 1 : Nat) : Int) = i + 1 + d + 1 by omega]
      have := ih (by omega)
      omega
  have a := key (m - i - 1).toNat (by omega)
  rw [show i + 1 + ((m - i - 1).toNat : Int) = m by omega] at a
  have b := cumd_succ y i h1 (by omega)
  omega
theorem w64 {n : Int} (h : -9223372036854775808 ≤ n) (h' : n ≤ 9223372036854775807) : IntKind.wrap .i64 n = n := i64_ok h h'
abbrev RG := Int × Int × Unit
abbrev RGU : U := .pair (.int .i64) (.pair (.int .i64) .unit)
abbrev ITV := Int × List RG × List RG × List RG × List RG × List RG × List Int × Unit
abbrev ITU : U := .pair (.int .i64) (.pair (.sl false RGU) (.pair (.sl false RGU) (.pair (.sl false RGU) (.pair (.sl false RGU) (.pair (.sl false RGU) (.pair (.sl false (.int .i64)) .unit))))))
def rangeB (lo hi : Int) (r : RG) : Bool := decide (r.1 ≤ r.2.1) && decide (lo ≤ r.1) && decide (r.2.1 ≤ hi)
def rangesB (l : List RG) (lo hi : Int) : Bool := decide (l.length ≤ 10) && (List.range l.length).all fun i => rangeB lo hi (l.getD i default)
/-- numbers that rise -/
def risingI (l : List Int) : Bool := (List.range (l.length - 1)).all fun i => decide (l.getD i default < l.getD (i + 1) default)
def freeB (n : Int) : Bool := decide (0 ≤ n) && decide (n ≤ 20000000)
def dayRB (r : RG) : Bool := decide (0 < r.1) || decide (r.2.1 < 0)
def dayRS (r : RG) : Bool := !decide (r.1 = 0) && !decide (r.2.1 = 0) && (decide (r.1 < 0) == decide (r.2.1 < 0))
def allG {α : Type} [Inhabited α] (p : α → Bool) (l : List α) : Bool := (List.range l.length).all fun i => p (l.getD i default)
def itvB (x : ITV) : Bool := decide (-1440 ≤ x.1) && decide (x.1 ≤ 1440) && rangesB x.2.1 0 1439 && rangesB x.2.2.1 0 6 && rangesB x.2.2.2.1 (-31) 31 && rangesB x.2.2.2.2.1 1 12 && rangesB x.2.2.2.2.2.1 1970 40000 &&
  decide (x.2.2.2.2.2.2.1.length ≤ 10) && risingI x.2.2.2.2.2.2.1 && allG dayRB x.2.2.2.1 && allG freeB x.2.2.2.2.2.2.1
def inRB (l : List RG) (n : Int) : Bool := decide (l.length = 0) || (List.range l.length).any fun i => decide ((l.getD i default).1 ≤ n) && decide (n ≤ (l.getD i default).2.1)
def inIB (l : List Int) (n : Int) : Bool := (List.range l.length).any fun i => decide (l.getD i default = n)
noncomputable def inItvB (x : ITV) (t : Int) : Bool := itvB x && timeB t && !decide ((dateV t x.1).1 = 0) && inRB x.2.1 (dateV t x.1).2.2.2.2.2.1 && inRB x.2.2.1 (dateV t x.1).2.2.2.2.1 &&
  (inRB x.2.2.2.1 (dateV t x.1).2.2.1 || inRB x.2.2.2.1 (IntKind.wrap .i64 ((IntKind.wrap .i64 ((dateV t x.1).2.2.1 - (dateV t x.1).2.2.2.1)) - (1 : Int)))) && inRB x.2.2.2.2.1 (dateV t x.1).2.1 && inRB x.2.2.2.2.2.1 (dateV t x.1).1 &&
  !inIB x.2.2.2.2.2.2.1 (dayV (dateV t x.1).1 (dateV t x.1).2.1 (dateV t x.1).2.2.1)
theorem days_same (l : List RG) (lo hi : Int) : (allG dayRS l && rangesB l lo hi) = (allG dayRB l && rangesB l lo hi) := by
  cases h : rangesB l lo hi with
  | false => simp
  | true =>
    simp only [rangesB, Bool.and_eq_true, List.all_eq_true] at h
    rw [Bool.and_true, Bool.and_true, allG, allG, Bool.eq_iff_iff, List.all_eq_true, List.all_eq_true]
    have key : ∀ i ∈ List.range l.length, dayRS (l.getD i default) = dayRB (l.getD i default) := by
      intro i hi
      have := h.2 i hi
      simp only [rangeB, Bool.and_eq_true, decide_eq_true_eq] at this
      generalize l.getD i default = r at this
      simp only [dayRS, dayRB]
      have e1 : (r.1 = 0) = (¬ r.1 < 0 ∧ ¬ 0 < r.1) := propext (by omega)
      have e2 : (r.2.1 = 0) = (¬ r.2.1 < 0 ∧ ¬ 0 < r.2.1) := propext (by omega)
      by_cases a : r.1 < 0 <;> by_cases a' : 0 < r.1 <;> by_cases b : r.2.1 < 0 <;> by_cases b' : 0 < r.2.1 <;> first | (exfalso; omega) | simp [e1, e2, a, a', b, b']
    exact ⟨fun hh i hi => by rw [← key i hi]; exact hh i hi, fun hh i hi => by rw [key i hi]; exact hh i hi⟩
theorem wf_i64 {n : Int} (h : (Lit.int .i64 n).wf = true) : -9223372036854775808 ≤ n ∧ n ≤ 9223372036854775807 := by
  have h2 : decide (IntKind.i64.min ≤ n) && decide (n ≤ IntKind.i64.max) := h
  rw [Bool.and_eq_true] at h2
  have a : IntKind.i64.min ≤ n := of_decide_eq_true h2.1
  have b : n ≤ IntKind.i64.max := of_decide_eq_true h2.2
  have ea : IntKind.i64.min = -9223372036854775808 := by decide
  have eb : IntKind.i64.max = 9223372036854775807 := by decide
  omega
abbrev LB := ByteArray × ByteArray × Unit
abbrev LU : U := .pair .str (.pair .str .unit)
def valueB (s : ByteArray) : Bool := decide (1 ≤ s.size) && decide (s.size ≤ 100) && printB s
def labB (l : List LB) (i : Nat) : Bool := nameB (l.getD i default).1 && valueB (l.getD i default).2.1 && (decide (i = 0) || decide (cmpT (l.getD (i - 1) default).1 (l.getD i default).1 < 0))
def labelsB (l : List LB) : Bool := decide (l.length ≤ 20) && (List.range l.length).all (labB l)
def valL : List LB → ByteArray → ByteArray
  | [], _ => ⟨#[]⟩
  | x :: r, k => bif seq x.1 k then x.2.1 else valL r k
theorem drop_getD {α : Type} [Inhabited α] {l : List α} {i : Nat} (h : i < l.length) : l.drop i = l.getD i default :: l.drop (i + 1) := by
  rw [List.drop_eq_getElem_cons h, List.getD_eq_getElem?_getD, List.getElem?_eq_getElem h]; rfl
theorem labelsB_value {l : List LB} (h : labelsB l = true) : ∀ i, i < l.length → (l.getD i default).2.1.size ≤ 100 := by
  intro i hi
  simp only [labelsB, Bool.and_eq_true, List.all_eq_true, List.mem_range] at h
  have := h.2 i hi
  simp only [labB, valueB, Bool.and_eq_true, decide_eq_true_eq] at this
  exact this.1.2.1.2
theorem valL_small {l : List LB} {k : ByteArray} (h : ∀ x ∈ l, x.2.1.size ≤ 100) : (valL l k).size ≤ 100 := by
  induction l with
  | nil => simp [valL, size_empty]
  | cons x l ih =>
    simp only [valL]
    cases seq x.1 k with
    | true => exact h x (by simp)
    | false => exact ih fun y hy => h y (by simp [hy])
theorem labelsB_small {l : List LB} (h : labelsB l = true) {k : ByteArray} : (valL l k).size ≤ 100 := valL_small fun x hx => by
  obtain ⟨j, hj, rfl⟩ := List.getElem_of_mem hx
  have := labelsB_value h j hj
  rwa [List.getD_eq_getElem?_getD, List.getElem?_eq_getElem hj] at this
/-- whether a pattern's codes fit bytes -/
def mt : List Int → List Int → Bool
  | [], s => s.isEmpty
  | c :: p, s => if c = -1 then mt p s || (match s with | [] => false | _ :: r => mt (c :: p) r) else match s with | [] => false | x :: r => (decide (c = -2) || decide (c = x)) && mt p r
termination_by p s => p.length + s.length
decreasing_by all_goals simp_wf; try omega
def fitsP (p s : ByteArray) : Bool := match alts p with | some l => (List.range l.length).any fun i => mt (l.getD i default) (octs s) | none => false
def cellM (p : List Int) (s : ByteArray) (j i : Nat) : Bool := mt (p.drop j) ((octs s).drop i)
theorem cell_end {p : List Int} {s : ByteArray} {i : Nat} (hi : i ≤ s.size) : cellM p s p.length i = decide (i = s.size) := by
  rw [cellM, List.drop_length, mt.eq_def]
  rcases Nat.eq_or_lt_of_le hi with rfl | hi
  · rw [octs_nil]; simp
  · rw [octs_drop hi]; simp; omega
theorem dropI {p : List Int} {j : Nat} (h : j < p.length) : p.drop j = p.getD j default :: p.drop (j + 1) := drop_getD h
theorem cell_star {p : List Int} {s : ByteArray} {j i : Nat} (hj : j < p.length) (hi : i ≤ s.size) (h : p.getD j default = -1) : cellM p s j i = (cellM p s (j + 1) i || (decide (i < s.size) && cellM p s j (i + 1))) := by
  simp only [cellM]
  rw [dropI hj, h]
  rw [mt.eq_def]
  simp only [if_true]
  rcases Nat.eq_or_lt_of_le hi with rfl | hi
  · rw [octs_nil]; simp
  · rw [octs_drop hi]; simp [hi]
theorem cell_one {p : List Int} {s : ByteArray} {j i : Nat} (hj : j < p.length) (hi : i < s.size) (h : p.getD j default ≠ -1) : cellM p s j i = ((decide (p.getD j default = -2) || decide (p.getD j default = bt s i)) && cellM p s (j + 1) (i + 1)) := by
  simp only [cellM]
  rw [dropI hj, mt.eq_def]
  simp only [if_neg h]
  rw [octs_drop hi]
theorem cell_no {p : List Int} {s : ByteArray} {j : Nat} (hj : j < p.length) (h : p.getD j default ≠ -1) : cellM p s j s.size = false := by
  simp only [cellM]
  rw [dropI hj, mt.eq_def]
  simp only [if_neg h]
  rw [octs_nil]
theorem i64_down {k : Nat} (h : k ≤ 4611686018427387904) : IntKind.wrap .i64 ((k : Int) - 1) = (k : Int) - 1 := by rw [i64_ok] <;> omega
theorem inC_eq {n : Nat} (h : n ≤ 1000000000) : inC (n : Int) (n : Int) 1000000000 = true := by simp only [inC, decide_eq_true_eq]; omega
/-- comes to something of which this holds -/
def EvP {α : Type} (f : Nat → Option α) (Q : α → Prop) : Prop := ∃ v, Ev f v ∧ Q v
namespace EvP
variable {α β : Type} {Q : α → Prop}
theorem pure {v : α} (h : Q v) : EvP (fun _ => some v) Q := ⟨v, Ev.pure, h⟩
theorem of {f : Nat → Option α} {v : α} (h : Ev f v) (q : Q v) : EvP f Q := ⟨v, h, q⟩
theorem imp {f : Nat → Option α} {R : α → Prop} (h : EvP f Q) (q : ∀ v, Q v → R v) : EvP f R := ⟨h.choose, h.choose_spec.1, q _ h.choose_spec.2⟩
theorem bind {f : Nat → Option β} {g : Nat → β → Option α} {a : β} (h : Ev f a) (h' : EvP (fun n => g n a) Q) : EvP (fun n => (f n).bind (g n)) Q := ⟨h'.choose, Ev.bind h h'.choose_spec.1, h'.choose_spec.2⟩
theorem bindP {f : Nat → Option β} {g : Nat → β → Option α} {R : β → Prop} (h : EvP f R) (h' : ∀ a, R a → EvP (fun n => g n a) Q) : EvP (fun n => (f n).bind (g n)) Q := by
  obtain ⟨a, h1, h2⟩ := h
  exact bind h1 (h' a h2)
theorem cnd {c : Bool} {f g : Nat → Option α} (ht : c = true → EvP f Q) (hf : c = false → EvP g Q) : EvP (fun n => cond c (f n) (g n)) Q := by
  cases c with
  | true => exact ht rfl
  | false => exact hf rfl
theorem yes {c : Bool} {f g : Nat → Option α} (hc : c = true) (h : EvP f Q) : EvP (fun n => cond c (f n) (g n)) Q := by subst hc; exact h
theorem no {c : Bool} {f g : Nat → Option α} (hc : c = false) (h : EvP g Q) : EvP (fun n => cond c (f n) (g n)) Q := by subst hc; exact h
theorem step {P : Type} {s : Nat → (P → Option α) → P → Option α} {p : P} (h : EvP (fun n => s n (goRec s n) p) Q) : EvP (fun n => goRec s n p) Q := ⟨h.choose, Ev.step h.choose_spec.1, h.choose_spec.2⟩
end EvP
theorem toP_star (c : Int) : (toP c).2.2.1 = decide (c = -1) := by
  simp only [toP]
  by_cases h : c = -1
  · simp [h]
  · by_cases h2 : c = -2 <;> simp [h, h2]
theorem toP_any {c : Int} : (toP c).2.1 = decide (c = -2) := by
  simp only [toP]
  by_cases h : c = -1
  · simp [h]
  · by_cases h2 : c = -2 <;> simp [h, h2]
theorem toP_byte {c : Int} (h : c ≠ -1) (h2 : c ≠ -2) : (toP c).1 = c := by simp [toP, h, h2]
theorem pat_len : ∀ (n : Nat) (r : List Int) (out : List (List Int)) (now : List Int) (l : List (List Int)), r.length ≤ n → pat r out now = some l → l.length ≤ out.length + 1 + r.length ∧ ∀ a ∈ l, a ∈ out ∨ a.length ≤ now.length + r.length := by
  intro n
  induction n with
  | zero =>
    intro r out now l hr h
    obtain rfl : r = [] := List.length_eq_zero_iff.1 (by omega)
    rw [pat_nil] at h
    cases h
    refine ⟨by simp, fun a ha => ?_⟩
    rcases List.mem_append.1 ha with ha | ha
    · exact .inl ha
    · right; simp at ha; subst ha; simp
  | succ n ih =>
    intro r out now l hr h
    match r, hr, h with
    | [], hr, h =>
      rw [pat_nil] at h
      cases h
      refine ⟨by simp, fun a ha => ?_⟩
      rcases List.mem_append.1 ha with ha | ha
      · exact .inl ha
      · right; simp at ha; subst ha; simp
    | c :: r, hr, h =>
      simp only [List.length_cons] at hr ⊢
      have one : ∀ e, pat r out (now ++ [e]) = some l → l.length ≤ out.length + 1 + (r.length + 1) ∧ ∀ a ∈ l, a ∈ out ∨ a.length ≤ now.length + (r.length + 1) := by
        intro e h
        obtain ⟨h1, h2⟩ := ih r out _ l (by omega) h
        refine ⟨by omega, fun a ha => ?_⟩
        rcases h2 a ha with h3 | h3
        · exact .inl h3
        · right; simp at h3; omega
      rw [pat_cons] at h
      split at h
      · obtain ⟨h1, h2⟩ := ih r _ _ l (by omega) h
        refine ⟨by simp at h1; omega, fun a ha => ?_⟩
        rcases h2 a ha with h3 | h3
        · rcases List.mem_append.1 h3 with h3 | h3
          · exact .inl h3
          · right; simp at h3; subst h3; omega
        · right; simp at h3; omega
      · split at h
        · exact one _ h
        · split at h
          · exact one _ h
          · split at h
            · match r, h with
              | e :: r', h =>
                simp only at h
                split at h
                · obtain ⟨h1, h2⟩ := ih r' out _ l (by simp only [List.length_cons] at hr; omega) h
                  refine ⟨by simp only [List.length_cons]; omega, fun a ha => ?_⟩
                  rcases h2 a ha with h3 | h3
                  · exact .inl h3
                  · right; simp at h3; simp only [List.length_cons]; omega
                · cases h
            · exact one _ h
theorem alts_len {s : ByteArray} {l : List (List Int)} (h : alts s = some l) : l.length ≤ 101 ∧ ∀ a ∈ l, a.length ≤ 100 := by
  rw [alts] at h
  split at h
  · rename_i hs
    obtain ⟨h1, h2⟩ := pat_len _ (octs s) [] [] l (Nat.le_refl _) h
    rw [octs_len] at h1 h2
    refine ⟨by simp at h1; omega, fun a ha => ?_⟩
    rcases h2 a ha with h3 | h3
    · cases h3
    · simp at h3; omega
  · cases h
def matchOne (x : MT) (v : ByteArray) : Bool := if x.2.1 = 1 then seq v x.2.2.1 else if x.2.1 = 2 then !seq v x.2.2.1 else if x.2.1 = 3 then fitsP x.2.2.1 v else !fitsP x.2.2.1 v
def fitsB (ms : List MT) (l : List LB) : Bool := (List.range ms.length).all fun i => matchOne (ms.getD i default) (valL l (ms.getD i default).1)
theorem range_map_getD {α : Type} [Inhabited α] (l : List α) : (List.range l.length).map (fun i => l.getD i default) = l := by
  refine ext_getD (d := default) (by simp) fun j hj => ?_
  simp [List.getD_eq_getElem?_getD, hj]
theorem any_range {α : Type} [Inhabited α] (l : List α) (p : α → Bool) : ((List.range l.length).any fun i => p (l.getD i default)) = l.any p := by
  conv => rhs; rw [← range_map_getD l, List.any_map]
  rfl
theorem all_range {α : Type} [Inhabited α] (l : List α) (p : α → Bool) : ((List.range l.length).all fun i => p (l.getD i default)) = l.all p := by
  conv => rhs; rw [← range_map_getD l, List.all_map]
  rfl
def inhOne (x : INH) (s t : List LB) : Bool := (fitsB x.1 s && !(fitsB x.2.1 s && fitsB x.1 t)) && x.2.2.1.all fun k => seq (valL s k) (valL t k)
def inhibitedB (l : List INH) (ss : List (List LB)) (t : List LB) : Bool := l.any fun x => fitsB x.2.1 t && ss.any fun s => inhOne x s t
def inhibitedF (l : List INH) (ss : List (List LB)) (t : List LB) : Bool := (inhsB l && decide (ss.length ≤ 200) && labelsB t && ss.all labelsB) && inhibitedB l ss t
theorem Ev.bindP {α β : Type} {f : Nat → Option β} {g : Nat → β → Option α} {R : β → Prop} {v : α} (h : EvP f R) (h' : ∀ a, R a → Ev (fun n => g n a) v) : Ev (fun n => (f n).bind (g n)) v := by
  obtain ⟨a, h1, h2⟩ := h
  exact Ev.bind h1 (h' a h2)
def silP (t : List LB) (n : Int) (x : SIL) : Bool := fitsB x.2.1 t && decide (x.2.2.1 ≤ n) && decide (n ≤ x.2.2.2.1)
def silL (l : List SIL) (t : List LB) (n : Int) : List ByteArray := (l.filter (silP t n)).map fun x => x.1
def silencedF (l : List SIL) (t : List LB) (n : Int) : List ByteArray := if (silsB l && labelsB t && timeB n) = true then silL l t n else []
theorem silencedF_small {l : List SIL} {t : List LB} {n : Int} (h : Sm 1048576 (.sl false SIU) l) : Sm 1048576 (.sl false .str) (silencedF l t n) := by
  have hl : l.length ≤ 1048576 := h.1
  rw [silencedF]
  split
  · refine ⟨?_, fun x hx => ?_⟩
    · have := List.length_filter_le (silP t n) l
      simp only [silL, List.length_map]
      omega
    · obtain ⟨y, hy, rfl⟩ := List.mem_map.1 hx
      exact (h.2 y (List.mem_filter.1 hy).1).1
  · exact ⟨by simp, fun x hx => by cases hx⟩
abbrev RTE := ByteArray × List MT × List ByteArray × Int × Int × Int × List Int × Bool × Int × Unit
abbrev RTU : U := .pair .str (.pair (.sl false MU) (.pair (.sl false .str) (.pair (.int .i64) (.pair (.int .i64) (.pair (.int .i64) (.pair (.sl false (.int .i64)) (.pair .bool (.pair (.int .i64) .unit))))))))
def mutesB (l : List Int) : Bool := (List.range l.length).all fun i => decide (0 ≤ l.getD i default) && decide (l.getD i default < 20)
def posB (n : Int) : Bool := decide (1 ≤ n) && decide (n ≤ 1000000000000)
def routeB (r : RTE) : Bool := nameB r.1 && matchersB r.2.1 && namesB r.2.2.1 && timeB r.2.2.2.1 && posB r.2.2.2.2.1 && posB r.2.2.2.2.2.1 && (decide (r.2.2.2.2.2.2.1.length ≤ 20) && risingI r.2.2.2.2.2.2.1) && mutesB r.2.2.2.2.2.2.1
def kidsOf (l : List RTE) (i : Nat) : Int := (l.getD i default).2.2.2.2.2.2.2.2.1
def manyN (f : Nat → Option Nat) : Nat → Nat → Option Nat
  | 0, p => some p
  | k + 1, p => match f p with | some q => manyN f k q | none => none
def nodeN (l : List RTE) (g : RTE → Bool) : Nat → Nat → Option Nat
  | 0, _ => none
  | d + 1, i => if (decide (i < l.length) && decide (0 ≤ kidsOf l i) && g (l.getD i default)) = true then manyN (nodeN l g d) (kidsOf l i).toNat (i + 1) else none
theorem posB_time {n : Int} : posB n = (timeB n && !decide (n = 0)) := by
  simp only [posB, timeB]
  by_cases h : n = 0
  · subst h; rfl
  · by_cases h2 : 0 ≤ n
    · have : 1 ≤ n := by omega
      simp [h, h2, this]
    · have : ¬ 1 ≤ n := by omega
      simp [h2, this]
def smallB (r : RTE) : Bool := decide (r.2.2.2.2.2.2.2.2.1 ≤ 40)
theorem manyN_le {f : Nat → Option Nat} (hf : ∀ p q, f p = some q → p < q) : ∀ k p q, manyN f k p = some q → p + k ≤ q
  | 0, p, q, h => by simp only [manyN, Option.some.injEq] at h; omega
  | k + 1, p, q, h => by
    simp only [manyN] at h
    cases hp : f p with
    | none => rw [hp] at h; cases h
    | some r =>
      rw [hp] at h
      have := hf p r hp
      have := manyN_le hf k r q h
      omega
theorem manyN_top {f : Nat → Option Nat} {m : Nat} (hf : ∀ p q, f p = some q → q ≤ m) : ∀ k p q, p ≤ m → manyN f k p = some q → q ≤ m
  | 0, p, q, hp, h => by simp only [manyN, Option.some.injEq] at h; omega
  | k + 1, p, q, hp, h => by
    simp only [manyN] at h
    cases hp' : f p with
    | none => rw [hp'] at h; cases h
    | some r =>
      rw [hp'] at h
      exact manyN_top hf k r q (hf p r hp') h
theorem nodeN_lt {l : List RTE} {g : RTE → Bool} : ∀ d i n, nodeN l g d i = some n → i < n ∧ n ≤ l.length
  | 0, i, n, h => by simp [nodeN] at h
  | d + 1, i, n, h => by
    simp only [nodeN] at h
    split at h
    · rename_i hc
      simp only [Bool.and_eq_true, decide_eq_true_eq] at hc
      have h1 := manyN_le (fun p q hq => (nodeN_lt d p q hq).1) _ _ _ h
      have h2 := manyN_top (m := l.length) (fun p q hq => (nodeN_lt d p q hq).2) _ _ _ (by omega) h
      omega
    · cases h
def tkV : Option Nat → Int | some q => (q : Int) | none => -1
theorem manyN_SI {f g : Nat → Option Nat} {G : Nat → Prop} (hf : ∀ p q, f p = some q → p < q ∧ g p = some q ∧ ∀ j, p ≤ j → j < q → G j) : ∀ k p q, manyN f k p = some q → manyN g k p = some q ∧ ∀ j, p ≤ j → j < q → G j
  | 0, p, q, h => by
    simp only [manyN, Option.some.injEq] at h
    subst h
    exact ⟨rfl, fun j h1 h2 => by omega⟩
  | k + 1, p, q, h => by
    simp only [manyN] at h ⊢
    cases hp : f p with
    | none => rw [hp] at h; cases h
    | some r =>
      rw [hp] at h
      obtain ⟨h1, h2, h3⟩ := hf p r hp
      obtain ⟨h4, h5⟩ := manyN_SI hf k r q h
      rw [h2]
      exact ⟨h4, fun j j1 j2 => if hj : j < r then h3 j j1 hj else h5 j (by omega) j2⟩
theorem nodeN_SI {l : List RTE} (hl : l.length ≤ 40) : ∀ d i n, nodeN l routeB d i = some n → nodeN l smallB d i = some n ∧ ∀ j, i ≤ j → j < n → routeB (l.getD j default) = true
  | 0, i, n, h => by simp [nodeN] at h
  | d + 1, i, n, h => by
    have hn := nodeN_lt _ _ _ h
    simp only [nodeN] at h ⊢
    split at h
    · rename_i hc
      have hc' := hc
      simp only [Bool.and_eq_true, decide_eq_true_eq] at hc
      have h1 := manyN_le (fun p q hq => (nodeN_lt d p q hq).1) _ _ _ h
      have hs : smallB (l.getD i default) = true := decide_eq_true (show kidsOf l i ≤ 40 by omega)
      obtain ⟨h2, h3⟩ := manyN_SI (G := fun j => routeB (l.getD j default) = true) (g := nodeN l smallB d) (fun p q hq => ⟨(nodeN_lt d p q hq).1, nodeN_SI hl d p q hq⟩) _ _ _ h
      rw [if_pos (by rw [decide_eq_true hc.1.1, decide_eq_true hc.1.2, hs]; rfl)]
      refine ⟨h2, fun j j1 j2 => ?_⟩
      rcases Nat.eq_or_lt_of_le j1 with rfl | j1
      · exact hc.2
      · exact h3 j (by omega) j2
    · cases h
theorem manyN_IS {f g : Nat → Option Nat} {G : Nat → Prop} (hl : ∀ p q, g p = some q → p < q) (hg : ∀ p q, g p = some q → (∀ j, p ≤ j → j < q → G j) → f p = some q) : ∀ k p q, manyN g k p = some q → (∀ j, p ≤ j → j < q → G j) → manyN f k p = some q
  | 0, p, q, h, _ => by simpa only [manyN] using h
  | k + 1, p, q, h, hG => by
    simp only [manyN] at h ⊢
    cases hp : g p with
    | none => rw [hp] at h; cases h
    | some r =>
      rw [hp] at h
      have h1 := hl p r hp
      have h2 := manyN_le hl k r q h
      rw [hg p r hp (fun j j1 j2 => hG j j1 (by omega))]
      exact manyN_IS hl hg k r q h (fun j j1 j2 => hG j (by omega) j2)
theorem nodeN_IS {l : List RTE} : ∀ d i n, nodeN l smallB d i = some n → (∀ j, i ≤ j → j < n → routeB (l.getD j default) = true) → nodeN l routeB d i = some n
  | 0, i, n, h, _ => by simp [nodeN] at h
  | d + 1, i, n, h, hG => by
    have hn := nodeN_lt _ _ _ h
    simp only [nodeN] at h ⊢
    split at h
    · rename_i hc
      simp only [Bool.and_eq_true, decide_eq_true_eq] at hc
      rw [if_pos (by rw [decide_eq_true hc.1.1, decide_eq_true hc.1.2, hG i (Nat.le_refl _) hn.1]; rfl)]
      exact manyN_IS (fun p q hq => (nodeN_lt d p q hq).1) (fun p q hq => nodeN_IS d p q hq) _ _ _ h (fun j j1 j2 => hG j (by omega) j2)
    · cases h
def routesB (l : List RTE) : Bool := (decide (l.length ≠ 0) && decide (l.length ≤ 40) && decide (nodeN l routeB 8 0 = some l.length)) && (decide ((l.getD 0 default).2.1.length = 0) && !(l.getD 0 default).2.2.2.2.2.2.2.1)
theorem routes_eq {l : List RTE} (hl : l.length ≤ 40) : decide (nodeN l routeB 8 0 = some l.length) = (decide (nodeN l smallB 8 0 = some l.length) && (List.range l.length).all fun i => routeB (l.getD i default)) := by
  rw [Bool.eq_iff_iff]
  simp only [decide_eq_true_eq, Bool.and_eq_true, List.all_eq_true, List.mem_range]
  exact ⟨fun h => ⟨(nodeN_SI hl _ _ _ h).1, fun i hi => (nodeN_SI hl _ _ _ h).2 i (Nat.zero_le _) hi⟩, fun h => nodeN_IS _ _ _ h.1 fun j _ j2 => h.2 j j2⟩
theorem Ev.filt {P α : Type} [Inhabited α] {step : Nat → (P → Option (List α)) → P → Option (List α)} {l : List α} {p : α → Bool} {pt : Nat → List α → P}
    (hy : ∀ i out, i < l.length → out.length ≤ i → p (l.getD i default) = true → ∀ v, Ev (fun n => goRec step n (pt (i + 1) (out ++ [l.getD i default]))) v → Ev (fun n => goRec step n (pt i out)) v)
    (hn : ∀ i out, i < l.length → out.length ≤ i → p (l.getD i default) = false → ∀ v, Ev (fun n => goRec step n (pt (i + 1) out)) v → Ev (fun n => goRec step n (pt i out)) v)
    (he : ∀ out, Ev (fun n => goRec step n (pt l.length out)) out) : Ev (fun n => goRec step n (pt 0 [])) (l.filter p) := by
  have key : ∀ d i out, i + d = l.length → out.length ≤ i → Ev (fun n => goRec step n (pt i out)) (out ++ (l.drop i).filter p) := by
    intro d
    induction d with
    | zero =>
      intro i out h ho
      obtain rfl : i = l.length := by omega
      exact Ev.of_eq (he out) (by simp)
    | succ d ih =>
      intro i out h ho
      have hi : i < l.length := by omega
      rw [drop_getD hi, List.filter_cons]
      cases c : p (l.getD i default) with
      | true => exact hy i out hi ho c _ (Ev.of_eq (ih (i + 1) _ (by omega) (by simp; omega)) (by simp))
      | false => exact hn i out hi ho c _ (Ev.of_eq (ih (i + 1) _ (by omega) (by omega)) (by simp))
  exact key l.length 0 [] (by omega) (by simp)
theorem any_getD {α : Type} [Inhabited α] {l : List α} {p : α → Bool} : l.any p = (List.range l.length).any fun i => p (l.getD i default) := by
  rw [Bool.eq_iff_iff, List.any_eq_true, List.any_eq_true]
  constructor
  · rintro ⟨x, hx, hp⟩
    obtain ⟨i, hi, rfl⟩ := List.getElem_of_mem hx
    refine ⟨i, by simpa using hi, ?_⟩
    rwa [List.getD_eq_getElem?_getD, List.getElem?_eq_getElem hi]
  · rintro ⟨i, hi, hp⟩
    exact ⟨_, getD_mem (by simpa using hi), hp⟩
def hasB (l : List ByteArray) (x : ByteArray) : Bool := (List.range l.length).any fun i => decide (l.getD i default = x)
def groupF (l : List RTE) (k : Int) (t : List LB) : List LB := if (routesB l && decide (0 ≤ k) && decide (k < (l.length : Int)) && labelsB t) = true then t.filter (fun x => hasB (l.getD k.toNat default).2.2.1 x.1) else []
theorem groupF_small {l : List RTE} {k : Int} {t : List LB} (h : Sm 1048576 (.sl false LU) t) : Sm 1048576 (.sl false LU) (groupF l k t) := by
  have hl : t.length ≤ 1048576 := h.1
  rw [groupF]
  split
  · exact ⟨by have := List.length_filter_le (fun x => hasB (l.getD k.toNat default).2.2.1 x.1) t; omega, fun x hx => h.2 x (List.mem_filter.1 hx).1⟩
  · exact ⟨by simp, fun x hx => by cases hx⟩
/-- a loop that goes on while p holds, and something else behind it -/
theorem Ev.allK {P : Type} {step : Nat → (P → Option Bool) → P → Option Bool} {n : Nat} {p : Nat → Bool} {pt : Nat → P} {b : Bool}
    (hs : ∀ i, i < n → (p i = true → ∀ v, Ev (fun m => goRec step m (pt (i + 1))) v → Ev (fun m => goRec step m (pt i)) v) ∧ (p i = false → Ev (fun m => goRec step m (pt i)) false))
    (he : (List.range n).all p = true → Ev (fun m => goRec step m (pt n)) b) : Ev (fun m => goRec step m (pt 0)) ((List.range n).all p && b) := by
  have key : ∀ d i, i + d = n → (∀ j, j < i → p j = true) → Ev (fun m => goRec step m (pt i)) ((List.range' i d).all p && b) := by
    intro d
    induction d with
    | zero =>
      intro i h hj
      rw [Nat.add_zero] at h
      subst h
      exact he (by simpa using hj)
    | succ d ih =>
      intro i h hj
      obtain ⟨h1, h2⟩ := hs i (by omega)
      rw [List.range'_succ, List.all_cons]
      cases hp : p i with
      | false => rw [Bool.false_and, Bool.false_and]; exact h2 hp
      | true =>
        rw [Bool.true_and]
        refine h1 hp _ (ih (i + 1) (by omega) fun j h => ?_)
        rcases Nat.lt_succ_iff_lt_or_eq.1 h with h | rfl
        · exact hj j h
        · exact hp
  have := key n 0 (by omega) (by omega)
  rwa [List.range_eq_range']
abbrev NCE := List RTE × List ITV × List SIL × List INH × Unit
abbrev NCU : U := .pair (.sl false RTU) (.pair (.sl false ITU) (.pair (.sl false SIU) (.pair (.sl false INU) .unit)))
def mutesOK (m : Nat) (l : List Int) : Bool := (List.range l.length).all fun j => !decide ((m : Int) ≤ l.getD j default)
def itvsB (l : List ITV) : Bool := (List.range l.length).all fun i => itvB (l.getD i default)
def rmutesB (m : Nat) (l : List RTE) : Bool := (List.range l.length).all fun i => mutesOK m (l.getD i default).2.2.2.2.2.2.1
def notifyB (c : NCE) : Bool := (routesB c.1 && silsB c.2.2.1 && inhsB c.2.2.2.1) && decide (c.2.1.length ≤ 20) && itvsB c.2.1 && rmutesB c.2.1.length c.1
abbrev CUE := Int × Int × Int × Int × Unit
abbrev CUU : U := .pair (.int .i64) (.pair (.int .i64) (.pair (.int .i64) (.pair (.int .i64) .unit)))
abbrev MCE := Int × Int × List CUE × List CUE × Unit
abbrev MCU : U := .pair (.int .i64) (.pair (.int .i64) (.pair (.sl false CUU) (.pair (.sl false CUU) .unit)))
def cutB (m : Int) (d : Bool) (x : CUE) : Bool := timeB x.2.2.1 && timeB x.2.2.2.1 && decide (0 ≤ x.1) && decide (x.1 < m) && decide (0 ≤ x.2.1) && decide (x.2.1 < m) && !(d && !decide (x.2.1 = 0))
def cutsB (l : List CUE) (m : Int) (d : Bool) : Bool := decide (l.length ≤ 20) && (List.range l.length).all fun i => cutB m d (l.getD i default)
def slowB (l : List RTE) (k : Int) : Bool := (List.range l.length).all fun i => !decide ((l.getD i default).2.2.2.2.1 ≤ k)
def membersB (c : NCE) (m : MCE) : Bool := (notifyB c && decide (1 ≤ m.1) && decide (m.1 ≤ 5) && timeB m.2.1 && cutsB m.2.2.1 m.1 false && cutsB m.2.2.2.1 m.1 true) && slowB c.1 (IntKind.wrap .i64 ((IntKind.wrap .i64 (m.1 - (1 : Int))) * m.2.1))
theorem routesB_all {l : List RTE} (h : routesB l = true) : l.length ≤ 40 ∧ nodeN l routeB 8 0 = some l.length ∧ ∀ i, i < l.length → routeB (l.getD i default) = true := by
  simp only [routesB, Bool.and_eq_true, decide_eq_true_eq] at h
  exact ⟨h.1.1.2, h.1.2, fun i hi => (nodeN_SI h.1.1.2 _ _ _ h.1.2).2 i (Nat.zero_le _) hi⟩
noncomputable def mutedB (c : NCE) (l : List Int) (t : Int) : Bool := (List.range l.length).any fun j => inItvB (c.2.1.getD (l.getD j default).toNat default) t
noncomputable def mutedAtB (c : NCE) (r t : Int) : Bool := notifyB c && decide (0 ≤ r) && decide (r < (c.1.length : Int)) && timeB t && mutedB c (c.1.getD r.toNat default).2.2.2.2.2.2.1 t
/-- the mutes of a route of good routes name intervals -/
theorem mutes_in {c : NCE} (h : notifyB c = true) {i : Nat} (hi : i < c.1.length) {j : Nat} (hj : j < (c.1.getD i default).2.2.2.2.2.2.1.length) : 0 ≤ (c.1.getD i default).2.2.2.2.2.2.1.getD j default ∧ (c.1.getD i default).2.2.2.2.2.2.1.getD j default < (c.2.1.length : Int) := by
  simp only [notifyB, Bool.and_eq_true] at h
  have h1 := (routesB_all h.1.1.1.1.1).2.2 i hi
  have h2 := h.2
  simp only [rmutesB, List.all_eq_true, List.mem_range] at h2
  have h3 := h2 i hi
  simp only [mutesOK, List.all_eq_true, List.mem_range, Bool.not_eq_true', decide_eq_false_iff_not] at h3
  have h3 := h3 j hj
  simp only [routeB, Bool.and_eq_true] at h1
  have h4 := h1.2
  simp only [mutesB, List.all_eq_true, List.mem_range, Bool.and_eq_true, decide_eq_true_eq] at h4
  have h4 := h4 j hj
  exact ⟨h4.1, by omega⟩
theorem inB_of {i : Int} {n : Nat} (h : 0 ≤ i ∧ i < (n : Int)) : inB i n = true := by simpa [inB] using h
/-- a loop that goes on until p holds -/
theorem Ev.anyN {P : Type} {step : Nat → (P → Option Bool) → P → Option Bool} {n : Nat} {p : Nat → Bool} {pt : Nat → P}
    (hs : ∀ i, i < n → (p i = false → ∀ v, Ev (fun m => goRec step m (pt (i + 1))) v → Ev (fun m => goRec step m (pt i)) v) ∧ (p i = true → Ev (fun m => goRec step m (pt i)) true))
    (he : Ev (fun m => goRec step m (pt n)) false) : Ev (fun m => goRec step m (pt 0)) ((List.range n).any p) := by
  have key : ∀ d i, i + d = n → Ev (fun m => goRec step m (pt i)) ((List.range' i d).any p) := by
    intro d
    induction d with
    | zero => intro i h; rw [Nat.add_zero] at h; subst h; exact he
    | succ d ih =>
      intro i h
      obtain ⟨h1, h2⟩ := hs i (by omega)
      rw [List.range'_succ, List.any_cons]
      cases hp : p i with
      | true => rw [Bool.true_or]; exact h2 hp
      | false => rw [Bool.false_or]; exact h1 hp _ (ih (i + 1) (by omega))
  have := key n 0 (by omega)
  rwa [List.range_eq_range']
def onB (l : List RTE) (i : Nat) : Bool := (l.getD i default).2.2.2.2.2.2.2.1
def fitI (l : List RTE) (t : List LB) (i : Nat) : Bool := fitsB (l.getD i default).2.1 t
def takeK (f : Nat → Option Nat) (g : Nat → List Int) (fit on : Nat → Bool) : Nat → Nat → Bool → List Int
  | 0, _, _ => []
  | k + 1, p, go => if (go && fit p) = true then g p ++ takeK f g fit on k ((f p).getD 0) (on p) else takeK f g fit on k ((f p).getD 0) go
def takeN (l : List RTE) (t : List LB) : Nat → Nat → List Int
  | 0, _ => []
  | d + 1, i => if (takeK (nodeN l routeB d) (takeN l t d) (fitI l t) (onB l) (kidsOf l i).toNat (i + 1) true).isEmpty = true then [(i : Int)] else takeK (nodeN l routeB d) (takeN l t d) (fitI l t) (onB l) (kidsOf l i).toNat (i + 1) true
/-- in order, within bounds -/
def InO (r : List Int) (p q : Nat) : Prop := r.Pairwise (· ≤ ·) ∧ (∀ x ∈ r, (p : Int) ≤ x ∧ x < (q : Int)) ∧ r.length ≤ q - p
theorem InO.app {r s : List Int} {p q n : Nat} (h1 : InO r p q) (h2 : InO s q n) (hp : p ≤ q) (hq : q ≤ n) : InO (r ++ s) p n := by
  obtain ⟨a1, a2, a3⟩ := h1
  obtain ⟨b1, b2, b3⟩ := h2
  refine ⟨List.pairwise_append.2 ⟨a1, b1, fun x hx y hy => ?_⟩, fun x hx => ?_, by rw [List.length_append]; omega⟩
  · have := a2 x hx
    have := b2 y hy
    omega
  · rcases List.mem_append.1 hx with hx | hx
    · have := a2 x hx; omega
    · have := b2 x hx; omega
theorem InO.up {s : List Int} {p q n : Nat} (h : InO s q n) (hp : p ≤ q) : InO s p n := ⟨h.1, fun x hx => by have := h.2.1 x hx; omega, by have := h.2.2; omega⟩
theorem takeK_in {f : Nat → Option Nat} {g : Nat → List Int} {fit on : Nat → Bool} (hf : ∀ p q, f p = some q → p < q ∧ InO (g p) p q) : ∀ k p q go, manyN f k p = some q → p ≤ q ∧ InO (takeK f g fit on k p go) p q
  | 0, p, q, go, h => by
    simp only [manyN, Option.some.injEq] at h
    subst h
    exact ⟨Nat.le_refl _, by simp [takeK, InO]⟩
  | k + 1, p, q, go, h => by
    simp only [manyN] at h
    cases hp : f p with
    | none => rw [hp] at h; cases h
    | some r =>
      rw [hp] at h
      obtain ⟨h1, h2⟩ := hf p r hp
      simp only [takeK, hp, Option.getD_some]
      split
      · obtain ⟨h3, h4⟩ := takeK_in (fit := fit) (on := on) hf k r q (on p) h
        exact ⟨by omega, h2.app h4 (by omega) h3⟩
      · obtain ⟨h3, h4⟩ := takeK_in (fit := fit) (on := on) hf k r q go h
        exact ⟨by omega, h4.up (by omega)⟩
theorem takeN_in {l : List RTE} {t : List LB} : ∀ d i n, nodeN l routeB d i = some n → i < n ∧ InO (takeN l t d i) i n
  | 0, i, n, h => by simp [nodeN] at h
  | d + 1, i, n, h => by
    have hn := nodeN_lt _ _ _ h
    simp only [nodeN] at h
    split at h
    · have hk := takeK_in (fit := fitI l t) (on := onB l) (fun p q hq => takeN_in (t := t) d p q hq) _ _ _ true h
      refine ⟨hn.1, ?_⟩
      simp only [takeN]
      split
      · exact ⟨by simp, fun x hx => by simp at hx; omega, by simp; omega⟩
      · exact hk.2.up (by omega)
    · cases h
theorem manyN_mono {f g : Nat → Option Nat} (hf : ∀ p q, f p = some q → g p = some q) : ∀ k p q, manyN f k p = some q → manyN g k p = some q
  | 0, p, q, h => h
  | k + 1, p, q, h => by
    simp only [manyN] at h ⊢
    cases hp : f p with
    | none => rw [hp] at h; cases h
    | some r => rw [hp] at h; rw [hf p r hp]; exact manyN_mono hf k r q h
theorem nodeN_up {l : List RTE} {g : RTE → Bool} : ∀ d i n, nodeN l g d i = some n → nodeN l g (d + 1) i = some n
  | 0, i, n, h => by simp [nodeN] at h
  | d + 1, i, n, h => by
    rw [nodeN] at h ⊢
    split at h
    · rename_i hc
      rw [if_pos hc]
      exact manyN_mono (fun p q hq => nodeN_up d p q hq) _ _ _ h
    · cases h
theorem nodeN_to {l : List RTE} {g : RTE → Bool} {d i n : Nat} (h : nodeN l g d i = some n) {e : Nat} (he : d ≤ e) : nodeN l g e i = some n := by
  obtain ⟨k, rfl⟩ := Nat.le.dest he
  clear he
  induction k with
  | zero => exact h
  | succ k ih => exact nodeN_up _ _ _ ih
def forF (l : List RTE) (t : List LB) : List Int := if (routesB l && labelsB t) = true then takeN l t 8 0 else []
theorem forF_small {l : List RTE} {t : List LB} : Sm 1048576 (.sl false (.int .i64)) (forF l t) := by
  rw [forF]
  split
  · rename_i h
    simp only [Bool.and_eq_true] at h
    have := routesB_all h.1
    have h2 := (takeN_in (t := t) _ _ _ this.2.1).2.2.2
    exact ⟨by omega, fun _ _ => trivial⟩
  · exact ⟨by simp, fun x hx => by cases hx⟩
theorem takeN_sort {l : List RTE} {t : List LB} {d i n : Nat} (h : nodeN l routeB d i = some n) : (takeN l t d i).mergeSort (fun x y => decide (x ≤ y)) = takeN l t d i := by
  refine List.mergeSort_of_pairwise ?_
  exact ((takeN_in (t := t) _ _ _ h).2.1).imp fun h => by simpa using h
theorem wrapu {x : Int} : IntKind.wrap .u64 x = x % 18446744073709551616 := rfl
theorem wrapu_nat {n : Nat} (h : n < 18446744073709551616) : IntKind.wrap .u64 (n : Int) = (n : Int) := by rw [wrapu]; omega
theorem i64_id {n : Nat} (h : n ≤ 4611686018427387904) : IntKind.wrap .i64 (n : Int) = (n : Int) := i64_ok (by omega) (by omega)
theorem tmod_nat {s k : Nat} : Int.tmod (s : Int) (k : Int) = ((s % k : Nat) : Int) := by rw [Int.tmod_eq_emod_of_nonneg (by omega)]; rfl
theorem tdiv_nat {s k : Nat} : Int.tdiv (s : Int) (k : Int) = ((s / k : Nat) : Int) := by rw [Int.tdiv_eq_ediv_of_nonneg (by omega)]; rfl
theorem band1 {z : Nat} : band .u64 (z : Int) 1 = ((z % 2 : Nat) : Int) := by
  have e : (BitVec.ofInt 64 (z : Int) &&& BitVec.ofInt 64 1).toNat = z % 2 := by
    rw [BitVec.toNat_and]
    have h1 : (BitVec.ofInt 64 1).toNat = 1 := by decide
    have h2 : (BitVec.ofInt 64 (z : Int)).toNat = z % 2 ^ 64 := by rw [BitVec.toNat_ofInt]; omega
    rw [h1, h2, Nat.and_one_is_mod]
    omega
  show IntKind.wrap .u64 ((BitVec.ofInt 64 (z : Int) &&& BitVec.ofInt 64 1).toNat : Int) = _
  rw [e]
  exact wrapu_nat (by omega)
theorem shr_nat {y k : Nat} (hk : k ≤ 64) : shr .u64 (y : Int) (k : Int) = ((y / 2 ^ k : Nat) : Int) := by
  show Int.fdiv (y : Int) (2 ^ (min (Int.toNat (k : Int)) 64)) = _
  rw [Int.toNat_natCast, Nat.min_eq_left hk, Int.fdiv_eq_ediv_of_nonneg _ (Int.pow_nonneg (by decide))]
  rw [show ((2 : Int) ^ k) = ((2 ^ k : Nat) : Int) by simp]
  rfl
def bitN (y k : Nat) : Nat := y / 2 ^ k % 2
theorem bit_eq {y k : Nat} (hk : k ≤ 64) : band .u64 (shr .u64 (y : Int) (k : Int)) 1 = (bitN y k : Int) := by rw [shr_nat hk, band1]; rfl
theorem bitN_test {y k : Nat} : y.testBit k = decide (bitN y k = 1) := Nat.testBit_eq_decide_div_mod_eq
theorem bitN_lt {y k : Nat} : bitN y k < 2 := Nat.mod_lt _ (by decide)
def lzN (y : Nat) : Nat := 63 - Nat.log2 y
def tzN (y : Nat) : Nat := ((List.range 64).find? fun i => y.testBit i).getD 64
theorem log2_le {y : Nat} (h0 : y ≠ 0) (h : y < 18446744073709551616) : Nat.log2 y ≤ 63 := by
  have := (Nat.log2_lt h0 (k := 64)).2 h
  omega
theorem tz_spec {y : Nat} (h0 : y ≠ 0) (h : y < 18446744073709551616) : tzN y < 64 ∧ y.testBit (tzN y) = true ∧ ∀ j, j < tzN y → y.testBit j = false := by
  have hl := log2_le h0 h
  have hb : y.testBit (Nat.log2 y) = true := Nat.testBit_log2 h0
  cases hf : (List.range 64).find? fun i => y.testBit i with
  | none =>
    have := List.find?_eq_none.1 hf (Nat.log2 y) (by simp; omega)
    exact absurd hb this
  | some b =>
    rw [tzN, hf, Option.getD_some]
    have h1 := List.find?_some hf
    have h2 := List.mem_of_find?_eq_some hf
    refine ⟨by simpa using h2, h1, fun j hj => ?_⟩
    rw [List.find?_eq_some_iff_append] at hf
    obtain ⟨_, l1, l2, e, h3⟩ := hf
    have hlen : l1.length = b := by
      have := congrArg (fun l => l[l1.length]?) e
      simp only [List.getElem?_append_right (Nat.le_refl _), Nat.sub_self, List.getElem?_cons_zero] at this
      have := List.getElem?_eq_some_iff.1 this
      obtain ⟨_, h5⟩ := this
      simpa using h5
    have hj1 : l1[j]? = some j := by
      have := congrArg (fun l => l[j]?) e
      simp only [List.getElem?_append_left (show j < l1.length by omega)] at this
      rw [← this]
      have hb64 : b < 64 := by simpa using h2
      exact List.getElem?_range (by omega)
    have := h3 j (List.mem_of_getElem? hj1)
    simpa using this
theorem lz_tz {y : Nat} (h0 : y ≠ 0) (h : y < 18446744073709551616) : lzN y + tzN y ≤ 63 := by
  have hl := log2_le h0 h
  obtain ⟨h1, h2, h3⟩ := tz_spec h0 h
  have : tzN y ≤ Nat.log2 y := by
    rcases Nat.lt_or_ge (Nat.log2 y) (tzN y) with h4 | h4
    · have := h3 _ h4; rw [Nat.testBit_log2 h0] at this; cases this
    · exact h4
  rw [lzN]; omega
theorem log2_shift {y k : Nat} (h : 2 ^ k ≤ y) : Nat.log2 y = Nat.log2 (y / 2 ^ k) + k := by
  have hp : 0 < 2 ^ k := Nat.pos_of_ne_zero (by simp)
  have h0 : y ≠ 0 := by omega
  have h1 : y / 2 ^ k ≠ 0 := by have := Nat.div_pos h hp; omega
  obtain ⟨a, b⟩ := (Nat.log2_eq_iff h1).1 rfl
  refine (Nat.log2_eq_iff h0).2 ⟨?_, ?_⟩
  · rw [Nat.pow_add]; exact (Nat.le_div_iff_mul_le hp).1 a
  · rw [show Nat.log2 (y / 2 ^ k) + k + 1 = Nat.log2 (y / 2 ^ k) + 1 + k by omega, Nat.pow_add]; exact (Nat.div_lt_iff_lt_mul hp).1 b
def len8T : ByteArray := ⟨#[0, 1, 2, 2, 3, 3, 3, 3, 4, 4, 4, 4, 4, 4, 4, 4, 5, 5, 5, 5, 5, 5, 5, 5, 5, 5, 5, 5, 5, 5, 5, 5, 6, 6, 6, 6, 6, 6, 6, 6, 6, 6, 6, 6, 6, 6, 6, 6, 6, 6, 6, 6, 6, 6, 6, 6, 6, 6, 6, 6, 6, 6, 6, 6, 7, 7, 7, 7, 7, 7, 7, 7, 7, 7, 7, 7, 7, 7, 7, 7, 7, 7, 7, 7, 7, 7, 7, 7, 7, 7, 7, 7, 7, 7, 7, 7, 7, 7, 7, 7, 7, 7, 7, 7, 7, 7, 7, 7, 7, 7, 7, 7, 7, 7, 7, 7, 7, 7, 7, 7, 7, 7, 7, 7, 7, 7, 7, 7, 8, 8, 8, 8, 8, 8, 8, 8, 8, 8, 8, 8, 8, 8, 8, 8, 8, 8, 8, 8, 8, 8, 8, 8, 8, 8, 8, 8, 8, 8, 8, 8, 8, 8, 8, 8, 8, 8, 8, 8, 8, 8, 8, 8, 8, 8, 8, 8, 8, 8, 8, 8, 8, 8, 8, 8, 8, 8, 8, 8, 8, 8, 8, 8, 8, 8, 8, 8, 8, 8, 8, 8, 8, 8, 8, 8, 8, 8, 8, 8, 8, 8, 8, 8, 8, 8, 8, 8, 8, 8, 8, 8, 8, 8, 8, 8, 8, 8, 8, 8, 8, 8, 8, 8, 8, 8, 8, 8, 8, 8, 8, 8, 8, 8, 8, 8, 8, 8, 8, 8, 8, 8, 8, 8, 8, 8, 8, 8]⟩
theorem len8_ok : ∀ z : Nat, z < 256 → z = 0 ∨ IntKind.wrap .i64 (bt len8T (z : Int)) = ((Nat.log2 z + 1 : Nat) : Int) := by decide +kernel
theorem u8_id {z : Nat} (h : z < 256) : IntKind.wrap .u8 (z : Int) = (z : Int) := by
  show (z : Int) % 256 = _
  omega
def tzT : List Int := [0, 1, 56, 2, 57, 49, 28, 3, 61, 58, 42, 50, 38, 29, 17, 4, 62, 47, 59, 36, 45, 43, 51, 22, 53, 39, 33, 30, 24, 18, 12, 5, 63, 55, 48, 27, 60, 41, 37, 16, 46, 35, 44, 21, 52, 32, 23, 11, 54, 26, 40, 15, 34, 20, 31, 10, 25, 14, 19, 9, 13, 8, 7, 6]
theorem tz_tab : ∀ t : Nat, t < 64 → inB (shr .u64 (IntKind.wrap .u64 ((285870213051353865 : Int) * ((2 ^ t : Nat) : Int))) (58 : Int)) 64 = true ∧ IntKind.wrap .i64 (List.getD (List.getD [tzT] 0 default) (Int.toNat (shr .u64 (IntKind.wrap .u64 ((285870213051353865 : Int) * ((2 ^ t : Nat) : Int))) (58 : Int))) default) = (t : Int) := by decide +kernel
theorem low_bit {y : Nat} (h0 : y ≠ 0) (h : y < 18446744073709551616) : band .u64 (y : Int) (IntKind.wrap .u64 ((0 : Int) - (y : Int))) = ((2 ^ tzN y : Nat) : Int) := by
  obtain ⟨t1, t2, t3⟩ := tz_spec h0 h
  have hy : BitVec.ofInt 64 (y : Int) = BitVec.ofNat 64 y := BitVec.ofInt_natCast _ _
  have hn : BitVec.ofInt 64 (IntKind.wrap .u64 ((0 : Int) - (y : Int))) = -BitVec.ofNat 64 y := by
    apply BitVec.eq_of_toNat_eq
    rw [BitVec.toNat_ofInt, BitVec.toNat_neg, BitVec.toNat_ofNat, wrapu]
    omega
  have key : BitVec.ofNat 64 y &&& -BitVec.ofNat 64 y = BitVec.twoPow 64 (tzN y) := by
    apply BitVec.eq_of_getLsbD_eq
    intro i hi
    rw [BitVec.getLsbD_and, BitVec.getLsbD_neg, BitVec.getLsbD_twoPow, BitVec.getLsbD_ofNat]
    simp only [hi, decide_true, Bool.true_and]
    rcases Nat.lt_trichotomy i (tzN y) with h1 | h1 | h1
    · rw [t3 i h1, Bool.false_and]
      rw [decide_eq_false (show ¬ tzN y = i by omega), Bool.and_false]
    · subst h1
      rw [t2]
      have : ¬ ∃ j, j < tzN y ∧ (BitVec.ofNat 64 y).getLsbD j = true := by
        rintro ⟨j, hj, h5⟩
        rw [BitVec.getLsbD_ofNat, t3 j hj] at h5
        simp at h5
      simp [this, t1]
    · have : ∃ j, j < i ∧ (BitVec.ofNat 64 y).getLsbD j = true := ⟨tzN y, h1, by rw [BitVec.getLsbD_ofNat, t2]; simp [t1]⟩
      simp only [this, decide_true]
      have hne : decide (tzN y = i) = false := by simp only [decide_eq_false_iff_not]; omega
      cases y.testBit i <;> simp [hne]
  show IntKind.wrap .u64 ((BitVec.ofInt 64 (y : Int) &&& BitVec.ofInt 64 (IntKind.wrap .u64 ((0 : Int) - (y : Int)))).toNat : Int) = _
  rw [hy, hn, key, BitVec.toNat_twoPow]
  have : 2 ^ tzN y < 2 ^ 64 := Nat.pow_lt_pow_right (by decide) t1
  rw [Nat.mod_eq_of_lt this]
  exact wrapu_nat this
abbrev SME := Int × Int × Unit
abbrev SMU : U := .pair (.int .i64) (.pair (.int .i64) .unit)
abbrev BBE := List Int × Nat
theorem tmod8 {s : Nat} : Int.tmod (s : Int) 8 = ((s % 8 : Nat) : Int) := tmod_nat (k := 8)
theorem tdiv8 {s : Nat} : Int.tdiv (s : Int) 8 = ((s / 8 : Nat) : Int) := tdiv_nat (k := 8)
def bitAt (v : Int) (k : Nat) : Bool := decide (band .u64 (shr .u64 (IntKind.wrap .u64 v) (k : Int)) (1 : Int) = 1)
theorem bit_val {v : Int} {k : Nat} (hk : k ≤ 64) : band .u64 (shr .u64 (IntKind.wrap .u64 v) (k : Int)) (1 : Int) = if bitAt v k = true then 1 else 0 := by
  obtain ⟨w, hw⟩ : ∃ w : Nat, IntKind.wrap .u64 v = (w : Int) := ⟨(v % 18446744073709551616).toNat, by rw [wrapu]; omega⟩
  rw [bitAt, hw, bit_eq hk]
  have := @bitN_lt w k
  by_cases h : bitN w k = 1
  · rw [h]; rfl
  · rw [if_neg (by simp only [decide_eq_true_eq]; omega)]; omega
def growB (b : BBE) : List Int := if b.2 % 8 = 0 then b.1 ++ [0] else b.1
def put1 (b : BBE) (x : Bool) : BBE := (if x = true then (growB b).set (b.2 / 8) (bor .u8 ((growB b).getD (b.2 / 8) default) (shr .u8 (128 : Int) ((b.2 % 8 : Nat) : Int))) else growB b, b.2 + 1)
def puts (v : Int) : Nat → BBE → BBE
  | 0, b => b
  | k + 1, b => puts v k (put1 b (bitAt v k))
def OKB (b : BBE) : Prop := b.1.length = (b.2 + 7) / 8
theorem growB_len {b : BBE} (h : OKB b) : (growB b).length = b.2 / 8 + 1 := by
  simp only [OKB] at h
  rw [growB]
  split
  · rw [List.length_append, h, List.length_singleton]; omega
  · rw [h]; omega
theorem put1_ok {b : BBE} {x : Bool} (h : OKB b) : OKB (put1 b x) := by
  have := growB_len h
  simp only [OKB, put1]
  split
  · rw [List.length_set, this]; omega
  · rw [this]; omega
theorem puts_ok {v : Int} : ∀ {n : Nat} {b : BBE}, OKB b → OKB (puts v n b)
  | 0, b, h => h
  | n + 1, b, h => puts_ok (n := n) (put1_ok h)
theorem puts_sz {v : Int} : ∀ {n : Nat} {b : BBE}, (puts v n b).2 = b.2 + n
  | 0, b => rfl
  | n + 1, b => by rw [puts, puts_sz, put1]; omega
def outB (b : BBE) : List Int × Int × Unit := (b.1, ((b.2 : Nat) : Int), ())
def bendB (b : BBE) (e : Int) : BBE :=
  if e = 0 then puts 0 1 b else if -63 ≤ e ∧ e ≤ 64 then puts (IntKind.wrap .i64 (e + 63)) 7 (puts 2 2 b) else if -255 ≤ e ∧ e ≤ 256 then puts (IntKind.wrap .i64 (e + 255)) 9 (puts 6 3 b)
  else if -2047 ≤ e ∧ e ≤ 2048 then puts (IntKind.wrap .i64 (e + 2047)) 12 (puts 14 4 b) else puts e 64 (puts 15 4 b)
theorem bendB_ok {b : BBE} {e : Int} (h : OKB b) : OKB (bendB b e) ∧ (bendB b e).2 ≤ b.2 + 68 := by
  simp only [bendB]
  split
  · exact ⟨puts_ok h, by rw [puts_sz]; omega⟩
  split
  · exact ⟨puts_ok (puts_ok h), by rw [puts_sz, puts_sz]; omega⟩
  split
  · exact ⟨puts_ok (puts_ok h), by rw [puts_sz, puts_sz]; omega⟩
  split
  · exact ⟨puts_ok (puts_ok h), by rw [puts_sz, puts_sz]; omega⟩
  · exact ⟨puts_ok (puts_ok h), by rw [puts_sz, puts_sz]; omega⟩
def turnN (a p : Int) : Nat := (BitVec.ofInt 64 a ^^^ BitVec.ofInt 64 p).toNat
theorem turn_lt {a p : Int} : turnN a p < 18446744073709551616 := (BitVec.ofInt 64 a ^^^ BitVec.ofInt 64 p).isLt
theorem turn_i {a p : Int} : IntKind.wrap .u64 (bxor .i64 a p) = (turnN a p : Int) := by
  have := @turn_lt a p
  show IntKind.wrap .u64 (IntKind.wrap .i64 (turnN a p : Int)) = _
  rw [wrapu]
  show (if (true && decide ((turnN a p : Int) % 18446744073709551616 ≥ 9223372036854775808)) = true then (turnN a p : Int) % 18446744073709551616 - 18446744073709551616 else (turnN a p : Int) % 18446744073709551616) % 18446744073709551616 = _
  split <;> omega
theorem ofInt_wrapu {a : Int} : BitVec.ofInt 64 (IntKind.wrap .u64 a) = BitVec.ofInt 64 a := by
  apply BitVec.eq_of_toNat_eq
  rw [BitVec.toNat_ofInt, BitVec.toNat_ofInt, wrapu]
  omega
theorem turn_u {a p : Int} : bxor .u64 (IntKind.wrap .u64 a) (IntKind.wrap .u64 p) = (turnN a p : Int) := by
  show IntKind.wrap .u64 ((BitVec.ofInt 64 (IntKind.wrap .u64 a) ^^^ BitVec.ofInt 64 (IntKind.wrap .u64 p)).toNat : Int) = _
  rw [ofInt_wrapu, ofInt_wrapu]
  exact wrapu_nat turn_lt
abbrev FRE := Option (Nat × Nat)
def frB (st : FRE) (y : Nat) : Bool := match st with | some (ld, tr) => decide (ld ≤ lzN y) && decide (tr ≤ tzN y) | none => false
def leadN (st : FRE) : Nat := (st.getD (0, 0)).1
def leadI (st : FRE) : Int := match st with | some p => (p.1 : Int) | none => -1
def trailN (st : FRE) : Nat := (st.getD (0, 0)).2
def oldB (b : BBE) (st : FRE) (y : Nat) : BBE := puts (IntKind.wrap .i64 ((y / 2 ^ trailN st : Nat) : Int)) (64 - leadN st - trailN st) (puts 2 2 b)
def newB (b : BBE) (y : Nat) : BBE := puts (IntKind.wrap .i64 ((y / 2 ^ tzN y : Nat) : Int)) (64 - lzN y - tzN y) (puts ((64 - lzN y - tzN y - 1 : Nat) : Int) 6 (puts (lzN y : Int) 6 (puts 3 2 b)))
def valB (b : BBE) (st : FRE) (y : Nat) : BBE × FRE := if y = 0 then (puts 0 1 b, st) else if frB st y = true then (oldB b st y, st) else (newB b y, some (lzN y, tzN y))
def nowI (l : List SME) (i : Nat) : Int := IntKind.wrap .i64 ((l.getD i default).1 - (l.getD (i - 1) default).1)
def bendI (l : List SME) (i : Nat) (step : Int) : Int := if i = 1 then nowI l i else IntKind.wrap .i64 (nowI l i - step)
def turnI (l : List SME) (i : Nat) : Nat := turnN (l.getD i default).2.1 (l.getD (i - 1) default).2.1
def packR (l : List SME) : Nat → Nat → BBE → FRE → Int → BBE
  | 0, _, b, _, _ => b
  | d + 1, i, b, st, step => if i = 0 then packR l d (i + 1) (puts (l.getD i default).2.1 64 (puts (l.getD i default).1 40 b)) st step
    else packR l d (i + 1) (valB (bendB b (bendI l i step)) st (turnI l i)).1 (valB (bendB b (bendI l i step)) st (turnI l i)).2 (nowI l i)
def packV (l : List SME) : BBE := packR l l.length 0 (puts (l.length : Int) 8 ([], 0)) none 0
def FrOK (st : FRE) : Prop := leadN st + trailN st ≤ 63
theorem valB_ok {b : BBE} {st : FRE} {y : Nat} (h : OKB b) (hs : FrOK st) (hy : y < 18446744073709551616) : OKB (valB b st y).1 ∧ (valB b st y).1.2 ≤ b.2 + 78 ∧ FrOK (valB b st y).2 := by
  simp only [valB]
  split
  · exact ⟨puts_ok h, by rw [puts_sz]; omega, hs⟩
  rename_i h0
  split
  · exact ⟨puts_ok (puts_ok h), by rw [oldB, puts_sz, puts_sz]; omega, hs⟩
  · exact ⟨puts_ok (puts_ok (puts_ok (puts_ok h))), by rw [newB, puts_sz, puts_sz, puts_sz, puts_sz]; omega, lz_tz h0 hy⟩
theorem packR_ok {l : List SME} : ∀ d i b st step, OKB b → FrOK st → OKB (packR l d i b st step) ∧ (packR l d i b st step).2 ≤ b.2 + 150 * d
  | 0, i, b, st, step, h, hs => ⟨h, by simp [packR]⟩
  | d + 1, i, b, st, step, h, hs => by
    simp only [packR]
    split
    · have := packR_ok (l := l) d (i + 1) (puts (l.getD i default).2.1 64 (puts (l.getD i default).1 40 b)) st step (puts_ok (puts_ok h)) hs
      rw [puts_sz, puts_sz] at this
      exact ⟨this.1, by omega⟩
    · obtain ⟨h1, h2⟩ := bendB_ok (e := bendI l i step) h
      obtain ⟨h3, h4, h5⟩ := valB_ok h1 hs (turn_lt (a := (l.getD i default).2.1) (p := (l.getD (i - 1) default).2.1))
      have := packR_ok (l := l) d (i + 1) _ _ (nowI l i) h3 h5
      exact ⟨this.1, by have := this.2; simp only [turnI] at *; omega⟩
def samplesB (l : List SME) : Bool := ((List.range l.length).all fun i => timeB (l.getD i default).1 && !(decide (0 < i) && decide ((l.getD i default).1 ≤ (l.getD (i - 1) default).1))) && decide (l.length ≤ 2000)
def chunkF (l : List SME) : BBE := if (samplesB l && decide (l.length ≤ 120)) = true then packV l else ([], 0)
theorem chunkF_ok {l : List SME} : OKB (chunkF l) ∧ (chunkF l).2 ≤ 100000 := by
  rw [chunkF]
  split
  · rename_i h
    simp only [Bool.and_eq_true, decide_eq_true_eq] at h
    have := packR_ok (l := l) l.length 0 (puts (l.length : Int) 8 ([], 0)) none 0 (puts_ok rfl) (by simp [FrOK, leadN, trailN])
    rw [puts_sz] at this
    exact ⟨this.1, by rw [packV]; omega⟩
  · exact ⟨rfl, by decide⟩
theorem len_lt {a b : Nat} (h : a + b ≤ 63) : IntKind.wrap .i64 (IntKind.wrap .i64 ((64 : Int) - (a : Int)) - (b : Int)) = ((64 - a - b : Nat) : Int) := by
  rw [i64_ok (x := (64 : Int) - (a : Int)) (by omega) (by omega), i64_ok (by omega) (by omega)]; omega
theorem len_pred {a b : Nat} (h : a + b ≤ 63) : IntKind.wrap .i64 (((64 - a - b : Nat) : Int) - 1) = ((64 - a - b - 1 : Nat) : Int) := by
  rw [i64_ok (by omega) (by omega)]; omega
theorem pred_i64 {i : Nat} (h : i ≠ 0) (h2 : i ≤ 4611686018427387904) : IntKind.wrap .i64 ((i : Int) - 1) = ((i - 1 : Nat) : Int) := by
  rw [i64_ok (by omega) (by omega)]; omega
def bitD (D : List Int) (i : Nat) : Bool := decide ((D.getD (i / 8) default).toNat / 2 ^ (7 - i % 8) % 2 = 1)
def BYB (D : List Int) : Prop := ∀ j, 0 ≤ D.getD j default ∧ D.getD j default < 256
structure GB (b : BBE) : Prop where
  ok : OKB b
  by_ : BYB b.1
  z : ∀ i, b.2 ≤ i → bitD b.1 i = false
structure ExB (b c : BBE) : Prop where
  le : b.2 ≤ c.2
  eq : ∀ i, i < b.2 → bitD c.1 i = bitD b.1 i
theorem ExB.refl {b : BBE} : ExB b b := ⟨Nat.le_refl _, fun _ _ => rfl⟩
theorem ExB.trans {a b c : BBE} (h : ExB a b) (h' : ExB b c) : ExB a c := ⟨Nat.le_trans h.le h'.le, fun i hi => by rw [h'.eq i (Nat.lt_of_lt_of_le hi h.le), h.eq i hi]⟩
theorem bor_tab : ∀ x : Nat, x < 256 → ∀ k : Nat, k < 8 → (0 ≤ bor .u8 (x : Int) (shr .u8 (128 : Int) (k : Int)) ∧ bor .u8 (x : Int) (shr .u8 (128 : Int) (k : Int)) < 256) ∧ ∀ j : Nat, j < 8 → decide ((bor .u8 (x : Int) (shr .u8 (128 : Int) (k : Int))).toNat / 2 ^ (7 - j) % 2 = 1) = (decide (x / 2 ^ (7 - j) % 2 = 1) || decide (j = k)) := by decide +kernel
theorem growB_get {b : BBE} {j : Nat} : (growB b).getD j default = b.1.getD j default := by
  rw [growB]
  split
  · simp only [List.getD_eq_getElem?_getD]
    rcases Nat.lt_or_ge j b.1.length with h | h
    · rw [List.getElem?_append_left h]
    · rw [List.getElem?_append_right h, List.getElem?_eq_none h]
      rcases Nat.eq_zero_or_pos (j - b.1.length) with h2 | h2
      · rw [h2]; rfl
      · rw [List.getElem?_eq_none (by simp; omega)]
  · rfl
theorem growB_bit {b : BBE} {i : Nat} : bitD (growB b) i = bitD b.1 i := by rw [bitD, growB_get]; rfl
theorem put1_gb {b : BBE} {x : Bool} (h : GB b) : GB (put1 b x) ∧ ExB b (put1 b x) ∧ bitD (put1 b x).1 b.2 = x := by
  have hl := growB_len h.ok
  have hok := put1_ok (x := x) h.ok
  cases x with
  | false =>
    have e : put1 b false = (growB b, b.2 + 1) := by simp [put1]
    rw [e] at hok ⊢
    exact ⟨⟨hok, fun j => by rw [growB_get]; exact h.by_ j, fun i hi => by show bitD (growB b) i = false; rw [growB_bit]; exact h.z i (by have : b.2 + 1 ≤ i := hi; omega)⟩, ⟨Nat.le_succ _, fun i _ => growB_bit⟩, by show bitD (growB b) b.2 = false; rw [growB_bit]; exact h.z _ (Nat.le_refl _)⟩
  | true =>
    obtain ⟨g0, g1⟩ := h.by_ (b.2 / 8)
    obtain ⟨w, hw⟩ : ∃ w : Nat, b.1.getD (b.2 / 8) default = (w : Int) := ⟨(b.1.getD (b.2 / 8) default).toNat, by omega⟩
    obtain ⟨⟨t0, t1⟩, t2⟩ := bor_tab w (by omega) (b.2 % 8) (by omega)
    have e : put1 b true = ((growB b).set (b.2 / 8) (bor .u8 (w : Int) (shr .u8 (128 : Int) ((b.2 % 8 : Nat) : Int))), b.2 + 1) := by rw [put1, growB_get, hw]; simp
    rw [e] at hok ⊢
    have hat : ∀ i, i / 8 = b.2 / 8 → bitD ((growB b).set (b.2 / 8) (bor .u8 (w : Int) (shr .u8 (128 : Int) ((b.2 % 8 : Nat) : Int)))) i = (bitD b.1 i || decide (i = b.2)) := by
      intro i hi
      rw [bitD, hi, getD_set_same (by omega), t2 (i % 8) (by omega), bitD, hi, hw]
      congr 1
      exact decide_eq_decide.2 (by omega)
    have hno : ∀ i, i / 8 ≠ b.2 / 8 → bitD ((growB b).set (b.2 / 8) (bor .u8 (w : Int) (shr .u8 (128 : Int) ((b.2 % 8 : Nat) : Int)))) i = bitD b.1 i := by
      intro i hi
      rw [bitD, getD_set_other hi, growB_get]; rfl
    have all : ∀ i, bitD ((growB b).set (b.2 / 8) (bor .u8 (w : Int) (shr .u8 (128 : Int) ((b.2 % 8 : Nat) : Int)))) i = (bitD b.1 i || decide (i = b.2)) := by
      intro i
      by_cases hi : i / 8 = b.2 / 8
      · exact hat i hi
      · rw [hno i hi, decide_eq_false (show ¬ i = b.2 by intro h; exact hi (by rw [h])), Bool.or_false]
    refine ⟨⟨hok, fun j => ?_, fun i hi => ?_⟩, ⟨Nat.le_succ _, fun i hi => ?_⟩, ?_⟩
    · by_cases hj : j = b.2 / 8
      · subst hj; rw [getD_set_same (by omega)]; exact ⟨t0, t1⟩
      · rw [getD_set_other hj, growB_get]; exact h.by_ j
    · have hi : b.2 + 1 ≤ i := hi
      show bitD ((growB b).set _ _) i = false
      rw [all, h.z i (by omega), decide_eq_false (show ¬ i = b.2 by omega)]; rfl
    · show bitD ((growB b).set _ _) i = _
      rw [all, decide_eq_false (show ¬ i = b.2 by omega), Bool.or_false]
    · show bitD ((growB b).set _ _) b.2 = true
      rw [all, decide_eq_true rfl, Bool.or_true]
/-- from at on there stand the n last bits of v -/
def HasB (D : List Int) (at_ : Nat) (v : Int) (n : Nat) : Prop := ∀ j, j < n → bitD D (at_ + j) = bitAt v (n - 1 - j)
theorem puts_gb {v : Int} : ∀ {n : Nat} {b : BBE}, GB b → GB (puts v n b) ∧ ExB b (puts v n b) ∧ HasB (puts v n b).1 b.2 v n
  | 0, b, h => ⟨h, ExB.refl, fun j hj => absurd hj (Nat.not_lt_zero _)⟩
  | n + 1, b, h => by
    obtain ⟨h1, h2, h3⟩ := put1_gb (x := bitAt v n) h
    obtain ⟨h4, h5, h6⟩ := puts_gb (v := v) (n := n) h1
    refine ⟨h4, h2.trans h5, fun j hj => ?_⟩
    have e2 : (put1 b (bitAt v n)).2 = b.2 + 1 := rfl
    rcases Nat.eq_zero_or_pos j with h0 | h0
    · subst h0
      rw [Nat.add_zero, Nat.sub_zero]
      show bitD (puts v n (put1 b (bitAt v n))).1 b.2 = bitAt v (n + 1 - 1)
      rw [h5.eq b.2 (by omega), h3]; rfl
    · have := h6 (j - 1) (by omega)
      rw [e2, show b.2 + 1 + (j - 1) = b.2 + j by omega, show n - 1 - (j - 1) = n + 1 - 1 - j by omega] at this
      exact this
theorem HasB.ext {b c : BBE} {a n : Nat} {v : Int} (h : HasB b.1 a v n) (hx : ExB b c) (hn : a + n ≤ b.2) : HasB c.1 a v n := fun j hj => by rw [hx.eq _ (by omega)]; exact h j hj
def rdN (D : List Int) (at_ : Nat) : Nat → Nat
  | 0 => 0
  | n + 1 => rdN D at_ n * 2 + (bitD D (at_ + n)).toNat
theorem rdN_lt {D : List Int} {a : Nat} : ∀ {n : Nat}, rdN D a n < 2 ^ n
  | 0 => by simp [rdN]
  | n + 1 => by
    have := rdN_lt (D := D) (a := a) (n := n)
    have h2 : (bitD D (a + n)).toNat ≤ 1 := by cases bitD D (a + n) <;> decide
    rw [rdN, Nat.pow_succ]; omega
theorem rdN_has {D : List Int} {a n w : Nat} {v : Int} (hw : IntKind.wrap .u64 v = (w : Int)) (hn : n ≤ 64) (h : HasB D a v n) : rdN D a n = w % 2 ^ n := by
  have key : ∀ k, k ≤ n → rdN D a k = w / 2 ^ (n - k) % 2 ^ k := by
    intro k
    induction k with
    | zero => intro _; simp [rdN, Nat.mod_one]
    | succ k ih =>
      intro hk
      rw [rdN, ih (by omega), h k (by omega), bitAt, hw, bit_eq (by omega), Nat.pow_succ, Nat.mul_comm (2 ^ k) 2, Nat.mod_mul]
      have e : n - k = (n - (k + 1)) + 1 := by omega
      rw [e, Nat.pow_succ, ← Nat.div_div_eq_div_mul, show n - 1 - k = n - (k + 1) by omega, bitN]
      have h2 : w / 2 ^ (n - (k + 1)) % 2 < 2 := Nat.mod_lt _ (by decide)
      have h3 : (decide (((w / 2 ^ (n - (k + 1)) % 2 : Nat) : Int) = 1)).toNat = w / 2 ^ (n - (k + 1)) % 2 := by
        rcases (show w / 2 ^ (n - (k + 1)) % 2 = 0 ∨ w / 2 ^ (n - (k + 1)) % 2 = 1 by omega) with h4 | h4 <;> rw [h4] <;> rfl
      rw [h3]; omega
  have := key n (Nat.le_refl _)
  rwa [Nat.sub_self, Nat.pow_zero, Nat.div_one] at this
/-- what a reader takes: nothing behind the end -/
def rdT (D : List Int) (S at_ n : Nat) : Nat := if at_ + n ≤ S then rdN D at_ n else 0
theorem rdT_lt {D : List Int} {S a n : Nat} : rdT D S a n < 2 ^ n := by
  rw [rdT]; split
  · exact rdN_lt
  · exact Nat.pos_of_ne_zero (by simp)
def onesT (D : List Int) (S : Nat) : Nat → Nat → Nat × Nat
  | 0, a => (0, a)
  | k + 1, a => if rdT D S a 1 = 1 then ((onesT D S k (a + 1)).1 + 1, (onesT D S k (a + 1)).2) else (0, a + 1)
theorem onesT_le {D : List Int} {S : Nat} : ∀ {k a : Nat}, a ≤ (onesT D S k a).2 ∧ (onesT D S k a).2 ≤ a + k ∧ (onesT D S k a).1 ≤ k
  | 0, a => ⟨Nat.le_refl _, Nat.le_refl _, Nat.le_refl _⟩
  | k + 1, a => by
    have := onesT_le (D := D) (S := S) (k := k) (a := a + 1)
    rw [onesT]; split <;> simp only <;> omega
def bendT (D : List Int) (S a : Nat) : Int × Nat :=
  if (onesT D S 4 a).1 = 0 then (0, (onesT D S 4 a).2) else if (onesT D S 4 a).1 = 1 then ((rdT D S (onesT D S 4 a).2 7 : Int) - 63, (onesT D S 4 a).2 + 7)
  else if (onesT D S 4 a).1 = 2 then ((rdT D S (onesT D S 4 a).2 9 : Int) - 255, (onesT D S 4 a).2 + 9) else if (onesT D S 4 a).1 = 3 then ((rdT D S (onesT D S 4 a).2 12 : Int) - 2047, (onesT D S 4 a).2 + 12)
  else (IntKind.wrap .i64 (rdT D S (onesT D S 4 a).2 64 : Int), (onesT D S 4 a).2 + 64)
theorem bendT_le {D : List Int} {S a : Nat} : (onesT D S 4 a).2 ≤ (bendT D S a).2 ∧ (bendT D S a).2 ≤ a + 68 := by
  have := onesT_le (D := D) (S := S) (k := 4) (a := a)
  simp only [bendT]
  repeat' split
  all_goals simp only; omega
def xorI (p : Int) (y : Nat) : Int := bxor .i64 p (IntKind.wrap .i64 (y : Int))
/-- one value: which, the frame behind it, where it ends -/
def valT (imp : Bool) (D : List Int) (S a : Nat) (st : FRE) : Option (Nat × FRE × Nat) :=
  if (onesT D S 2 a).1 = 0 then some (0, st, (onesT D S 2 a).2)
  else if (onesT D S 2 a).1 = 1 then
    if st.isSome || imp then some (rdT D S (onesT D S 2 a).2 (64 - leadN st - trailN st) * 2 ^ trailN st, st, (onesT D S 2 a).2 + (64 - leadN st - trailN st)) else none
  else if 64 < rdT D S (onesT D S 2 a).2 6 + (rdT D S ((onesT D S 2 a).2 + 6) 6 + 1) then none
  else some (rdT D S ((onesT D S 2 a).2 + 12) (rdT D S ((onesT D S 2 a).2 + 6) 6 + 1) * 2 ^ (64 - rdT D S (onesT D S 2 a).2 6 - (rdT D S ((onesT D S 2 a).2 + 6) 6 + 1)),
    some (rdT D S (onesT D S 2 a).2 6, 64 - rdT D S (onesT D S 2 a).2 6 - (rdT D S ((onesT D S 2 a).2 + 6) 6 + 1)), (onesT D S 2 a).2 + 12 + (rdT D S ((onesT D S 2 a).2 + 6) 6 + 1))
def nextT (e : Int) (p : SME) (step : Int) (y : Nat) : SME := (IntKind.wrap .i64 (p.1 + IntKind.wrap .i64 (step + e)), xorI p.2.1 y, ())
def unR (imp : Bool) (D : List Int) (S : Nat) : Nat → Nat → Nat → FRE → Int → List SME → Option (List SME × Nat)
  | 0, _, a, _, _, out => some (out, a)
  | d + 1, i, a, st, step, out => if S < a then some (out, a)
    else if i = 0 then unR imp D S d (i + 1) (a + 104) st step (out ++ [((rdT D S a 40 : Int), IntKind.wrap .i64 (rdT D S (a + 40) 64 : Int), ())])
    else match valT imp D S (bendT D S a).2 st with
      | none => none
      | some r => unR imp D S d (i + 1) r.2.2 r.2.1 (IntKind.wrap .i64 (step + (bendT D S a).1)) (out ++ [nextT (bendT D S a).1 (out.getD (i - 1) default) step r.1])
def unF (imp : Bool) (D : List Int) (S : Nat) : Option (List SME × Nat) := unR imp D S (rdT D S 0 8) 0 8 none 0 []
theorem rdT_has {b F : BBE} {a n w : Nat} {v : Int} (h : HasB F.1 a v n) (hw : IntKind.wrap .u64 v = (w : Int)) (hn : n ≤ 64) (hle : a + n ≤ F.2) : rdT F.1 F.2 a n = w % 2 ^ n := by
  rw [rdT, if_pos hle]; exact rdN_has hw hn h
theorem rdT_one {D : List Int} {S a : Nat} (h : a + 1 ≤ S) : rdT D S a 1 = (bitD D a).toNat := by
  rw [rdT, if_pos h, rdN, rdN, Nat.zero_mul, Nat.zero_add, Nat.add_zero]
theorem ones_yes {D : List Int} {S a k : Nat} (h : a + 1 ≤ S) (hb : bitD D a = true) : onesT D S (k + 1) a = ((onesT D S k (a + 1)).1 + 1, (onesT D S k (a + 1)).2) := by
  rw [onesT, rdT_one h, hb, if_pos (by decide)]
theorem ones_no {D : List Int} {S a k : Nat} (hb : bitD D a = false) : onesT D S (k + 1) a = (0, a + 1) := by
  rw [onesT, if_neg]
  rw [rdT]; split
  · rw [rdN, rdN, Nat.add_zero, hb]; decide
  · decide
theorem puts_has {b F : BBE} {v : Int} {n : Nat} (h : GB b) (hx : ExB (puts v n b) F) : HasB F.1 b.2 v n ∧ b.2 + n ≤ F.2 := by
  have hle := hx.le
  rw [puts_sz] at hle
  exact ⟨(puts_gb h).2.2.ext hx (by rw [puts_sz]; exact Nat.le_refl _), hle⟩
theorem puts_ex {b F : BBE} {v : Int} {n : Nat} (h : GB b) (hx : ExB (puts v n b) F) : ExB b F := (puts_gb h).2.1.trans hx
theorem bendB_gb {b : BBE} {e : Int} (h : GB b) : GB (bendB b e) ∧ ExB b (bendB b e) := by
  have two : ∀ v q w k, GB (puts w k (puts v q b)) ∧ ExB b (puts w k (puts v q b)) := fun v q w k => ⟨(puts_gb (puts_gb h).1).1, (puts_gb h).2.1.trans (puts_gb (puts_gb h).1).2.1⟩
  simp only [bendB]
  split
  · exact ⟨(puts_gb h).1, (puts_gb h).2.1⟩
  repeat' split
  all_goals exact two _ _ _ _
theorem wrapu_i {x : Int} : IntKind.wrap .u64 (IntKind.wrap .i64 x) = IntKind.wrap .u64 x := by
  show (if (true && decide (x % 18446744073709551616 ≥ 9223372036854775808)) = true then x % 18446744073709551616 - 18446744073709551616 else x % 18446744073709551616) % 18446744073709551616 = x % 18446744073709551616
  split <;> omega
theorem wrapi_u {x : Int} : IntKind.wrap .i64 (IntKind.wrap .u64 x) = IntKind.wrap .i64 x := by
  rw [IntKind.wrap_i64, IntKind.wrap_i64, wrapu]; omega
theorem bend_rt {b F : BBE} {e : Int} (h : GB b) (hx : ExB (bendB b e) F) (he : -9223372036854775808 ≤ e ∧ e ≤ 9223372036854775807) : bendT F.1 F.2 b.2 = (e, (bendB b e).2) := by
  have small : ∀ (k n : Nat) (z : Int), n ≤ 64 → -9223372036854775808 ≤ z ∧ 0 ≤ z ∧ z < 4096 → z.toNat < 2 ^ n → ∀ a, HasB F.1 a (IntKind.wrap .i64 z) n → a + n ≤ F.2 → (rdT F.1 F.2 a n : Int) = z := by
    intro k n z hn hz hz2 a ha hle
    rw [rdT_has (b := b) ha (w := z.toNat) (by rw [wrapu_i, wrapu]; omega) hn hle, Nat.mod_eq_of_lt hz2]; omega
  rw [bendB] at hx ⊢
  by_cases c0 : e = 0
  · rw [if_pos c0] at hx ⊢
    obtain ⟨h1, h2⟩ := puts_has h hx
    have b0 : bitD F.1 b.2 = _ := h1 0 (by decide)
    have o : onesT F.1 F.2 4 b.2 = (0, b.2 + 1) := ones_no (b0.trans (by decide +kernel))
    rw [bendT, o, if_pos rfl, puts_sz, c0]
  rw [if_neg c0] at hx ⊢
  by_cases c1 : -63 ≤ e ∧ e ≤ 64
  · rw [if_pos c1] at hx ⊢
    obtain ⟨h1, h2⟩ := puts_has (puts_gb h).1 hx
    obtain ⟨h3, h4⟩ := puts_has h (puts_ex (puts_gb h).1 hx)
    rw [puts_sz] at h1 h2
    have b0 : bitD F.1 b.2 = _ := h3 0 (by decide)
    have b1 := h3 1 (by decide)
    have o : onesT F.1 F.2 4 b.2 = (1, b.2 + 2) := by rw [ones_yes (by omega) (b0.trans (by decide +kernel)), ones_no (b1.trans (by decide +kernel))]
    rw [bendT, o, if_neg (by simp), if_pos rfl, puts_sz, puts_sz, small 1 7 (e + 63) (by decide) (by omega) (by omega) _ h1 h2]
    simp only [Prod.mk.injEq, and_true]; omega
  rw [if_neg c1] at hx ⊢
  by_cases c2 : -255 ≤ e ∧ e ≤ 256
  · rw [if_pos c2] at hx ⊢
    obtain ⟨h1, h2⟩ := puts_has (puts_gb h).1 hx
    obtain ⟨h3, h4⟩ := puts_has h (puts_ex (puts_gb h).1 hx)
    rw [puts_sz] at h1 h2
    have b0 : bitD F.1 b.2 = _ := h3 0 (by decide)
    have b1 := h3 1 (by decide)
    have b2 := h3 2 (by decide)
    have o : onesT F.1 F.2 4 b.2 = (2, b.2 + 3) := by rw [ones_yes (by omega) (b0.trans (by decide +kernel)), ones_yes (by omega) (b1.trans (by decide +kernel)), ones_no (b2.trans (by decide +kernel))]
    rw [bendT, o, if_neg (by simp), if_neg (by simp), if_pos rfl, puts_sz, puts_sz, small 1 9 (e + 255) (by decide) (by omega) (by omega) _ h1 h2]
    simp only [Prod.mk.injEq, and_true]; omega
  rw [if_neg c2] at hx ⊢
  by_cases c3 : -2047 ≤ e ∧ e ≤ 2048
  · rw [if_pos c3] at hx ⊢
    obtain ⟨h1, h2⟩ := puts_has (puts_gb h).1 hx
    obtain ⟨h3, h4⟩ := puts_has h (puts_ex (puts_gb h).1 hx)
    rw [puts_sz] at h1 h2
    have b0 : bitD F.1 b.2 = _ := h3 0 (by decide)
    have b1 := h3 1 (by decide)
    have b2 := h3 2 (by decide)
    have b3 := h3 3 (by decide)
    have o : onesT F.1 F.2 4 b.2 = (3, b.2 + 4) := by rw [ones_yes (by omega) (b0.trans (by decide +kernel)), ones_yes (by omega) (b1.trans (by decide +kernel)), ones_yes (by omega) (b2.trans (by decide +kernel)), ones_no (b3.trans (by decide +kernel))]
    rw [bendT, o, if_neg (by simp), if_neg (by simp), if_neg (by simp), if_pos rfl, puts_sz, puts_sz, small 1 12 (e + 2047) (by decide) (by omega) (by omega) _ h1 h2]
    simp only [Prod.mk.injEq, and_true]; omega
  rw [if_neg c3] at hx ⊢
  obtain ⟨h1, h2⟩ := puts_has (puts_gb h).1 hx
  obtain ⟨h3, h4⟩ := puts_has h (puts_ex (puts_gb h).1 hx)
  rw [puts_sz] at h1 h2
  have b0 : bitD F.1 b.2 = _ := h3 0 (by decide)
  have b1 := h3 1 (by decide)
  have b2 := h3 2 (by decide)
  have b3 := h3 3 (by decide)
  have o : onesT F.1 F.2 4 b.2 = (4, b.2 + 4) := by rw [ones_yes (by omega) (b0.trans (by decide +kernel)), ones_yes (by omega) (b1.trans (by decide +kernel)), ones_yes (by omega) (b2.trans (by decide +kernel)), ones_yes (by omega) (b3.trans (by decide +kernel))]; rfl
  obtain ⟨w, hw⟩ : ∃ w : Nat, IntKind.wrap .u64 e = (w : Int) := ⟨(e % 18446744073709551616).toNat, by rw [wrapu]; omega⟩
  rw [bendT, o, if_neg (by simp), if_neg (by simp), if_neg (by simp), if_neg (by simp), puts_sz, puts_sz, rdT_has (b := b) h1 hw (by decide) h2]
  have hw2 : w < 2 ^ 64 := by rw [wrapu] at hw; omega
  rw [Nat.mod_eq_of_lt hw2, ← hw, wrapi_u, i64_ok he.1 he.2]
theorem lz_lt {y : Nat} (h0 : y ≠ 0) (h : y < 18446744073709551616) : y < 2 ^ (64 - lzN y) := by
  have := log2_le h0 h
  rw [lzN, show 64 - (63 - Nat.log2 y) = Nat.log2 y + 1 by omega]
  exact Nat.lt_log2_self
theorem tz_dvd {y t : Nat} (h0 : y ≠ 0) (h : y < 18446744073709551616) (ht : t ≤ tzN y) : y / 2 ^ t * 2 ^ t = y := by
  have h2 : y % 2 ^ t = 0 := by
    apply Nat.eq_of_testBit_eq
    intro j
    rw [Nat.testBit_mod_two_pow, Nat.zero_testBit]
    by_cases hj : j < t
    · rw [(tz_spec h0 h).2.2 j (by omega), Bool.and_false]
    · rw [decide_eq_false hj, Bool.false_and]
  exact Nat.div_mul_cancel (Nat.dvd_of_mod_eq_zero h2)
theorem valB_gb {b : BBE} {st : FRE} {y : Nat} (h : GB b) : GB (valB b st y).1 ∧ ExB b (valB b st y).1 := by
  have two : ∀ v q w k, GB (puts w k (puts v q b)) ∧ ExB b (puts w k (puts v q b)) := fun v q w k => ⟨(puts_gb (puts_gb h).1).1, (puts_gb h).2.1.trans (puts_gb (puts_gb h).1).2.1⟩
  simp only [valB]
  split
  · exact ⟨(puts_gb h).1, (puts_gb h).2.1⟩
  split
  · exact two _ _ _ _
  · obtain ⟨h1, h2⟩ := two 3 2 (lzN y : Int) 6
    exact ⟨(puts_gb (puts_gb h1).1).1, (h2.trans (puts_gb h1).2.1).trans (puts_gb (puts_gb h1).1).2.1⟩
theorem val_rt {b F : BBE} {st : FRE} {y : Nat} {imp : Bool} (h : GB b) (hx : ExB (valB b st y).1 F) (hs : FrOK st) (hy : y < 18446744073709551616) : valT imp F.1 F.2 b.2 st = some (y, (valB b st y).2, (valB b st y).1.2) := by
  simp only [FrOK] at hs
  rw [valB] at hx ⊢
  by_cases c0 : y = 0
  · rw [if_pos c0] at hx ⊢
    obtain ⟨h1, h2⟩ := puts_has h hx
    have b0 : bitD F.1 b.2 = _ := h1 0 (by decide)
    have o : onesT F.1 F.2 2 b.2 = (0, b.2 + 1) := ones_no (b0.trans (by decide +kernel))
    rw [valT, o, if_pos rfl, puts_sz, c0]
  rw [if_neg c0] at hx ⊢
  have hlt := lz_lt c0 hy
  by_cases c1 : frB st y = true
  · rw [if_pos c1] at hx ⊢
    rw [oldB] at hx ⊢
    obtain ⟨h1, h2⟩ := puts_has (puts_gb h).1 hx
    obtain ⟨h3, h4⟩ := puts_has h (puts_ex (puts_gb h).1 hx)
    rw [puts_sz] at h1 h2
    have b0 : bitD F.1 b.2 = _ := h3 0 (by decide)
    have b1 := h3 1 (by decide)
    have o : onesT F.1 F.2 2 b.2 = (1, b.2 + 2) := by rw [ones_yes (by omega) (b0.trans (by decide +kernel)), ones_no (b1.trans (by decide +kernel))]
    obtain ⟨p, rfl⟩ : ∃ p, st = some p := by cases st with | none => simp [frB] at c1 | some p => exact ⟨p, rfl⟩
    obtain ⟨ld, tr⟩ := p
    simp only [frB, Bool.and_eq_true, decide_eq_true_eq] at c1
    simp only [leadN, trailN, Option.getD_some] at h1 h2 hs ⊢
    have hd := tz_dvd c0 hy c1.2
    have hq : y / 2 ^ tr < 2 ^ (64 - ld - tr) := by
      refine (Nat.div_lt_iff_lt_mul (Nat.pos_of_ne_zero (by simp))).2 ?_
      rw [← Nat.pow_add, show 64 - ld - tr + tr = 64 - ld by omega]
      exact Nat.lt_of_lt_of_le hlt (Nat.pow_le_pow_right (by decide) (by omega))
    have hq2 : y / 2 ^ tr < 18446744073709551616 := Nat.lt_of_le_of_lt (Nat.div_le_self _ _) hy
    have hr := rdT_has (b := b) h1 (w := y / 2 ^ tr) (by rw [wrapu_i]; exact wrapu_nat hq2) (by omega) h2
    rw [Nat.mod_eq_of_lt hq] at hr
    rw [valT, o, if_neg (by simp), if_pos rfl, if_pos (by simp)]
    simp only [leadN, trailN, Option.getD_some]
    rw [hr, hd, puts_sz, puts_sz]
  · rw [if_neg c1] at hx ⊢
    rw [newB] at hx ⊢
    have g1 := puts_gb (v := 3) (n := 2) h
    have g2 := puts_gb (v := (lzN y : Int)) (n := 6) g1.1
    have g3 := puts_gb (v := ((64 - lzN y - tzN y - 1 : Nat) : Int)) (n := 6) g2.1
    obtain ⟨h1, h2⟩ := puts_has g3.1 hx
    have x3 := puts_ex g3.1 hx
    obtain ⟨h3, h4⟩ := puts_has g2.1 x3
    have x2 := puts_ex g2.1 x3
    obtain ⟨h5, h6⟩ := puts_has g1.1 x2
    obtain ⟨h7, h8⟩ := puts_has h (puts_ex g1.1 x2)
    simp only [puts_sz] at h1 h2 h3 h4 h5 h6 h7 h8 ⊢
    have b0 : bitD F.1 b.2 = _ := h7 0 (by decide)
    have b1 := h7 1 (by decide)
    have o : onesT F.1 F.2 2 b.2 = (2, b.2 + 2) := by rw [ones_yes (by omega) (b0.trans (by decide +kernel)), ones_yes (by omega) (b1.trans (by decide +kernel))]; rfl
    have hz := lz_tz c0 hy
    have r1 := rdT_has (b := b) h5 (w := lzN y) (wrapu_nat (by omega)) (by decide) h6
    have r2 := rdT_has (b := b) h3 (w := 64 - lzN y - tzN y - 1) (wrapu_nat (by omega)) (by decide) h4
    rw [Nat.mod_eq_of_lt (by omega)] at r1 r2
    have hd := tz_dvd c0 hy (Nat.le_refl _)
    have hq : y / 2 ^ tzN y < 2 ^ (64 - lzN y - tzN y) := by
      refine (Nat.div_lt_iff_lt_mul (Nat.pos_of_ne_zero (by simp))).2 ?_
      rw [← Nat.pow_add, show 64 - lzN y - tzN y + tzN y = 64 - lzN y by omega]
      exact hlt
    have hq2 : y / 2 ^ tzN y < 18446744073709551616 := Nat.lt_of_le_of_lt (Nat.div_le_self _ _) hy
    have r3 := rdT_has (b := b) h1 (w := y / 2 ^ tzN y) (by rw [wrapu_i]; exact wrapu_nat hq2) (by omega) h2
    rw [Nat.mod_eq_of_lt hq] at r3
    rw [valT, o, if_neg (by simp), if_neg (by simp)]
    simp only
    rw [r1, show b.2 + 2 + 6 = b.2 + 2 + 6 from rfl, r2, show 64 - lzN y - tzN y - 1 + 1 = 64 - lzN y - tzN y by omega, if_neg (by omega), show b.2 + 2 + 12 = b.2 + 2 + 6 + 6 by omega, r3, show 64 - lzN y - (64 - lzN y - tzN y) = tzN y by omega, hd]
theorem xorI_turn {a p : Int} (ha : -9223372036854775808 ≤ a ∧ a ≤ 9223372036854775807) : xorI p (turnN a p) = a := by
  have e : BitVec.ofInt 64 (IntKind.wrap .i64 (turnN a p : Int)) = BitVec.ofInt 64 a ^^^ BitVec.ofInt 64 p := by
    apply BitVec.eq_of_toNat_eq
    have := @turn_lt a p
    rw [BitVec.toNat_ofInt, IntKind.wrap_i64]
    have h2 : (BitVec.ofInt 64 a ^^^ BitVec.ofInt 64 p).toNat = turnN a p := rfl
    rw [h2]; omega
  show IntKind.wrap .i64 ((BitVec.ofInt 64 p ^^^ BitVec.ofInt 64 (IntKind.wrap .i64 (turnN a p : Int))).toNat : Int) = a
  rw [e, BitVec.xor_comm, BitVec.xor_assoc, BitVec.xor_self, BitVec.xor_zero, BitVec.toNat_ofInt, IntKind.wrap_i64]
  omega
theorem i64_rng {x : Int} : -9223372036854775808 ≤ IntKind.wrap .i64 x ∧ IntKind.wrap .i64 x ≤ 9223372036854775807 := by rw [IntKind.wrap_i64]; omega
def ValsOK (l : List SME) : Prop := ∀ i, i < l.length → -9223372036854775808 ≤ (l.getD i default).2.1 ∧ (l.getD i default).2.1 ≤ 9223372036854775807
theorem packR_gb {l : List SME} : ∀ d i b st step, GB b → GB (packR l d i b st step) ∧ ExB b (packR l d i b st step)
  | 0, _, b, _, _, h => ⟨h, ExB.refl⟩
  | d + 1, i, b, st, step, h => by
    rw [packR]
    split
    · have h1 := puts_gb (v := (l.getD i default).1) (n := 40) h
      have h2 := puts_gb (v := (l.getD i default).2.1) (n := 64) h1.1
      obtain ⟨h3, h4⟩ := packR_gb (l := l) d (i + 1) _ st step h2.1
      exact ⟨h3, (h1.2.1.trans h2.2.1).trans h4⟩
    · obtain ⟨h1, h2⟩ := bendB_gb (e := bendI l i step) h
      obtain ⟨h3, h4⟩ := valB_gb (st := st) (y := turnI l i) h1
      obtain ⟨h5, h6⟩ := packR_gb (l := l) d (i + 1) _ (valB (bendB b (bendI l i step)) st (turnI l i)).2 (nowI l i) h3
      exact ⟨h5, (h2.trans h4).trans h6⟩
theorem samples_at {l : List SME} (h : samplesB l = true) {i : Nat} (hi : i < l.length) : 0 ≤ (l.getD i default).1 ∧ (l.getD i default).1 ≤ 1000000000000 := by
  simp only [samplesB, Bool.and_eq_true, List.all_eq_true, List.mem_range] at h
  have := (h.1 i hi).1
  simpa [timeB] using this
theorem take_next {α : Type} {l : List α} {i : Nat} {d : α} (h : i < l.length) : l.take (i + 1) = l.take i ++ [l.getD i d] := by
  rw [List.take_add_one, List.getD_eq_getElem?_getD, List.getElem?_eq_getElem h]; rfl
theorem take_getD {α : Type} {l : List α} {i j : Nat} {d : α} (h : j < i) : (l.take i).getD j d = l.getD j d := by
  rw [List.getD_eq_getElem?_getD, List.getD_eq_getElem?_getD, List.getElem?_take_of_lt h]
theorem unR_rt {l : List SME} {imp : Bool} (hg : samplesB l = true) (hv : ValsOK l) : ∀ d i b st step, i + d = l.length → GB b → FrOK st → (i ≤ 1 → step = 0) → (-1000000000000 ≤ step ∧ step ≤ 1000000000000) →
    unR imp (packR l d i b st step).1 (packR l d i b st step).2 d i b.2 st step (l.take i) = some (l, (packR l d i b st step).2) := by
  intro d
  induction d with
  | zero =>
    intro i b st step hi _ _ _ _
    rw [unR, packR, List.take_of_length_le (by omega)]
  | succ d ih =>
    intro i b st step hi hb hs h0 hstep
    have hlt : i < l.length := by omega
    have hle := (packR_gb (l := l) (d + 1) i b st step hb).2.le
    have ht := samples_at hg hlt
    rw [unR, if_neg (by omega)]
    by_cases e : i = 0
    · rw [if_pos e]
      have h1 := puts_gb (v := (l.getD i default).1) (n := 40) hb
      have h2 := puts_gb (v := (l.getD i default).2.1) (n := 64) h1.1
      have hF : packR l (d + 1) i b st step = packR l d (i + 1) (puts (l.getD i default).2.1 64 (puts (l.getD i default).1 40 b)) st step := by rw [packR, if_pos e]
      have hx := (packR_gb (l := l) d (i + 1) _ st step h2.1).2
      have := ih (i + 1) _ st step (by omega) h2.1 hs (fun _ => h0 (by omega)) hstep
      rw [hF]
      generalize packR l d (i + 1) (puts (l.getD i default).2.1 64 (puts (l.getD i default).1 40 b)) st step = F at this hx ⊢
      obtain ⟨k1, k2⟩ := puts_has h1.1 hx
      obtain ⟨k3, k4⟩ := puts_has hb (puts_ex h1.1 hx)
      rw [puts_sz] at k1 k2
      have r1 := rdT_has (b := b) k3 (w := (l.getD i default).1.toNat) (by rw [wrapu]; omega) (by decide) k4
      rw [Nat.mod_eq_of_lt (by omega)] at r1
      obtain ⟨w, hw⟩ : ∃ w : Nat, IntKind.wrap .u64 (l.getD i default).2.1 = (w : Int) := ⟨((l.getD i default).2.1 % 18446744073709551616).toNat, by rw [wrapu]; omega⟩
      have r2 := rdT_has (b := b) k1 hw (by decide) k2
      have hw2 : w < 2 ^ 64 := by rw [wrapu] at hw; omega
      have hr := hv i hlt
      rw [Nat.mod_eq_of_lt hw2] at r2
      rw [puts_sz, puts_sz, take_next (d := default) hlt] at this
      rw [r1, r2, ← hw, wrapi_u, i64_ok hr.1 hr.2, show (((l.getD i default).1.toNat : Nat) : Int) = (l.getD i default).1 by omega]
      exact this
    · rw [if_neg e]
      have hp := samples_at hg (show i - 1 < l.length by omega)
      obtain ⟨h1, h2⟩ := bendB_gb (e := bendI l i step) hb
      obtain ⟨h3, h4⟩ := valB_gb (st := st) (y := turnI l i) h1
      have hy : turnI l i < 18446744073709551616 := turn_lt
      have hF : packR l (d + 1) i b st step = packR l d (i + 1) (valB (bendB b (bendI l i step)) st (turnI l i)).1 (valB (bendB b (bendI l i step)) st (turnI l i)).2 (nowI l i) := by rw [packR, if_neg e]
      have hx := (packR_gb (l := l) d (i + 1) _ (valB (bendB b (bendI l i step)) st (turnI l i)).2 (nowI l i) h3).2
      have hnow : nowI l i = (l.getD i default).1 - (l.getD (i - 1) default).1 := i64_ok (by omega) (by omega)
      have this := ih (i + 1) _ (valB (bendB b (bendI l i step)) st (turnI l i)).2 (nowI l i) (by omega) h3 (valB_ok h1.ok hs hy).2.2 (fun h => absurd h (by omega)) (by rw [hnow]; omega)
      rw [hF]
      generalize packR l d (i + 1) (valB (bendB b (bendI l i step)) st (turnI l i)).1 (valB (bendB b (bendI l i step)) st (turnI l i)).2 (nowI l i) = F at this hx ⊢
      have hbend : -9223372036854775808 ≤ bendI l i step ∧ bendI l i step ≤ 9223372036854775807 := by
        rw [bendI]; split
        · exact i64_rng
        · exact i64_rng
      have hnext : IntKind.wrap .i64 (step + bendI l i step) = nowI l i := by
        rw [bendI]; split
        · rw [h0 (by omega), Int.zero_add, nowI, i64_ok i64_rng.1 i64_rng.2]
        · rw [i64_ok (x := nowI l i - step) (by omega) (by omega), show step + (nowI l i - step) = nowI l i by omega, i64_ok (by omega) (by omega)]
      rw [bend_rt hb (h4.trans hx) hbend, val_rt h1 hx hs hy]
      simp only [nextT]
      rw [hnext, take_getD (by omega), hnow, show (l.getD (i - 1) default).1 + ((l.getD i default).1 - (l.getD (i - 1) default).1) = (l.getD i default).1 by omega, i64_ok (x := (l.getD i default).1) (by omega) (by omega), turnI, xorI_turn (hv i hlt)]
      rw [take_next (d := default) hlt, hnow, turnI] at this
      exact this
theorem gb0 : GB ([], 0) := ⟨rfl, fun j => by simp, fun i _ => by simp [bitD]⟩
theorem unF_rt {l : List SME} {imp : Bool} (hg : samplesB l = true) (hv : ValsOK l) (hl : l.length ≤ 120) : unF imp (packV l).1 (packV l).2 = some (l, (packV l).2) := by
  have g := puts_gb (v := (l.length : Int)) (n := 8) gb0
  have := unR_rt (imp := imp) hg hv l.length 0 _ none 0 (by omega) g.1 (by simp [FrOK, leadN, trailN]) (fun _ => rfl) (by decide)
  have hx := (packR_gb (l := l) l.length 0 _ none 0 g.1).2
  rw [← packV] at this hx
  obtain ⟨k1, k2⟩ := puts_has gb0 hx
  have r := rdT_has (b := ([], 0)) k1 (w := l.length) (wrapu_nat (by omega)) (by decide) k2
  rw [Nat.mod_eq_of_lt (by omega)] at r
  rw [unF]
  have r : rdT (packV l).1 (packV l).2 0 8 = l.length := r
  rw [r]
  rw [puts_sz] at this
  exact this
theorem valT_le {imp : Bool} {D : List Int} {S a : Nat} {st : FRE} {r : Nat × FRE × Nat} (h : valT imp D S a st = some r) : (onesT D S 2 a).2 ≤ r.2.2 := by
  simp only [valT] at h
  repeat' split at h
  all_goals first | (injection h with h; subst h; dsimp only; omega) | cases h
theorem unR_le {imp : Bool} {D : List Int} {S : Nat} {l : List SME} {z : Nat} : ∀ d i a st step out, unR imp D S d i a st step out = some (l, z) → a ≤ z ∧ (z ≤ S → l.length = out.length + d) ∧ (ValsOK out → ValsOK l)
  | 0, i, a, st, step, out, h => by
    rw [unR] at h
    injection h with h
    injection h with h1 h2
    subst h1 h2
    exact ⟨Nat.le_refl _, fun _ => rfl, id⟩
  | d + 1, i, a, st, step, out, h => by
    have app : ∀ x : SME, (-9223372036854775808 ≤ x.2.1 ∧ x.2.1 ≤ 9223372036854775807) → ValsOK out → ValsOK (out ++ [x]) := by
      intro x hx ho j hj
      rw [List.length_append, List.length_singleton] at hj
      rcases Nat.lt_or_ge j out.length with h1 | h1
      · have := ho j h1
        rw [List.getD_eq_getElem?_getD, List.getElem?_append_left h1, ← List.getD_eq_getElem?_getD]; exact this
      · obtain rfl : j = out.length := by omega
        rw [List.getD_eq_getElem?_getD, List.getElem?_append_right (Nat.le_refl _), Nat.sub_self]; exact hx
    rw [unR] at h
    by_cases e1 : S < a
    · rw [if_pos e1] at h
      injection h with h
      injection h with h1 h2
      subst h1 h2
      exact ⟨Nat.le_refl _, fun h => absurd h (by omega), id⟩
    rw [if_neg e1] at h
    by_cases e2 : i = 0
    · rw [if_pos e2] at h
      obtain ⟨k1, k2, k3⟩ := unR_le _ _ _ _ _ _ h
      exact ⟨by omega, fun hz => by rw [k2 hz, List.length_append, List.length_singleton]; omega, fun ho => k3 (app _ i64_rng ho)⟩
    rw [if_neg e2] at h
    cases hq : valT imp D S (bendT D S a).2 st with
    | none => rw [hq] at h; cases h
    | some r =>
      rw [hq] at h
      obtain ⟨k1, k2, k3⟩ := unR_le _ _ _ _ _ _ h
      have l1 := valT_le hq
      have l2 := bendT_le (D := D) (S := S) (a := a)
      have l3 := onesT_le (D := D) (S := S) (k := 4) (a := a)
      have l4 := onesT_le (D := D) (S := S) (k := 2) (a := (bendT D S a).2)
      exact ⟨by omega, fun hz => by rw [k2 hz, List.length_append, List.length_singleton]; omega, fun ho => k3 (app _ i64_rng ho)⟩
def ChunkOf (D : List Int) (S : Nat) (l : List SME) : Prop := samplesB l = true ∧ l.length ≤ 120 ∧ ValsOK l ∧ packV l = (D, S)
theorem chunkOf_un {D : List Int} {S : Nat} {l : List SME} (h : ChunkOf D S l) (imp : Bool) : unF imp D S = some (l, S) := by
  obtain ⟨h1, h2, h3, h4⟩ := h
  have := unF_rt (imp := imp) h1 h3 h2
  rwa [h4] at this
open Classical in
noncomputable def unV (D : List Int) (S : Nat) : List SME × Bool := if h : ∃ l, ChunkOf D S l then (h.choose, true) else ([], false)
theorem unV_yes {D : List Int} {S : Nat} {l : List SME} (h : ChunkOf D S l) : unV D S = (l, true) := by
  have hx : ∃ l, ChunkOf D S l := ⟨l, h⟩
  rw [unV, dif_pos hx]
  have := chunkOf_un hx.choose_spec true
  rw [chunkOf_un h true] at this
  injection this with this
  injection this with this
  rw [this]
theorem unV_no {D : List Int} {S : Nat} (h : ∀ l, ¬ ChunkOf D S l) : unV D S = ([], false) := by
  rw [unV, dif_neg (fun hx => h hx.choose hx.choose_spec)]
theorem eq_yes {n k : Nat} (h : decide ((n : Int) = (k : Int)) = true) : n = k := by have := of_decide_eq_true h; omega
theorem eq_no {n k : Nat} (h : decide ((n : Int) = (k : Int)) = false) : ¬ n = k := by have := of_decide_eq_false h; omega
theorem not_neg {n : Nat} : decide ((n : Int) < 0) = false := decide_eq_false (by omega)
theorem nn_nat {n : Nat} : decide (0 ≤ (n : Int)) = true := decide_eq_true (by omega)
theorem nn_wrapu {x : Int} : decide (0 ≤ IntKind.wrap .u64 x) = true := decide_eq_true (by rw [wrapu]; omega)
abbrev RSE := (List Int × Int × Unit) × Int × Bool × Unit
abbrev RS (D : List Int) (S a : Nat) : RSE := ((D, ((S : Int), ())), ((a : Int), (decide (a ≤ S), ())))
theorem unR_len {imp : Bool} {D : List Int} {S : Nat} {l : List SME} {z : Nat} : ∀ d i a st step out, unR imp D S d i a st step out = some (l, z) → l.length ≤ out.length + d
  | 0, i, a, st, step, out, h => by
    rw [unR] at h
    injection h with h
    injection h with h1 h2
    subst h1 h2
    exact Nat.le_refl _
  | d + 1, i, a, st, step, out, h => by
    rw [unR] at h
    by_cases e1 : S < a
    · rw [if_pos e1] at h
      injection h with h
      injection h with h1 h2
      subst h1 h2
      exact Nat.le_add_right _ _
    rw [if_neg e1] at h
    by_cases e2 : i = 0
    · rw [if_pos e2] at h
      have := unR_len _ _ _ _ _ _ h
      rw [List.length_append, List.length_singleton] at this; omega
    rw [if_neg e2] at h
    cases hq : valT imp D S (bendT D S a).2 st with
    | none => rw [hq] at h; cases h
    | some r =>
      rw [hq] at h
      have := unR_len _ _ _ _ _ _ h
      rw [List.length_append, List.length_singleton] at this; omega
theorem bit_tab : ∀ x : Nat, x < 256 → ∀ k : Nat, k < 8 → band .i64 (IntKind.wrap .i64 (shr .u8 (x : Int) ((7 - k : Nat) : Int))) 1 = ((decide (x / 2 ^ (7 - k) % 2 = 1)).toNat : Int) ∧ IntKind.wrap .u64 (band .u8 (shr .u8 (x : Int) ((7 - k : Nat) : Int)) 1) = ((decide (x / 2 ^ (7 - k) % 2 = 1)).toNat : Int) := by decide +kernel
theorem shl_tab : ∀ x : Nat, x < 256 → ∀ k : Nat, k < 8 → decide (shl .u8 (x : Int) (k : Int) = 0) = (List.range (8 - k)).all (fun j => !decide (x / 2 ^ (7 - (k + j)) % 2 = 1)) := by decide +kernel
theorem wrap_bit {b : Bool} : IntKind.wrap .u64 ((b.toNat : Nat) : Int) = ((b.toNat : Nat) : Int) := by cases b <;> rfl
theorem bor_shl {v : Nat} {b : Bool} (h : v < 9223372036854775808) : bor .u64 (shl .u64 (v : Int) 1) ((b.toNat : Nat) : Int) = ((v * 2 + b.toNat : Nat) : Int) := by
  have hb : b.toNat < 2 := by cases b <;> decide
  have e1 : shl .u64 (v : Int) 1 = ((v * 2 : Nat) : Int) := by
    show IntKind.wrap .u64 ((v : Int) * 2 ^ 1) = _
    rw [wrapu]; omega
  rw [e1]
  show IntKind.wrap .u64 ((BitVec.ofInt 64 ((v * 2 : Nat) : Int) ||| BitVec.ofInt 64 ((b.toNat : Nat) : Int)).toNat : Int) = _
  rw [BitVec.ofInt_natCast, BitVec.ofInt_natCast, BitVec.toNat_or, BitVec.toNat_ofNat, BitVec.toNat_ofNat, Nat.mod_eq_of_lt (by omega), Nat.mod_eq_of_lt (by omega)]
  have := Nat.two_pow_add_eq_or_of_lt (i := 1) (b := b.toNat) hb v
  rw [Nat.mul_comm v 2, show 2 * v ||| b.toNat = 2 * v + b.toNat by rw [show 2 * v = 2 ^ 1 * v by omega]; exact this.symm]
  exact wrapu_nat (by omega)
theorem wrap_mul {x c : Int} : IntKind.wrap .i64 (IntKind.wrap .i64 x * c) = IntKind.wrap .i64 (x * c) := by
  obtain ⟨k, hk⟩ : ∃ k : Int, IntKind.wrap .i64 x = x - k * 18446744073709551616 := ⟨(x + 9223372036854775808) / 18446744073709551616, by rw [IntKind.wrap_i64]; omega⟩
  rw [hk, Int.sub_mul, show k * 18446744073709551616 * c = k * c * 18446744073709551616 by rw [Int.mul_assoc, Int.mul_comm 18446744073709551616 c, ← Int.mul_assoc], IntKind.wrap_i64, IntKind.wrap_i64]
  omega
theorem wrap_mulu {x c : Int} : IntKind.wrap .u64 (IntKind.wrap .u64 x * c) = IntKind.wrap .u64 (x * c) := by
  obtain ⟨k, hk⟩ : ∃ k : Int, IntKind.wrap .u64 x = x - k * 18446744073709551616 := ⟨x / 18446744073709551616, by rw [wrapu]; omega⟩
  rw [hk, Int.sub_mul, show k * 18446744073709551616 * c = k * c * 18446744073709551616 by rw [Int.mul_assoc, Int.mul_comm 18446744073709551616 c, ← Int.mul_assoc], wrapu, wrapu]
  omega
theorem shl_i {r t : Nat} (ht : t ≤ 64) : shl .i64 (IntKind.wrap .i64 (r : Int)) (t : Int) = IntKind.wrap .i64 ((r * 2 ^ t : Nat) : Int) := by
  show IntKind.wrap .i64 (IntKind.wrap .i64 (r : Int) * 2 ^ (min (Int.toNat (t : Int)) 64)) = _
  rw [Int.toNat_natCast, Nat.min_eq_left ht, wrap_mul]; simp
theorem shl_u {r t : Nat} (ht : t ≤ 64) : IntKind.wrap .i64 (shl .u64 (IntKind.wrap .u64 (IntKind.wrap .i64 (r : Int))) (t : Int)) = IntKind.wrap .i64 ((r * 2 ^ t : Nat) : Int) := by
  show IntKind.wrap .i64 (IntKind.wrap .u64 (IntKind.wrap .u64 (IntKind.wrap .i64 (r : Int)) * 2 ^ (min (Int.toNat (t : Int)) 64))) = _
  rw [Int.toNat_natCast, Nat.min_eq_left ht, wrapu_i, wrap_mulu, wrapi_u]; simp
theorem byb_of {D : List Int} (h : ∀ x ∈ D, 0 ≤ x ∧ x < 256) : BYB D := fun j => by
  rcases Nat.lt_or_ge j D.length with hj | hj
  · exact h _ (getD_mem hj)
  · rw [List.getD_eq_getElem?_getD, List.getElem?_eq_none hj]; decide
theorem ofOcts_inj {a b : List Int} (ha : BYB a) (hb : BYB b) (h : ofOcts a = ofOcts b) : a = b := by
  have h : (a.map fun n => UInt8.ofNat n.toNat) = b.map fun n => UInt8.ofNat n.toNat := by
    have := congrArg (fun x : ByteArray => x.data.toList) h
    simpa [ofOcts] using this
  have hl : a.length = b.length := by simpa using congrArg List.length h
  refine ext_getD hl (d := default) fun j hj => ?_
  have h2 := congrArg (fun l => l[j]?) h
  simp only [List.getElem?_map, List.getElem?_eq_getElem hj, List.getElem?_eq_getElem (show j < a.length by omega), Option.map_some, Option.some.injEq] at h2
  have k1 := ha j; have k2 := hb j
  rw [List.getD_eq_getElem?_getD, List.getElem?_eq_getElem (show j < a.length by omega), Option.getD_some] at k1 ⊢
  rw [List.getD_eq_getElem?_getD, List.getElem?_eq_getElem hj, Option.getD_some] at k2 ⊢
  have h3 := congrArg UInt8.toNat h2
  simp only [UInt8.toNat_ofNat'] at h3
  omega
theorem all_same {α : Type} {p q : α → Bool} : ∀ {l : List α}, (∀ x, x ∈ l → p x = q x) → l.all p = l.all q
  | [], _ => rfl
  | a :: l, h => by rw [List.all_cons, List.all_cons, h a (List.mem_cons_self ..), all_same fun x hx => h x (List.mem_cons_of_mem _ hx)]
def tailB (D : List Int) (S : Nat) : Bool := (List.range (8 * D.length - S)).all fun j => !bitD D (S + j)
def goodBB (D : List Int) (S : Int) : Bool := decide (0 ≤ S) && decide (S ≤ 80000) && decide ((D.length : Int) = (S + 7) / 8) && tailB D S.toNat
noncomputable def upV (D : List Int) (S : Int) : List SME × Bool := if goodBB D S = true then unV D S.toNat else ([], false)
def cntV (r : List SME × Bool) : Int := if r.2 = true then (r.1.length : Int) else -1
/-- what unpacking comes to, of what the reader read -/
def finU (S : Nat) (r : Option (List SME × Nat)) : List SME × Bool := match r with | none => ([], false) | some p => (p.1, decide ((p.2 : Int) = (S : Int)))
theorem packV_by {l : List SME} : BYB (packV l).1 := (packR_gb (l := l) _ _ _ _ _ (puts_gb gb0).1).1.by_
theorem wf_byb {D : List Int} (h : Wf (.sl false (.int .u8)) D) : BYB D := byb_of fun x hx => by
  have h1 : IntKind.min .u8 ≤ x ∧ x ≤ IntKind.max .u8 := by have := h.2 x hx; simpa only [Wf, Lit.wf, Bool.and_eq_true, decide_eq_true_eq] using this
  have e1 : IntKind.min .u8 = 0 := by decide
  have e2 : IntKind.max .u8 = 255 := by decide
  omega
theorem upV_len {D : List Int} {S : Int} : (upV D S).1.length ≤ 120 := by
  rw [upV]
  split
  · rw [unV]
    split
    · rename_i h; exact h.choose_spec.2.1
    · exact Nat.zero_le _
  · exact Nat.zero_le _
theorem rd1_wrap {D : List Int} {S a k : Nat} (hk : k ≤ 62) : IntKind.wrap .i64 (rdT D S a k : Int) = (rdT D S a k : Int) := by
  have h := rdT_lt (D := D) (S := S) (a := a) (n := k)
  have h2 : (2 : Nat) ^ k ≤ 2 ^ 62 := Nat.pow_le_pow_right (by decide) hk
  exact i64_ok (by omega) (by omega)
theorem goodBB_of {D : List Int} {S : Int} (h : goodBB D S = true) : ∃ s : Nat, S = (s : Int) ∧ s ≤ 80000 ∧ D.length = (s + 7) / 8 := by
  simp only [goodBB, Bool.and_eq_true, decide_eq_true_eq] at h
  exact ⟨S.toNat, by omega, by omega, by omega⟩
theorem unF_rng {imp : Bool} {D : List Int} {S : Nat} {l : List SME} {z : Nat} (h : unF imp D S = some (l, z)) : l.length ≤ 256 ∧ ValsOK l ∧ (z ≤ S → l.length = rdT D S 0 8) := by
  have h1 := unR_len _ _ _ _ _ _ h
  have h2 := unR_le _ _ _ _ _ _ h
  have q := rdT_lt (D := D) (S := S) (a := 0) (n := 8)
  refine ⟨by simp at h1; omega, h2.2.2 fun j hj => absurd hj (Nat.not_lt_zero _), fun hz => by have := h2.2.1 hz; simpa using this⟩
noncomputable def apF (D : List Int) (S : Int) (s : SME) : BBE := if (upV D S).2 = true then chunkF ((upV D S).1 ++ [s]) else ([], 0)
abbrev CRE := List Int × Int × Int × Unit
def CurOK (code : List Int) (m : Int) (c : CRE) : Prop := c.1 = code ∧ 0 ≤ c.2.1 ∧ c.2.1 ≤ m
def CodeOK (code : List Int) : Prop := code.length ≤ 1048576 ∧ ∀ x ∈ code, 0 ≤ x ∧ x ≤ 255
theorem CurOK.up {code : List Int} {m m' : Int} {c : CRE} (h : CurOK code m c) (hm : m ≤ m') : CurOK code m' c := ⟨h.1, h.2.1, Int.le_trans h.2.2 hm⟩
theorem band255 {x : Int} : ∃ z : Nat, band .u64 x 255 = (z : Int) ∧ z ≤ 255 := by
  have h : (BitVec.ofInt 64 x &&& BitVec.ofInt 64 255).toNat ≤ 255 := by
    rw [BitVec.toNat_and]
    exact Nat.le_trans Nat.and_le_right (by decide)
  refine ⟨_, ?_, h⟩
  show IntKind.wrap .u64 ((BitVec.ofInt 64 x &&& BitVec.ofInt 64 255).toNat : Int) = _
  exact wrapu_nat (by omega)
theorem wrap_range {x : Int} : -9223372036854775808 ≤ IntKind.wrap .i64 x ∧ IntKind.wrap .i64 x ≤ 9223372036854775807 := by
  have e : IntKind.wrap .i64 x = (if (true && decide (x % 18446744073709551616 ≥ 9223372036854775808)) = true then x % 18446744073709551616 - 18446744073709551616 else x % 18446744073709551616) := rfl
  rw [e]
  split <;> rename_i h <;> simp only [Bool.true_and, decide_eq_true_eq, Bool.not_eq_true] at h <;> omega
def PickOK (code : List Int) (m k : Int) (r : Int × CRE) : Prop := 0 ≤ r.1 ∧ r.1 ≤ 65535 ∧ (1 ≤ k → r.1 < k) ∧ CurOK code m r.2
/-- any int64 -/
def InR (x : Int) : Prop := -9223372036854775808 ≤ x ∧ x ≤ 9223372036854775807
def VR (l : List SME) : Prop := ∀ x ∈ l, InR x.2.1
theorem VR.vals {l : List SME} (h : VR l) : ValsOK l := fun i hi => h _ (getD_mem hi)
theorem VR.app {l m : List SME} (h : VR l) (h' : VR m) : VR (l ++ m) := fun x hx => by
  rcases List.mem_append.1 hx with hx | hx
  · exact h x hx
  · exact h' x hx
theorem VR.one {x : SME} (h : InR x.2.1) : VR [x] := fun y hy => by rw [List.mem_singleton.1 hy]; exact h
theorem VR.set {l : List SME} {i : Nat} {x : SME} (h : VR l) (hx : InR x.2.1) : VR (l.set i x) := fun y hy => by
  rcases List.mem_or_eq_of_mem_set hy with hy | rfl
  · exact h y hy
  · exact hx
theorem VR.at {l : List SME} (h : VR l) (i : Nat) : InR (l.getD i default).2.1 := by
  rcases Nat.lt_or_ge i l.length with hi | hi
  · exact h _ (getD_mem hi)
  · rw [List.getD_eq_getElem?_getD, List.getElem?_eq_none hi]; exact ⟨by decide, by decide⟩
theorem wrapR {x : Int} : InR (IntKind.wrap .i64 x) := wrap_range
theorem shrR {x y : Int} (h : InR x) : InR (shr .i64 x y) := by
  show InR (Int.fdiv x (2 ^ (min y.toNat 64)))
  obtain ⟨d, hd⟩ : ∃ d : Nat, (2 : Int) ^ (min y.toNat 64) = (d : Int) ∧ 1 ≤ d := ⟨2 ^ (min y.toNat 64), by simp, Nat.one_le_two_pow⟩
  rw [hd.1, Int.fdiv_eq_ediv_of_nonneg _ (by omega)]
  have h1 : (d : Int) ≠ 0 := by omega
  have h2 := Int.emod_nonneg x h1
  have h3 := Int.emod_lt_of_pos x (show (0 : Int) < d by omega)
  have h4 := Int.mul_ediv_add_emod x d
  obtain ⟨h5, h6⟩ := h
  have pos : (1 : Int) ≤ d := by omega
  generalize x / (d : Int) = q at *
  constructor
  · by_cases hq : q < -9223372036854775808
    · have : (d : Int) * q ≤ 1 * q := Int.mul_le_mul_of_nonpos_right pos (by omega)
      have e : (d : Int) * q = x - x % d := by omega
      have : (d : Int) * q ≤ (d : Int) * (-9223372036854775809) := Int.mul_le_mul_of_nonneg_left (by omega) (by omega)
      omega
    · omega
  · by_cases hq : 9223372036854775807 < q
    · have : 1 * q ≤ (d : Int) * q := Int.mul_le_mul_of_nonneg_right pos (by omega)
      omega
    · omega
def stL (s v : Int) (n : Nat) : List SME := (List.range n).map fun (i : Nat) => ((i : Int) * s, (v, ()))
theorem stL_len {s v : Int} {n : Nat} : (stL s v n).length = n := by simp [stL]
theorem stL_get {s v : Int} {n i : Nat} (h : i < n) : (stL s v n).getD i default = ((i : Int) * s, (v, ())) := by
  rw [List.getD_eq_getElem?_getD, stL, List.getElem?_map, List.getElem?_range h]; rfl
theorem stL_succ {s v : Int} {n : Nat} : stL s v (n + 1) = stL s v n ++ [((n : Int) * s, (v, ()))] := by simp [stL, List.range_succ]
theorem stL_size {s v : Int} (h0 : 1 ≤ s) (h1 : s ≤ 64) : (chunkF (stL s v 120)).2 = 358 := by
  have mono : ∀ i j : Nat, i ≤ j → (i : Int) * s ≤ (j : Int) * s := fun i j h => Int.mul_le_mul_of_nonneg_right (by omega) (by omega)
  have top : ∀ i : Nat, i < 120 → 0 ≤ (i : Int) * s ∧ (i : Int) * s ≤ 7680 := fun i hi => by
    have a := mono 0 i (Nat.zero_le _)
    have b := mono i 120 (by omega)
    rw [show ((0 : Nat) : Int) * s = 0 by simp] at a
    have : ((120 : Nat) : Int) * s ≤ 120 * 64 := Int.mul_le_mul_of_nonneg_left h1 (by decide)
    omega
  have stepE : ∀ i : Nat, ((i + 1 : Nat) : Int) * s = (i : Int) * s + s := fun i => by rw [Int.natCast_add, Int.add_mul]; simp
  have hg : samplesB (stL s v 120) = true := by
    rw [samplesB, stL_len, Bool.and_eq_true]
    refine ⟨List.all_eq_true.2 fun i hi => ?_, by decide⟩
    have hi := List.mem_range.1 hi
    have ht := top i hi
    rw [stL_get hi, Bool.and_eq_true, timeB, Bool.and_eq_true, decide_eq_true_eq, decide_eq_true_eq]
    refine ⟨⟨ht.1, Int.le_trans ht.2 (by decide)⟩, ?_⟩
    rw [Bool.not_eq_true', Bool.and_eq_false_iff, decide_eq_false_iff_not, decide_eq_false_iff_not]
    by_cases h : 0 < i
    · right
      rw [stL_get (by omega)]
      have := stepE (i - 1)
      rw [show i - 1 + 1 = i by omega] at this
      show ¬ (i : Int) * s ≤ ((i - 1 : Nat) : Int) * s
      omega
    · left; exact h
  have hnow : ∀ i, 1 ≤ i → i < 120 → nowI (stL s v 120) i = s := fun i h1 h2 => by
    have := stepE (i - 1)
    rw [show i - 1 + 1 = i by omega] at this
    rw [nowI, stL_get h2, stL_get (by omega)]
    show IntKind.wrap .i64 ((i : Int) * s - ((i - 1 : Nat) : Int) * s) = s
    rw [show (i : Int) * s - ((i - 1 : Nat) : Int) * s = s by omega, i64_ok (by omega) (by omega)]
  have hturn : ∀ i, 1 ≤ i → i < 120 → turnI (stL s v 120) i = 0 := fun i h1 h2 => by
    rw [turnI, stL_get h2, stL_get (by omega), turnN, BitVec.xor_self]; rfl
  have rest : ∀ d i b st, i + d = 120 → 2 ≤ i → (packR (stL s v 120) d i b st s).2 = b.2 + 2 * d := by
    intro d
    induction d with
    | zero => intro i b st _ _; rfl
    | succ d ih =>
      intro i b st hi h2
      have hb : bendI (stL s v 120) i s = 0 := by rw [bendI, if_neg (by omega), hnow i (by omega) (by omega), Int.sub_self]; rfl
      rw [packR, if_neg (by omega), hb, hturn i (by omega) (by omega), hnow i (by omega) (by omega), ih (i + 1) _ _ (by omega) (by omega), valB, if_pos rfl]
      simp only [puts_sz, bendB, if_true]
      omega
  have e : chunkF (stL s v 120) = packV (stL s v 120) := by rw [chunkF, hg, stL_len, if_pos (by decide)]
  have hb : bendI (stL s v 120) 1 0 = s := by rw [bendI, if_pos rfl, hnow 1 (by omega) (by omega)]
  have key : ∀ n, n = 118 + 1 + 1 → ∀ b : BBE, b.2 = 8 → (packR (stL s v 120) n 0 b none 0).2 = 358 := by
    rintro n rfl b hb8
    rw [packR, if_pos rfl, packR, if_neg (by decide), Nat.zero_add, hb, hturn 1 (by omega) (by omega), hnow 1 (by omega) (by omega), rest 118 (1 + 1) _ _ (by omega) (by omega), valB, if_pos rfl, bendB, if_neg (by omega), if_pos (by omega)]
    simp only [puts_sz, hb8]
  rw [e, packV, stL_len]
  exact key 120 rfl _ (by rw [puts_sz])
theorem pack_good {l : List SME} (hl : l.length ≤ 120) : goodBB (packV l).1 ((packV l).2 : Int) = true := by
  have g := (packR_gb (l := l) l.length 0 _ none 0 (puts_gb (v := (l.length : Int)) (n := 8) gb0).1).1
  have sz := (packR_ok (l := l) l.length 0 (puts (l.length : Int) 8 ([], 0)) none 0 (puts_ok rfl) (by simp [FrOK, leadN, trailN])).2
  rw [puts_sz] at sz
  rw [← packV] at g sz
  have ok : (packV l).1.length = _ := g.ok
  have hm : 150 * l.length ≤ 18000 := by omega
  rw [goodBB, decide_eq_true (show (0 : Int) ≤ ((packV l).2 : Int) by omega), decide_eq_true (show ((packV l).2 : Int) ≤ 80000 by simp only at sz; omega), decide_eq_true (show (((packV l).1.length : Nat) : Int) = (((packV l).2 : Int) + 7) / 8 by rw [ok]; omega), Int.toNat_natCast]
  rw [tailB, Bool.true_and, Bool.true_and, Bool.true_and, List.all_eq_true]
  intro j _
  rw [g.z _ (by omega)]; rfl
theorem upV_pack {l : List SME} (hg : samplesB l = true) (hv : ValsOK l) (hl : l.length ≤ 120) : upV (packV l).1 ((packV l).2 : Int) = (l, true) := by
  rw [upV, if_pos (pack_good hl), Int.toNat_natCast]
  exact unV_yes ⟨hg, hl, hv, rfl⟩
theorem samples_take {l : List SME} {k : Nat} (h : samplesB l = true) : samplesB (l.take k) = true := by
  simp only [samplesB, Bool.and_eq_true, List.all_eq_true, List.mem_range, decide_eq_true_eq] at h ⊢
  refine ⟨fun i hi => ?_, by rw [List.length_take]; omega⟩
  rw [List.length_take] at hi
  have := h.1 i (by omega)
  rw [take_getD (by omega), take_getD (by omega)]
  exact this
theorem spec_l1Cur__next.ev (code : List Int) (hc : CodeOK code) (m : Int) (hm : m ≤ 1000000) (c : CRE) (h : CurOK code m c) : EvP (fun n => spec_l1Cur__next n c) (fun (r : Int × CRE) => 0 ≤ r.1 ∧ r.1 ≤ 255 ∧ CurOK code (m + 1) r.2) := by
  obtain ⟨h1, h2, h3⟩ := h
  have p5 : ∀ y, 0 ≤ y → y ≤ 255 → EvP (fun n => goRec spec_l1Cur__next.step n (spec_l1Cur__next.Pt.p5 y c.1 c.2.1 c.2.2.1)) (fun (r : Int × CRE) => 0 ≤ r.1 ∧ r.1 ≤ 255 ∧ CurOK code (m + 1) r.2) := by
    intro y hy hy2
    have e : IntKind.wrap .i64 (c.2.1 + 1) = c.2.1 + 1 := i64_ok (by omega) (by omega)
    have cur : ∀ s : Int, CurOK code (m + 1) (c.1, c.2.1 + 1, s, ()) := fun s => ⟨h1, by show 0 ≤ c.2.1 + 1; omega, by show c.2.1 + 1 ≤ m + 1; omega⟩
    refine EvP.step ?_
    simp only [spec_l1Cur__next.step, e]
    refine EvP.cnd (fun _ => EvP.pure ⟨hy, hy2, cur _⟩) fun _ => EvP.pure ?_
    obtain ⟨z, hz, hz2⟩ := @band255 (shr .u64 (IntKind.wrap .u64 (IntKind.wrap .u64 (IntKind.wrap .u64 (6364136223846793005 * c.2.2.1) + IntKind.wrap .u64 y) + 1442695040888963407)) 40)
    refine ⟨?_, ?_, cur _⟩
    · show 0 ≤ IntKind.wrap .i64 (band .u64 _ 255)
      rw [hz, i64_id (by omega)]; omega
    · show IntKind.wrap .i64 (band .u64 _ 255) ≤ 255
      rw [hz, i64_id (by omega)]; omega
  refine EvP.step ?_
  simp only [spec_l1Cur__next.step]
  refine EvP.cnd (fun e => ?_) fun e => p5 0 (by omega) (by omega)
  have e : c.2.1 < (c.1.length : Int) := of_decide_eq_true e
  obtain ⟨i, hi⟩ : ∃ i : Nat, c.2.1 = (i : Int) := ⟨c.2.1.toNat, by omega⟩
  have hin : i < c.1.length := by omega
  refine EvP.yes (inB_of ⟨h2, e⟩) ?_
  have hx := hc.2 (c.1.getD i default) (by rw [← h1]; exact getD_mem hin)
  rw [hi, toNat_cast, ← hi, i64_ok (by omega) (by omega)]
  exact p5 _ hx.1 hx.2
theorem spec_l1Cur__pick.ev (code : List Int) (hc : CodeOK code) (m : Int) (hm : m ≤ 900000) (c : CRE) (k : Int) (h : CurOK code m c) : EvP (fun n => spec_l1Cur__pick n c k) (PickOK code (m + 2) k) := by
  refine EvP.step ?_
  simp only [spec_l1Cur__pick.step]
  refine EvP.cnd (fun e => EvP.pure ⟨Int.le_refl _, by show (0 : Int) ≤ 65535; decide, fun h1 => by show (0 : Int) < k; omega, h.up (by omega)⟩) fun e => ?_
  have e : 1 < k := by have := of_decide_eq_false e; omega
  have bnd : ∀ x : Int, 0 ≤ x → x ≤ 65535 → 0 ≤ Int.tmod x k ∧ Int.tmod x k ≤ 65535 ∧ Int.tmod x k < k := by
    intro x h0 h1
    rw [Int.tmod_eq_emod_of_nonneg h0]
    have a := Int.emod_nonneg x (show k ≠ 0 by omega)
    have b := Int.emod_lt_of_pos x (show 0 < k by omega)
    have d : x % k ≤ x := by
      obtain ⟨y, rfl⟩ := Int.eq_ofNat_of_zero_le h0
      obtain ⟨z, rfl⟩ := Int.eq_ofNat_of_zero_le (show 0 ≤ k by omega)
      have := Nat.mod_le y z
      rw [← Int.natCast_emod]
      omega
    omega
  refine EvP.bindP (spec_l1Cur__next.ev code hc m (by omega) c h) fun r5 h5 => ?_
  obtain ⟨a5, b5, c5⟩ := h5
  have a5 : (0 : Int) ≤ r5.1 := a5
  have b5 : (r5.1 : Int) ≤ 255 := b5
  refine EvP.cnd (fun _ => ?_) fun _ => ?_
  · refine EvP.bindP (spec_l1Cur__next.ev code hc (m + 1) (by omega) r5.2 c5) fun r6 h6 => EvP.no (decide_eq_false (by omega)) (EvP.pure ?_)
    obtain ⟨a6, b6, c6⟩ := h6
    have a6 : (0 : Int) ≤ r6.1 := a6
    have b6 : (r6.1 : Int) ≤ 255 := b6
    have e1 : IntKind.wrap .i64 (IntKind.wrap .i64 (r5.1 * 256) + r6.1) = r5.1 * 256 + r6.1 := by
      rw [i64_ok (x := r5.1 * 256) (by omega) (by omega), i64_ok (by omega) (by omega)]
    have hb := bnd (r5.1 * 256 + r6.1) (by omega) (by omega)
    refine ⟨?_, ?_, fun _ => ?_, c6.up (by omega)⟩
    · show 0 ≤ Int.tmod (IntKind.wrap .i64 (IntKind.wrap .i64 (r5.1 * 256) + r6.1)) k
      rw [e1]; exact hb.1
    · show Int.tmod (IntKind.wrap .i64 (IntKind.wrap .i64 (r5.1 * 256) + r6.1)) k ≤ 65535
      rw [e1]; exact hb.2.1
    · show Int.tmod (IntKind.wrap .i64 (IntKind.wrap .i64 (r5.1 * 256) + r6.1)) k < k
      rw [e1]; exact hb.2.2
  · have hb := bnd r5.1 a5 (by omega)
    exact EvP.no (decide_eq_false (by omega)) (EvP.pure ⟨hb.1, hb.2.1, fun _ => hb.2.2, c5.up (by omega)⟩)
theorem spec_l1Many.ev (code : List Int) (hc : code.length ≤ 1048576) : EvP (fun n => spec_l1Many n code 8 90) (fun (r : Int) => 0 ≤ r ∧ r ≤ 90) := by
  have e : IntKind.wrap .i64 (Int.tdiv (code.length : Int) 8) = ((code.length / 8 : Nat) : Int) := by rw [tdiv8, i64_id (by omega)]
  refine EvP.step ?_
  simp only [spec_l1Many.step, e]
  exact EvP.no (by decide) (EvP.cnd (fun _ => EvP.pure ⟨by decide, by decide⟩) fun h => EvP.pure ⟨by omega, by have : ¬ (90 : Int) < ((code.length / 8 : Nat) : Int) := of_decide_eq_false h; omega⟩)
theorem spec_l1Cur__wide.ev (code : List Int) (hc : CodeOK code) (m : Int) (hm : m ≤ 900000) (c : CRE) (h : CurOK code m c) : EvP (fun n => spec_l1Cur__wide n c) (fun (r : Int × CRE) => InR r.1 ∧ CurOK code (m + 8) r.2) := by
  have loop : ∀ (d i : Nat) (m : Int) (c : CRE) (y : Int), i + d = 8 → m + d ≤ 950000 → InR y → CurOK code m c → EvP (fun n => goRec spec_l1Cur__wide.step n (spec_l1Cur__wide.Pt.p9 y (i : Int) c.1 c.2.1 c.2.2.1)) (fun (r : Int × CRE) => InR r.1 ∧ CurOK code (m + d) r.2) := by
    intro d
    induction d with
    | zero =>
      intro i m c y hi hm hy h
      refine EvP.step ?_
      simp only [spec_l1Cur__wide.step]
      exact EvP.no (decide_eq_false (by omega)) (EvP.pure ⟨hy, h.up (by omega)⟩)
    | succ d ih =>
      intro i m c y hi hm hy h
      refine EvP.step ?_
      simp only [spec_l1Cur__wide.step, i64_nat (show i ≤ 4611686018427387904 by omega)]
      refine EvP.yes (decide_eq_true (by omega)) (EvP.bindP (spec_l1Cur__next.ev code hc m (by omega) c h) fun r hr => ?_)
      exact (ih (i + 1) (m + 1) r.2 _ (by omega) (by omega) wrapR hr.2.2).imp fun q hq => ⟨hq.1, hq.2.up (by omega)⟩
  refine EvP.step ?_
  simp only [spec_l1Cur__wide.step]
  exact loop 8 0 m c 0 (by omega) (by omega) ⟨by decide, by decide⟩ h
theorem spec_l1Cur__one.ev (code : List Int) (hc : CodeOK code) (m : Int) (hm : m ≤ 900000) (c : CRE) (k : Int) (h : CurOK code m c) : EvP (fun n => spec_l1Cur__one n c k) (fun (r : _ × CRE) => CurOK code (m + 2) r.2) := by
  refine EvP.step ?_
  simp only [spec_l1Cur__one.step]
  exact EvP.bindP (spec_l1Cur__pick.ev code hc m hm c k h) fun r hr => EvP.pure hr.2.2.2
theorem spec_l1Cur__sized.ev (code : List Int) (hc : CodeOK code) (m : Int) (hm : m ≤ 800000) (c : CRE) (h : CurOK code m c) : EvP (fun n => spec_l1Cur__sized n c) (fun (r : Int × CRE) => InR r.1 ∧ CurOK code (m + 20) r.2) := by
  have p8 : ∀ (y : Int) (m' : Int) (c' : CRE), InR y → m' ≤ m + 16 → CurOK code m' c' → EvP (fun n => goRec spec_l1Cur__sized.step n (spec_l1Cur__sized.Pt.p8 y c'.1 c'.2.1 c'.2.2.1)) (fun (r : Int × CRE) => InR r.1 ∧ CurOK code (m + 20) r.2) := by
    intro y m' c' hy hm' h'
    refine EvP.step ?_
    simp only [spec_l1Cur__sized.step]
    exact EvP.bindP (spec_l1Cur__one.ev code hc m' (by omega) c' 3 h') fun r hr => EvP.cnd (fun _ => EvP.pure ⟨wrapR, hr.up (by omega)⟩) fun _ => EvP.pure ⟨hy, hr.up (by omega)⟩
  have pk : ∀ {k m : Int} {r : Int × CRE}, PickOK code m k r → InR r.1 := fun {k m r} h => ⟨Int.le_trans (by decide) h.1, Int.le_trans h.2.1 (by decide)⟩
  refine EvP.step ?_
  simp only [spec_l1Cur__sized.step]
  refine EvP.bindP (spec_l1Cur__pick.ev code hc m (by omega) c 5 h) fun r4 h4 => EvP.bindP (spec_l1Cur__pick.ev code hc (m + 2) (by omega) r4.2 8 h4.2.2.2) fun r5 h5 => ?_
  refine EvP.cnd (fun _ => EvP.bindP (spec_l1Cur__pick.ev code hc (m + 2 + 2) (by omega) r5.2 300 h5.2.2.2) fun r6 h6 => p8 _ _ _ (pk h6) (by omega) h6.2.2.2) fun _ => ?_
  refine EvP.cnd (fun _ => EvP.bindP (spec_l1Cur__wide.ev code hc (m + 2 + 2) (by omega) r5.2 h5.2.2.2) fun r6 h6 => EvP.bindP (spec_l1Cur__pick.ev code hc (m + 2 + 2 + 8) (by omega) r6.2 64 h6.2) fun r7 h7 => EvP.yes nn_wrapu (p8 _ _ _ (shrR h6.1) (by omega) h7.2.2.2)) fun _ => ?_
  refine EvP.cnd (fun _ => EvP.bindP (spec_l1Cur__pick.ev code hc (m + 2 + 2) (by omega) r5.2 64 h5.2.2.2) fun r6 h6 => EvP.yes nn_wrapu (p8 _ _ _ wrapR (by omega) h6.2.2.2)) fun _ => ?_
  exact EvP.cnd (fun _ => EvP.bindP (spec_l1Cur__pick.ev code hc (m + 2 + 2) (by omega) r5.2 64 h5.2.2.2) fun r6 h6 => EvP.yes nn_wrapu (p8 _ _ _ wrapR (by omega) h6.2.2.2)) fun _ => p8 _ _ _ (pk h4) (by omega) h5.2.2.2
theorem spec_l1Cur__valueBy.ev (code : List Int) (hc : CodeOK code) (m : Int) (hm : m ≤ 700000) (c : CRE) (last : Int) (hl : InR last) (h : CurOK code m c) : EvP (fun n => spec_l1Cur__valueBy n c last) (fun (r : Int × CRE) => InR r.1 ∧ CurOK code (m + 22) r.2) := by
  refine EvP.step ?_
  simp only [spec_l1Cur__valueBy.step]
  refine EvP.bindP (spec_l1Cur__pick.ev code hc m (by omega) c 10 h) fun r5 h5 => ?_
  have p9 : EvP (fun n => (spec_l1Cur__pick n (r5.2.1, r5.2.2) (9 : Int)).bind fun r6 => some ((IntKind.wrap .i64 ((IntKind.wrap .i64 (last + r6.1)) - (2 : Int))), (r6.2.1, r6.2.2))) (fun (r : Int × CRE) => InR r.1 ∧ CurOK code (m + 22) r.2) :=
    EvP.bindP (spec_l1Cur__pick.ev code hc (m + 2) (by omega) r5.2 9 h5.2.2.2) fun r6 h6 => EvP.pure ⟨wrapR, h6.2.2.2.up (by omega)⟩
  have same : EvP (fun _ => some (last, (r5.2.1, r5.2.2))) (fun (r : Int × CRE) => InR r.1 ∧ CurOK code (m + 22) r.2) := EvP.pure ⟨hl, h5.2.2.2.up (by omega)⟩
  refine EvP.cnd (fun _ => EvP.bindP (spec_l1Cur__sized.ev code hc (m + 2) (by omega) r5.2 h5.2.2.2) fun r6 h6 => EvP.pure ⟨h6.1, h6.2.up (by omega)⟩) fun _ => ?_
  have low : InR (-9223372036854775808) := ⟨by decide, by decide⟩
  refine EvP.cnd (fun _ => EvP.pure ⟨low, h5.2.2.2.up (by omega)⟩) fun _ => ?_
  exact EvP.cnd (fun _ => EvP.cnd (fun _ => same) fun _ => p9) fun _ => EvP.cnd (fun _ => same) fun _ => p9
theorem spec_l1Cur__samples.ev (code : List Int) (hc : CodeOK code) (m : Int) (hm : m ≤ 1000) (c : CRE) (t k : Int) (hk1 : 1 ≤ k) (hk : k ≤ 200) (h : CurOK code m c) : EvP (fun n => spec_l1Cur__samples n c t k) (fun (r : List SME × CRE) => VR r.1 ∧ r.1.length ≤ 200 ∧ CurOK code (m + 6006) r.2) := by
  have loop : ∀ (d : Nat) (m : Int) (c : CRE) (t v s : Int) (out : List SME), m + 30 * d ≤ 600000 → InR v → VR out → out.length + d ≤ 200 → CurOK code m c → EvP (fun n => goRec spec_l1Cur__samples.step n (spec_l1Cur__samples.Pt.p15 t v s (d : Int) c.1 c.2.1 c.2.2.1 out)) (fun (r : List SME × CRE) => VR r.1 ∧ r.1.length ≤ 200 ∧ CurOK code (m + 30 * d) r.2) := by
    intro d
    induction d with
    | zero =>
      intro m c t v s out hm hv ho hl h
      refine EvP.step ?_
      simp only [spec_l1Cur__samples.step]
      exact EvP.no (by decide) (EvP.pure ⟨ho, by show out.length ≤ 200; omega, h.up (by omega)⟩)
    | succ d ih =>
      intro m c t v s out hm hv ho hl h
      have p31 : ∀ (v' : Int) (s' : Int) (m' : Int) (c' : CRE), InR v' → m' ≤ m + 30 → CurOK code m' c' → EvP (fun n => goRec spec_l1Cur__samples.step n (spec_l1Cur__samples.Pt.p31 t v' s' ((d + 1 : Nat) : Int) c'.1 c'.2.1 c'.2.2.1 (out ++ [(t, (v', ()))]))) (fun (r : List SME × CRE) => VR r.1 ∧ r.1.length ≤ 200 ∧ CurOK code (m + 30 * (d + 1 : Nat)) r.2) := by
        intro v' s' m' c' hv' hm' h'
        refine EvP.step ?_
        simp only [spec_l1Cur__samples.step]
        rw [i64_ok (x := ((d + 1 : Nat) : Int) - 1) (by omega) (by omega), show ((d + 1 : Nat) : Int) - 1 = (d : Int) by omega]
        exact (ih (m + 30) c' _ v' s' _ (by omega) hv' (ho.app (VR.one hv')) (by simp; omega) (h'.up hm')).imp fun r hr => ⟨hr.1, hr.2.1, hr.2.2.up (by omega)⟩
      refine EvP.step ?_
      simp only [spec_l1Cur__samples.step]
      refine EvP.yes (decide_eq_true (by omega)) (EvP.bindP (spec_l1Cur__valueBy.ev code hc m (by omega) c v hv h) fun r11 h11 => EvP.yes (room_ok (by simp; omega)) (EvP.bindP (spec_l1Cur__pick.ev code hc (m + 22) (by omega) r11.2 12 h11.2) fun r12 h12 => ?_))
      refine EvP.cnd (fun _ => EvP.bindP (spec_l1Cur__pick.ev code hc (m + 22 + 2) (by omega) r12.2 400 h12.2.2.2) fun r13 h13 => p31 _ _ _ _ h11.1 (by omega) h13.2.2.2) fun _ => ?_
      refine EvP.cnd (fun _ => EvP.bindP (spec_l1Cur__pick.ev code hc (m + 22 + 2) (by omega) r12.2 5000 h12.2.2.2) fun r13 h13 => p31 _ _ _ _ h11.1 (by omega) h13.2.2.2) fun _ => ?_
      exact EvP.cnd (fun _ => EvP.bindP (spec_l1Cur__pick.ev code hc (m + 22 + 2) (by omega) r12.2 30 h12.2.2.2) fun r13 h13 => p31 _ _ _ _ h11.1 (by omega) h13.2.2.2) fun _ => p31 _ _ _ _ h11.1 (by omega) h12.2.2.2
  refine EvP.step ?_
  simp only [spec_l1Cur__samples.step]
  refine EvP.bindP (spec_l1Cur__pick.ev code hc m (by omega) c 100 h) fun r6 h6 => EvP.bindP (spec_l1Cur__pick.ev code hc (m + 2) (by omega) r6.2 15 h6.2.2.2) fun r7 h7 => EvP.bindP (spec_l1Cur__pick.ev code hc (m + 2 + 2) (by omega) r7.2 k h7.2.2.2) fun r8 h8 => ?_
  obtain ⟨z, c8⟩ := r8
  have z0 : @LE.le Int _ 0 z := h8.1
  have z1 : @LT.lt Int _ z k := h8.2.2.1 hk1
  obtain ⟨d, hd⟩ : ∃ d : Nat, z = (d : Int) := ⟨Int.toNat z, (Int.toNat_of_nonneg z0).symm⟩
  subst hd
  have hd : d ≤ 200 := by omega
  have v6 : InR r6.1 := ⟨Int.le_trans (by decide) h6.1, Int.le_trans h6.2.1 (by decide)⟩
  exact (loop d (m + 6) c8 t r6.1 _ [] (by omega) v6 (fun x hx => by cases hx) (by simp; omega) (h8.2.2.2.up (by omega))).imp fun r hr => ⟨hr.1, hr.2.1, hr.2.2.up (by omega)⟩
theorem spec_l1Cur__of2.ev (code : List Int) (hc : CodeOK code) (m : Int) (hm : m ≤ 900000) (c : CRE) (a b : Int) (h : CurOK code m c) : EvP (fun n => spec_l1Cur__of2 n c a b) (fun (r : _ × CRE) => CurOK code (m + 2) r.2) := by
  refine EvP.step ?_
  simp only [spec_l1Cur__of2.step]
  exact EvP.bindP (spec_l1Cur__one.ev code hc m hm c 2 h) fun r hr => EvP.cnd (fun _ => EvP.pure hr) fun _ => EvP.pure hr
theorem spec_l1Cur__oddSamples.ev (code : List Int) (hc : CodeOK code) (m : Int) (hm : m ≤ 10000) (c : CRE) (l : List SME) (hl : VR l) (hn : l.length ≤ 200) (h : CurOK code m c) : EvP (fun n => spec_l1Cur__oddSamples n c l) (fun (r : List SME × CRE) => VR r.1 ∧ r.1.length ≤ 201 ∧ CurOK code (m + 4) r.2) := by
  refine EvP.step ?_
  simp only [spec_l1Cur__oddSamples.step]
  refine EvP.bindP (spec_l1Cur__pick.ev code hc m (by omega) c 20 h) fun r5 h5 => ?_
  have same : EvP (fun _ => some (l, (r5.2.1, r5.2.2))) (fun (r : List SME × CRE) => VR r.1 ∧ r.1.length ≤ 201 ∧ CurOK code (m + 4) r.2) := EvP.pure ⟨hl, by show l.length ≤ 201; omega, h5.2.2.2.up (by omega)⟩
  refine EvP.cnd (fun _ => EvP.cnd (fun e => ?_) fun _ => same) fun _ => EvP.cnd (fun _ => ?_) fun _ => EvP.cnd (fun _ => EvP.cnd (fun e => ?_) fun _ => same) fun _ => same
  · have e : 1 < l.length := by have := of_decide_eq_true e; omega
    exact EvP.yes (inB_zero (by omega)) (EvP.yes (inB_of ⟨by decide, by omega⟩) (EvP.pure ⟨VR.set hl (hl.at 1), by simp; omega, h5.2.2.2.up (by omega)⟩))
  · refine EvP.bindP (spec_l1Cur__of2.ev code hc (m + 2) (by omega) r5.2 _ _ h5.2.2.2) fun r6 h6 => EvP.yes (room_ok (by simp; omega)) (EvP.pure ⟨hl.app (VR.one ?_), by simp; omega, h6.up (by omega)⟩)
    show InR (default : Int × Unit).1
    exact ⟨by decide, by decide⟩
  · have e : 0 < l.length := by have := of_decide_eq_true e; omega
    exact EvP.yes (inB_zero (by omega)) (EvP.pure ⟨VR.set hl (hl.at 0), by simp; omega, h5.2.2.2.up (by omega)⟩)
theorem spec_l1Cur__longSamples.ev (c : CRE) (k : Int) (h0 : 0 ≤ k) (h1 : k ≤ 200) : EvP (fun n => spec_l1Cur__longSamples n c k) (fun (r : List SME) => VR r ∧ r.length ≤ 200) := by
  have loop : ∀ (d i : Nat) (out : List SME), (i : Int) + d = k → out.length = i → VR out → EvP (fun n => goRec spec_l1Cur__longSamples.step n (spec_l1Cur__longSamples.Pt.p9 k (i : Int) out)) (fun (r : List SME) => VR r ∧ r.length ≤ 200) := by
    intro d
    induction d with
    | zero =>
      intro i out hi ho hv
      refine EvP.step ?_
      simp only [spec_l1Cur__longSamples.step]
      exact EvP.no (decide_eq_false (by omega)) (EvP.pure ⟨hv, by omega⟩)
    | succ d ih =>
      intro i out hi ho hv
      refine EvP.step ?_
      simp only [spec_l1Cur__longSamples.step, i64_nat (show i ≤ 4611686018427387904 by omega)]
      exact EvP.yes (decide_eq_true (by omega)) (EvP.yes (room_ok (by simp; omega)) (ih (i + 1) _ (by omega) (by simp; omega) (hv.app (VR.one wrapR))))
  refine EvP.step ?_
  simp only [spec_l1Cur__longSamples.step]
  exact loop k.toNat 0 [] (by omega) rfl (fun x hx => by cases hx)
theorem spec_DrawPackChunk.ev (code : List Int) (hc : CodeOK code) : EvP (fun n => spec_DrawPackChunk n code) (fun (r : List SME) => VR r ∧ r.length ≤ 1000) := by
  have p7 : ∀ (l : List SME) (m' : Int) (c' : CRE), VR l → l.length ≤ 201 → m' ≤ 10000 → CurOK code m' c' → EvP (fun n => goRec spec_DrawPackChunk.step n (spec_DrawPackChunk.Pt.p7 c'.1 c'.2.1 c'.2.2.1 l)) (fun (r : List SME) => VR r ∧ r.length ≤ 1000) := by
    intro l m' c' hl hn hm' h'
    refine EvP.step ?_
    simp only [spec_DrawPackChunk.step]
    refine EvP.bindP (spec_l1Cur__one.ev code hc m' (by omega) c' 12 h') fun r7 h7 => EvP.cnd (fun _ => EvP.bindP (spec_l1Cur__pick.ev code hc (m' + 2) (by omega) r7.2 2 h7) fun r8 h8 => EvP.pure ⟨?_, ?_⟩) fun _ => EvP.pure ⟨hl, by omega⟩
    · intro x hx
      simp only [Int.toNat_zero, Nat.sub_self, List.take_zero, List.nil_append, List.mem_cons, List.not_mem_nil, or_false] at hx
      rcases hx with rfl | rfl | rfl
      · exact ⟨by show (-9223372036854775808 : Int) ≤ 1; decide, by show (1 : Int) ≤ 9223372036854775807; decide⟩
      · exact ⟨by show (-9223372036854775808 : Int) ≤ 0; decide, by show (0 : Int) ≤ 9223372036854775807; decide⟩
      · exact ⟨by show (-9223372036854775808 : Int) ≤ -1; decide, by show (-1 : Int) ≤ 9223372036854775807; decide⟩
    · simp
  refine EvP.step ?_
  simp only [spec_DrawPackChunk.step]
  have h0 : CurOK code 0 (code, (default : Int × Int × Unit)) := ⟨rfl, by show (0 : Int) ≤ 0; decide, by show (0 : Int) ≤ 0; decide⟩
  refine EvP.bindP (spec_l1Cur__pick.ev code hc 0 (by omega) _ 50 h0) fun r4 h4 => EvP.bindP (spec_l1Many.ev code hc.1) fun r5 h5 => ?_
  have e : IntKind.wrap .i64 ((20 : Int) + r5) = 20 + r5 := i64_ok (by omega) (by omega)
  rw [e]
  refine EvP.bindP (spec_l1Cur__samples.ev code hc (0 + 2) (by omega) r4.2 _ (20 + r5) (by omega) (by omega) h4.2.2.2) fun r6 h6 => EvP.bindP (spec_l1Cur__oddSamples.ev code hc (0 + 2 + 6006) (by omega) r6.2 r6.1 h6.1 h6.2.1 h6.2.2) fun r7 h7 => EvP.bindP (spec_l1Cur__one.ev code hc (0 + 2 + 6006 + 4) (by omega) r7.2 30 h7.2.2) fun r8 h8 => EvP.cnd (fun _ => EvP.bindP (spec_l1Cur__pick.ev code hc (0 + 2 + 6006 + 4 + 2) (by omega) r8.2 3 h8) fun r9 h9 => ?_) fun _ => p7 _ _ _ h7.1 h7.2.1 (by omega) h8
  obtain ⟨z, c9⟩ := r9
  have z0 : @LE.le Int _ 0 z := h9.1
  have z1 : @LT.lt Int _ z 3 := h9.2.2.1 (by decide)
  have e : IntKind.wrap .i64 ((119 : Int) + z) = 119 + z := i64_ok (by omega) (by omega)
  refine EvP.bindP (Q := fun (r : List SME) => VR r ∧ r.length ≤ 1000) (R := fun (r : List SME) => VR r ∧ r.length ≤ 200) (f := fun n => spec_l1Cur__longSamples n (c9.1, c9.2) (IntKind.wrap .i64 ((119 : Int) + z))) (by rw [e]; exact spec_l1Cur__longSamples.ev _ _ (by omega) (by omega)) fun r10 h10 => ?_
  exact p7 _ _ c9 h10.1 (by omega) (by omega) h9.2.2.2
theorem impl_isTime.ev (b : Int) : Ev (fun n => impl_isTime n b) (timeB b) := by
  refine Ev.step ?_
  simp only [impl_isTime.step]
  exact Ev.cnd (fun h => Ev.pure' (by simp [timeB, h])) fun h => Ev.pure' (by simp [timeB, h])
theorem impl_GoodSamples.ev (l : List SME) (hl : l.length ≤ 1048576) : Ev (fun n => impl_GoodSamples n l) (samplesB l) := by
  refine Ev.step ?_
  simp only [impl_GoodSamples.step]
  refine Ev.cnd (fun c => Ev.pure' ?_) fun c => ?_
  · have c : ¬ l.length ≤ 2000 := by simp only [decide_eq_true_eq] at c; omega
    rw [samplesB, decide_eq_false c, Bool.and_false]
  have c : l.length ≤ 2000 := by simp only [decide_eq_false_iff_not] at c; omega
  rw [samplesB, decide_eq_true c]
  refine Ev.allK (pt := fun i : Nat => impl_GoodSamples.Pt.p15 l l (l.length : Int) (i : Int)) (fun i hi => ?_) (fun _ => ?_)
  · have fin : ∀ b, b = !(timeB (l.getD i default).1 && !(decide (0 < i) && decide ((l.getD i default).1 ≤ (l.getD (i - 1) default).1))) → ((timeB (l.getD i default).1 && !(decide (0 < i) && decide ((l.getD i default).1 ≤ (l.getD (i - 1) default).1))) = true → ∀ v, Ev (fun m => goRec impl_GoodSamples.step m (impl_GoodSamples.Pt.p15 l l (l.length : Int) ((i + 1 : Nat) : Int))) v → Ev (fun m => goRec impl_GoodSamples.step m (impl_GoodSamples.Pt.p26 l l (l.length : Int) (i : Int) b)) v) ∧
        ((timeB (l.getD i default).1 && !(decide (0 < i) && decide ((l.getD i default).1 ≤ (l.getD (i - 1) default).1))) = false → Ev (fun m => goRec impl_GoodSamples.step m (impl_GoodSamples.Pt.p26 l l (l.length : Int) (i : Int) b)) false) := by
      rintro b rfl
      refine ⟨fun h v hv => ?_, fun h => ?_⟩
      · refine Ev.step ?_
        simp only [impl_GoodSamples.step, i64_nat (show i ≤ 4611686018427387904 by omega)]
        exact Ev.no (by rw [h]; rfl) hv
      · refine Ev.step ?_
        simp only [impl_GoodSamples.step]
        exact Ev.yes (by rw [h]; rfl) Ev.pure
    have run : ∀ v, (∀ b, b = !(timeB (l.getD i default).1 && !(decide (0 < i) && decide ((l.getD i default).1 ≤ (l.getD (i - 1) default).1))) → Ev (fun m => goRec impl_GoodSamples.step m (impl_GoodSamples.Pt.p26 l l (l.length : Int) (i : Int) b)) v) → Ev (fun m => goRec impl_GoodSamples.step m (impl_GoodSamples.Pt.p15 l l (l.length : Int) (i : Int))) v := by
      intro v hv
      refine Ev.step ?_
      simp only [impl_GoodSamples.step, toNat_cast]
      refine Ev.yes (lt_yes hi) (Ev.yes (inB_nat hi) (Ev.bind (impl_isTime.ev _) (Ev.cnd (fun c => hv _ ?_) fun c => Ev.cnd (fun c2 => ?_) fun c2 => hv _ ?_)))
      · rw [Bool.not_eq_true'] at c; rw [c]; rfl
      · have c2 : 0 < i := by simp only [decide_eq_true_eq] at c2; omega
        rw [Bool.not_eq_false'] at c
        rw [pred_i64 (by omega) (by omega), toNat_cast]
        refine Ev.yes (inB_nat (by omega)) (hv _ ?_)
        rw [c, decide_eq_true c2]; simp
      · have c2 : ¬ 0 < i := by simp only [decide_eq_false_iff_not] at c2; omega
        rw [Bool.not_eq_false'] at c
        rw [c, decide_eq_false c2]; rfl
    exact ⟨fun h v hv => run v fun b hb => (fin b hb).1 h v hv, fun h => run false fun b hb => (fin b hb).2 h⟩
  · refine Ev.step ?_
    simp only [impl_GoodSamples.step]
    exact Ev.no lt_no Ev.pure
theorem impl_bitWriter__put.ev (b : BBE) (v : Int) (n : Nat) (hb : OKB b) (hn : n ≤ 64) (hs : b.2 + n ≤ 1000000) : Ev (fun m => impl_bitWriter__put m (b.1, (((b.2 : Nat) : Int), ())) v (n : Int)) (outB (puts v n b)) := by
  have key : ∀ k b, OKB b → k ≤ 64 → b.2 + k ≤ 1000000 → Ev (fun m => goRec impl_bitWriter__put.step m (impl_bitWriter__put.Pt.p4 v ((k : Int) - 1) ((b.2 : Nat) : Int) b.1)) (outB (puts v k b)) := by
    intro k
    induction k with
    | zero =>
      intro b hb _ hs
      refine Ev.step ?_
      simp only [impl_bitWriter__put.step]
      exact Ev.no (by decide) Ev.pure
    | succ k ih =>
      intro b hb hk hs
      have hg := growB_len hb
      have p13 : Ev (fun m => goRec impl_bitWriter__put.step m (impl_bitWriter__put.Pt.p13 v (k : Int) ((b.2 : Nat) : Int) (growB b))) (outB (puts v (k + 1) b)) := by
        refine Ev.step ?_
        simp only [impl_bitWriter__put.step, tmod8, tdiv8, i64_id (show b.2 / 8 ≤ 4611686018427387904 by omega), toNat_cast, Nat.zero_add, i64_nat (show b.2 ≤ 4611686018427387904 by omega)]
        have hi : ∀ y : BBE, y = put1 b (bitAt v k) → Ev (fun m => goRec impl_bitWriter__put.step m (impl_bitWriter__put.Pt.p4 v (IntKind.wrap .i64 ((k : Int) - 1)) ((b.2 + 1 : Nat) : Int) y.1)) (outB (puts v (k + 1) b)) := by
          rintro y rfl
          rw [i64_ok (by omega) (by omega)]
          exact ih (put1 b (bitAt v k)) (put1_ok hb) (by omega) (by show b.2 + 1 + k ≤ 1000000; omega)
        refine Ev.yes (by simp only [decide_eq_true_eq]; omega) (Ev.cnd (fun c => ?_) fun c => ?_)
        · refine Ev.yes (inB_nat (by omega)) (Ev.yes (by simp only [decide_eq_true_eq]; omega) (Ev.yes (inB_nat (by omega)) ?_))
          exact hi (_, b.2 + 1) (by rw [put1, show bitAt v k = true from c, if_pos rfl])
        · exact hi (growB b, b.2 + 1) (by rw [put1, show bitAt v k = false from c, if_neg (by simp)])
      refine Ev.step ?_
      simp only [impl_bitWriter__put.step, tmod8, show ((k + 1 : Nat) : Int) - 1 = (k : Int) by omega]
      have hl : b.1.length = (b.2 + 7) / 8 := hb
      refine Ev.yes (by simp only [decide_eq_true_eq]; omega) (Ev.cnd (fun c => Ev.yes (room_ok (by simp; omega)) ?_) fun c => ?_)
      · have c : b.2 % 8 = 0 := by simp only [decide_eq_true_eq] at c; omega
        rw [growB, if_pos c] at p13
        exact p13
      · have c : ¬ b.2 % 8 = 0 := by simp only [decide_eq_false_iff_not] at c; omega
        rw [growB, if_neg c] at p13
        exact p13
  refine Ev.step ?_
  simp only [impl_bitWriter__put.step]
  rw [i64_ok (by omega) (by omega)]
  exact key n b hb hn hs
theorem bits_Len64.ev (y : Nat) (h0 : y ≠ 0) (h : y < 18446744073709551616) : Ev (fun n => bits_Len64 n (y : Int)) ((Nat.log2 y + 1 : Nat) : Int) := by
  have fin : ∀ (z n : Nat), z ≠ 0 → z < 65536 → n ≤ 64 → Ev (fun m => goRec bits_Len64.step m (bits_Len64.Pt.p11 (z : Int) (n : Int))) ((n + Nat.log2 z + 1 : Nat) : Int) := by
    intro z n hz hz2 hn
    refine Ev.step ?_
    simp only [bits_Len64.step]
    have hs : shr .u64 (z : Int) (8 : Int) = ((z / 2 ^ 8 : Nat) : Int) := shr_nat (k := 8) (by decide)
    rw [hs]
    refine Ev.cnd (fun c => ?_) fun c => ?_
    · have c : 2 ^ 8 ≤ z := by simp only [decide_eq_true_eq] at c; omega
      have hq : z / 2 ^ 8 < 256 := by omega
      have hlog := log2_shift c
      rw [u8_id hq]
      refine Ev.yes (inB_nat (n := 256) hq) (Ev.pure' ?_)
      have h8 := (len8_ok (z / 2 ^ 8) hq).resolve_left (by omega)
      have hlt : Nat.log2 (z / 2 ^ 8) < 8 := (Nat.log2_lt (by omega)).2 hq
      show IntKind.wrap .i64 (IntKind.wrap .i64 ((n : Int) + 8) + IntKind.wrap .i64 (bt len8T ((z / 2 ^ 8 : Nat) : Int))) = _
      rw [h8, i64_ok (x := (n : Int) + 8) (by omega) (by omega), i64_ok (by omega) (by omega), hlog]
      omega
    · have c : z < 256 := by simp only [decide_eq_false_iff_not] at c; omega
      rw [u8_id c]
      refine Ev.yes (inB_nat (n := 256) c) (Ev.pure' ?_)
      have h8 := (len8_ok z c).resolve_left hz
      have hlt : Nat.log2 z < 8 := (Nat.log2_lt hz).2 c
      show IntKind.wrap .i64 ((n : Int) + IntKind.wrap .i64 (bt len8T (z : Int))) = _
      rw [h8, i64_ok (by omega) (by omega)]
      omega
  have h16 : ∀ (z : Nat), shr .u64 (z : Int) (16 : Int) = ((z / 2 ^ 16 : Nat) : Int) := fun z => shr_nat (k := 16) (by decide)
  have h32 : shr .u64 (y : Int) (32 : Int) = ((y / 2 ^ 32 : Nat) : Int) := shr_nat (k := 32) (by decide)
  refine Ev.step ?_
  simp only [bits_Len64.step, h32, h16]
  refine Ev.cnd (fun c => ?_) fun c => ?_
  · have c : 2 ^ 32 ≤ y := by simp only [decide_eq_true_eq] at c; omega
    have hl := log2_shift c
    refine Ev.cnd (fun c2 => ?_) fun c2 => ?_
    · have c2 : 2 ^ 16 ≤ y / 2 ^ 32 := by simp only [decide_eq_true_eq] at c2; omega
      have hl2 := log2_shift c2
      refine Ev.of_eq (α := Int) (fin (y / 2 ^ 32 / 2 ^ 16) 48 (by omega) (by omega) (by omega)) ?_
      rw [hl, hl2]; omega
    · have c2 : y / 2 ^ 32 < 65536 := by simp only [decide_eq_false_iff_not] at c2; omega
      refine Ev.of_eq (α := Int) (fin (y / 2 ^ 32) 32 (by omega) (by omega) (by omega)) ?_
      rw [hl]; omega
  · have c : y < 4294967296 := by simp only [decide_eq_false_iff_not] at c; omega
    refine Ev.cnd (fun c2 => ?_) fun c2 => ?_
    · have c2 : 2 ^ 16 ≤ y := by simp only [decide_eq_true_eq] at c2; omega
      have hl2 := log2_shift c2
      refine Ev.of_eq (α := Int) (fin (y / 2 ^ 16) 16 (by omega) (by omega) (by omega)) ?_
      rw [hl2]; omega
    · have c2 : y < 65536 := by simp only [decide_eq_false_iff_not] at c2; omega
      refine Ev.of_eq (α := Int) (fin y 0 h0 c2 (by omega)) ?_
      omega
theorem bits_LeadingZeros64.ev (y : Nat) (h0 : y ≠ 0) (h : y < 18446744073709551616) : Ev (fun n => bits_LeadingZeros64 n (y : Int)) (lzN y : Int) := by
  have hl := log2_le h0 h
  refine Ev.step ?_
  simp only [bits_LeadingZeros64.step]
  refine Ev.bind (bits_Len64.ev y h0 h) (Ev.pure' (α := Int) ?_)
  rw [i64_ok (by omega) (by omega), lzN]; omega
theorem bits_TrailingZeros64.ev (y : Nat) (h0 : y ≠ 0) (h : y < 18446744073709551616) : Ev (fun n => bits_TrailingZeros64 n (y : Int)) (tzN y : Int) := by
  obtain ⟨t1, t2, t3⟩ := tz_spec h0 h
  obtain ⟨a, b⟩ := tz_tab (tzN y) t1
  refine Ev.step ?_
  simp only [bits_TrailingZeros64.step, low_bit h0 h]
  exact Ev.no (by simp only [decide_eq_false_iff_not]; omega) (Ev.yes a (Ev.pure' b))
set_option maxHeartbeats 2000000 in
theorem impl_packChunk.ev (l : List SME) (hl : l.length ≤ 120) : Ev (fun n => impl_packChunk n l) (outB (packV l)) := by
  have key : ∀ d i (b : BBE) (st : FRE) (step : Int), i + d = l.length → OKB b → b.2 ≤ 8 + 150 * i → FrOK st → Ev (fun n => goRec impl_packChunk.step n (impl_packChunk.Pt.p15 l step st.isSome (leadN st : Int) (trailN st : Int) l (l.length : Int) (i : Int) (default : Int) ((b.2 : Nat) : Int) [] b.1)) (outB (packR l d i b st step)) := by
    intro d
    induction d with
    | zero =>
      intro i b st step h hb hs hf
      obtain rfl : i = l.length := by omega
      refine Ev.step ?_
      simp only [impl_packChunk.step]
      exact Ev.no lt_no Ev.pure
    | succ d ih =>
      intro i b st step h hb hs hf
      have hi : i < l.length := by omega
      refine Ev.step ?_
      simp only [impl_packChunk.step, toNat_cast, i64_nat (show i ≤ 4611686018427387904 by omega)]
      refine Ev.yes (lt_yes hi) (Ev.yes (inB_nat hi) (Ev.cnd (fun c => ?_) fun c => ?_))
      · have c : i = 0 := by simp only [decide_eq_true_eq] at c; omega
        refine Ev.bind (impl_bitWriter__put.ev b _ 40 hb (by decide) (by omega)) (Ev.bind (impl_bitWriter__put.ev (puts (l.getD i default).1 40 b) _ 64 (puts_ok hb) (by decide) (by rw [puts_sz]; omega)) ?_)
        rw [packR, if_pos c]
        exact ih (i + 1) (puts (l.getD i default).2.1 64 (puts (l.getD i default).1 40 b)) st step (by omega) (puts_ok (puts_ok hb)) (by rw [puts_sz, puts_sz]; omega) hf
      have c : i ≠ 0 := by simp only [decide_eq_false_iff_not] at c; omega
      rw [packR, if_neg c]
      have hb2 := bendB_ok (e := bendI l i step) hb
      have hv := valB_ok hb2.1 hf (turn_lt (a := (l.getD i default).2.1) (p := (l.getD (i - 1) default).2.1))
      have next := ih (i + 1) (valB (bendB b (bendI l i step)) st (turnI l i)).1 (valB (bendB b (bendI l i step)) st (turnI l i)).2 (nowI l i) (by omega) hv.1 (by have := hv.2.1; simp only [turnI] at *; omega) hv.2.2
      have p88 : turnI l i ≠ 0 → ∀ x, x = frB st (turnI l i) → Ev (fun n => goRec impl_packChunk.step n (impl_packChunk.Pt.p88 l (nowI l i) st.isSome (leadN st : Int) (trailN st : Int) (turnI l i : Int) (lzN (turnI l i) : Int) (tzN (turnI l i) : Int) l (l.length : Int) (i : Int) x (default : Int) (((bendB b (bendI l i step)).2 : Nat) : Int) [] (bendB b (bendI l i step)).1)) (outB (packR l d (i + 1) (valB (bendB b (bendI l i step)) st (turnI l i)).1 (valB (bendB b (bendI l i step)) st (turnI l i)).2 (nowI l i))) := by
        rintro hy x rfl
        have hyl : turnI l i < 18446744073709551616 := turn_lt
        have hlt := lz_tz hy hyl
        have hb2' := hb2
        revert hb2' next
        generalize bendB b (bendI l i step) = B
        revert hy hyl hlt
        generalize turnI l i = y
        intro hy hyl hlt next hb2
        have hf' : leadN st + trailN st ≤ 63 := hf
        refine Ev.step ?_
        simp only [impl_packChunk.step, i64_nat (show i ≤ 4611686018427387904 by omega), shr_nat (show trailN st ≤ 64 by omega), shr_nat (show tzN y ≤ 64 by omega), len_lt hf', len_lt hlt, len_pred hlt]
        refine Ev.cnd (fun e => ?_) fun e => ?_
        · rw [valB, if_neg hy, if_pos e] at next ⊢
          refine Ev.bind (impl_bitWriter__put.ev B 2 2 hb2.1 (by decide) (by omega)) (Ev.yes (by simp only [decide_eq_true_eq]; omega) (Ev.bind (impl_bitWriter__put.ev (puts 2 2 B) _ (64 - leadN st - trailN st) (puts_ok hb2.1) (by omega) (by rw [puts_sz]; omega)) ?_))
          exact next
        · rw [valB, if_neg hy, if_neg (by rw [e]; simp)] at next ⊢
          refine Ev.bind (impl_bitWriter__put.ev B 3 2 hb2.1 (by decide) (by omega)) (Ev.bind (impl_bitWriter__put.ev (puts 3 2 B) _ 6 (puts_ok hb2.1) (by decide) (by rw [puts_sz]; omega)) (Ev.bind (impl_bitWriter__put.ev (puts (lzN y : Int) 6 (puts 3 2 B)) _ 6 (puts_ok (puts_ok hb2.1)) (by decide) (by rw [puts_sz, puts_sz]; omega)) (Ev.yes (by simp only [decide_eq_true_eq]; omega) (Ev.bind (impl_bitWriter__put.ev (puts ((64 - lzN y - tzN y - 1 : Nat) : Int) 6 (puts (lzN y : Int) 6 (puts 3 2 B))) _ (64 - lzN y - tzN y) (puts_ok (puts_ok (puts_ok hb2.1))) (by omega) (by rw [puts_sz, puts_sz, puts_sz]; omega)) ?_))))
          exact next
      have p49 : Ev (fun n => goRec impl_packChunk.step n (impl_packChunk.Pt.p49 l (nowI l i) st.isSome (leadN st : Int) (trailN st : Int) (i : Int) l (l.length : Int) (i : Int) (default : Int) (((bendB b (bendI l i step)).2 : Nat) : Int) (l.getD i default).1 (l.getD i default).2.1 [] (bendB b (bendI l i step)).1)) (outB (packR l d (i + 1) (valB (bendB b (bendI l i step)) st (turnI l i)).1 (valB (bendB b (bendI l i step)) st (turnI l i)).2 (nowI l i))) := by
        refine Ev.step ?_
        simp only [impl_packChunk.step, pred_i64 c (show i ≤ 4611686018427387904 by omega), toNat_cast, turn_i, i64_nat (show i ≤ 4611686018427387904 by omega)]
        refine Ev.yes (inB_nat (by omega)) (Ev.cnd (fun e => ?_) fun e => ?_)
        · have e : turnI l i = 0 := by simp only [decide_eq_true_eq] at e; simp only [turnI]; omega
          rw [valB, if_pos e] at next ⊢
          refine Ev.bind (impl_bitWriter__put.ev (bendB b (bendI l i step)) 0 1 hb2.1 (by decide) (by omega)) ?_
          exact next
        · have e : turnI l i ≠ 0 := by simp only [decide_eq_false_iff_not] at e; simp only [turnI]; omega
          refine Ev.bind (bits_LeadingZeros64.ev (turnI l i) e turn_lt) (Ev.bind (bits_TrailingZeros64.ev (turnI l i) e turn_lt) ?_)
          cases st with
          | none => exact Ev.no rfl (p88 e _ rfl)
          | some p =>
            obtain ⟨ld, tr⟩ := p
            refine Ev.yes rfl (Ev.cnd (fun e2 => p88 e _ ?_) fun e2 => p88 e _ ?_)
            · have e2 : (ld : Int) ≤ (lzN (turnI l i) : Int) := of_decide_eq_true e2
              simp only [frB, trailN, Option.getD_some]
              rw [decide_eq_true (show ld ≤ lzN (turnI l i) by omega), Bool.true_and]
              exact decide_eq_decide.2 (by omega)
            · have e2 : ¬ (ld : Int) ≤ (lzN (turnI l i) : Int) := of_decide_eq_false e2
              simp only [frB]
              rw [decide_eq_false (show ¬ ld ≤ lzN (turnI l i) by omega), Bool.false_and]
      have p42 : Ev (fun n => goRec impl_packChunk.step n (impl_packChunk.Pt.p42 l (nowI l i) st.isSome (leadN st : Int) (trailN st : Int) (i : Int) (bendI l i step) l (l.length : Int) (i : Int) (default : Int) ((b.2 : Nat) : Int) (l.getD i default).1 (l.getD i default).2.1 [] b.1)) (outB (packR l d (i + 1) (valB (bendB b (bendI l i step)) st (turnI l i)).1 (valB (bendB b (bendI l i step)) st (turnI l i)).2 (nowI l i))) := by
        have p49 : Ev (fun n => goRec impl_packChunk.step n (impl_packChunk.Pt.p49 l (nowI l i) st.isSome (leadN st : Int) (trailN st : Int) (i : Int) l (l.length : Int) (i : Int) (default : Int) (outB (bendB b (bendI l i step))).2.1 (l.getD i default).1 (l.getD i default).2.1 [] (outB (bendB b (bendI l i step))).1)) (outB (packR l d (i + 1) (valB (bendB b (bendI l i step)) st (turnI l i)).1 (valB (bendB b (bendI l i step)) st (turnI l i)).2 (nowI l i))) := p49
        revert p49
        generalize packR l d (i + 1) (valB (bendB b (bendI l i step)) st (turnI l i)).1 (valB (bendB b (bendI l i step)) st (turnI l i)).2 (nowI l i) = R
        rw [bendB]
        generalize bendI l i step = e
        intro p49
        have two : ∀ (v w : Int) (q k : Nat), q + k ≤ 68 → q ≤ 64 → k ≤ 64 → Ev (fun n => goRec impl_packChunk.step n (impl_packChunk.Pt.p49 l (nowI l i) st.isSome (leadN st : Int) (trailN st : Int) (i : Int) l (l.length : Int) (i : Int) (default : Int) (outB (puts w k (puts v q b))).2.1 (l.getD i default).1 (l.getD i default).2.1 [] (outB (puts w k (puts v q b))).1)) (outB R) →
            Ev (fun m => (impl_bitWriter__put m (b.1, (((b.2 : Nat) : Int), ())) v (q : Int)).bind fun r20 => (impl_bitWriter__put m (r20.1, r20.2) w (k : Int)).bind fun r21 => goRec impl_packChunk.step m (impl_packChunk.Pt.p49 l (nowI l i) st.isSome (leadN st : Int) (trailN st : Int) (i : Int) l (l.length : Int) (i : Int) (default : Int) r21.2.1 (l.getD i default).1 (l.getD i default).2.1 [] r21.1)) (outB R) := by
          intro v w q k h1 h2 h3 h4
          exact Ev.bind (impl_bitWriter__put.ev b v q hb h2 (by omega)) (Ev.bind (impl_bitWriter__put.ev (puts v q b) w k (puts_ok hb) h3 (by rw [puts_sz]; omega)) h4)
        have p66 : Ev (fun n => goRec impl_packChunk.step n (impl_packChunk.Pt.p49 l (nowI l i) st.isSome (leadN st : Int) (trailN st : Int) (i : Int) l (l.length : Int) (i : Int) (default : Int) (outB ((if -2047 ≤ e ∧ e ≤ 2048 then puts (IntKind.wrap .i64 (e + 2047)) 12 (puts 14 4 b) else puts e 64 (puts 15 4 b)))).2.1 (l.getD i default).1 (l.getD i default).2.1 [] (outB ((if -2047 ≤ e ∧ e ≤ 2048 then puts (IntKind.wrap .i64 (e + 2047)) 12 (puts 14 4 b) else puts e 64 (puts 15 4 b)))).1)) (outB R) → ∀ x, x = decide (-2047 ≤ e ∧ e ≤ 2048) → Ev (fun n => goRec impl_packChunk.step n (impl_packChunk.Pt.p66 l (nowI l i) st.isSome (leadN st : Int) (trailN st : Int) (i : Int) e l (l.length : Int) (i : Int) x (default : Int) ((b.2 : Nat) : Int) (l.getD i default).1 (l.getD i default).2.1 [] b.1)) (outB R) := by
          rintro h x rfl
          refine Ev.step ?_
          simp only [impl_packChunk.step]
          refine Ev.cnd (fun c => ?_) fun c => ?_
          · rw [if_pos (by simpa using c)] at h; exact two _ _ 4 12 (by decide) (by decide) (by decide) h
          · rw [if_neg (by simpa using c)] at h; exact two _ _ 4 64 (by decide) (by decide) (by decide) h
        have p60 : Ev (fun n => goRec impl_packChunk.step n (impl_packChunk.Pt.p49 l (nowI l i) st.isSome (leadN st : Int) (trailN st : Int) (i : Int) l (l.length : Int) (i : Int) (default : Int) (outB ((if -255 ≤ e ∧ e ≤ 256 then puts (IntKind.wrap .i64 (e + 255)) 9 (puts 6 3 b) else (if -2047 ≤ e ∧ e ≤ 2048 then puts (IntKind.wrap .i64 (e + 2047)) 12 (puts 14 4 b) else puts e 64 (puts 15 4 b))))).2.1 (l.getD i default).1 (l.getD i default).2.1 [] (outB ((if -255 ≤ e ∧ e ≤ 256 then puts (IntKind.wrap .i64 (e + 255)) 9 (puts 6 3 b) else (if -2047 ≤ e ∧ e ≤ 2048 then puts (IntKind.wrap .i64 (e + 2047)) 12 (puts 14 4 b) else puts e 64 (puts 15 4 b))))).1)) (outB R) → ∀ x, x = decide (-255 ≤ e ∧ e ≤ 256) → Ev (fun n => goRec impl_packChunk.step n (impl_packChunk.Pt.p60 l (nowI l i) st.isSome (leadN st : Int) (trailN st : Int) (i : Int) e l (l.length : Int) (i : Int) x (default : Int) ((b.2 : Nat) : Int) (l.getD i default).1 (l.getD i default).2.1 [] b.1)) (outB R) := by
          rintro h x rfl
          refine Ev.step ?_
          simp only [impl_packChunk.step]
          refine Ev.cnd (fun c => ?_) fun c => ?_
          · rw [if_pos (by simpa using c)] at h; exact two _ _ 3 9 (by decide) (by decide) (by decide) h
          · rw [if_neg (by simpa using c)] at h
            exact Ev.cnd (fun c2 => p66 h _ (by simp only [decide_eq_true_eq] at c2; simp [c2])) fun c2 => p66 h _ (by simp only [decide_eq_false_iff_not] at c2; simp [c2])
        have p54 : Ev (fun n => goRec impl_packChunk.step n (impl_packChunk.Pt.p49 l (nowI l i) st.isSome (leadN st : Int) (trailN st : Int) (i : Int) l (l.length : Int) (i : Int) (default : Int) (outB ((if -63 ≤ e ∧ e ≤ 64 then puts (IntKind.wrap .i64 (e + 63)) 7 (puts 2 2 b) else (if -255 ≤ e ∧ e ≤ 256 then puts (IntKind.wrap .i64 (e + 255)) 9 (puts 6 3 b) else (if -2047 ≤ e ∧ e ≤ 2048 then puts (IntKind.wrap .i64 (e + 2047)) 12 (puts 14 4 b) else puts e 64 (puts 15 4 b)))))).2.1 (l.getD i default).1 (l.getD i default).2.1 [] (outB ((if -63 ≤ e ∧ e ≤ 64 then puts (IntKind.wrap .i64 (e + 63)) 7 (puts 2 2 b) else (if -255 ≤ e ∧ e ≤ 256 then puts (IntKind.wrap .i64 (e + 255)) 9 (puts 6 3 b) else (if -2047 ≤ e ∧ e ≤ 2048 then puts (IntKind.wrap .i64 (e + 2047)) 12 (puts 14 4 b) else puts e 64 (puts 15 4 b)))))).1)) (outB R) → ∀ x, x = decide (-63 ≤ e ∧ e ≤ 64) → Ev (fun n => goRec impl_packChunk.step n (impl_packChunk.Pt.p54 l (nowI l i) st.isSome (leadN st : Int) (trailN st : Int) (i : Int) e l (l.length : Int) (i : Int) x (default : Int) ((b.2 : Nat) : Int) (l.getD i default).1 (l.getD i default).2.1 [] b.1)) (outB R) := by
          rintro h x rfl
          refine Ev.step ?_
          simp only [impl_packChunk.step]
          refine Ev.cnd (fun c => ?_) fun c => ?_
          · rw [if_pos (by simpa using c)] at h; exact two _ _ 2 7 (by decide) (by decide) (by decide) h
          · rw [if_neg (by simpa using c)] at h
            exact Ev.cnd (fun c2 => p60 h _ (by simp only [decide_eq_true_eq] at c2; simp [c2])) fun c2 => p60 h _ (by simp only [decide_eq_false_iff_not] at c2; simp [c2])
        refine Ev.step ?_
        simp only [impl_packChunk.step]
        refine Ev.cnd (fun c => ?_) fun c => ?_
        · rw [if_pos (by simpa using c)] at p49
          exact Ev.bind (impl_bitWriter__put.ev b 0 1 hb (by decide) (by omega)) p49
        · rw [if_neg (by simpa using c)] at p49
          exact Ev.cnd (fun c2 => p54 p49 _ (by simp only [decide_eq_true_eq] at c2; simp [c2])) fun c2 => p54 p49 _ (by simp only [decide_eq_false_iff_not] at c2; simp [c2])
      rw [pred_i64 c (by omega), toNat_cast]
      refine Ev.yes (inB_nat (by omega)) (Ev.cnd (fun e => ?_) fun e => ?_)
      · have e : i = 1 := by simp only [decide_eq_true_eq] at e; omega
        rw [bendI, if_pos e] at p42 ⊢
        exact p42
      · have e : ¬ i = 1 := by simp only [decide_eq_false_iff_not] at e; omega
        rw [bendI, if_neg e] at p42 ⊢
        exact p42
  refine Ev.step ?_
  simp only [impl_packChunk.step]
  refine Ev.bind (impl_bitWriter__put.ev ([], 0) (l.length : Int) 8 rfl (by decide) (by decide)) ?_
  exact key l.length 0 (puts (l.length : Int) 8 ([], 0)) none 0 (by omega) (puts_ok rfl) (by rw [puts_sz]; omega) (by simp [FrOK, leadN, trailN])
theorem impl_PackChunk.ev (l : List SME) (hl : l.length ≤ 1048576) : Ev (fun n => impl_PackChunk n l) (outB (chunkF l)) := by
  refine Ev.step ?_
  simp only [impl_PackChunk.step]
  refine Ev.cnd (fun c => Ev.pure' ?_) fun c2 => Ev.bind (impl_GoodSamples.ev l hl) (Ev.cnd (fun c => Ev.pure' ?_) fun c1 => ?_)
  · have c : ¬ l.length ≤ 120 := by simp only [decide_eq_true_eq] at c; omega
    rw [chunkF, decide_eq_false c, Bool.and_false]; rfl
  · rw [Bool.not_eq_true'] at c; rw [chunkF, c]; rfl
  · have c2 : l.length ≤ 120 := by simp only [decide_eq_false_iff_not] at c2; omega
    rw [Bool.not_eq_false'] at c1
    rw [chunkF, c1, decide_eq_true c2]
    exact Ev.bind (impl_packChunk.ev l c2) Ev.pure
theorem spec_l3Time.ev (b : Int) : Ev (fun n => spec_l3Time n b) (timeB b) := by
  refine Ev.step ?_
  simp only [spec_l3Time.step]
  exact Ev.cnd (fun h => Ev.pure' (by simp [timeB, h])) fun h => Ev.pure' (by simp [timeB, h])
theorem spec_GoodSamples.ev (l : List SME) (hl : l.length ≤ 1048576) : Ev (fun n => spec_GoodSamples n l) (samplesB l) := by
  refine Ev.step ?_
  simp only [spec_GoodSamples.step]
  refine Ev.allK (pt := fun i : Nat => spec_GoodSamples.Pt.p7 l l (l.length : Int) (i : Int)) (fun i hi => ?_) (fun _ => ?_)
  · have fin : ∀ b, b = !(timeB (l.getD i default).1 && !(decide (0 < i) && decide ((l.getD i default).1 ≤ (l.getD (i - 1) default).1))) → ((timeB (l.getD i default).1 && !(decide (0 < i) && decide ((l.getD i default).1 ≤ (l.getD (i - 1) default).1))) = true → ∀ v, Ev (fun m => goRec spec_GoodSamples.step m (spec_GoodSamples.Pt.p7 l l (l.length : Int) ((i + 1 : Nat) : Int))) v → Ev (fun m => goRec spec_GoodSamples.step m (spec_GoodSamples.Pt.p18 l l (l.length : Int) (i : Int) b)) v) ∧
        ((timeB (l.getD i default).1 && !(decide (0 < i) && decide ((l.getD i default).1 ≤ (l.getD (i - 1) default).1))) = false → Ev (fun m => goRec spec_GoodSamples.step m (spec_GoodSamples.Pt.p18 l l (l.length : Int) (i : Int) b)) false) := by
      rintro b rfl
      refine ⟨fun h v hv => ?_, fun h => ?_⟩
      · refine Ev.step ?_
        simp only [spec_GoodSamples.step, i64_nat (show i ≤ 4611686018427387904 by omega)]
        exact Ev.no (by rw [h]; rfl) hv
      · refine Ev.step ?_
        simp only [spec_GoodSamples.step]
        exact Ev.yes (by rw [h]; rfl) Ev.pure
    have run : ∀ v, (∀ b, b = !(timeB (l.getD i default).1 && !(decide (0 < i) && decide ((l.getD i default).1 ≤ (l.getD (i - 1) default).1))) → Ev (fun m => goRec spec_GoodSamples.step m (spec_GoodSamples.Pt.p18 l l (l.length : Int) (i : Int) b)) v) → Ev (fun m => goRec spec_GoodSamples.step m (spec_GoodSamples.Pt.p7 l l (l.length : Int) (i : Int))) v := by
      intro v hv
      refine Ev.step ?_
      simp only [spec_GoodSamples.step, toNat_cast]
      refine Ev.yes (lt_yes hi) (Ev.yes (inB_nat hi) (Ev.bind (spec_l3Time.ev _) (Ev.cnd (fun c => hv _ ?_) fun c => Ev.cnd (fun c2 => ?_) fun c2 => hv _ ?_)))
      · rw [Bool.not_eq_true'] at c; rw [c]; rfl
      · have c2 : 0 < i := by simp only [decide_eq_true_eq] at c2; omega
        rw [Bool.not_eq_false'] at c
        rw [pred_i64 (by omega) (by omega), toNat_cast]
        refine Ev.yes (inB_nat (by omega)) (hv _ ?_)
        rw [c, decide_eq_true c2]; simp
      · have c2 : ¬ 0 < i := by simp only [decide_eq_false_iff_not] at c2; omega
        rw [Bool.not_eq_false'] at c
        rw [c, decide_eq_false c2]; rfl
    exact ⟨fun h v hv => run v fun b hb => (fin b hb).1 h v hv, fun h => run false fun b hb => (fin b hb).2 h⟩
  · refine Ev.step ?_
    simp only [spec_GoodSamples.step]
    exact Ev.no lt_no (Ev.pure' (by
      by_cases h : l.length ≤ 2000
      · rw [decide_eq_true h, decide_eq_true (show (l.length : Int) ≤ 2000 by omega)]
      · rw [decide_eq_false h, decide_eq_false (show ¬ (l.length : Int) ≤ 2000 by omega)]))
theorem impl_GoodBits.ev (D : List Int) (S : Int) (hb : BYB D) (hl : D.length ≤ 1048576) : Ev (fun n => impl_GoodBits n (D, (S, ()))) (goodBB D S) := by
  refine Ev.step ?_
  simp only [impl_GoodBits.step]
  have no : Ev (fun n => goRec impl_GoodBits.step n (impl_GoodBits.Pt.p4 true D S)) false := by
    refine Ev.step ?_
    simp only [impl_GoodBits.step]
    exact Ev.yes rfl Ev.pure
  refine Ev.cnd (fun c => ?_) fun c1 => Ev.cnd (fun c => ?_) fun c2 => ?_
  · have c : ¬ 0 ≤ S := by simp only [decide_eq_true_eq] at c; omega
    rw [goodBB, decide_eq_false c]; exact no
  · have c : ¬ S ≤ 80000 := by simp only [decide_eq_true_eq] at c; omega
    rw [goodBB, decide_eq_false c, Bool.and_false]; exact no
  have c1 : 0 ≤ S := by simp only [decide_eq_false_iff_not] at c1; omega
  have c2 : S ≤ 80000 := by simp only [decide_eq_false_iff_not] at c2; omega
  obtain ⟨s, rfl⟩ := Int.eq_ofNat_of_zero_le c1
  have e1 : IntKind.wrap .i64 (Int.tdiv (IntKind.wrap .i64 ((s : Int) + 7)) 8) = ((s : Int) + 7) / 8 := by
    rw [i64_ok (x := (s : Int) + 7) (by omega) (by omega), show (s : Int) + 7 = ((s + 7 : Nat) : Int) by omega, tdiv8, i64_id (by omega)]; omega
  rw [goodBB, decide_eq_true c1, decide_eq_true c2, e1]
  by_cases c3 : (D.length : Int) = ((s : Int) + 7) / 8
  · rw [decide_eq_true c3]
    refine Ev.step ?_
    simp only [impl_GoodBits.step, Bool.true_and, Int.toNat_natCast, tmod8]
    refine Ev.no rfl (Ev.cnd (fun c => ?_) fun c => ?_)
    · have c : s % 8 = 0 := by simp only [decide_eq_true_eq] at c; omega
      refine Ev.pure' ?_
      rw [tailB, show 8 * D.length - s = 0 by omega]; rfl
    · have c : ¬ s % 8 = 0 := by simp only [decide_eq_false_iff_not] at c; omega
      have hd : D.length - 1 = s / 8 := by omega
      obtain ⟨g0, g1⟩ := hb (s / 8)
      obtain ⟨w, hw⟩ : ∃ w : Nat, D.getD (s / 8) default = (w : Int) := ⟨(D.getD (s / 8) default).toNat, by omega⟩
      rw [pred_i64 (show D.length ≠ 0 by omega) (by omega), toNat_cast, hd, hw]
      refine Ev.yes (inB_nat (by omega)) (Ev.yes (by simp only [decide_eq_true_eq]; omega) (Ev.pure' ?_))
      rw [shl_tab w (by omega) (s % 8) (by omega), tailB, show 8 * D.length - s = 8 - s % 8 by omega]
      have : ∀ j, j ∈ List.range (8 - s % 8) → (!decide (w / 2 ^ (7 - (s % 8 + j)) % 2 = 1)) = !bitD D (s + j) := by
        intro j hj
        have hj := List.mem_range.1 hj
        rw [bitD, show (s + j) / 8 = s / 8 by omega, hw, Int.toNat_natCast, show (s + j) % 8 = s % 8 + j by omega]
      exact all_same this
  · rw [decide_eq_false c3, Bool.and_false]; exact no
theorem bytes_Equal.ev (a b : List Int) : Ev (fun n => bytes_Equal n a b) (decide (ofOcts a = ofOcts b)) := by
  refine Ev.step ?_
  simp only [bytes_Equal.step]
  exact Ev.pure' seq_iff
theorem impl_takeBits.ev (D : List Int) (S a k : Nat) (hb : BYB D) (hD : D.length = (S + 7) / 8) (hS : S ≤ 80000) (hk : k ≤ 64) (ha : a + k ≤ S) : Ev (fun n => impl_takeBits n D (a : Int) (k : Int)) (IntKind.wrap .i64 (rdN D a k : Int)) := by
  have e0 : IntKind.wrap .i64 ((a : Int) + (k : Int)) = ((a + k : Nat) : Int) := by rw [i64_ok (by omega) (by omega)]; omega
  have go : ∀ d j, j + d = k → Ev (fun n => goRec impl_takeBits.step n (impl_takeBits.Pt.p9 D (a : Int) (k : Int) (rdN D a j : Int) ((a + j : Nat) : Int))) (IntKind.wrap .i64 (rdN D a k : Int)) := by
    intro d
    induction d with
    | zero =>
      intro j hj
      obtain rfl : j = k := by omega
      refine Ev.step ?_
      simp only [impl_takeBits.step, e0]
      exact Ev.no lt_no Ev.pure
    | succ d ih =>
      intro j hj
      obtain ⟨g0, g1⟩ := hb ((a + j) / 8)
      obtain ⟨w, hw⟩ : ∃ w : Nat, D.getD ((a + j) / 8) default = (w : Int) := ⟨(D.getD ((a + j) / 8) default).toNat, by omega⟩
      have e1 : IntKind.wrap .i64 ((7 : Int) - Int.tmod ((a + j : Nat) : Int) 8) = ((7 - (a + j) % 8 : Nat) : Int) := by rw [tmod8, i64_ok (by omega) (by omega)]; omega
      have hlt := rdN_lt (D := D) (a := a) (n := j)
      have h63 : (2 : Nat) ^ j ≤ 2 ^ 63 := Nat.pow_le_pow_right (by decide) (by omega)
      have hbit : (decide (w / 2 ^ (7 - (a + j) % 8) % 2 = 1)) = bitD D (a + j) := by rw [bitD, hw, Int.toNat_natCast]
      refine Ev.step ?_
      simp only [impl_takeBits.step, e0, e1, tdiv8, i64_id (show (a + j) / 8 ≤ 4611686018427387904 by omega), i64_nat (show a + j ≤ 4611686018427387904 by omega), toNat_cast, hw, (bit_tab w (by omega) ((a + j) % 8) (by omega)).2, hbit, bor_shl (show rdN D a j < 9223372036854775808 by omega)]
      exact Ev.yes (lt_yes (by omega)) (Ev.yes (inB_nat (by omega)) (Ev.yes nn_nat (ih (j + 1) (by omega))))
  refine Ev.step ?_
  simp only [impl_takeBits.step]
  exact go k 0 (by omega)
theorem impl_UnpackChunk_1.yes (D : List Int) (S a k : Nat) (hb : BYB D) (hD : D.length = (S + 7) / 8) (hS : S ≤ 80000) (hk : k ≤ 64) (ha : a + k ≤ S) : Ev (fun n => impl_UnpackChunk_1 n (k : Int) (D, ((S : Int), ())) (a : Int)) (false, (IntKind.wrap .i64 (rdT D S a k : Int), ((a + k : Nat) : Int))) := by
  refine Ev.step ?_
  simp only [impl_UnpackChunk_1.step]
  refine Ev.no (decide_eq_false (by rw [i64_ok (by omega) (by omega)]; omega)) ?_
  have e0 : IntKind.wrap .i64 ((a : Int) + (k : Int)) = ((a + k : Nat) : Int) := by rw [i64_ok (by omega) (by omega)]; omega
  have e1 : IntKind.wrap .i64 (((a + k : Nat) : Int) - (k : Int)) = (a : Int) := by rw [i64_ok (by omega) (by omega)]; omega
  refine Ev.step ?_
  simp only [impl_UnpackChunk_1.step, e0, e1]
  rw [rdT, if_pos ha]
  exact Ev.bind (impl_takeBits.ev D S a k hb hD hS hk ha) Ev.pure
theorem impl_UnpackChunk_1.no (D : List Int) (S a k : Nat) (hS : S ≤ 80000) (ha : a ≤ S) (hk : S < a + k) : Ev (fun n => impl_UnpackChunk_1 n (k : Int) (D, ((S : Int), ())) (a : Int)) (true, ((default : Int), (a : Int))) := by
  refine Ev.step ?_
  simp only [impl_UnpackChunk_1.step]
  exact Ev.yes (decide_eq_true (by rw [i64_ok (by omega) (by omega)]; omega)) Ev.pure
theorem getD_one {α : Type} {x d : α} : List.getD [x] 0 d = x := rfl
def BadR (S : Nat) (R : Option (List SME × Nat)) : Prop := ∀ l z, R = some (l, z) → S < z
def QL (S : Nat) (R : Option (List SME × Nat)) (r : Bool × Int × List SME) : Prop := (r.1 = true ∧ BadR S R) ∨ ∃ (l : List SME) (z : Nat), r = (false, ((z : Int), l)) ∧ R = some (l, z) ∧ z ≤ S
theorem take_or {D : List Int} {S a k : Nat} {out : List SME} {g : Nat → Bool × Int × Int → Option (Bool × Int × List SME)} {Q : Bool × Int × List SME → Prop} (hb : BYB D) (hD : D.length = (S + 7) / 8) (hS : S ≤ 80000) (hk : k ≤ 64) (ha : a ≤ S) (h2 : S < a + k → Q (true, ((a : Int), out)))
    (h1 : a + k ≤ S → EvP (fun n => g n (false, (IntKind.wrap .i64 (rdT D S a k : Int), ((a + k : Nat) : Int)))) Q) : EvP (fun n => (impl_UnpackChunk_1 n (k : Int) (D, ((S : Int), ())) (a : Int)).bind fun r => cond r.1 (some (true, (r.2.2, out))) (g n r)) Q := by
  rcases Nat.lt_or_ge S (a + k) with h | h
  · exact EvP.bind (impl_UnpackChunk_1.no D S a k hS ha h) (EvP.yes rfl (EvP.pure (h2 h)))
  · exact EvP.bind (impl_UnpackChunk_1.yes D S a k hb hD hS hk h) (EvP.no rfl (h1 h))
theorem unR_bad {imp : Bool} {D : List Int} {S d i a : Nat} {st : FRE} {step : Int} {out : List SME} (h : S < a) : BadR S (unR imp D S d i a st step out) := fun l z hr => by
  have := (unR_le _ _ _ _ _ _ hr).1; omega
theorem unR_bad2 {imp : Bool} {D : List Int} {S d i a : Nat} {st : FRE} {step : Int} {out : List SME} (hi : i ≠ 0) (h : ∀ r, valT imp D S (bendT D S a).2 st = some r → S < r.2.2) : BadR S (unR imp D S (d + 1) i a st step out) := fun l z hr => by
  rw [unR] at hr
  by_cases e1 : S < a
  · rw [if_pos e1] at hr
    injection hr with hr
    injection hr with h1 h2
    omega
  rw [if_neg e1, if_neg hi] at hr
  cases hq : valT imp D S (bendT D S a).2 st with
  | none => rw [hq] at hr; cases hr
  | some r => rw [hq] at hr; exact unR_bad (h r hq) l z hr
theorem onesT_succ {D : List Int} {S k a : Nat} : a + 1 ≤ (onesT D S (k + 1) a).2 := by
  have := onesT_le (D := D) (S := S) (k := k) (a := a + 1)
  rw [onesT]; split <;> simp only <;> omega
theorem impl_UnpackChunk_2_impl_UnpackChunk_1.ev (D : List Int) (S : Nat) (hb : BYB D) (hD : D.length = (S + 7) / 8) (hS : S ≤ 80000) : EvP (fun n => impl_UnpackChunk_2_impl_UnpackChunk_1 n (D, ((S : Int), ())) 0 []) (fun r => (r.1 = true ∧ ∀ l z, unF true D S = some (l, z) → S < z ∨ 120 < l.length) ∨ ∃ (l : List SME) (z : Nat), r = (false, ((z : Int), l)) ∧ unF true D S = some (l, z) ∧ z ≤ S ∧ l.length ≤ 120) := by
  have key : ∀ (d i a : Nat) (st : FRE) (step : Int) (out : List SME) (many : Nat), i + d = many → many ≤ 256 → out.length = i → FrOK st → a ≤ S → EvP (fun n => goRec impl_UnpackChunk_2_impl_UnpackChunk_1.step n (impl_UnpackChunk_2_impl_UnpackChunk_1.Pt.p14 step (leadN st : Int) (trailN st : Int) (many : Int) (i : Int) (a : Int) (D, ((S : Int), ())) out)) (QL S (unR true D S d i a st step out)) := by
    intro d
    induction d with
    | zero =>
      intro i a st step out many hi hm ho hs ha
      obtain rfl : i = many := by omega
      refine EvP.step ?_
      simp only [impl_UnpackChunk_2_impl_UnpackChunk_1.step, unR]
      exact EvP.no lt_no (EvP.pure (Or.inr ⟨out, a, rfl, rfl, ha⟩))
    | succ d ih =>
      intro i a st step out many hi hm ho hs ha
      by_cases e : i = 0
      · have hR : unR true D S (d + 1) i a st step out = unR true D S d (i + 1) (a + 104) st step (out ++ [((rdT D S a 40 : Int), IntKind.wrap .i64 (rdT D S (a + 40) 64 : Int), ())]) := by rw [unR, if_neg (by omega), if_pos e]
        rw [hR]
        refine EvP.step ?_
        simp only [impl_UnpackChunk_2_impl_UnpackChunk_1.step, getD_one]
        refine EvP.yes (lt_yes (by omega)) (EvP.yes (decide_eq_true (by omega)) (take_or (k := 40) hb hD hS (by decide) ha (fun h => Or.inl ⟨rfl, unR_bad (by omega)⟩) fun h1 => ?_))
        refine take_or (k := 64) hb hD hS (by decide) h1 (fun h => Or.inl ⟨rfl, unR_bad (by omega)⟩) fun h2 => EvP.yes (room_ok (by simp; omega)) ?_
        dsimp only
        rw [rd1_wrap (k := 40) (by decide), i64_nat (show i ≤ 4611686018427387904 by omega)]
        exact ih (i + 1) (a + 104) st step _ many (by omega) hm (by simp; omega) hs (by omega)
      · have l4 := onesT_le (D := D) (S := S) (k := 2) (a := (bendT D S a).2)
        have l2 := bendT_le (D := D) (S := S) (a := a)
        have badB : S < (bendT D S a).2 → BadR S (unR true D S (d + 1) i a st step out) := fun h => unR_bad2 e fun r hr => by have := valT_le hr; omega
        -- the last part: the sample is put behind the others
        have last : ∀ (st' : FRE) (y : Nat) (t : Int) (a' : Nat), valT true D S (bendT D S a).2 st = some (y, st', a') → FrOK st' → a' ≤ S → IntKind.wrap .i64 t = IntKind.wrap .i64 (y : Int) → EvP (fun n => goRec impl_UnpackChunk_2_impl_UnpackChunk_1.step n (impl_UnpackChunk_2_impl_UnpackChunk_1.Pt.p60 (IntKind.wrap .i64 (step + (bendT D S a).1)) (leadN st' : Int) (trailN st' : Int) (i : Int) t (many : Int) (i : Int) (a' : Int) (D, ((S : Int), ())) out)) (QL S (unR true D S (d + 1) i a st step out)) := by
          intro st' y t a' hv hs' ha' ht
          have hR : unR true D S (d + 1) i a st step out = unR true D S d (i + 1) a' st' (IntKind.wrap .i64 (step + (bendT D S a).1)) (out ++ [nextT (bendT D S a).1 (out.getD (i - 1) default) step y]) := by rw [unR, if_neg (by omega), if_neg e, hv]
          rw [hR]
          refine EvP.step ?_
          simp only [impl_UnpackChunk_2_impl_UnpackChunk_1.step, pred_i64 e (show i ≤ 4611686018427387904 by omega), toNat_cast, Nat.zero_add, i64_nat (show i ≤ 4611686018427387904 by omega), ht]
          refine EvP.yes (inB_nat (by omega)) (EvP.yes (room_ok (by simp; omega)) ?_)
          exact ih (i + 1) a' st' _ _ many (by omega) hm (by simp; omega) hs' ha'
        have lastK : ∀ (ld tr : Nat) (r : Nat), ld + tr ≤ 63 → ∀ a2 : Nat, a2 ≤ S → r = rdT D S a2 (64 - ld - tr) → ∀ st' : FRE, leadN st' = ld → trailN st' = tr → valT true D S (bendT D S a).2 st = some (r * 2 ^ tr, st', a2 + (64 - ld - tr)) → EvP (fun n => goRec impl_UnpackChunk_2_impl_UnpackChunk_1.step n (impl_UnpackChunk_2_impl_UnpackChunk_1.Pt.p64 (IntKind.wrap .i64 (step + (bendT D S a).1)) (ld : Int) (tr : Int) (i : Int) (many : Int) (i : Int) (a2 : Int) (D, ((S : Int), ())) out)) (QL S (unR true D S (d + 1) i a st step out)) := by
          rintro ld tr r hlt a2 ha2 rfl st' rfl rfl hv
          refine EvP.step ?_
          simp only [impl_UnpackChunk_2_impl_UnpackChunk_1.step, getD_one, len_lt hlt]
          refine take_or hb hD hS (by omega) ha2 (fun h => Or.inl ⟨rfl, unR_bad2 e fun r hr => ?_⟩) fun h1 => EvP.yes nn_nat ?_
          · rw [hv] at hr; injection hr with hr; subst hr; exact h
          · exact last st' _ _ _ hv hlt h1 (shl_u (by omega))
        -- behind the bend
        have p38 : (bendT D S a).2 ≤ S → ∀ b : Int, b = (bendT D S a).1 → EvP (fun n => goRec impl_UnpackChunk_2_impl_UnpackChunk_1.step n (impl_UnpackChunk_2_impl_UnpackChunk_1.Pt.p38 step (leadN st : Int) (trailN st : Int) (i : Int) b (many : Int) (i : Int) ((bendT D S a).2 : Int) (D, ((S : Int), ())) out)) (QL S (unR true D S (d + 1) i a st step out)) := by
          rintro hle b rfl
          have s1 : (bendT D S a).2 + 1 ≤ (onesT D S 2 ((bendT D S a).2)).2 := onesT_succ
          refine EvP.step ?_
          simp only [impl_UnpackChunk_2_impl_UnpackChunk_1.step, getD_one]
          refine take_or (k := 1) hb hD hS (by decide) hle (fun h => Or.inl ⟨rfl, unR_bad2 e fun r hr => by have := valT_le hr; omega⟩) fun h1 => ?_
          dsimp only
          rw [rd1_wrap (by decide)]
          refine EvP.cnd (fun c => ?_) fun c => ?_
          · have c : rdT D S (bendT D S a).2 1 = 1 := eq_yes (k := 1) c
            have o1 : onesT D S 2 (bendT D S a).2 = ((onesT D S 1 ((bendT D S a).2 + 1)).1 + 1, (onesT D S 1 ((bendT D S a).2 + 1)).2) := by rw [onesT, if_pos c]
            have s2 : (bendT D S a).2 + 1 + 1 ≤ (onesT D S 1 ((bendT D S a).2 + 1)).2 := onesT_succ
            refine take_or (k := 1) hb hD hS (by decide) h1 (fun h => Or.inl ⟨rfl, unR_bad2 e fun r hr => by have := valT_le hr; rw [o1] at this; dsimp only at this; omega⟩) fun h2 => ?_
            dsimp only
            rw [rd1_wrap (by decide)]
            refine EvP.cnd (fun c2 => ?_) fun c2 => ?_
            · have c2 : rdT D S ((bendT D S a).2 + 1) 1 = 1 := eq_yes (k := 1) c2
              have o2 : onesT D S 2 (bendT D S a).2 = (2, (bendT D S a).2 + 2) := by rw [o1, onesT, if_pos c2]; rfl
              have hv : valT true D S (bendT D S a).2 st = if 64 < rdT D S ((bendT D S a).2 + 2) 6 + (rdT D S ((bendT D S a).2 + 2 + 6) 6 + 1) then none
                else some (rdT D S ((bendT D S a).2 + 2 + 12) (rdT D S ((bendT D S a).2 + 2 + 6) 6 + 1) * 2 ^ (64 - rdT D S ((bendT D S a).2 + 2) 6 - (rdT D S ((bendT D S a).2 + 2 + 6) 6 + 1)),
                  some (rdT D S ((bendT D S a).2 + 2) 6, 64 - rdT D S ((bendT D S a).2 + 2) 6 - (rdT D S ((bendT D S a).2 + 2 + 6) 6 + 1)), (bendT D S a).2 + 2 + 12 + (rdT D S ((bendT D S a).2 + 2 + 6) 6 + 1)) := by
                rw [valT, o2, if_neg (by simp), if_neg (by simp)]
              have far : ∀ r, valT true D S (bendT D S a).2 st = some r → (bendT D S a).2 + 2 + 12 < r.2.2 := by
                intro r hr
                rw [hv] at hr
                split at hr
                · cases hr
                · injection hr with hr; subst hr; dsimp only; omega
              refine take_or (k := 6) hb hD hS (by decide) h2 (fun h => Or.inl ⟨rfl, unR_bad2 e fun r hr => by have := far r hr; omega⟩) fun h3 => ?_
              refine take_or (k := 6) hb hD hS (by decide) h3 (fun h => Or.inl ⟨rfl, unR_bad2 e fun r hr => by have := far r hr; omega⟩) fun h4 => ?_
              dsimp only
              rw [rd1_wrap (by decide), rd1_wrap (by decide)]
              have q1 := rdT_lt (D := D) (S := S) (a := (bendT D S a).2 + 2) (n := 6)
              have q2 := rdT_lt (D := D) (S := S) (a := (bendT D S a).2 + 2 + 6) (n := 6)
              have hv2 := hv
              revert hv2 hv
              show (_ → _ → EvP (fun n => cond (decide (IntKind.wrap .i64 (IntKind.wrap .i64 (IntKind.wrap .i64 ((64 : Int) - (rdT D S ((bendT D S a).2 + 2) 6 : Int)) - (rdT D S ((bendT D S a).2 + 2 + 6) 6 : Int)) - 1) < 0)) _ _) _)
              generalize hld : rdT D S ((bendT D S a).2 + 2) 6 = ld at q1 ⊢
              generalize hm1 : rdT D S ((bendT D S a).2 + 2 + 6) 6 = m at q2 ⊢
              intro hv _
              rw [i64_ok (x := (64 : Int) - (ld : Int)) (by omega) (by omega), i64_ok (x := (64 : Int) - (ld : Int) - (m : Int)) (by omega) (by omega), i64_ok (x := (64 : Int) - (ld : Int) - (m : Int) - 1) (by omega) (by omega)]
              refine EvP.cnd (fun c3 => ?_) fun c3 => ?_
              · have c3 : 64 < ld + (m + 1) := by have := of_decide_eq_true c3; omega
                rw [if_pos c3] at hv
                exact EvP.pure (Or.inl ⟨rfl, unR_bad2 e fun r hr => by rw [hv] at hr; cases hr⟩)
              · have c3 : ¬ 64 < ld + (m + 1) := by have := of_decide_eq_false c3; omega
                rw [if_neg c3] at hv
                rw [show (64 : Int) - (ld : Int) - (m : Int) - 1 = ((64 - ld - (m + 1) : Nat) : Int) by omega]
                have e64 : 64 - ld - (64 - ld - (m + 1)) = m + 1 := by omega
                exact lastK ld (64 - ld - (m + 1)) _ (by omega) ((bendT D S a).2 + 2 + 12) h4 (by rw [e64]) (some (ld, 64 - ld - (m + 1))) rfl rfl (by rw [e64]; exact hv)
            · have c2 : ¬ rdT D S ((bendT D S a).2 + 1) 1 = 1 := eq_no (k := 1) c2
              have o2 : onesT D S 2 (bendT D S a).2 = (1, (bendT D S a).2 + 2) := by rw [o1, onesT, if_neg c2]
              have hv : valT true D S (bendT D S a).2 st = some (rdT D S ((bendT D S a).2 + 2) (64 - leadN st - trailN st) * 2 ^ trailN st, st, (bendT D S a).2 + 2 + (64 - leadN st - trailN st)) := by
                rw [valT, o2, if_neg (by simp), if_pos rfl, if_pos (by simp)]
              exact lastK (leadN st) (trailN st) _ hs ((bendT D S a).2 + 2) h2 rfl st rfl rfl hv
          · have c : ¬ rdT D S (bendT D S a).2 1 = 1 := eq_no (k := 1) c
            have o1 : onesT D S 2 (bendT D S a).2 = (0, (bendT D S a).2 + 1) := by rw [onesT, if_neg c]
            have hv : valT true D S (bendT D S a).2 st = some (0, st, (bendT D S a).2 + 1) := by rw [valT, o1, if_pos rfl]
            exact last st 0 0 _ hv hs h1 rfl
        -- the bend's four marks
        have bit : ∀ {x : Nat}, ¬ rdT D S x 1 = 0 → rdT D S x 1 = 1 := fun {x} h => by have := rdT_lt (D := D) (S := S) (a := x) (n := 1); omega
        refine EvP.step ?_
        simp only [impl_UnpackChunk_2_impl_UnpackChunk_1.step, getD_one]
        refine EvP.yes (lt_yes (by omega)) (EvP.no (decide_eq_false (by omega)) ?_)
        have fin : ∀ (k c : Nat) (x : Nat), k ≤ 62 → c ≤ 1000000 → IntKind.wrap .i64 ((rdT D S x k : Int) - (c : Int)) = (rdT D S x k : Int) - (c : Int) := by
          intro k c x hk hc
          have h := rdT_lt (D := D) (S := S) (a := x) (n := k)
          have h2 : (2 : Nat) ^ k ≤ 2 ^ 62 := Nat.pow_le_pow_right (by decide) hk
          exact i64_ok (by omega) (by omega)
        have s1 : a + 1 ≤ (onesT D S 4 (a)).2 := onesT_succ
        refine take_or (k := 1) hb hD hS (by decide) ha (fun h => Or.inl ⟨rfl, badB (by omega)⟩) fun h1 => ?_
        dsimp only
        rw [rd1_wrap (by decide)]
        refine EvP.cnd (fun c => ?_) fun c => ?_
        · have c : rdT D S a 1 = 0 := eq_yes (k := 0) c
          have o : onesT D S 4 a = (0, a + 1) := by rw [onesT, if_neg (by omega)]
          have hB : bendT D S a = (0, a + 1) := by rw [bendT, o, if_pos rfl]
          have := p38 (by rw [hB]; exact h1) 0 (by rw [hB])
          rw [hB] at this
          exact this
        have c := bit (eq_no (k := 0) c)
        have o1 : onesT D S 4 a = ((onesT D S 3 (a + 1)).1 + 1, (onesT D S 3 (a + 1)).2) := by rw [onesT, if_pos c]
        have s2 : a + 1 + 1 ≤ (onesT D S 3 (a + 1)).2 := onesT_succ
        refine take_or (k := 1) hb hD hS (by decide) h1 (fun h => Or.inl ⟨rfl, badB (by rw [o1] at l2; dsimp only at l2; omega)⟩) fun h2 => ?_
        dsimp only
        rw [rd1_wrap (by decide)]
        refine EvP.cnd (fun c => ?_) fun c => ?_
        · have c : rdT D S (a + 1) 1 = 0 := eq_yes (k := 0) c
          have o : onesT D S 4 a = (1, a + 2) := by rw [o1, onesT, if_neg (by omega)]
          have hB : bendT D S a = ((rdT D S (a + 2) 7 : Int) - 63, a + 2 + 7) := by rw [bendT, o, if_neg (by simp), if_pos rfl]
          refine take_or (k := 7) hb hD hS (by decide) h2 (fun h => Or.inl ⟨rfl, badB (by rw [hB]; exact h)⟩) fun h3 => ?_
          dsimp only
          rw [rd1_wrap (by decide)]
          have := p38 (by rw [hB]; exact h3) (IntKind.wrap .i64 ((rdT D S (a + 2) 7 : Int) - 63)) (by rw [hB]; exact fin 7 63 _ (by decide) (by decide))
          rw [hB] at this
          exact this
        have c := bit (eq_no (k := 0) c)
        have o2 : onesT D S 4 a = ((onesT D S 2 (a + 1 + 1)).1 + 1 + 1, (onesT D S 2 (a + 1 + 1)).2) := by rw [o1, onesT, if_pos c]
        have s3 : a + 1 + 1 + 1 ≤ (onesT D S 2 (a + 1 + 1)).2 := onesT_succ
        refine take_or (k := 1) hb hD hS (by decide) h2 (fun h => Or.inl ⟨rfl, badB (by rw [o2] at l2; dsimp only at l2; omega)⟩) fun h3 => ?_
        dsimp only
        rw [rd1_wrap (by decide)]
        refine EvP.cnd (fun c => ?_) fun c => ?_
        · have c : rdT D S (a + 1 + 1) 1 = 0 := eq_yes (k := 0) c
          have o : onesT D S 4 a = (2, a + 3) := by rw [o2, onesT, if_neg (by omega)]
          have hB : bendT D S a = ((rdT D S (a + 3) 9 : Int) - 255, a + 3 + 9) := by rw [bendT, o, if_neg (by simp), if_neg (by simp), if_pos rfl]
          refine take_or (k := 9) hb hD hS (by decide) h3 (fun h => Or.inl ⟨rfl, badB (by rw [hB]; exact h)⟩) fun h4 => ?_
          dsimp only
          rw [rd1_wrap (by decide)]
          have := p38 (by rw [hB]; exact h4) (IntKind.wrap .i64 ((rdT D S (a + 3) 9 : Int) - 255)) (by rw [hB]; exact fin 9 255 _ (by decide) (by decide))
          rw [hB] at this
          exact this
        have c := bit (eq_no (k := 0) c)
        have o3 : onesT D S 4 a = ((onesT D S 1 (a + 1 + 1 + 1)).1 + 1 + 1 + 1, (onesT D S 1 (a + 1 + 1 + 1)).2) := by rw [o2, onesT, if_pos c]
        have s4 : a + 1 + 1 + 1 + 1 ≤ (onesT D S 1 (a + 1 + 1 + 1)).2 := onesT_succ
        refine take_or (k := 1) hb hD hS (by decide) h3 (fun h => Or.inl ⟨rfl, badB (by rw [o3] at l2; dsimp only at l2; omega)⟩) fun h4 => ?_
        dsimp only
        rw [rd1_wrap (by decide)]
        refine EvP.cnd (fun c => ?_) fun c => ?_
        · have c : rdT D S (a + 1 + 1 + 1) 1 = 0 := eq_yes (k := 0) c
          have o : onesT D S 4 a = (3, a + 4) := by rw [o3, onesT, if_neg (by omega)]
          have hB : bendT D S a = ((rdT D S (a + 4) 12 : Int) - 2047, a + 4 + 12) := by rw [bendT, o, if_neg (by simp), if_neg (by simp), if_neg (by simp), if_pos rfl]
          refine take_or (k := 12) hb hD hS (by decide) h4 (fun h => Or.inl ⟨rfl, badB (by rw [hB]; exact h)⟩) fun h5 => ?_
          dsimp only
          rw [rd1_wrap (by decide)]
          have := p38 (by rw [hB]; exact h5) (IntKind.wrap .i64 ((rdT D S (a + 4) 12 : Int) - 2047)) (by rw [hB]; exact fin 12 2047 _ (by decide) (by decide))
          rw [hB] at this
          exact this
        · have c := bit (eq_no (k := 0) c)
          have o : onesT D S 4 a = (4, a + 4) := by rw [o3, onesT, if_pos c]; rfl
          have hB : bendT D S a = (IntKind.wrap .i64 (rdT D S (a + 4) 64 : Int), a + 4 + 64) := by rw [bendT, o, if_neg (by simp), if_neg (by simp), if_neg (by simp), if_neg (by simp)]
          refine take_or (k := 64) hb hD hS (by decide) h4 (fun h => Or.inl ⟨rfl, badB (by rw [hB]; exact h)⟩) fun h5 => ?_
          have := p38 (by rw [hB]; exact h5) (IntKind.wrap .i64 (rdT D S (a + 4) 64 : Int)) (by rw [hB])
          rw [hB] at this
          exact this
  have q := rdT_lt (D := D) (S := S) (a := 0) (n := 8)
  refine EvP.step ?_
  simp only [impl_UnpackChunk_2_impl_UnpackChunk_1.step, getD_one]
  refine take_or (k := 8) (a := 0) hb hD hS (by decide) (by omega) (fun h => Or.inl ⟨rfl, fun l z hr => Or.inl (unR_bad (a := 8) (by omega) l z hr)⟩) fun h1 => ?_
  dsimp only
  rw [rd1_wrap (by decide)]
  refine EvP.cnd (fun c => EvP.pure (Or.inl ⟨rfl, fun l z hr => ?_⟩)) fun c => ?_
  · have c : ¬ rdT D S 0 8 ≤ 120 := by have := of_decide_eq_true c; omega
    rcases Nat.lt_or_ge S z with h | h
    · exact Or.inl h
    · right; have := (unF_rng hr).2.2 h; omega
  · have c : rdT D S 0 8 ≤ 120 := by have := of_decide_eq_false c; omega
    refine EvP.imp (key (rdT D S 0 8) 0 8 none 0 [] (rdT D S 0 8) (by omega) (by omega) rfl (by simp [FrOK, leadN, trailN]) (by omega)) ?_
    rintro r (⟨h, hb⟩ | ⟨l, z, h2, h3, h4⟩)
    · exact Or.inl ⟨h, fun l z hr => Or.inl (hb l z hr)⟩
    · exact Or.inr ⟨l, z, h2, h3, h4, by rw [(unF_rng h3).2.2 h4]; exact c⟩
theorem EvP.held {α : Type} {f : Nat → Option α} {Q : α → Prop} (h : EvP f Q) : EvP (fun n => hold n (f n)) Q := by
  obtain ⟨v, ⟨N, h⟩, q⟩ := h
  refine ⟨v, ⟨N + 1, fun n hn => ?_⟩, q⟩
  match n, hn with
  | n + 1, hn => exact h (n + 1) (by omega)
theorem impl_tried_impl_UnpackChunk_2_impl_UnpackChunk_1.ev (D : List Int) (S : Nat) (hb : BYB D) (hD : D.length = (S + 7) / 8) (hS : S ≤ 80000) : EvP (fun n => impl_tried_impl_UnpackChunk_2_impl_UnpackChunk_1 n (D, ((S : Int), ())) 0 []) (fun r => (r.1 = false ∧ ∀ l z, unF true D S = some (l, z) → S < z ∨ 120 < l.length) ∨ ∃ (l : List SME) (z : Nat), r = (true, ((z : Int), l)) ∧ unF true D S = some (l, z) ∧ z ≤ S ∧ l.length ≤ 120) := by
  refine EvP.held (EvP.bindP (impl_UnpackChunk_2_impl_UnpackChunk_1.ev D S hb hD hS) ?_)
  rintro r (⟨h, h2⟩ | ⟨l, z, h, h2⟩)
  · exact EvP.pure (Or.inl ⟨by show (!r.1) = false; rw [h]; rfl, h2⟩)
  · exact EvP.pure (Or.inr ⟨l, z, by rw [h]; rfl, h2⟩)
theorem impl_UnpackChunk.ev (D : List Int) (S : Int) (hb : BYB D) (hl : D.length ≤ 1048576) : Ev (fun n => impl_UnpackChunk n (D, (S, ()))) (upV D S) := by
  refine Ev.step ?_
  simp only [impl_UnpackChunk.step]
  refine Ev.bind (impl_GoodBits.ev D S hb hl) (Ev.cnd (fun c => Ev.pure' ?_) fun c => ?_)
  · rw [Bool.not_eq_true'] at c
    rw [upV, c]; rfl
  rw [Bool.not_eq_false'] at c
  obtain ⟨s, rfl, hs, hD⟩ := goodBB_of c
  rw [upV, if_pos c, Int.toNat_natCast]
  have bad : ∀ l, (∀ l, ¬ ChunkOf D s l) → Ev (fun n => goRec impl_UnpackChunk.step n (impl_UnpackChunk.Pt.p20 true D (s : Int) l)) (unV D s) := by
    intro l h
    refine Ev.step ?_
    simp only [impl_UnpackChunk.step]
    exact Ev.yes rfl (Ev.pure' (unV_no h).symm)
  obtain ⟨r, hr, hq⟩ := impl_tried_impl_UnpackChunk_2_impl_UnpackChunk_1.ev D s hb hD hs
  refine Ev.bind hr ?_
  rcases hq with ⟨h, h2⟩ | ⟨l, z, rfl, h2, h3, h4⟩
  · refine Ev.yes (by rw [h]; rfl) (bad _ fun l hc => ?_)
    have := h2 l s (chunkOf_un hc true)
    have := hc.2.1
    omega
  · have uniq : ∀ l', ChunkOf D s l' → l' = l := by
      intro l' h
      have := chunkOf_un h true
      rw [h2] at this
      injection this with this
      injection this with h1 h2
      exact h1.symm
    obtain ⟨k1, k2, k3⟩ := unF_rng h2
    refine Ev.no rfl (Ev.bind (impl_GoodSamples.ev l (by omega)) ?_)
    by_cases c2 : samplesB l = true
    · rw [c2]
      refine Ev.step ?_
      simp only [impl_UnpackChunk.step]
      refine Ev.no rfl (Ev.bind (impl_packChunk.ev l h4) (Ev.cnd (fun c3 => Ev.pure' ?_) fun c3 => Ev.bind (bytes_Equal.ev (packV l).1 D) (Ev.cnd (fun c4 => Ev.pure' ?_) fun c4 => Ev.pure' ?_)))
      · rw [Bool.not_eq_true'] at c3
        have c3 : ¬ (packV l).2 = s := eq_no c3
        exact (unV_no fun l' h => c3 (by rw [← uniq l' h, h.2.2.2])).symm
      · rw [Bool.not_eq_true'] at c4
        exact (unV_no fun l' h => of_decide_eq_false c4 (by rw [← uniq l' h, h.2.2.2])).symm
      · rw [Bool.not_eq_false'] at c3 c4
        have c3 : (packV l).2 = s := eq_yes c3
        have c4 := ofOcts_inj packV_by hb (of_decide_eq_true c4)
        exact (unV_yes ⟨c2, h4, k2, by rw [← c3, ← c4]⟩).symm
    · rw [Bool.not_eq_true] at c2
      rw [c2]
      exact bad _ fun l' h => by rw [← uniq l' h, h.1] at c2; cases c2
theorem laws_zSamples.ev (l : List SME) (hl : l.length ≤ 1048576) : Ev (fun n => laws_zSamples n l l) true := by
  have loop : ∀ d i, i + d = l.length → Ev (fun n => goRec laws_zSamples.step n (laws_zSamples.Pt.p15 l l (l.length : Int) (i : Int))) true := by
    intro d
    induction d with
    | zero =>
      intro i h
      obtain rfl : i = l.length := by omega
      refine Ev.step ?_
      simp only [laws_zSamples.step]
      exact Ev.no lt_no Ev.pure
    | succ d ih =>
      intro i h
      refine Ev.step ?_
      simp only [laws_zSamples.step, i64_nat (show i ≤ 4611686018427387904 by omega)]
      exact Ev.yes (lt_yes (by omega)) (Ev.yes (inB_nat (by omega)) (Ev.yes (inB_nat (by omega)) (Ev.no (by simp) (ih (i + 1) (by omega)))))
  refine Ev.step ?_
  simp only [laws_zSamples.step]
  exact Ev.no (by simp) (loop l.length 0 (by omega))
theorem impl_CountOf.ev (D : List Int) (S : Int) (hb : BYB D) (hl : D.length ≤ 1048576) : Ev (fun n => impl_CountOf n (D, (S, ()))) (cntV (upV D S)) := by
  refine Ev.step ?_
  simp only [impl_CountOf.step]
  refine Ev.bind (impl_UnpackChunk.ev D S hb hl) (Ev.cnd (fun c => Ev.pure' ?_) fun c => Ev.pure' ?_)
  · rw [Bool.not_eq_true'] at c; rw [cntV, c]; rfl
  · rw [Bool.not_eq_false'] at c; rw [cntV, c]; rfl
theorem impl_AppendChunk.ev (D : List Int) (S : Int) (s : SME) (hb : BYB D) (hl : D.length ≤ 1048576) : Ev (fun n => impl_AppendChunk n (D, (S, ())) s) (outB (apF D S s)) := by
  have hlen := @upV_len D S
  refine Ev.step ?_
  simp only [impl_AppendChunk.step]
  refine Ev.bind (impl_UnpackChunk.ev D S hb hl) (Ev.cnd (fun c => Ev.pure' ?_) fun c => Ev.yes (room_ok (by simp; omega)) (Ev.bind (impl_PackChunk.ev ((upV D S).1 ++ [s]) (by simp; omega)) (Ev.pure' ?_)))
  · rw [Bool.not_eq_true'] at c; rw [apF, c]; rfl
  · rw [Bool.not_eq_false'] at c; rw [apF, c]; rfl
theorem laws_zBytes.ev (l : List Int) : Ev (fun n => laws_zBytes n l l) true := by
  refine Ev.step ?_
  simp only [laws_zBytes.step]
  exact Ev.pure' (by rw [seq_iff]; simp)
theorem laws_zByte.ev (l : List Int) (hl : CodeOK l) (i : Int) (hi : 0 ≤ i) : EvP (fun n => laws_zByte n l i) (fun (r : Int) => 0 ≤ r ∧ r ≤ 255) := by
  refine EvP.step ?_
  simp only [laws_zByte.step]
  refine EvP.cnd (fun e => ?_) fun _ => EvP.pure ⟨by decide, by decide⟩
  have e : i < (l.length : Int) := of_decide_eq_true e
  obtain ⟨j, rfl⟩ := Int.eq_ofNat_of_zero_le hi
  have hx := hl.2 (l.getD j default) (getD_mem (by omega))
  refine EvP.yes (inB_nat (by omega)) (EvP.pure ?_)
  rw [Int.toNat_natCast, i64_ok (by omega) (by omega)]
  exact hx
theorem laws_zInt.ev (l : List Int) (hl : CodeOK l) (i : Int) (hi : 0 ≤ i) (hi2 : i ≤ 100) : EvP (fun n => laws_zInt n l i) (fun (r : Int) => InR r) := by
  have loop : ∀ (d j : Nat) (y : Int), j + d = 8 → InR y → EvP (fun n => goRec laws_zInt.step n (laws_zInt.Pt.p9 l i y (j : Int))) (fun (r : Int) => InR r) := by
    intro d
    induction d with
    | zero =>
      intro j y hj hy
      refine EvP.step ?_
      simp only [laws_zInt.step]
      exact EvP.no (decide_eq_false (by omega)) (EvP.pure hy)
    | succ d ih =>
      intro j y hj hy
      refine EvP.step ?_
      simp only [laws_zInt.step, i64_nat (show j ≤ 4611686018427387904 by omega), i64_ok (x := i + (j : Int)) (by omega) (by omega)]
      exact EvP.yes (decide_eq_true (by omega)) (EvP.bindP (laws_zByte.ev l hl (i + (j : Int)) (by omega)) fun r hr => ih (j + 1) _ (by omega) wrapR)
  refine EvP.step ?_
  simp only [laws_zInt.step]
  exact loop 8 0 0 (by omega) ⟨by decide, by decide⟩
theorem code_of {l : List Int} (h : ∀ x ∈ l, Wf (.int .u8) x) (hl : l.length ≤ 1048576) : CodeOK l := ⟨hl, fun x hx => by
    have h2 : decide (IntKind.u8.min ≤ x) && decide (x ≤ IntKind.u8.max) := h x hx
    rw [Bool.and_eq_true] at h2
    have a : IntKind.u8.min ≤ x := of_decide_eq_true h2.1
    have b : x ≤ IntKind.u8.max := of_decide_eq_true h2.2
    have ea : IntKind.u8.min = 0 := by decide
    have eb : IntKind.u8.max = 255 := by decide
    omega⟩
theorem laws_FnChunks.ev (code more : List Int) (hw : Wf (.bs (.int .u8)) code) (hm : Wf (.sl false (.int .u8)) more) : Ev (fun n => laws_FnChunks n code more) true := by
  have p33 : CodeOK more → Ev (fun n => goRec laws_FnChunks.step n (laws_FnChunks.Pt.p33 more)) true := by
    intro hmo
    have loop : ∀ (s v : Int), 1 ≤ s → s ≤ 64 → ∀ d i : Nat, i + d = 120 → Ev (fun n => goRec laws_FnChunks.step n (laws_FnChunks.Pt.p59 s v (i : Int) (stL s v i))) true := by
      intro s v h0 h1 d
      induction d with
      | zero =>
        intro i hi
        obtain rfl : i = 120 := by omega
        refine Ev.step ?_
        simp only [laws_FnChunks.step]
        refine Ev.no (by decide) (Ev.bind (impl_PackChunk.ev _ (by rw [stL_len]; decide)) (Ev.pure' ?_))
        have := stL_size h0 h1 (v := v)
        exact decide_eq_true (by show (((chunkF (stL s v 120)).2 : Nat) : Int) = 358; rw [this]; rfl)
      | succ d ih =>
        intro i hi
        refine Ev.step ?_
        have a : (i : Int) * s ≤ (i : Int) * 64 := Int.mul_le_mul_of_nonneg_left h1 (by omega)
        have b : 0 ≤ (i : Int) * s := Int.mul_nonneg (by omega) (by omega)
        simp only [laws_FnChunks.step, i64_nat (show i ≤ 4611686018427387904 by omega), i64_ok (x := (i : Int) * s) (by omega) (by omega)]
        refine Ev.yes (decide_eq_true (by omega)) (Ev.yes (room_ok (by simp [stL_len]; omega)) ?_)
        have := ih (i + 1) (by omega)
        rw [stL_succ] at this
        exact this
    refine Ev.step ?_
    simp only [laws_FnChunks.step]
    refine Ev.bindP (laws_zByte.ev more hmo 0 (by decide)) fun r4 h4 => Ev.bindP (laws_zInt.ev more hmo 1 (by decide) (by decide)) fun r5 h5 => ?_
    obtain ⟨z, rfl⟩ := Int.eq_ofNat_of_zero_le h4.1
    have e : IntKind.wrap .i64 ((1 : Int) + Int.tmod (z : Int) 64) = ((1 + z % 64 : Nat) : Int) := by
      rw [show (64 : Int) = ((64 : Nat) : Int) from rfl, tmod_nat, i64_ok (by omega) (by omega)]; omega
    have := loop ((1 + z % 64 : Nat) : Int) r5 (by omega) (by omega) 120 0 (by omega)
    show Ev (fun n => goRec laws_FnChunks.step n (laws_FnChunks.Pt.p59 (IntKind.wrap .i64 ((1 : Int) + Int.tmod (z : Int) 64)) r5 0 [])) true
    rw [e]
    exact this
  have big : Ev (fun n => goRec laws_FnChunks.step n (laws_FnChunks.Pt.p4 code more true)) true := by
    refine Ev.step ?_
    simp only [laws_FnChunks.step]
    exact Ev.yes rfl Ev.pure
  refine Ev.step ?_
  simp only [laws_FnChunks.step]
  refine Ev.cnd (fun _ => big) fun e1 => ?_
  have hc : CodeOK code := code_of hw.2 (by have := of_decide_eq_false e1; omega)
  by_cases e2 : (1048576 : Int) < (more.length : Int)
  · rw [decide_eq_true e2]; exact big
  rw [decide_eq_false e2]
  have hmo : CodeOK more := code_of hm.2 (by omega)
  refine Ev.step ?_
  simp only [laws_FnChunks.step]
  refine Ev.no rfl (Ev.bindP (spec_DrawPackChunk.ev code hc) ?_)
  rintro l ⟨hv, hlen⟩
  refine Ev.bind (impl_PackChunk.ev l (by omega)) (Ev.bind (spec_GoodSamples.ev l (by omega)) ?_)
  have bad : (samplesB l && decide (l.length ≤ 120)) = false → Ev (fun n => goRec laws_FnChunks.step n (laws_FnChunks.Pt.p16 more true l (outB (chunkF l)).2.1 (outB (chunkF l)).1)) true := fun h => by
    refine Ev.step ?_
    simp only [laws_FnChunks.step]
    refine Ev.yes rfl (Ev.pure' (decide_eq_true ?_))
    rw [chunkF, h]; rfl
  refine Ev.cnd (fun c => bad (by rw [Bool.not_eq_true'] at c; rw [c]; rfl)) fun c => ?_
  rw [Bool.not_eq_false'] at c
  by_cases e3 : l.length ≤ 120
  case neg =>
    rw [decide_eq_true (show (120 : Int) < (l.length : Int) by omega)]
    exact bad (by rw [decide_eq_false e3, Bool.and_false])
  rw [decide_eq_false (show ¬ (120 : Int) < (l.length : Int) by omega)]
  have eF : chunkF l = packV l := by rw [chunkF, c, decide_eq_true e3]; rfl
  rw [eF]
  have hu := upV_pack c hv.vals e3
  have hby : BYB (packV l).1 := packV_by
  have hsz : (packV l).1.length ≤ 1048576 := by
    have := (@chunkF_ok l).1
    rw [eF] at this
    have h2 := (@chunkF_ok l).2
    rw [eF] at h2
    have : (packV l).1.length = _ := this
    omega
  have un := impl_UnpackChunk.ev (packV l).1 ((packV l).2 : Int) hby hsz
  rw [hu] at un
  have cnt := impl_CountOf.ev (packV l).1 ((packV l).2 : Int) hby hsz
  rw [hu] at cnt
  have gb := impl_GoodBits.ev (packV l).1 ((packV l).2 : Int) hby hsz
  rw [pack_good e3] at gb
  have p26 : Ev (fun n => goRec laws_FnChunks.step n (laws_FnChunks.Pt.p26 more false l ((packV l).2 : Int) (packV l).1)) true := by
    have p41 : Ev (fun n => goRec laws_FnChunks.step n (laws_FnChunks.Pt.p41 more false)) true := by
      refine Ev.step ?_
      simp only [laws_FnChunks.step]
      exact Ev.no rfl (p33 hmo)
    refine Ev.step ?_
    simp only [laws_FnChunks.step]
    refine Ev.no rfl (Ev.cnd (fun e => ?_) fun _ => p33 hmo)
    have e : 0 < l.length := by have := of_decide_eq_true e; omega
    have hg' : samplesB (l.take (l.length - 1)) = true := samples_take c
    have hl' : (l.take (l.length - 1)).length ≤ 120 := by rw [List.length_take]; omega
    have hv' : VR (l.take (l.length - 1)) := fun x hx => hv x (List.mem_of_mem_take hx)
    have eF' : chunkF (l.take (l.length - 1)) = packV (l.take (l.length - 1)) := by rw [chunkF, hg', decide_eq_true hl']; rfl
    have hby' : BYB (packV (l.take (l.length - 1))).1 := packV_by
    have hsz' : (packV (l.take (l.length - 1))).1.length ≤ 1048576 := by
      have h1 := (@chunkF_ok (l.take (l.length - 1))).1
      have h2 := (@chunkF_ok (l.take (l.length - 1))).2
      rw [eF'] at h1 h2
      have : (packV (l.take (l.length - 1))).1.length = _ := h1
      omega
    have eA : apF (packV (l.take (l.length - 1))).1 ((packV (l.take (l.length - 1))).2 : Int) (l.getD (l.length - 1) default) = packV l := by
      rw [apF, upV_pack hg' hv'.vals hl', if_pos rfl, ← take_next (by omega), show l.length - 1 + 1 = l.length by omega, List.take_length, eF]
    simp only [pred_i64 (show l.length ≠ 0 by omega) (show l.length ≤ 4611686018427387904 by omega), Int.toNat_zero, toNat_cast, Nat.sub_zero, Nat.zero_add, List.drop_zero]
    refine Ev.yes (inC_nat (i := 0) (by omega) (by omega)) (Ev.bind (impl_PackChunk.ev _ (by omega)) (Ev.yes (inB_nat (by omega)) ?_))
    rw [eF']
    have ap := impl_AppendChunk.ev (packV (l.take (l.length - 1))).1 ((packV (l.take (l.length - 1))).2 : Int) (l.getD (l.length - 1) default) hby' hsz'
    rw [eA] at ap
    refine Ev.bind ap ?_
    refine Ev.no (by simp [outB]) (Ev.bind (laws_zBytes.ev _) p41)
  refine Ev.step ?_
  simp only [laws_FnChunks.step]
  refine Ev.no rfl (Ev.bind un (Ev.no rfl (Ev.bind (laws_zSamples.ev l (by omega)) (Ev.no rfl (Ev.bind cnt (Ev.no (by simp [cntV]) (Ev.bind gb ?_)))))))
  exact p26
end Go.CH
