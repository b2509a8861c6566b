/- What these functions come to, part 1. -/
import Derived.Test.YtcfcnnamjfgahabGreatV1
import Derived.Test.YtcfcnnamjfgahabGreatV2
import Derived.Test.YtcfcnnamjfgahabGreatV3
import Derived.Test.YtcfcnnamjfgahabGreatV4
import Derived.Test.YtcfcnnamjfgahabGreatFExactPutAll1
import Derived.Test.YtcfcnnamjfgahabGreatFExactPutAll2
open Go Go.VM
set_option maxRecDepth 100000
namespace Go.PA
set_option linter.unusedVariables false
set_option linter.unusedSimpArgs false
abbrev MT := ByteArray × Int × ByteArray × Unit
def matcherB (x : MT) : Bool := nameB x.1 && decide (1 ≤ x.2.1) && decide (x.2.1 ≤ 4) && decide (x.2.2.1.size ≤ 100) && printB x.2.2.1 && (decide (x.2.1 < 3) || (alts x.2.2.1).isSome)
def matchersB (l : List MT) : Bool := decide (l.length ≤ 10) && (List.range l.length).all fun i => matcherB (l.getD i default)
abbrev MU : U := .pair .str (.pair (.int .i64) (.pair .str .unit))
abbrev SIL := ByteArray × List MT × Int × Int × Unit
abbrev SIU : U := .pair .str (.pair (.sl false MU) (.pair (.int .i64) (.pair (.int .i64) .unit)))
def silB (l : List SIL) (i : Nat) : Bool := nameB (l.getD i default).1 && matchersB (l.getD i default).2.1 && decide ((l.getD i default).2.1.length ≠ 0) && timeB (l.getD i default).2.2.1 && timeB (l.getD i default).2.2.2.1 &&
  decide ((l.getD i default).2.2.1 ≤ (l.getD i default).2.2.2.1) && (decide (i = 0) || decide (cmpT (l.getD (i - 1) default).1 (l.getD i default).1 < 0))
def silsB (l : List SIL) : Bool := decide (l.length ≤ 50) && (List.range l.length).all (silB l)
/-- texts that rise -/
def risingB (l : List ByteArray) : Bool := (List.range (l.length - 1)).all fun i => decide (cmpT (l.getD i default) (l.getD (i + 1) default) < 0)
def namesB (l : List ByteArray) : Bool := decide (l.length ≤ 10) && risingB l && (List.range l.length).all fun i => nameB (l.getD i default)
abbrev INH := List MT × List MT × List ByteArray × Unit
abbrev INU : U := .pair (.sl false MU) (.pair (.sl false MU) (.pair (.sl false .str) .unit))
def inhB (x : INH) : Bool := matchersB x.1 && matchersB x.2.1 && decide (x.1.length ≠ 0) && decide (x.2.1.length ≠ 0) && namesB x.2.2.1
def inhsB (l : List INH) : Bool := decide (l.length ≤ 20) && (List.range l.length).all fun i => inhB (l.getD i default)
def lp (y : Int) : Int := if y % 4 = 0 ∧ (y % 100 ≠ 0 ∨ y % 400 = 0) then 1 else 0
def yl (y : Int) : Int := 365 + lp y
def dto (y : Int) : Int := (y - 1970) * 365 + ((y - 1) / 4 - (y - 1) / 100 + (y - 1) / 400) - 477
def mon (y m : Int) : Int := if m = 2 then 28 + lp y else if m = 4 ∨ m = 6 ∨ m = 9 ∨ m = 11 then 30 else 31
def cumd (y m : Int) : Int := if m ≤ 1 then 0 else if m = 2 then 31 else if m = 3 then 59 + lp y else if m = 4 then 90 + lp y else if m = 5 then 120 + lp y else if m = 6 then 151 + lp y else if m = 7 then 181 + lp y else if m = 8 then 212 + lp y else if m = 9 then 243 + lp y else if m = 10 then 273 + lp y else if m = 11 then 304 + lp y else if m = 12 then 334 + lp y else 365 + lp y
noncomputable def yearOf (day : Int) : Int := @dite _ (∃ y, 1970 ≤ y ∧ dto y ≤ day ∧ day < dto (y + 1)) (Classical.propDecidable _) (fun h => h.choose) (fun _ => 0)
noncomputable def monthOf (y n : Int) : Int := @dite _ (∃ m, 1 ≤ m ∧ m ≤ 12 ∧ cumd y m ≤ n ∧ n < cumd y m + mon y m) (Classical.propDecidable _) (fun h => h.choose) (fun _ => 0)
abbrev DTE := Int × Int × Int × Int × Int × Int × Unit
noncomputable def dateOfDay (day mi : Int) : DTE := (yearOf day, monthOf (yearOf day) (day - dto (yearOf day)), day - dto (yearOf day) - cumd (yearOf day) (monthOf (yearOf day) (day - dto (yearOf day))) + 1, mon (yearOf day) (monthOf (yearOf day) (day - dto (yearOf day))), (day + 4) % 7, mi, ())
def dateIn (t z : Int) : Bool := timeB t && decide (-1440 ≤ z) && decide (z ≤ 1440) && decide (0 ≤ t + 60 * z)
noncomputable def dateV (t z : Int) : DTE := if dateIn t z = true then dateOfDay ((t + 60 * z) / 86400) ((t + 60 * z) / 60 % 1440) else (0, 0, 0, 0, 0, 0, ())
def dayIn (y m d : Int) : Bool := decide (1970 ≤ y) && decide (y ≤ 40000) && decide (1 ≤ m) && decide (m ≤ 12) && decide (1 ≤ d) && decide (d ≤ mon y m)
def dayV (y m d : Int) : Int := if dayIn y m d = true then dto y + d - 1 + cumd y m else -1
theorem lp_01 (y : Int) : lp y = 0 ∨ lp y = 1 := by unfold lp; split <;> simp
theorem dto_succ (y : Int) : dto (y + 1) = dto y + yl y := by unfold dto yl lp; split <;> omega
theorem dto_1970 : dto 1970 = 0 := by decide
theorem mon_bd (y m : Int) : 28 ≤ mon y m ∧ mon y m ≤ 31 := by
  have := lp_01 y
  unfold mon; split
  · omega
  · split <;> omega
theorem dto_bd (y : Int) (h : 1970 ≤ y) : 365 * (y - 1970) ≤ dto y ∧ dto y ≤ 366 * (y - 1970) := by unfold dto; omega
theorem dto_mono (a : Int) (d : Nat) : dto a + 365 * d ≤ dto (a + d) := by
  induction d with
  | zero => simp
  | succ d ih =>
    have h := dto_succ (a + d)
    have hl := lp_01 (a + d)
    have hyl : yl (a + d) = 365 + lp (a + d) := rfl
    rw [show a + ((d + 1 : Nat) : Int) = a + d + 1 by omega]
    omega
theorem dto_lt (a b : Int) (h : a ≤ b) : dto a + 365 * (b - a) ≤ dto b := by
  have := dto_mono a (b - a).toNat
  rw [show a + ((b - a).toNat : Int) = b by omega] at this
  omega
theorem year_of (day : Int) (h : 0 ≤ day) : ∃ y, 1970 ≤ y ∧ dto y ≤ day ∧ day < dto (y + 1) := by
  have key : ∀ d : Nat, dto 1970 ≤ day ∧ day < dto (1970 + d) → ∃ y, 1970 ≤ y ∧ dto y ≤ day ∧ day < dto (y + 1) := by
    intro d
    induction d with
    | zero => intro ⟨h1, h2⟩; simp at h2; omega
    | succ d ih =>
      intro ⟨h1, h2⟩
      by_cases c : day < dto (1970 + d)
      · exact ih ⟨h1, c⟩
      · exact ⟨1970 + d, by omega, by omega, by rw [show (1970 : Int) + d + 1 = 1970 + ((d + 1 : Nat) : Int) by omega]; exact h2⟩
  refine key (day.toNat + 1) ⟨by rw [dto_1970]; exact h, ?_⟩
  have := dto_mono 1970 (day.toNat + 1)
  rw [dto_1970] at this
  omega
theorem yearOf_spec (day : Int) (h : 0 ≤ day) : 1970 ≤ yearOf day ∧ dto (yearOf day) ≤ day ∧ day < dto (yearOf day + 1) := by
  unfold yearOf
  rw [dif_pos (year_of day h)]
  exact (year_of day h).choose_spec
theorem cumd_succ (y m : Int) (h1 : 1 ≤ m) (h2 : m ≤ 12) : cumd y (m + 1) = cumd y m + mon y m := by
  have hm : m = 1 ∨ m = 2 ∨ m = 3 ∨ m = 4 ∨ m = 5 ∨ m = 6 ∨ m = 7 ∨ m = 8 ∨ m = 9 ∨ m = 10 ∨ m = 11 ∨ m = 12 := by omega
  rcases hm with rfl | rfl | rfl | rfl | rfl | rfl | rfl | rfl | rfl | rfl | rfl | rfl <;> simp [cumd, mon] <;> omega
theorem ite_nn {c : Prop} [Decidable c] {a b : Int} (ha : 0 ≤ a) (hb : 0 ≤ b) : 0 ≤ (if c then a else b) := by split <;> assumption
theorem cumd_nn (y m : Int) : 0 ≤ cumd y m := by
  have := lp_01 y
  unfold cumd
  iterate 12 (refine ite_nn (by omega) ?_)
  omega
theorem ite_le {c : Prop} [Decidable c] {a b k : Int} (ha : a ≤ k) (hb : b ≤ k) : (if c then a else b) ≤ k := by split <;> assumption
theorem cumd_le (y m : Int) : cumd y m ≤ 366 := by
  have := lp_01 y
  unfold cumd
  iterate 12 (refine ite_le (by omega) ?_)
  omega
theorem month_of (y n : Int) (h : 0 ≤ n) (h' : n < yl y) : ∃ m, 1 ≤ m ∧ m ≤ 12 ∧ cumd y m ≤ n ∧ n < cumd y m + mon y m := by
  have h13 : cumd y 13 = yl y := by simp [cumd, yl]
  have h1 : cumd y 1 = 0 := by simp [cumd]
  have key : ∀ d : Nat, d ≤ 12 → n < cumd y (1 + d) → ∃ m, 1 ≤ m ∧ m ≤ 12 ∧ cumd y m ≤ n ∧ n < cumd y m + mon y m := by
    intro d
    induction d with
    | zero => intro _ h2; simp at h2; omega
    | succ d ih =>
      intro hd h2
      by_cases c : n < cumd y (1 + d)
      · exact ih (by omega) c
      · refine ⟨1 + d, by omega, by omega, by omega, ?_⟩
        rw [← cumd_succ y (1 + d) (by omega) (by omega), show (1 : Int) + d + 1 = 1 + ((d + 1 : Nat) : Int) by omega]; exact h2
  exact key 12 (Nat.le_refl _) (by rw [show (1 : Int) + ((12 : Nat) : Int) = 13 from rfl, h13]; exact h')
theorem monthOf_spec (y n : Int) (h : 0 ≤ n) (h' : n < yl y) : 1 ≤ monthOf y n ∧ monthOf y n ≤ 12 ∧ cumd y (monthOf y n) ≤ n ∧ n < cumd y (monthOf y n) + mon y (monthOf y n) := by
  unfold monthOf
  rw [dif_pos (month_of y n h h')]
  exact (month_of y n h h').choose_spec
theorem mon_lt (y m i n : Int) (h1 : 1 ≤ i) (hi : i < m) (h2 : m ≤ 12) (hm : cumd y m ≤ n) : mon y i ≤ n - cumd y i := by
  have key : ∀ d : Nat, i + d + 1 ≤ m → cumd y (i + 1) ≤ cumd y (i + 1 + d) := by
    intro d
    induction d with
    | zero => intro _; simp
    | succ d ih =>
      intro hd
      have := cumd_succ y (i + 1 + d) (by omega) (by omega)
      have hb := mon_bd y (i + 1 + d)
      rw [show i + 1 + ((d + 1 : Nat) : Int) = i + 1 + d + 1 by omega]
      have := ih (by omega)
      omega
  have a := key (m - i - 1).toNat (by omega)
  rw [show i + 1 + ((m - i - 1).toNat : Int) = m by omega] at a
  have b := cumd_succ y i h1 (by omega)
  omega
theorem w64 {n : Int} (h : -9223372036854775808 ≤ n) (h' : n ≤ 9223372036854775807) : IntKind.wrap .i64 n = n := i64_ok h h'
abbrev RG := Int × Int × Unit
abbrev RGU : U := .pair (.int .i64) (.pair (.int .i64) .unit)
abbrev ITV := Int × List RG × List RG × List RG × List RG × List RG × List Int × Unit
abbrev ITU : U := .pair (.int .i64) (.pair (.sl false RGU) (.pair (.sl false RGU) (.pair (.sl false RGU) (.pair (.sl false RGU) (.pair (.sl false RGU) (.pair (.sl false (.int .i64)) .unit))))))
def rangeB (lo hi : Int) (r : RG) : Bool := decide (r.1 ≤ r.2.1) && decide (lo ≤ r.1) && decide (r.2.1 ≤ hi)
def rangesB (l : List RG) (lo hi : Int) : Bool := decide (l.length ≤ 10) && (List.range l.length).all fun i => rangeB lo hi (l.getD i default)
/-- numbers that rise -/
def risingI (l : List Int) : Bool := (List.range (l.length - 1)).all fun i => decide (l.getD i default < l.getD (i + 1) default)
def freeB (n : Int) : Bool := decide (0 ≤ n) && decide (n ≤ 20000000)
def dayRB (r : RG) : Bool := decide (0 < r.1) || decide (r.2.1 < 0)
def dayRS (r : RG) : Bool := !decide (r.1 = 0) && !decide (r.2.1 = 0) && (decide (r.1 < 0) == decide (r.2.1 < 0))
def allG {α : Type} [Inhabited α] (p : α → Bool) (l : List α) : Bool := (List.range l.length).all fun i => p (l.getD i default)
def itvB (x : ITV) : Bool := decide (-1440 ≤ x.1) && decide (x.1 ≤ 1440) && rangesB x.2.1 0 1439 && rangesB x.2.2.1 0 6 && rangesB x.2.2.2.1 (-31) 31 && rangesB x.2.2.2.2.1 1 12 && rangesB x.2.2.2.2.2.1 1970 40000 &&
  decide (x.2.2.2.2.2.2.1.length ≤ 10) && risingI x.2.2.2.2.2.2.1 && allG dayRB x.2.2.2.1 && allG freeB x.2.2.2.2.2.2.1
def inRB (l : List RG) (n : Int) : Bool := decide (l.length = 0) || (List.range l.length).any fun i => decide ((l.getD i default).1 ≤ n) && decide (n ≤ (l.getD i default).2.1)
def inIB (l : List Int) (n : Int) : Bool := (List.range l.length).any fun i => decide (l.getD i default = n)
noncomputable def inItvB (x : ITV) (t : Int) : Bool := itvB x && timeB t && !decide ((dateV t x.1).1 = 0) && inRB x.2.1 (dateV t x.1).2.2.2.2.2.1 && inRB x.2.2.1 (dateV t x.1).2.2.2.2.1 &&
  (inRB x.2.2.2.1 (dateV t x.1).2.2.1 || inRB x.2.2.2.1 (IntKind.wrap .i64 ((IntKind.wrap .i64 ((dateV t x.1).2.2.1 - (dateV t x.1).2.2.2.1)) - (1 : Int)))) && inRB x.2.2.2.2.1 (dateV t x.1).2.1 && inRB x.2.2.2.2.2.1 (dateV t x.1).1 &&
  !inIB x.2.2.2.2.2.2.1 (dayV (dateV t x.1).1 (dateV t x.1).2.1 (dateV t x.1).2.2.1)
theorem days_same (l : List RG) (lo hi : Int) : (allG dayRS l && rangesB l lo hi) = (allG dayRB l && rangesB l lo hi) := by
  cases h : rangesB l lo hi with
  | false => simp
  | true =>
    simp only [rangesB, Bool.and_eq_true, List.all_eq_true] at h
    rw [Bool.and_true, Bool.and_true, allG, allG, Bool.eq_iff_iff, List.all_eq_true, List.all_eq_true]
    have key : ∀ i ∈ List.range l.length, dayRS (l.getD i default) = dayRB (l.getD i default) := by
      intro i hi
      have := h.2 i hi
      simp only [rangeB, Bool.and_eq_true, decide_eq_true_eq] at this
      generalize l.getD i default = r at this
      simp only [dayRS, dayRB]
      have e1 : (r.1 = 0) = (¬ r.1 < 0 ∧ ¬ 0 < r.1) := propext (by omega)
      have e2 : (r.2.1 = 0) = (¬ r.2.1 < 0 ∧ ¬ 0 < r.2.1) := propext (by omega)
      by_cases a : r.1 < 0 <;> by_cases a' : 0 < r.1 <;> by_cases b : r.2.1 < 0 <;> by_cases b' : 0 < r.2.1 <;> first | (exfalso; omega) | simp [e1, e2, a, a', b, b']
    exact ⟨fun hh i hi => by rw [← key i hi]; exact hh i hi, fun hh i hi => by rw [key i hi]; exact hh i hi⟩
theorem wf_i64 {n : Int} (h : (Lit.int .i64 n).wf = true) : -9223372036854775808 ≤ n ∧ n ≤ 9223372036854775807 := by
  have h2 : decide (IntKind.i64.min ≤ n) && decide (n ≤ IntKind.i64.max) := h
  rw [Bool.and_eq_true] at h2
  have a : IntKind.i64.min ≤ n := of_decide_eq_true h2.1
  have b : n ≤ IntKind.i64.max := of_decide_eq_true h2.2
  have ea : IntKind.i64.min = -9223372036854775808 := by decide
  have eb : IntKind.i64.max = 9223372036854775807 := by decide
  omega
abbrev LB := ByteArray × ByteArray × Unit
abbrev LU : U := .pair .str (.pair .str .unit)
def valueB (s : ByteArray) : Bool := decide (1 ≤ s.size) && decide (s.size ≤ 100) && printB s
def labB (l : List LB) (i : Nat) : Bool := nameB (l.getD i default).1 && valueB (l.getD i default).2.1 && (decide (i = 0) || decide (cmpT (l.getD (i - 1) default).1 (l.getD i default).1 < 0))
def labelsB (l : List LB) : Bool := decide (l.length ≤ 20) && (List.range l.length).all (labB l)
def valL : List LB → ByteArray → ByteArray
  | [], _ => ⟨#[]⟩
  | x :: r, k => bif seq x.1 k then x.2.1 else valL r k
theorem drop_getD {α : Type} [Inhabited α] {l : List α} {i : Nat} (h : i < l.length) : l.drop i = l.getD i default :: l.drop (i + 1) := by
  rw [List.drop_eq_getElem_cons h, List.getD_eq_getElem?_getD, List.getElem?_eq_getElem h]; rfl
theorem labelsB_value {l : List LB} (h : labelsB l = true) : ∀ i, i < l.length → (l.getD i default).2.1.size ≤ 100 := by
  intro i hi
  simp only [labelsB, Bool.and_eq_true, List.all_eq_true, List.mem_range] at h
  have := h.2 i hi
  simp only [labB, valueB, Bool.and_eq_true, decide_eq_true_eq] at this
  exact this.1.2.1.2
theorem valL_small {l : List LB} {k : ByteArray} (h : ∀ x ∈ l, x.2.1.size ≤ 100) : (valL l k).size ≤ 100 := by
  induction l with
  | nil => simp [valL, size_empty]
  | cons x l ih =>
    simp only [valL]
    cases seq x.1 k with
    | true => exact h x (by simp)
    | false => exact ih fun y hy => h y (by simp [hy])
theorem labelsB_small {l : List LB} (h : labelsB l = true) {k : ByteArray} : (valL l k).size ≤ 100 := valL_small fun x hx => by
  obtain ⟨j, hj, rfl⟩ := List.getElem_of_mem hx
  have := labelsB_value h j hj
  rwa [List.getD_eq_getElem?_getD, List.getElem?_eq_getElem hj] at this
/-- whether a pattern's codes fit bytes -/
def mt : List Int → List Int → Bool
  | [], s => s.isEmpty
  | c :: p, s => if c = -1 then mt p s || (match s with | [] => false | _ :: r => mt (c :: p) r) else match s with | [] => false | x :: r => (decide (c = -2) || decide (c = x)) && mt p r
termination_by p s => p.length + s.length
decreasing_by all_goals simp_wf; try omega
def fitsP (p s : ByteArray) : Bool := match alts p with | some l => (List.range l.length).any fun i => mt (l.getD i default) (octs s) | none => false
def cellM (p : List Int) (s : ByteArray) (j i : Nat) : Bool := mt (p.drop j) ((octs s).drop i)
theorem cell_end {p : List Int} {s : ByteArray} {i : Nat} (hi : i ≤ s.size) : cellM p s p.length i = decide (i = s.size) := by
  rw [cellM, List.drop_length, mt.eq_def]
  rcases Nat.eq_or_lt_of_le hi with rfl | hi
  · rw [octs_nil]; simp
  · rw [octs_drop hi]; simp; omega
theorem dropI {p : List Int} {j : Nat} (h : j < p.length) : p.drop j = p.getD j default :: p.drop (j + 1) := drop_getD h
theorem cell_star {p : List Int} {s : ByteArray} {j i : Nat} (hj : j < p.length) (hi : i ≤ s.size) (h : p.getD j default = -1) : cellM p s j i = (cellM p s (j + 1) i || (decide (i < s.size) && cellM p s j (i + 1))) := by
  simp only [cellM]
  rw [dropI hj, h]
  rw [mt.eq_def]
  simp only [if_true]
  rcases Nat.eq_or_lt_of_le hi with rfl | hi
  · rw [octs_nil]; simp
  · rw [octs_drop hi]; simp [hi]
theorem cell_one {p : List Int} {s : ByteArray} {j i : Nat} (hj : j < p.length) (hi : i < s.size) (h : p.getD j default ≠ -1) : cellM p s j i = ((decide (p.getD j default = -2) || decide (p.getD j default = bt s i)) && cellM p s (j + 1) (i + 1)) := by
  simp only [cellM]
  rw [dropI hj, mt.eq_def]
  simp only [if_neg h]
  rw [octs_drop hi]
theorem cell_no {p : List Int} {s : ByteArray} {j : Nat} (hj : j < p.length) (h : p.getD j default ≠ -1) : cellM p s j s.size = false := by
  simp only [cellM]
  rw [dropI hj, mt.eq_def]
  simp only [if_neg h]
  rw [octs_nil]
theorem i64_down {k : Nat} (h : k ≤ 4611686018427387904) : IntKind.wrap .i64 ((k : Int) - 1) = (k : Int) - 1 := by rw [i64_ok] <;> omega
theorem inC_eq {n : Nat} (h : n ≤ 1000000000) : inC (n : Int) (n : Int) 1000000000 = true := by simp only [inC, decide_eq_true_eq]; omega
/-- comes to something of which this holds -/
def EvP {α : Type} (f : Nat → Option α) (Q : α → Prop) : Prop := ∃ v, Ev f v ∧ Q v
namespace EvP
variable {α β : Type} {Q : α → Prop}
theorem pure {v : α} (h : Q v) : EvP (fun _ => some v) Q := ⟨v, Ev.pure, h⟩
theorem of {f : Nat → Option α} {v : α} (h : Ev f v) (q : Q v) : EvP f Q := ⟨v, h, q⟩
theorem imp {f : Nat → Option α} {R : α → Prop} (h : EvP f Q) (q : ∀ v, Q v → R v) : EvP f R := ⟨h.choose, h.choose_spec.1, q _ h.choose_spec.2⟩
theorem bind {f : Nat → Option β} {g : Nat → β → Option α} {a : β} (h : Ev f a) (h' : EvP (fun n => g n a) Q) : EvP (fun n => (f n).bind (g n)) Q := ⟨h'.choose, Ev.bind h h'.choose_spec.1, h'.choose_spec.2⟩
theorem bindP {f : Nat → Option β} {g : Nat → β → Option α} {R : β → Prop} (h : EvP f R) (h' : ∀ a, R a → EvP (fun n => g n a) Q) : EvP (fun n => (f n).bind (g n)) Q := by
  obtain ⟨a, h1, h2⟩ := h
  exact bind h1 (h' a h2)
theorem cnd {c : Bool} {f g : Nat → Option α} (ht : c = true → EvP f Q) (hf : c = false → EvP g Q) : EvP (fun n => cond c (f n) (g n)) Q := by
  cases c with
  | true => exact ht rfl
  | false => exact hf rfl
theorem yes {c : Bool} {f g : Nat → Option α} (hc : c = true) (h : EvP f Q) : EvP (fun n => cond c (f n) (g n)) Q := by subst hc; exact h
theorem no {c : Bool} {f g : Nat → Option α} (hc : c = false) (h : EvP g Q) : EvP (fun n => cond c (f n) (g n)) Q := by subst hc; exact h
theorem step {P : Type} {s : Nat → (P → Option α) → P → Option α} {p : P} (h : EvP (fun n => s n (goRec s n) p) Q) : EvP (fun n => goRec s n p) Q := ⟨h.choose, Ev.step h.choose_spec.1, h.choose_spec.2⟩
end EvP
theorem toP_star (c : Int) : (toP c).2.2.1 = decide (c = -1) := by
  simp only [toP]
  by_cases h : c = -1
  · simp [h]
  · by_cases h2 : c = -2 <;> simp [h, h2]
theorem toP_any {c : Int} : (toP c).2.1 = decide (c = -2) := by
  simp only [toP]
  by_cases h : c = -1
  · simp [h]
  · by_cases h2 : c = -2 <;> simp [h, h2]
theorem toP_byte {c : Int} (h : c ≠ -1) (h2 : c ≠ -2) : (toP c).1 = c := by simp [toP, h, h2]
theorem pat_len : ∀ (n : Nat) (r : List Int) (out : List (List Int)) (now : List Int) (l : List (List Int)), r.length ≤ n → pat r out now = some l → l.length ≤ out.length + 1 + r.length ∧ ∀ a ∈ l, a ∈ out ∨ a.length ≤ now.length + r.length := by
  intro n
  induction n with
  | zero =>
    intro r out now l hr h
    obtain rfl : r = [] := List.length_eq_zero_iff.1 (by omega)
    rw [pat_nil] at h
    cases h
    refine ⟨by simp, fun a ha => ?_⟩
    rcases List.mem_append.1 ha with ha | ha
    · exact .inl ha
    · right; simp at ha; subst ha; simp
  | succ n ih =>
    intro r out now l hr h
    match r, hr, h with
    | [], hr, h =>
      rw [pat_nil] at h
      cases h
      refine ⟨by simp, fun a ha => ?_⟩
      rcases List.mem_append.1 ha with ha | ha
      · exact .inl ha
      · right; simp at ha; subst ha; simp
    | c :: r, hr, h =>
      simp only [List.length_cons] at hr ⊢
      have one : ∀ e, pat r out (now ++ [e]) = some l → l.length ≤ out.length + 1 + (r.length + 1) ∧ ∀ a ∈ l, a ∈ out ∨ a.length ≤ now.length + (r.length + 1) := by
        intro e h
        obtain ⟨h1, h2⟩ := ih r out _ l (by omega) h
        refine ⟨by omega, fun a ha => ?_⟩
        rcases h2 a ha with h3 | h3
        · exact .inl h3
        · right; simp at h3; omega
      rw [pat_cons] at h
      split at h
      · obtain ⟨h1, h2⟩ := ih r _ _ l (by omega) h
        refine ⟨by simp at h1; omega, fun a ha => ?_⟩
        rcases h2 a ha with h3 | h3
        · rcases List.mem_append.1 h3 with h3 | h3
          · exact .inl h3
          · right; simp at h3; subst h3; omega
        · right; simp at h3; omega
      · split at h
        · exact one _ h
        · split at h
          · exact one _ h
          · split at h
            · match r, h with
              | e :: r', h =>
                simp only at h
                split at h
                · obtain ⟨h1, h2⟩ := ih r' out _ l (by simp only [List.length_cons] at hr; omega) h
                  refine ⟨by simp only [List.length_cons]; omega, fun a ha => ?_⟩
                  rcases h2 a ha with h3 | h3
                  · exact .inl h3
                  · right; simp at h3; simp only [List.length_cons]; omega
                · cases h
            · exact one _ h
theorem alts_len {s : ByteArray} {l : List (List Int)} (h : alts s = some l) : l.length ≤ 101 ∧ ∀ a ∈ l, a.length ≤ 100 := by
  rw [alts] at h
  split at h
  · rename_i hs
    obtain ⟨h1, h2⟩ := pat_len _ (octs s) [] [] l (Nat.le_refl _) h
    rw [octs_len] at h1 h2
    refine ⟨by simp at h1; omega, fun a ha => ?_⟩
    rcases h2 a ha with h3 | h3
    · cases h3
    · simp at h3; omega
  · cases h
def matchOne (x : MT) (v : ByteArray) : Bool := if x.2.1 = 1 then seq v x.2.2.1 else if x.2.1 = 2 then !seq v x.2.2.1 else if x.2.1 = 3 then fitsP x.2.2.1 v else !fitsP x.2.2.1 v
def fitsB (ms : List MT) (l : List LB) : Bool := (List.range ms.length).all fun i => matchOne (ms.getD i default) (valL l (ms.getD i default).1)
theorem range_map_getD {α : Type} [Inhabited α] (l : List α) : (List.range l.length).map (fun i => l.getD i default) = l := by
  refine ext_getD (d := default) (by simp) fun j hj => ?_
  simp [List.getD_eq_getElem?_getD, hj]
theorem any_range {α : Type} [Inhabited α] (l : List α) (p : α → Bool) : ((List.range l.length).any fun i => p (l.getD i default)) = l.any p := by
  conv => rhs; rw [← range_map_getD l, List.any_map]
  rfl
theorem all_range {α : Type} [Inhabited α] (l : List α) (p : α → Bool) : ((List.range l.length).all fun i => p (l.getD i default)) = l.all p := by
  conv => rhs; rw [← range_map_getD l, List.all_map]
  rfl
def inhOne (x : INH) (s t : List LB) : Bool := (fitsB x.1 s && !(fitsB x.2.1 s && fitsB x.1 t)) && x.2.2.1.all fun k => seq (valL s k) (valL t k)
def inhibitedB (l : List INH) (ss : List (List LB)) (t : List LB) : Bool := l.any fun x => fitsB x.2.1 t && ss.any fun s => inhOne x s t
def inhibitedF (l : List INH) (ss : List (List LB)) (t : List LB) : Bool := (inhsB l && decide (ss.length ≤ 200) && labelsB t && ss.all labelsB) && inhibitedB l ss t
theorem Ev.bindP {α β : Type} {f : Nat → Option β} {g : Nat → β → Option α} {R : β → Prop} {v : α} (h : EvP f R) (h' : ∀ a, R a → Ev (fun n => g n a) v) : Ev (fun n => (f n).bind (g n)) v := by
  obtain ⟨a, h1, h2⟩ := h
  exact Ev.bind h1 (h' a h2)
def silP (t : List LB) (n : Int) (x : SIL) : Bool := fitsB x.2.1 t && decide (x.2.2.1 ≤ n) && decide (n ≤ x.2.2.2.1)
def silL (l : List SIL) (t : List LB) (n : Int) : List ByteArray := (l.filter (silP t n)).map fun x => x.1
def silencedF (l : List SIL) (t : List LB) (n : Int) : List ByteArray := if (silsB l && labelsB t && timeB n) = true then silL l t n else []
theorem silencedF_small {l : List SIL} {t : List LB} {n : Int} (h : Sm 1048576 (.sl false SIU) l) : Sm 1048576 (.sl false .str) (silencedF l t n) := by
  have hl : l.length ≤ 1048576 := h.1
  rw [silencedF]
  split
  · refine ⟨?_, fun x hx => ?_⟩
    · have := List.length_filter_le (silP t n) l
      simp only [silL, List.length_map]
      omega
    · obtain ⟨y, hy, rfl⟩ := List.mem_map.1 hx
      exact (h.2 y (List.mem_filter.1 hy).1).1
  · exact ⟨by simp, fun x hx => by cases hx⟩
abbrev RTE := ByteArray × List MT × List ByteArray × Int × Int × Int × List Int × Bool × Int × Unit
abbrev RTU : U := .pair .str (.pair (.sl false MU) (.pair (.sl false .str) (.pair (.int .i64) (.pair (.int .i64) (.pair (.int .i64) (.pair (.sl false (.int .i64)) (.pair .bool (.pair (.int .i64) .unit))))))))
def mutesB (l : List Int) : Bool := (List.range l.length).all fun i => decide (0 ≤ l.getD i default) && decide (l.getD i default < 20)
def posB (n : Int) : Bool := decide (1 ≤ n) && decide (n ≤ 1000000000000)
def routeB (r : RTE) : Bool := nameB r.1 && matchersB r.2.1 && namesB r.2.2.1 && timeB r.2.2.2.1 && posB r.2.2.2.2.1 && posB r.2.2.2.2.2.1 && (decide (r.2.2.2.2.2.2.1.length ≤ 20) && risingI r.2.2.2.2.2.2.1) && mutesB r.2.2.2.2.2.2.1
def kidsOf (l : List RTE) (i : Nat) : Int := (l.getD i default).2.2.2.2.2.2.2.2.1
def manyN (f : Nat → Option Nat) : Nat → Nat → Option Nat
  | 0, p => some p
  | k + 1, p => match f p with | some q => manyN f k q | none => none
def nodeN (l : List RTE) (g : RTE → Bool) : Nat → Nat → Option Nat
  | 0, _ => none
  | d + 1, i => if (decide (i < l.length) && decide (0 ≤ kidsOf l i) && g (l.getD i default)) = true then manyN (nodeN l g d) (kidsOf l i).toNat (i + 1) else none
theorem posB_time {n : Int} : posB n = (timeB n && !decide (n = 0)) := by
  simp only [posB, timeB]
  by_cases h : n = 0
  · subst h; rfl
  · by_cases h2 : 0 ≤ n
    · have : 1 ≤ n := by omega
      simp [h, h2, this]
    · have : ¬ 1 ≤ n := by omega
      simp [h2, this]
def smallB (r : RTE) : Bool := decide (r.2.2.2.2.2.2.2.2.1 ≤ 40)
theorem manyN_le {f : Nat → Option Nat} (hf : ∀ p q, f p = some q → p < q) : ∀ k p q, manyN f k p = some q → p + k ≤ q
  | 0, p, q, h => by simp only [manyN, Option.some.injEq] at h; omega
  | k + 1, p, q, h => by
    simp only [manyN] at h
    cases hp : f p with
    | none => rw [hp] at h; cases h
    | some r =>
      rw [hp] at h
      have := hf p r hp
      have := manyN_le hf k r q h
      omega
theorem manyN_top {f : Nat → Option Nat} {m : Nat} (hf : ∀ p q, f p = some q → q ≤ m) : ∀ k p q, p ≤ m → manyN f k p = some q → q ≤ m
  | 0, p, q, hp, h => by simp only [manyN, Option.some.injEq] at h; omega
  | k + 1, p, q, hp, h => by
    simp only [manyN] at h
    cases hp' : f p with
    | none => rw [hp'] at h; cases h
    | some r =>
      rw [hp'] at h
      exact manyN_top hf k r q (hf p r hp') h
theorem nodeN_lt {l : List RTE} {g : RTE → Bool} : ∀ d i n, nodeN l g d i = some n → i < n ∧ n ≤ l.length
  | 0, i, n, h => by simp [nodeN] at h
  | d + 1, i, n, h => by
    simp only [nodeN] at h
    split at h
    · rename_i hc
      simp only [Bool.and_eq_true, decide_eq_true_eq] at hc
      have h1 := manyN_le (fun p q hq => (nodeN_lt d p q hq).1) _ _ _ h
      have h2 := manyN_top (m := l.length) (fun p q hq => (nodeN_lt d p q hq).2) _ _ _ (by omega) h
      omega
    · cases h
def tkV : Option Nat → Int | some q => (q : Int) | none => -1
theorem manyN_SI {f g : Nat → Option Nat} {G : Nat → Prop} (hf : ∀ p q, f p = some q → p < q ∧ g p = some q ∧ ∀ j, p ≤ j → j < q → G j) : ∀ k p q, manyN f k p = some q → manyN g k p = some q ∧ ∀ j, p ≤ j → j < q → G j
  | 0, p, q, h => by
    simp only [manyN, Option.some.injEq] at h
    subst h
    exact ⟨rfl, fun j h1 h2 => by omega⟩
  | k + 1, p, q, h => by
    simp only [manyN] at h ⊢
    cases hp : f p with
    | none => rw [hp] at h; cases h
    | some r =>
      rw [hp] at h
      obtain ⟨h1, h2, h3⟩ := hf p r hp
      obtain ⟨h4, h5⟩ := manyN_SI hf k r q h
      rw [h2]
      exact ⟨h4, fun j j1 j2 => if hj : j < r then h3 j j1 hj else h5 j (by omega) j2⟩
theorem nodeN_SI {l : List RTE} (hl : l.length ≤ 40) : ∀ d i n, nodeN l routeB d i = some n → nodeN l smallB d i = some n ∧ ∀ j, i ≤ j → j < n → routeB (l.getD j default) = true
  | 0, i, n, h => by simp [nodeN] at h
  | d + 1, i, n, h => by
    have hn := nodeN_lt _ _ _ h
    simp only [nodeN] at h ⊢
    split at h
    · rename_i hc
      have hc' := hc
      simp only [Bool.and_eq_true, decide_eq_true_eq] at hc
      have h1 := manyN_le (fun p q hq => (nodeN_lt d p q hq).1) _ _ _ h
      have hs : smallB (l.getD i default) = true := decide_eq_true (show kidsOf l i ≤ 40 by omega)
      obtain ⟨h2, h3⟩ := manyN_SI (G := fun j => routeB (l.getD j default) = true) (g := nodeN l smallB d) (fun p q hq => ⟨(nodeN_lt d p q hq).1, nodeN_SI hl d p q hq⟩) _ _ _ h
      rw [if_pos (by rw [decide_eq_true hc.1.1, decide_eq_true hc.1.2, hs]; rfl)]
      refine ⟨h2, fun j j1 j2 => ?_⟩
      rcases Nat.eq_or_lt_of_le j1 with rfl | j1
      · exact hc.2
      · exact h3 j (by omega) j2
    · cases h
theorem manyN_IS {f g : Nat → Option Nat} {G : Nat → Prop} (hl : ∀ p q, g p = some q → p < q) (hg : ∀ p q, g p = some q → (∀ j, p ≤ j → j < q → G j) → f p = some q) : ∀ k p q, manyN g k p = some q → (∀ j, p ≤ j → j < q → G j) → manyN f k p = some q
  | 0, p, q, h, _ => by simpa only [manyN] using h
  | k + 1, p, q, h, hG => by
    simp only [manyN] at h ⊢
    cases hp : g p with
    | none => rw [hp] at h; cases h
    | some r =>
      rw [hp] at h
      have h1 := hl p r hp
      have h2 := manyN_le hl k r q h
      rw [hg p r hp (fun j j1 j2 => hG j j1 (by omega))]
      exact manyN_IS hl hg k r q h (fun j j1 j2 => hG j (by omega) j2)
theorem nodeN_IS {l : List RTE} : ∀ d i n, nodeN l smallB d i = some n → (∀ j, i ≤ j → j < n → routeB (l.getD j default) = true) → nodeN l routeB d i = some n
  | 0, i, n, h, _ => by simp [nodeN] at h
  | d + 1, i, n, h, hG => by
    have hn := nodeN_lt _ _ _ h
    simp only [nodeN] at h ⊢
    split at h
    · rename_i hc
      simp only [Bool.and_eq_true, decide_eq_true_eq] at hc
      rw [if_pos (by rw [decide_eq_true hc.1.1, decide_eq_true hc.1.2, hG i (Nat.le_refl _) hn.1]; rfl)]
      exact manyN_IS (fun p q hq => (nodeN_lt d p q hq).1) (fun p q hq => nodeN_IS d p q hq) _ _ _ h (fun j j1 j2 => hG j (by omega) j2)
    · cases h
def routesB (l : List RTE) : Bool := (decide (l.length ≠ 0) && decide (l.length ≤ 40) && decide (nodeN l routeB 8 0 = some l.length)) && (decide ((l.getD 0 default).2.1.length = 0) && !(l.getD 0 default).2.2.2.2.2.2.2.1)
theorem routes_eq {l : List RTE} (hl : l.length ≤ 40) : decide (nodeN l routeB 8 0 = some l.length) = (decide (nodeN l smallB 8 0 = some l.length) && (List.range l.length).all fun i => routeB (l.getD i default)) := by
  rw [Bool.eq_iff_iff]
  simp only [decide_eq_true_eq, Bool.and_eq_true, List.all_eq_true, List.mem_range]
  exact ⟨fun h => ⟨(nodeN_SI hl _ _ _ h).1, fun i hi => (nodeN_SI hl _ _ _ h).2 i (Nat.zero_le _) hi⟩, fun h => nodeN_IS _ _ _ h.1 fun j _ j2 => h.2 j j2⟩
theorem Ev.filt {P α : Type} [Inhabited α] {step : Nat → (P → Option (List α)) → P → Option (List α)} {l : List α} {p : α → Bool} {pt : Nat → List α → P}
    (hy : ∀ i out, i < l.length → out.length ≤ i → p (l.getD i default) = true → ∀ v, Ev (fun n => goRec step n (pt (i + 1) (out ++ [l.getD i default]))) v → Ev (fun n => goRec step n (pt i out)) v)
    (hn : ∀ i out, i < l.length → out.length ≤ i → p (l.getD i default) = false → ∀ v, Ev (fun n => goRec step n (pt (i + 1) out)) v → Ev (fun n => goRec step n (pt i out)) v)
    (he : ∀ out, Ev (fun n => goRec step n (pt l.length out)) out) : Ev (fun n => goRec step n (pt 0 [])) (l.filter p) := by
  have key : ∀ d i out, i + d = l.length → out.length ≤ i → Ev (fun n => goRec step n (pt i out)) (out ++ (l.drop i).filter p) := by
    intro d
    induction d with
    | zero =>
      intro i out h ho
      obtain rfl : i = l.length := by omega
      exact Ev.of_eq (he out) (by simp)
    | succ d ih =>
      intro i out h ho
      have hi : i < l.length := by omega
      rw [drop_getD hi, List.filter_cons]
      cases c : p (l.getD i default) with
      | true => exact hy i out hi ho c _ (Ev.of_eq (ih (i + 1) _ (by omega) (by simp; omega)) (by simp))
      | false => exact hn i out hi ho c _ (Ev.of_eq (ih (i + 1) _ (by omega) (by omega)) (by simp))
  exact key l.length 0 [] (by omega) (by simp)
theorem any_getD {α : Type} [Inhabited α] {l : List α} {p : α → Bool} : l.any p = (List.range l.length).any fun i => p (l.getD i default) := by
  rw [Bool.eq_iff_iff, List.any_eq_true, List.any_eq_true]
  constructor
  · rintro ⟨x, hx, hp⟩
    obtain ⟨i, hi, rfl⟩ := List.getElem_of_mem hx
    refine ⟨i, by simpa using hi, ?_⟩
    rwa [List.getD_eq_getElem?_getD, List.getElem?_eq_getElem hi]
  · rintro ⟨i, hi, hp⟩
    exact ⟨_, getD_mem (by simpa using hi), hp⟩
def hasB (l : List ByteArray) (x : ByteArray) : Bool := (List.range l.length).any fun i => decide (l.getD i default = x)
def groupF (l : List RTE) (k : Int) (t : List LB) : List LB := if (routesB l && decide (0 ≤ k) && decide (k < (l.length : Int)) && labelsB t) = true then t.filter (fun x => hasB (l.getD k.toNat default).2.2.1 x.1) else []
theorem groupF_small {l : List RTE} {k : Int} {t : List LB} (h : Sm 1048576 (.sl false LU) t) : Sm 1048576 (.sl false LU) (groupF l k t) := by
  have hl : t.length ≤ 1048576 := h.1
  rw [groupF]
  split
  · exact ⟨by have := List.length_filter_le (fun x => hasB (l.getD k.toNat default).2.2.1 x.1) t; omega, fun x hx => h.2 x (List.mem_filter.1 hx).1⟩
  · exact ⟨by simp, fun x hx => by cases hx⟩
/-- a loop that goes on while p holds, and something else behind it -/
theorem Ev.allK {P : Type} {step : Nat → (P → Option Bool) → P → Option Bool} {n : Nat} {p : Nat → Bool} {pt : Nat → P} {b : Bool}
    (hs : ∀ i, i < n → (p i = true → ∀ v, Ev (fun m => goRec step m (pt (i + 1))) v → Ev (fun m => goRec step m (pt i)) v) ∧ (p i = false → Ev (fun m => goRec step m (pt i)) false))
    (he : (List.range n).all p = true → Ev (fun m => goRec step m (pt n)) b) : Ev (fun m => goRec step m (pt 0)) ((List.range n).all p && b) := by
  have key : ∀ d i, i + d = n → (∀ j, j < i → p j = true) → Ev (fun m => goRec step m (pt i)) ((List.range' i d).all p && b) := by
    intro d
    induction d with
    | zero =>
      intro i h hj
      rw [Nat.add_zero] at h
      subst h
      exact he (by simpa using hj)
    | succ d ih =>
      intro i h hj
      obtain ⟨h1, h2⟩ := hs i (by omega)
      rw [List.range'_succ, List.all_cons]
      cases hp : p i with
      | false => rw [Bool.false_and, Bool.false_and]; exact h2 hp
      | true =>
        rw [Bool.true_and]
        refine h1 hp _ (ih (i + 1) (by omega) fun j h => ?_)
        rcases Nat.lt_succ_iff_lt_or_eq.1 h with h | rfl
        · exact hj j h
        · exact hp
  have := key n 0 (by omega) (by omega)
  rwa [List.range_eq_range']
abbrev NCE := List RTE × List ITV × List SIL × List INH × Unit
abbrev NCU : U := .pair (.sl false RTU) (.pair (.sl false ITU) (.pair (.sl false SIU) (.pair (.sl false INU) .unit)))
def mutesOK (m : Nat) (l : List Int) : Bool := (List.range l.length).all fun j => !decide ((m : Int) ≤ l.getD j default)
def itvsB (l : List ITV) : Bool := (List.range l.length).all fun i => itvB (l.getD i default)
def rmutesB (m : Nat) (l : List RTE) : Bool := (List.range l.length).all fun i => mutesOK m (l.getD i default).2.2.2.2.2.2.1
def notifyB (c : NCE) : Bool := (routesB c.1 && silsB c.2.2.1 && inhsB c.2.2.2.1) && decide (c.2.1.length ≤ 20) && itvsB c.2.1 && rmutesB c.2.1.length c.1
abbrev CUE := Int × Int × Int × Int × Unit
abbrev CUU : U := .pair (.int .i64) (.pair (.int .i64) (.pair (.int .i64) (.pair (.int .i64) .unit)))
abbrev MCE := Int × Int × List CUE × List CUE × Unit
abbrev MCU : U := .pair (.int .i64) (.pair (.int .i64) (.pair (.sl false CUU) (.pair (.sl false CUU) .unit)))
def cutB (m : Int) (d : Bool) (x : CUE) : Bool := timeB x.2.2.1 && timeB x.2.2.2.1 && decide (0 ≤ x.1) && decide (x.1 < m) && decide (0 ≤ x.2.1) && decide (x.2.1 < m) && !(d && !decide (x.2.1 = 0))
def cutsB (l : List CUE) (m : Int) (d : Bool) : Bool := decide (l.length ≤ 20) && (List.range l.length).all fun i => cutB m d (l.getD i default)
def slowB (l : List RTE) (k : Int) : Bool := (List.range l.length).all fun i => !decide ((l.getD i default).2.2.2.2.1 ≤ k)
def membersB (c : NCE) (m : MCE) : Bool := (notifyB c && decide (1 ≤ m.1) && decide (m.1 ≤ 5) && timeB m.2.1 && cutsB m.2.2.1 m.1 false && cutsB m.2.2.2.1 m.1 true) && slowB c.1 (IntKind.wrap .i64 ((IntKind.wrap .i64 (m.1 - (1 : Int))) * m.2.1))
theorem routesB_all {l : List RTE} (h : routesB l = true) : l.length ≤ 40 ∧ nodeN l routeB 8 0 = some l.length ∧ ∀ i, i < l.length → routeB (l.getD i default) = true := by
  simp only [routesB, Bool.and_eq_true, decide_eq_true_eq] at h
  exact ⟨h.1.1.2, h.1.2, fun i hi => (nodeN_SI h.1.1.2 _ _ _ h.1.2).2 i (Nat.zero_le _) hi⟩
noncomputable def mutedB (c : NCE) (l : List Int) (t : Int) : Bool := (List.range l.length).any fun j => inItvB (c.2.1.getD (l.getD j default).toNat default) t
noncomputable def mutedAtB (c : NCE) (r t : Int) : Bool := notifyB c && decide (0 ≤ r) && decide (r < (c.1.length : Int)) && timeB t && mutedB c (c.1.getD r.toNat default).2.2.2.2.2.2.1 t
/-- the mutes of a route of good routes name intervals -/
theorem mutes_in {c : NCE} (h : notifyB c = true) {i : Nat} (hi : i < c.1.length) {j : Nat} (hj : j < (c.1.getD i default).2.2.2.2.2.2.1.length) : 0 ≤ (c.1.getD i default).2.2.2.2.2.2.1.getD j default ∧ (c.1.getD i default).2.2.2.2.2.2.1.getD j default < (c.2.1.length : Int) := by
  simp only [notifyB, Bool.and_eq_true] at h
  have h1 := (routesB_all h.1.1.1.1.1).2.2 i hi
  have h2 := h.2
  simp only [rmutesB, List.all_eq_true, List.mem_range] at h2
  have h3 := h2 i hi
  simp only [mutesOK, List.all_eq_true, List.mem_range, Bool.not_eq_true', decide_eq_false_iff_not] at h3
  have h3 := h3 j hj
  simp only [routeB, Bool.and_eq_true] at h1
  have h4 := h1.2
  simp only [mutesB, List.all_eq_true, List.mem_range, Bool.and_eq_true, decide_eq_true_eq] at h4
  have h4 := h4 j hj
  exact ⟨h4.1, by omega⟩
theorem inB_of {i : Int} {n : Nat} (h : 0 ≤ i ∧ i < (n : Int)) : inB i n = true := by simpa [inB] using h
/-- a loop that goes on until p holds -/
theorem Ev.anyN {P : Type} {step : Nat → (P → Option Bool) → P → Option Bool} {n : Nat} {p : Nat → Bool} {pt : Nat → P}
    (hs : ∀ i, i < n → (p i = false → ∀ v, Ev (fun m => goRec step m (pt (i + 1))) v → Ev (fun m => goRec step m (pt i)) v) ∧ (p i = true → Ev (fun m => goRec step m (pt i)) true))
    (he : Ev (fun m => goRec step m (pt n)) false) : Ev (fun m => goRec step m (pt 0)) ((List.range n).any p) := by
  have key : ∀ d i, i + d = n → Ev (fun m => goRec step m (pt i)) ((List.range' i d).any p) := by
    intro d
    induction d with
    | zero => intro i h; rw [Nat.add_zero] at h; subst h; exact he
    | succ d ih =>
      intro i h
      obtain ⟨h1, h2⟩ := hs i (by omega)
      rw [List.range'_succ, List.any_cons]
      cases hp : p i with
      | true => rw [Bool.true_or]; exact h2 hp
      | false => rw [Bool.false_or]; exact h1 hp _ (ih (i + 1) (by omega))
  have := key n 0 (by omega)
  rwa [List.range_eq_range']
def onB (l : List RTE) (i : Nat) : Bool := (l.getD i default).2.2.2.2.2.2.2.1
def fitI (l : List RTE) (t : List LB) (i : Nat) : Bool := fitsB (l.getD i default).2.1 t
def takeK (f : Nat → Option Nat) (g : Nat → List Int) (fit on : Nat → Bool) : Nat → Nat → Bool → List Int
  | 0, _, _ => []
  | k + 1, p, go => if (go && fit p) = true then g p ++ takeK f g fit on k ((f p).getD 0) (on p) else takeK f g fit on k ((f p).getD 0) go
def takeN (l : List RTE) (t : List LB) : Nat → Nat → List Int
  | 0, _ => []
  | d + 1, i => if (takeK (nodeN l routeB d) (takeN l t d) (fitI l t) (onB l) (kidsOf l i).toNat (i + 1) true).isEmpty = true then [(i : Int)] else takeK (nodeN l routeB d) (takeN l t d) (fitI l t) (onB l) (kidsOf l i).toNat (i + 1) true
/-- in order, within bounds -/
def InO (r : List Int) (p q : Nat) : Prop := r.Pairwise (· ≤ ·) ∧ (∀ x ∈ r, (p : Int) ≤ x ∧ x < (q : Int)) ∧ r.length ≤ q - p
theorem InO.app {r s : List Int} {p q n : Nat} (h1 : InO r p q) (h2 : InO s q n) (hp : p ≤ q) (hq : q ≤ n) : InO (r ++ s) p n := by
  obtain ⟨a1, a2, a3⟩ := h1
  obtain ⟨b1, b2, b3⟩ := h2
  refine ⟨List.pairwise_append.2 ⟨a1, b1, fun x hx y hy => ?_⟩, fun x hx => ?_, by rw [List.length_append]; omega⟩
  · have := a2 x hx
    have := b2 y hy
    omega
  · rcases List.mem_append.1 hx with hx | hx
    · have := a2 x hx; omega
    · have := b2 x hx; omega
theorem InO.up {s : List Int} {p q n : Nat} (h : InO s q n) (hp : p ≤ q) : InO s p n := ⟨h.1, fun x hx => by have := h.2.1 x hx; omega, by have := h.2.2; omega⟩
theorem takeK_in {f : Nat → Option Nat} {g : Nat → List Int} {fit on : Nat → Bool} (hf : ∀ p q, f p = some q → p < q ∧ InO (g p) p q) : ∀ k p q go, manyN f k p = some q → p ≤ q ∧ InO (takeK f g fit on k p go) p q
  | 0, p, q, go, h => by
    simp only [manyN, Option.some.injEq] at h
    subst h
    exact ⟨Nat.le_refl _, by simp [takeK, InO]⟩
  | k + 1, p, q, go, h => by
    simp only [manyN] at h
    cases hp : f p with
    | none => rw [hp] at h; cases h
    | some r =>
      rw [hp] at h
      obtain ⟨h1, h2⟩ := hf p r hp
      simp only [takeK, hp, Option.getD_some]
      split
      · obtain ⟨h3, h4⟩ := takeK_in (fit := fit) (on := on) hf k r q (on p) h
        exact ⟨by omega, h2.app h4 (by omega) h3⟩
      · obtain ⟨h3, h4⟩ := takeK_in (fit := fit) (on := on) hf k r q go h
        exact ⟨by omega, h4.up (by omega)⟩
theorem takeN_in {l : List RTE} {t : List LB} : ∀ d i n, nodeN l routeB d i = some n → i < n ∧ InO (takeN l t d i) i n
  | 0, i, n, h => by simp [nodeN] at h
  | d + 1, i, n, h => by
    have hn := nodeN_lt _ _ _ h
    simp only [nodeN] at h
    split at h
    · have hk := takeK_in (fit := fitI l t) (on := onB l) (fun p q hq => takeN_in (t := t) d p q hq) _ _ _ true h
      refine ⟨hn.1, ?_⟩
      simp only [takeN]
      split
      · exact ⟨by simp, fun x hx => by simp at hx; omega, by simp; omega⟩
      · exact hk.2.up (by omega)
    · cases h
theorem manyN_mono {f g : Nat → Option Nat} (hf : ∀ p q, f p = some q → g p = some q) : ∀ k p q, manyN f k p = some q → manyN g k p = some q
  | 0, p, q, h => h
  | k + 1, p, q, h => by
    simp only [manyN] at h ⊢
    cases hp : f p with
    | none => rw [hp] at h; cases h
    | some r => rw [hp] at h; rw [hf p r hp]; exact manyN_mono hf k r q h
theorem nodeN_up {l : List RTE} {g : RTE → Bool} : ∀ d i n, nodeN l g d i = some n → nodeN l g (d + 1) i = some n
  | 0, i, n, h => by simp [nodeN] at h
  | d + 1, i, n, h => by
    rw [nodeN] at h ⊢
    split at h
    · rename_i hc
      rw [if_pos hc]
      exact manyN_mono (fun p q hq => nodeN_up d p q hq) _ _ _ h
    · cases h
theorem nodeN_to {l : List RTE} {g : RTE → Bool} {d i n : Nat} (h : nodeN l g d i = some n) {e : Nat} (he : d ≤ e) : nodeN l g e i = some n := by
  obtain ⟨k, rfl⟩ := Nat.le.dest he
  clear he
  induction k with
  | zero => exact h
  | succ k ih => exact nodeN_up _ _ _ ih
def forF (l : List RTE) (t : List LB) : List Int := if (routesB l && labelsB t) = true then takeN l t 8 0 else []
theorem forF_small {l : List RTE} {t : List LB} : Sm 1048576 (.sl false (.int .i64)) (forF l t) := by
  rw [forF]
  split
  · rename_i h
    simp only [Bool.and_eq_true] at h
    have := routesB_all h.1
    have h2 := (takeN_in (t := t) _ _ _ this.2.1).2.2.2
    exact ⟨by omega, fun _ _ => trivial⟩
  · exact ⟨by simp, fun x hx => by cases hx⟩
theorem takeN_sort {l : List RTE} {t : List LB} {d i n : Nat} (h : nodeN l routeB d i = some n) : (takeN l t d i).mergeSort (fun x y => decide (x ≤ y)) = takeN l t d i := by
  refine List.mergeSort_of_pairwise ?_
  exact ((takeN_in (t := t) _ _ _ h).2.1).imp fun h => by simpa using h
theorem wrapu {x : Int} : IntKind.wrap .u64 x = x % 18446744073709551616 := rfl
theorem wrapu_nat {n : Nat} (h : n < 18446744073709551616) : IntKind.wrap .u64 (n : Int) = (n : Int) := by rw [wrapu]; omega
theorem i64_id {n : Nat} (h : n ≤ 4611686018427387904) : IntKind.wrap .i64 (n : Int) = (n : Int) := i64_ok (by omega) (by omega)
theorem tmod_nat {s k : Nat} : Int.tmod (s : Int) (k : Int) = ((s % k : Nat) : Int) := by rw [Int.tmod_eq_emod_of_nonneg (by omega)]; rfl
theorem tdiv_nat {s k : Nat} : Int.tdiv (s : Int) (k : Int) = ((s / k : Nat) : Int) := by rw [Int.tdiv_eq_ediv_of_nonneg (by omega)]; rfl
theorem band1 {z : Nat} : band .u64 (z : Int) 1 = ((z % 2 : Nat) : Int) := by
  have e : (BitVec.ofInt 64 (z : Int) &&& BitVec.ofInt 64 1).toNat = z % 2 := by
    rw [BitVec.toNat_and]
    have h1 : (BitVec.ofInt 64 1).toNat = 1 := by decide
    have h2 : (BitVec.ofInt 64 (z : Int)).toNat = z % 2 ^ 64 := by rw [BitVec.toNat_ofInt]; omega
    rw [h1, h2, Nat.and_one_is_mod]
    omega
  show IntKind.wrap .u64 ((BitVec.ofInt 64 (z : Int) &&& BitVec.ofInt 64 1).toNat : Int) = _
  rw [e]
  exact wrapu_nat (by omega)
theorem shr_nat {y k : Nat} (hk : k ≤ 64) : shr .u64 (y : Int) (k : Int) = ((y / 2 ^ k : Nat) : Int) := by
  show Int.fdiv (y : Int) (2 ^ (min (Int.toNat (k : Int)) 64)) = _
  rw [Int.toNat_natCast, Nat.min_eq_left hk, Int.fdiv_eq_ediv_of_nonneg _ (Int.pow_nonneg (by decide))]
  rw [show ((2 : Int) ^ k) = ((2 ^ k : Nat) : Int) by simp]
  rfl
def bitN (y k : Nat) : Nat := y / 2 ^ k % 2
theorem bit_eq {y k : Nat} (hk : k ≤ 64) : band .u64 (shr .u64 (y : Int) (k : Int)) 1 = (bitN y k : Int) := by rw [shr_nat hk, band1]; rfl
theorem bitN_test {y k : Nat} : y.testBit k = decide (bitN y k = 1) := Nat.testBit_eq_decide_div_mod_eq
theorem bitN_lt {y k : Nat} : bitN y k < 2 := Nat.mod_lt _ (by decide)
def lzN (y : Nat) : Nat := 63 - Nat.log2 y
def tzN (y : Nat) : Nat := ((List.range 64).find? fun i => y.testBit i).getD 64
theorem log2_le {y : Nat} (h0 : y ≠ 0) (h : y < 18446744073709551616) : Nat.log2 y ≤ 63 := by
  have := (Nat.log2_lt h0 (k := 64)).2 h
  omega
theorem tz_spec {y : Nat} (h0 : y ≠ 0) (h : y < 18446744073709551616) : tzN y < 64 ∧ y.testBit (tzN y) = true ∧ ∀ j, j < tzN y → y.testBit j = false := by
  have hl := log2_le h0 h
  have hb : y.testBit (Nat.log2 y) = true := Nat.testBit_log2 h0
  cases hf : (List.range 64).find? fun i => y.testBit i with
  | none =>
    have := List.find?_eq_none.1 hf (Nat.log2 y) (by simp; omega)
    exact absurd hb this
  | some b =>
    rw [tzN, hf, Option.getD_some]
    have h1 := List.find?_some hf
    have h2 := List.mem_of_find?_eq_some hf
    refine ⟨by simpa using h2, h1, fun j hj => ?_⟩
    rw [List.find?_eq_some_iff_append] at hf
    obtain ⟨_, l1, l2, e, h3⟩ := hf
    have hlen : l1.length = b := by
      have := congrArg (fun l => l[l1.length]?) e
      simp only [List.getElem?_append_right (Nat.le_refl _), Nat.sub_self, List.getElem?_cons_zero] at this
      have := List.getElem?_eq_some_iff.1 this
      obtain ⟨_, h5⟩ := this
      simpa using h5
    have hj1 : l1[j]? = some j := by
      have := congrArg (fun l => l[j]?) e
      simp only [List.getElem?_append_left (show j < l1.length by omega)] at this
      rw [← this]
      have hb64 : b < 64 := by simpa using h2
      exact List.getElem?_range (by omega)
    have := h3 j (List.mem_of_getElem? hj1)
    simpa using this
theorem lz_tz {y : Nat} (h0 : y ≠ 0) (h : y < 18446744073709551616) : lzN y + tzN y ≤ 63 := by
  have hl := log2_le h0 h
  obtain ⟨h1, h2, h3⟩ := tz_spec h0 h
  have : tzN y ≤ Nat.log2 y := by
    rcases Nat.lt_or_ge (Nat.log2 y) (tzN y) with h4 | h4
    · have := h3 _ h4; rw [Nat.testBit_log2 h0] at this; cases this
    · exact h4
  rw [lzN]; omega
theorem log2_shift {y k : Nat} (h : 2 ^ k ≤ y) : Nat.log2 y = Nat.log2 (y / 2 ^ k) + k := by
  have hp : 0 < 2 ^ k := Nat.pos_of_ne_zero (by simp)
  have h0 : y ≠ 0 := by omega
  have h1 : y / 2 ^ k ≠ 0 := by have := Nat.div_pos h hp; omega
  obtain ⟨a, b⟩ := (Nat.log2_eq_iff h1).1 rfl
  refine (Nat.log2_eq_iff h0).2 ⟨?_, ?_⟩
  · rw [Nat.pow_add]; exact (Nat.le_div_iff_mul_le hp).1 a
  · rw [show Nat.log2 (y / 2 ^ k) + k + 1 = Nat.log2 (y / 2 ^ k) + 1 + k by omega, Nat.pow_add]; exact (Nat.div_lt_iff_lt_mul hp).1 b
def len8T : ByteArray := ⟨#[0, 1, 2, 2, 3, 3, 3, 3, 4, 4, 4, 4, 4, 4, 4, 4, 5, 5, 5, 5, 5, 5, 5, 5, 5, 5, 5, 5, 5, 5, 5, 5, 6, 6, 6, 6, 6, 6, 6, 6, 6, 6, 6, 6, 6, 6, 6, 6, 6, 6, 6, 6, 6, 6, 6, 6, 6, 6, 6, 6, 6, 6, 6, 6, 7, 7, 7, 7, 7, 7, 7, 7, 7, 7, 7, 7, 7, 7, 7, 7, 7, 7, 7, 7, 7, 7, 7, 7, 7, 7, 7, 7, 7, 7, 7, 7, 7, 7, 7, 7, 7, 7, 7, 7, 7, 7, 7, 7, 7, 7, 7, 7, 7, 7, 7, 7, 7, 7, 7, 7, 7, 7, 7, 7, 7, 7, 7, 7, 8, 8, 8, 8, 8, 8, 8, 8, 8, 8, 8, 8, 8, 8, 8, 8, 8, 8, 8, 8, 8, 8, 8, 8, 8, 8, 8, 8, 8, 8, 8, 8, 8, 8, 8, 8, 8, 8, 8, 8, 8, 8, 8, 8, 8, 8, 8, 8, 8, 8, 8, 8, 8, 8, 8, 8, 8, 8, 8, 8, 8, 8, 8, 8, 8, 8, 8, 8, 8, 8, 8, 8, 8, 8, 8, 8, 8, 8, 8, 8, 8, 8, 8, 8, 8, 8, 8, 8, 8, 8, 8, 8, 8, 8, 8, 8, 8, 8, 8, 8, 8, 8, 8, 8, 8, 8, 8, 8, 8, 8, 8, 8, 8, 8, 8, 8, 8, 8, 8, 8, 8, 8, 8, 8, 8, 8, 8, 8]⟩
theorem len8_ok : ∀ z : Nat, z < 256 → z = 0 ∨ IntKind.wrap .i64 (bt len8T (z : Int)) = ((Nat.log2 z + 1 : Nat) : Int) := by decide +kernel
theorem u8_id {z : Nat} (h : z < 256) : IntKind.wrap .u8 (z : Int) = (z : Int) := by
  show (z : Int) % 256 = _
  omega
def tzT : List Int := [0, 1, 56, 2, 57, 49, 28, 3, 61, 58, 42, 50, 38, 29, 17, 4, 62, 47, 59, 36, 45, 43, 51, 22, 53, 39, 33, 30, 24, 18, 12, 5, 63, 55, 48, 27, 60, 41, 37, 16, 46, 35, 44, 21, 52, 32, 23, 11, 54, 26, 40, 15, 34, 20, 31, 10, 25, 14, 19, 9, 13, 8, 7, 6]
theorem tz_tab : ∀ t : Nat, t < 64 → inB (shr .u64 (IntKind.wrap .u64 ((285870213051353865 : Int) * ((2 ^ t : Nat) : Int))) (58 : Int)) 64 = true ∧ IntKind.wrap .i64 (List.getD (List.getD [tzT] 0 default) (Int.toNat (shr .u64 (IntKind.wrap .u64 ((285870213051353865 : Int) * ((2 ^ t : Nat) : Int))) (58 : Int))) default) = (t : Int) := by decide +kernel
theorem low_bit {y : Nat} (h0 : y ≠ 0) (h : y < 18446744073709551616) : band .u64 (y : Int) (IntKind.wrap .u64 ((0 : Int) - (y : Int))) = ((2 ^ tzN y : Nat) : Int) := by
  obtain ⟨t1, t2, t3⟩ := tz_spec h0 h
  have hy : BitVec.ofInt 64 (y : Int) = BitVec.ofNat 64 y := BitVec.ofInt_natCast _ _
  have hn : BitVec.ofInt 64 (IntKind.wrap .u64 ((0 : Int) - (y : Int))) = -BitVec.ofNat 64 y := by
    apply BitVec.eq_of_toNat_eq
    rw [BitVec.toNat_ofInt, BitVec.toNat_neg, BitVec.toNat_ofNat, wrapu]
    omega
  have key : BitVec.ofNat 64 y &&& -BitVec.ofNat 64 y = BitVec.twoPow 64 (tzN y) := by
    apply BitVec.eq_of_getLsbD_eq
    intro i hi
    rw [BitVec.getLsbD_and, BitVec.getLsbD_neg, BitVec.getLsbD_twoPow, BitVec.getLsbD_ofNat]
    simp only [hi, decide_true, Bool.true_and]
    rcases Nat.lt_trichotomy i (tzN y) with h1 | h1 | h1
    · rw [t3 i h1, Bool.false_and]
      rw [decide_eq_false (show ¬ tzN y = i by omega), Bool.and_false]
    · subst h1
      rw [t2]
      have : ¬ ∃ j, j < tzN y ∧ (BitVec.ofNat 64 y).getLsbD j = true := by
        rintro ⟨j, hj, h5⟩
        rw [BitVec.getLsbD_ofNat, t3 j hj] at h5
        simp at h5
      simp [this, t1]
    · have : ∃ j, j < i ∧ (BitVec.ofNat 64 y).getLsbD j = true := ⟨tzN y, h1, by rw [BitVec.getLsbD_ofNat, t2]; simp [t1]⟩
      simp only [this, decide_true]
      have hne : decide (tzN y = i) = false := by simp only [decide_eq_false_iff_not]; omega
      cases y.testBit i <;> simp [hne]
  show IntKind.wrap .u64 ((BitVec.ofInt 64 (y : Int) &&& BitVec.ofInt 64 (IntKind.wrap .u64 ((0 : Int) - (y : Int)))).toNat : Int) = _
  rw [hy, hn, key, BitVec.toNat_twoPow]
  have : 2 ^ tzN y < 2 ^ 64 := Nat.pow_lt_pow_right (by decide) t1
  rw [Nat.mod_eq_of_lt this]
  exact wrapu_nat this
abbrev SME := Int × Int × Unit
abbrev SMU : U := .pair (.int .i64) (.pair (.int .i64) .unit)
abbrev BBE := List Int × Nat
theorem tmod8 {s : Nat} : Int.tmod (s : Int) 8 = ((s % 8 : Nat) : Int) := tmod_nat (k := 8)
theorem tdiv8 {s : Nat} : Int.tdiv (s : Int) 8 = ((s / 8 : Nat) : Int) := tdiv_nat (k := 8)
def bitAt (v : Int) (k : Nat) : Bool := decide (band .u64 (shr .u64 (IntKind.wrap .u64 v) (k : Int)) (1 : Int) = 1)
theorem bit_val {v : Int} {k : Nat} (hk : k ≤ 64) : band .u64 (shr .u64 (IntKind.wrap .u64 v) (k : Int)) (1 : Int) = if bitAt v k = true then 1 else 0 := by
  obtain ⟨w, hw⟩ : ∃ w : Nat, IntKind.wrap .u64 v = (w : Int) := ⟨(v % 18446744073709551616).toNat, by rw [wrapu]; omega⟩
  rw [bitAt, hw, bit_eq hk]
  have := @bitN_lt w k
  by_cases h : bitN w k = 1
  · rw [h]; rfl
  · rw [if_neg (by simp only [decide_eq_true_eq]; omega)]; omega
def growB (b : BBE) : List Int := if b.2 % 8 = 0 then b.1 ++ [0] else b.1
def put1 (b : BBE) (x : Bool) : BBE := (if x = true then (growB b).set (b.2 / 8) (bor .u8 ((growB b).getD (b.2 / 8) default) (shr .u8 (128 : Int) ((b.2 % 8 : Nat) : Int))) else growB b, b.2 + 1)
def puts (v : Int) : Nat → BBE → BBE
  | 0, b => b
  | k + 1, b => puts v k (put1 b (bitAt v k))
def OKB (b : BBE) : Prop := b.1.length = (b.2 + 7) / 8
theorem growB_len {b : BBE} (h : OKB b) : (growB b).length = b.2 / 8 + 1 := by
  simp only [OKB] at h
  rw [growB]
  split
  · rw [List.length_append, h, List.length_singleton]; omega
  · rw [h]; omega
theorem put1_ok {b : BBE} {x : Bool} (h : OKB b) : OKB (put1 b x) := by
  have := growB_len h
  simp only [OKB, put1]
  split
  · rw [List.length_set, this]; omega
  · rw [this]; omega
theorem puts_ok {v : Int} : ∀ {n : Nat} {b : BBE}, OKB b → OKB (puts v n b)
  | 0, b, h => h
  | n + 1, b, h => puts_ok (n := n) (put1_ok h)
theorem puts_sz {v : Int} : ∀ {n : Nat} {b : BBE}, (puts v n b).2 = b.2 + n
  | 0, b => rfl
  | n + 1, b => by rw [puts, puts_sz, put1]; omega
def outB (b : BBE) : List Int × Int × Unit := (b.1, ((b.2 : Nat) : Int), ())
def bendB (b : BBE) (e : Int) : BBE :=
  if e = 0 then puts 0 1 b else if -63 ≤ e ∧ e ≤ 64 then puts (IntKind.wrap .i64 (e + 63)) 7 (puts 2 2 b) else if -255 ≤ e ∧ e ≤ 256 then puts (IntKind.wrap .i64 (e + 255)) 9 (puts 6 3 b)
  else if -2047 ≤ e ∧ e ≤ 2048 then puts (IntKind.wrap .i64 (e + 2047)) 12 (puts 14 4 b) else puts e 64 (puts 15 4 b)
theorem bendB_ok {b : BBE} {e : Int} (h : OKB b) : OKB (bendB b e) ∧ (bendB b e).2 ≤ b.2 + 68 := by
  simp only [bendB]
  split
  · exact ⟨puts_ok h, by rw [puts_sz]; omega⟩
  split
  · exact ⟨puts_ok (puts_ok h), by rw [puts_sz, puts_sz]; omega⟩
  split
  · exact ⟨puts_ok (puts_ok h), by rw [puts_sz, puts_sz]; omega⟩
  split
  · exact ⟨puts_ok (puts_ok h), by rw [puts_sz, puts_sz]; omega⟩
  · exact ⟨puts_ok (puts_ok h), by rw [puts_sz, puts_sz]; omega⟩
def turnN (a p : Int) : Nat := (BitVec.ofInt 64 a ^^^ BitVec.ofInt 64 p).toNat
theorem turn_lt {a p : Int} : turnN a p < 18446744073709551616 := (BitVec.ofInt 64 a ^^^ BitVec.ofInt 64 p).isLt
theorem turn_i {a p : Int} : IntKind.wrap .u64 (bxor .i64 a p) = (turnN a p : Int) := by
  have := @turn_lt a p
  show IntKind.wrap .u64 (IntKind.wrap .i64 (turnN a p : Int)) = _
  rw [wrapu]
  show (if (true && decide ((turnN a p : Int) % 18446744073709551616 ≥ 9223372036854775808)) = true then (turnN a p : Int) % 18446744073709551616 - 18446744073709551616 else (turnN a p : Int) % 18446744073709551616) % 18446744073709551616 = _
  split <;> omega
theorem ofInt_wrapu {a : Int} : BitVec.ofInt 64 (IntKind.wrap .u64 a) = BitVec.ofInt 64 a := by
  apply BitVec.eq_of_toNat_eq
  rw [BitVec.toNat_ofInt, BitVec.toNat_ofInt, wrapu]
  omega
theorem turn_u {a p : Int} : bxor .u64 (IntKind.wrap .u64 a) (IntKind.wrap .u64 p) = (turnN a p : Int) := by
  show IntKind.wrap .u64 ((BitVec.ofInt 64 (IntKind.wrap .u64 a) ^^^ BitVec.ofInt 64 (IntKind.wrap .u64 p)).toNat : Int) = _
  rw [ofInt_wrapu, ofInt_wrapu]
  exact wrapu_nat turn_lt
abbrev FRE := Option (Nat × Nat)
def frB (st : FRE) (y : Nat) : Bool := match st with | some (ld, tr) => decide (ld ≤ lzN y) && decide (tr ≤ tzN y) | none => false
def leadN (st : FRE) : Nat := (st.getD (0, 0)).1
def leadI (st : FRE) : Int := match st with | some p => (p.1 : Int) | none => -1
def trailN (st : FRE) : Nat := (st.getD (0, 0)).2
def oldB (b : BBE) (st : FRE) (y : Nat) : BBE := puts (IntKind.wrap .i64 ((y / 2 ^ trailN st : Nat) : Int)) (64 - leadN st - trailN st) (puts 2 2 b)
def newB (b : BBE) (y : Nat) : BBE := puts (IntKind.wrap .i64 ((y / 2 ^ tzN y : Nat) : Int)) (64 - lzN y - tzN y) (puts ((64 - lzN y - tzN y - 1 : Nat) : Int) 6 (puts (lzN y : Int) 6 (puts 3 2 b)))
def valB (b : BBE) (st : FRE) (y : Nat) : BBE × FRE := if y = 0 then (puts 0 1 b, st) else if frB st y = true then (oldB b st y, st) else (newB b y, some (lzN y, tzN y))
def nowI (l : List SME) (i : Nat) : Int := IntKind.wrap .i64 ((l.getD i default).1 - (l.getD (i - 1) default).1)
def bendI (l : List SME) (i : Nat) (step : Int) : Int := if i = 1 then nowI l i else IntKind.wrap .i64 (nowI l i - step)
def turnI (l : List SME) (i : Nat) : Nat := turnN (l.getD i default).2.1 (l.getD (i - 1) default).2.1
def packR (l : List SME) : Nat → Nat → BBE → FRE → Int → BBE
  | 0, _, b, _, _ => b
  | d + 1, i, b, st, step => if i = 0 then packR l d (i + 1) (puts (l.getD i default).2.1 64 (puts (l.getD i default).1 40 b)) st step
    else packR l d (i + 1) (valB (bendB b (bendI l i step)) st (turnI l i)).1 (valB (bendB b (bendI l i step)) st (turnI l i)).2 (nowI l i)
def packV (l : List SME) : BBE := packR l l.length 0 (puts (l.length : Int) 8 ([], 0)) none 0
def FrOK (st : FRE) : Prop := leadN st + trailN st ≤ 63
theorem valB_ok {b : BBE} {st : FRE} {y : Nat} (h : OKB b) (hs : FrOK st) (hy : y < 18446744073709551616) : OKB (valB b st y).1 ∧ (valB b st y).1.2 ≤ b.2 + 78 ∧ FrOK (valB b st y).2 := by
  simp only [valB]
  split
  · exact ⟨puts_ok h, by rw [puts_sz]; omega, hs⟩
  rename_i h0
  split
  · exact ⟨puts_ok (puts_ok h), by rw [oldB, puts_sz, puts_sz]; omega, hs⟩
  · exact ⟨puts_ok (puts_ok (puts_ok (puts_ok h))), by rw [newB, puts_sz, puts_sz, puts_sz, puts_sz]; omega, lz_tz h0 hy⟩
theorem packR_ok {l : List SME} : ∀ d i b st step, OKB b → FrOK st → OKB (packR l d i b st step) ∧ (packR l d i b st step).2 ≤ b.2 + 150 * d
  | 0, i, b, st, step, h, hs => ⟨h, by simp [packR]⟩
  | d + 1, i, b, st, step, h, hs => by
    simp only [packR]
    split
    · have := packR_ok (l := l) d (i + 1) (puts (l.getD i default).2.1 64 (puts (l.getD i default).1 40 b)) st step (puts_ok (puts_ok h)) hs
      rw [puts_sz, puts_sz] at this
      exact ⟨this.1, by omega⟩
    · obtain ⟨h1, h2⟩ := bendB_ok (e := bendI l i step) h
      obtain ⟨h3, h4, h5⟩ := valB_ok h1 hs (turn_lt (a := (l.getD i default).2.1) (p := (l.getD (i - 1) default).2.1))
      have := packR_ok (l := l) d (i + 1) _ _ (nowI l i) h3 h5
      exact ⟨this.1, by have := this.2; simp only [turnI] at *; omega⟩
def samplesB (l : List SME) : Bool := ((List.range l.length).all fun i => timeB (l.getD i default).1 && !(decide (0 < i) && decide ((l.getD i default).1 ≤ (l.getD (i - 1) default).1))) && decide (l.length ≤ 2000)
def chunkF (l : List SME) : BBE := if (samplesB l && decide (l.length ≤ 120)) = true then packV l else ([], 0)
theorem chunkF_ok {l : List SME} : OKB (chunkF l) ∧ (chunkF l).2 ≤ 100000 := by
  rw [chunkF]
  split
  · rename_i h
    simp only [Bool.and_eq_true, decide_eq_true_eq] at h
    have := packR_ok (l := l) l.length 0 (puts (l.length : Int) 8 ([], 0)) none 0 (puts_ok rfl) (by simp [FrOK, leadN, trailN])
    rw [puts_sz] at this
    exact ⟨this.1, by rw [packV]; omega⟩
  · exact ⟨rfl, by decide⟩
theorem len_lt {a b : Nat} (h : a + b ≤ 63) : IntKind.wrap .i64 (IntKind.wrap .i64 ((64 : Int) - (a : Int)) - (b : Int)) = ((64 - a - b : Nat) : Int) := by
  rw [i64_ok (x := (64 : Int) - (a : Int)) (by omega) (by omega), i64_ok (by omega) (by omega)]; omega
theorem len_pred {a b : Nat} (h : a + b ≤ 63) : IntKind.wrap .i64 (((64 - a - b : Nat) : Int) - 1) = ((64 - a - b - 1 : Nat) : Int) := by
  rw [i64_ok (by omega) (by omega)]; omega
theorem pred_i64 {i : Nat} (h : i ≠ 0) (h2 : i ≤ 4611686018427387904) : IntKind.wrap .i64 ((i : Int) - 1) = ((i - 1 : Nat) : Int) := by
  rw [i64_ok (by omega) (by omega)]; omega
def bitD (D : List Int) (i : Nat) : Bool := decide ((D.getD (i / 8) default).toNat / 2 ^ (7 - i % 8) % 2 = 1)
def BYB (D : List Int) : Prop := ∀ j, 0 ≤ D.getD j default ∧ D.getD j default < 256
structure GB (b : BBE) : Prop where
  ok : OKB b
  by_ : BYB b.1
  z : ∀ i, b.2 ≤ i → bitD b.1 i = false
structure ExB (b c : BBE) : Prop where
  le : b.2 ≤ c.2
  eq : ∀ i, i < b.2 → bitD c.1 i = bitD b.1 i
theorem ExB.refl {b : BBE} : ExB b b := ⟨Nat.le_refl _, fun _ _ => rfl⟩
theorem ExB.trans {a b c : BBE} (h : ExB a b) (h' : ExB b c) : ExB a c := ⟨Nat.le_trans h.le h'.le, fun i hi => by rw [h'.eq i (Nat.lt_of_lt_of_le hi h.le), h.eq i hi]⟩
theorem bor_tab : ∀ x : Nat, x < 256 → ∀ k : Nat, k < 8 → (0 ≤ bor .u8 (x : Int) (shr .u8 (128 : Int) (k : Int)) ∧ bor .u8 (x : Int) (shr .u8 (128 : Int) (k : Int)) < 256) ∧ ∀ j : Nat, j < 8 → decide ((bor .u8 (x : Int) (shr .u8 (128 : Int) (k : Int))).toNat / 2 ^ (7 - j) % 2 = 1) = (decide (x / 2 ^ (7 - j) % 2 = 1) || decide (j = k)) := by decide +kernel
theorem growB_get {b : BBE} {j : Nat} : (growB b).getD j default = b.1.getD j default := by
  rw [growB]
  split
  · simp only [List.getD_eq_getElem?_getD]
    rcases Nat.lt_or_ge j b.1.length with h | h
    · rw [List.getElem?_append_left h]
    · rw [List.getElem?_append_right h, List.getElem?_eq_none h]
      rcases Nat.eq_zero_or_pos (j - b.1.length) with h2 | h2
      · rw [h2]; rfl
      · rw [List.getElem?_eq_none (by simp; omega)]
  · rfl
theorem growB_bit {b : BBE} {i : Nat} : bitD (growB b) i = bitD b.1 i := by rw [bitD, growB_get]; rfl
theorem put1_gb {b : BBE} {x : Bool} (h : GB b) : GB (put1 b x) ∧ ExB b (put1 b x) ∧ bitD (put1 b x).1 b.2 = x := by
  have hl := growB_len h.ok
  have hok := put1_ok (x := x) h.ok
  cases x with
  | false =>
    have e : put1 b false = (growB b, b.2 + 1) := by simp [put1]
    rw [e] at hok ⊢
    exact ⟨⟨hok, fun j => by rw [growB_get]; exact h.by_ j, fun i hi => by show bitD (growB b) i = false; rw [growB_bit]; exact h.z i (by have : b.2 + 1 ≤ i := hi; omega)⟩, ⟨Nat.le_succ _, fun i _ => growB_bit⟩, by show bitD (growB b) b.2 = false; rw [growB_bit]; exact h.z _ (Nat.le_refl _)⟩
  | true =>
    obtain ⟨g0, g1⟩ := h.by_ (b.2 / 8)
    obtain ⟨w, hw⟩ : ∃ w : Nat, b.1.getD (b.2 / 8) default = (w : Int) := ⟨(b.1.getD (b.2 / 8) default).toNat, by omega⟩
    obtain ⟨⟨t0, t1⟩, t2⟩ := bor_tab w (by omega) (b.2 % 8) (by omega)
    have e : put1 b true = ((growB b).set (b.2 / 8) (bor .u8 (w : Int) (shr .u8 (128 : Int) ((b.2 % 8 : Nat) : Int))), b.2 + 1) := by rw [put1, growB_get, hw]; simp
    rw [e] at hok ⊢
    have hat : ∀ i, i / 8 = b.2 / 8 → bitD ((growB b).set (b.2 / 8) (bor .u8 (w : Int) (shr .u8 (128 : Int) ((b.2 % 8 : Nat) : Int)))) i = (bitD b.1 i || decide (i = b.2)) := by
      intro i hi
      rw [bitD, hi, getD_set_same (by omega), t2 (i % 8) (by omega), bitD, hi, hw]
      congr 1
      exact decide_eq_decide.2 (by omega)
    have hno : ∀ i, i / 8 ≠ b.2 / 8 → bitD ((growB b).set (b.2 / 8) (bor .u8 (w : Int) (shr .u8 (128 : Int) ((b.2 % 8 : Nat) : Int)))) i = bitD b.1 i := by
      intro i hi
      rw [bitD, getD_set_other hi, growB_get]; rfl
    have all : ∀ i, bitD ((growB b).set (b.2 / 8) (bor .u8 (w : Int) (shr .u8 (128 : Int) ((b.2 % 8 : Nat) : Int)))) i = (bitD b.1 i || decide (i = b.2)) := by
      intro i
      by_cases hi : i / 8 = b.2 / 8
      · exact hat i hi
      · rw [hno i hi, decide_eq_false (show ¬ i = b.2 by intro h; exact hi (by rw [h])), Bool.or_false]
    refine ⟨⟨hok, fun j => ?_, fun i hi => ?_⟩, ⟨Nat.le_succ _, fun i hi => ?_⟩, ?_⟩
    · by_cases hj : j = b.2 / 8
      · subst hj; rw [getD_set_same (by omega)]; exact ⟨t0, t1⟩
      · rw [getD_set_other hj, growB_get]; exact h.by_ j
    · have hi : b.2 + 1 ≤ i := hi
      show bitD ((growB b).set _ _) i = false
      rw [all, h.z i (by omega), decide_eq_false (show ¬ i = b.2 by omega)]; rfl
    · show bitD ((growB b).set _ _) i = _
      rw [all, decide_eq_false (show ¬ i = b.2 by omega), Bool.or_false]
    · show bitD ((growB b).set _ _) b.2 = true
      rw [all, decide_eq_true rfl, Bool.or_true]
/-- from at on there stand the n last bits of v -/
def HasB (D : List Int) (at_ : Nat) (v : Int) (n : Nat) : Prop := ∀ j, j < n → bitD D (at_ + j) = bitAt v (n - 1 - j)
theorem puts_gb {v : Int} : ∀ {n : Nat} {b : BBE}, GB b → GB (puts v n b) ∧ ExB b (puts v n b) ∧ HasB (puts v n b).1 b.2 v n
  | 0, b, h => ⟨h, ExB.refl, fun j hj => absurd hj (Nat.not_lt_zero _)⟩
  | n + 1, b, h => by
    obtain ⟨h1, h2, h3⟩ := put1_gb (x := bitAt v n) h
    obtain ⟨h4, h5, h6⟩ := puts_gb (v := v) (n := n) h1
    refine ⟨h4, h2.trans h5, fun j hj => ?_⟩
    have e2 : (put1 b (bitAt v n)).2 = b.2 + 1 := rfl
    rcases Nat.eq_zero_or_pos j with h0 | h0
    · subst h0
      rw [Nat.add_zero, Nat.sub_zero]
      show bitD (puts v n (put1 b (bitAt v n))).1 b.2 = bitAt v (n + 1 - 1)
      rw [h5.eq b.2 (by omega), h3]; rfl
    · have := h6 (j - 1) (by omega)
      rw [e2, show b.2 + 1 + (j - 1) = b.2 + j by omega, show n - 1 - (j - 1) = n + 1 - 1 - j by omega] at this
      exact this
theorem HasB.ext {b c : BBE} {a n : Nat} {v : Int} (h : HasB b.1 a v n) (hx : ExB b c) (hn : a + n ≤ b.2) : HasB c.1 a v n := fun j hj => by rw [hx.eq _ (by omega)]; exact h j hj
def rdN (D : List Int) (at_ : Nat) : Nat → Nat
  | 0 => 0
  | n + 1 => rdN D at_ n * 2 + (bitD D (at_ + n)).toNat
theorem rdN_lt {D : List Int} {a : Nat} : ∀ {n : Nat}, rdN D a n < 2 ^ n
  | 0 => by simp [rdN]
  | n + 1 => by
    have := rdN_lt (D := D) (a := a) (n := n)
    have h2 : (bitD D (a + n)).toNat ≤ 1 := by cases bitD D (a + n) <;> decide
    rw [rdN, Nat.pow_succ]; omega
theorem rdN_has {D : List Int} {a n w : Nat} {v : Int} (hw : IntKind.wrap .u64 v = (w : Int)) (hn : n ≤ 64) (h : HasB D a v n) : rdN D a n = w % 2 ^ n := by
  have key : ∀ k, k ≤ n → rdN D a k = w / 2 ^ (n - k) % 2 ^ k := by
    intro k
    induction k with
    | zero => intro _; simp [rdN, Nat.mod_one]
    | succ k ih =>
      intro hk
      rw [rdN, ih (by omega), h k (by omega), bitAt, hw, bit_eq (by omega), Nat.pow_succ, Nat.mul_comm (2 ^ k) 2, Nat.mod_mul]
      have e : n - k = (n - (k + 1)) + 1 := by omega
      rw [e, Nat.pow_succ, ← Nat.div_div_eq_div_mul, show n - 1 - k = n - (k + 1) by omega, bitN]
      have h2 : w / 2 ^ (n - (k + 1)) % 2 < 2 := Nat.mod_lt _ (by decide)
      have h3 : (decide (((w / 2 ^ (n - (k + 1)) % 2 : Nat) : Int) = 1)).toNat = w / 2 ^ (n - (k + 1)) % 2 := by
        rcases (show w / 2 ^ (n - (k + 1)) % 2 = 0 ∨ w / 2 ^ (n - (k + 1)) % 2 = 1 by omega) with h4 | h4 <;> rw [h4] <;> rfl
      rw [h3]; omega
  have := key n (Nat.le_refl _)
  rwa [Nat.sub_self, Nat.pow_zero, Nat.div_one] at this
/-- what a reader takes: nothing behind the end -/
def rdT (D : List Int) (S at_ n : Nat) : Nat := if at_ + n ≤ S then rdN D at_ n else 0
theorem rdT_lt {D : List Int} {S a n : Nat} : rdT D S a n < 2 ^ n := by
  rw [rdT]; split
  · exact rdN_lt
  · exact Nat.pos_of_ne_zero (by simp)
def onesT (D : List Int) (S : Nat) : Nat → Nat → Nat × Nat
  | 0, a => (0, a)
  | k + 1, a => if rdT D S a 1 = 1 then ((onesT D S k (a + 1)).1 + 1, (onesT D S k (a + 1)).2) else (0, a + 1)
theorem onesT_le {D : List Int} {S : Nat} : ∀ {k a : Nat}, a ≤ (onesT D S k a).2 ∧ (onesT D S k a).2 ≤ a + k ∧ (onesT D S k a).1 ≤ k
  | 0, a => ⟨Nat.le_refl _, Nat.le_refl _, Nat.le_refl _⟩
  | k + 1, a => by
    have := onesT_le (D := D) (S := S) (k := k) (a := a + 1)
    rw [onesT]; split <;> simp only <;> omega
def bendT (D : List Int) (S a : Nat) : Int × Nat :=
  if (onesT D S 4 a).1 = 0 then (0, (onesT D S 4 a).2) else if (onesT D S 4 a).1 = 1 then ((rdT D S (onesT D S 4 a).2 7 : Int) - 63, (onesT D S 4 a).2 + 7)
  else if (onesT D S 4 a).1 = 2 then ((rdT D S (onesT D S 4 a).2 9 : Int) - 255, (onesT D S 4 a).2 + 9) else if (onesT D S 4 a).1 = 3 then ((rdT D S (onesT D S 4 a).2 12 : Int) - 2047, (onesT D S 4 a).2 + 12)
  else (IntKind.wrap .i64 (rdT D S (onesT D S 4 a).2 64 : Int), (onesT D S 4 a).2 + 64)
theorem bendT_le {D : List Int} {S a : Nat} : (onesT D S 4 a).2 ≤ (bendT D S a).2 ∧ (bendT D S a).2 ≤ a + 68 := by
  have := onesT_le (D := D) (S := S) (k := 4) (a := a)
  simp only [bendT]
  repeat' split
  all_goals simp only; omega
def xorI (p : Int) (y : Nat) : Int := bxor .i64 p (IntKind.wrap .i64 (y : Int))
/-- one value: which, the frame behind it, where it ends -/
def valT (imp : Bool) (D : List Int) (S a : Nat) (st : FRE) : Option (Nat × FRE × Nat) :=
  if (onesT D S 2 a).1 = 0 then some (0, st, (onesT D S 2 a).2)
  else if (onesT D S 2 a).1 = 1 then
    if st.isSome || imp then some (rdT D S (onesT D S 2 a).2 (64 - leadN st - trailN st) * 2 ^ trailN st, st, (onesT D S 2 a).2 + (64 - leadN st - trailN st)) else none
  else if 64 < rdT D S (onesT D S 2 a).2 6 + (rdT D S ((onesT D S 2 a).2 + 6) 6 + 1) then none
  else some (rdT D S ((onesT D S 2 a).2 + 12) (rdT D S ((onesT D S 2 a).2 + 6) 6 + 1) * 2 ^ (64 - rdT D S (onesT D S 2 a).2 6 - (rdT D S ((onesT D S 2 a).2 + 6) 6 + 1)),
    some (rdT D S (onesT D S 2 a).2 6, 64 - rdT D S (onesT D S 2 a).2 6 - (rdT D S ((onesT D S 2 a).2 + 6) 6 + 1)), (onesT D S 2 a).2 + 12 + (rdT D S ((onesT D S 2 a).2 + 6) 6 + 1))
def nextT (e : Int) (p : SME) (step : Int) (y : Nat) : SME := (IntKind.wrap .i64 (p.1 + IntKind.wrap .i64 (step + e)), xorI p.2.1 y, ())
def unR (imp : Bool) (D : List Int) (S : Nat) : Nat → Nat → Nat → FRE → Int → List SME → Option (List SME × Nat)
  | 0, _, a, _, _, out => some (out, a)
  | d + 1, i, a, st, step, out => if S < a then some (out, a)
    else if i = 0 then unR imp D S d (i + 1) (a + 104) st step (out ++ [((rdT D S a 40 : Int), IntKind.wrap .i64 (rdT D S (a + 40) 64 : Int), ())])
    else match valT imp D S (bendT D S a).2 st with
      | none => none
      | some r => unR imp D S d (i + 1) r.2.2 r.2.1 (IntKind.wrap .i64 (step + (bendT D S a).1)) (out ++ [nextT (bendT D S a).1 (out.getD (i - 1) default) step r.1])
def unF (imp : Bool) (D : List Int) (S : Nat) : Option (List SME × Nat) := unR imp D S (rdT D S 0 8) 0 8 none 0 []
theorem rdT_has {b F : BBE} {a n w : Nat} {v : Int} (h : HasB F.1 a v n) (hw : IntKind.wrap .u64 v = (w : Int)) (hn : n ≤ 64) (hle : a + n ≤ F.2) : rdT F.1 F.2 a n = w % 2 ^ n := by
  rw [rdT, if_pos hle]; exact rdN_has hw hn h
theorem rdT_one {D : List Int} {S a : Nat} (h : a + 1 ≤ S) : rdT D S a 1 = (bitD D a).toNat := by
  rw [rdT, if_pos h, rdN, rdN, Nat.zero_mul, Nat.zero_add, Nat.add_zero]
theorem ones_yes {D : List Int} {S a k : Nat} (h : a + 1 ≤ S) (hb : bitD D a = true) : onesT D S (k + 1) a = ((onesT D S k (a + 1)).1 + 1, (onesT D S k (a + 1)).2) := by
  rw [onesT, rdT_one h, hb, if_pos (by decide)]
theorem ones_no {D : List Int} {S a k : Nat} (hb : bitD D a = false) : onesT D S (k + 1) a = (0, a + 1) := by
  rw [onesT, if_neg]
  rw [rdT]; split
  · rw [rdN, rdN, Nat.add_zero, hb]; decide
  · decide
theorem puts_has {b F : BBE} {v : Int} {n : Nat} (h : GB b) (hx : ExB (puts v n b) F) : HasB F.1 b.2 v n ∧ b.2 + n ≤ F.2 := by
  have hle := hx.le
  rw [puts_sz] at hle
  exact ⟨(puts_gb h).2.2.ext hx (by rw [puts_sz]; exact Nat.le_refl _), hle⟩
theorem puts_ex {b F : BBE} {v : Int} {n : Nat} (h : GB b) (hx : ExB (puts v n b) F) : ExB b F := (puts_gb h).2.1.trans hx
theorem bendB_gb {b : BBE} {e : Int} (h : GB b) : GB (bendB b e) ∧ ExB b (bendB b e) := by
  have two : ∀ v q w k, GB (puts w k (puts v q b)) ∧ ExB b (puts w k (puts v q b)) := fun v q w k => ⟨(puts_gb (puts_gb h).1).1, (puts_gb h).2.1.trans (puts_gb (puts_gb h).1).2.1⟩
  simp only [bendB]
  split
  · exact ⟨(puts_gb h).1, (puts_gb h).2.1⟩
  repeat' split
  all_goals exact two _ _ _ _
theorem wrapu_i {x : Int} : IntKind.wrap .u64 (IntKind.wrap .i64 x) = IntKind.wrap .u64 x := by
  show (if (true && decide (x % 18446744073709551616 ≥ 9223372036854775808)) = true then x % 18446744073709551616 - 18446744073709551616 else x % 18446744073709551616) % 18446744073709551616 = x % 18446744073709551616
  split <;> omega
theorem wrapi_u {x : Int} : IntKind.wrap .i64 (IntKind.wrap .u64 x) = IntKind.wrap .i64 x := by
  rw [IntKind.wrap_i64, IntKind.wrap_i64, wrapu]; omega
theorem bend_rt {b F : BBE} {e : Int} (h : GB b) (hx : ExB (bendB b e) F) (he : -9223372036854775808 ≤ e ∧ e ≤ 9223372036854775807) : bendT F.1 F.2 b.2 = (e, (bendB b e).2) := by
  have small : ∀ (k n : Nat) (z : Int), n ≤ 64 → -9223372036854775808 ≤ z ∧ 0 ≤ z ∧ z < 4096 → z.toNat < 2 ^ n → ∀ a, HasB F.1 a (IntKind.wrap .i64 z) n → a + n ≤ F.2 → (rdT F.1 F.2 a n : Int) = z := by
    intro k n z hn hz hz2 a ha hle
    rw [rdT_has (b := b) ha (w := z.toNat) (by rw [wrapu_i, wrapu]; omega) hn hle, Nat.mod_eq_of_lt hz2]; omega
  rw [bendB] at hx ⊢
  by_cases c0 : e = 0
  · rw [if_pos c0] at hx ⊢
    obtain ⟨h1, h2⟩ := puts_has h hx
    have b0 : bitD F.1 b.2 = _ := h1 0 (by decide)
    have o : onesT F.1 F.2 4 b.2 = (0, b.2 + 1) := ones_no (b0.trans (by decide +kernel))
    rw [bendT, o, if_pos rfl, puts_sz, c0]
  rw [if_neg c0] at hx ⊢
  by_cases c1 : -63 ≤ e ∧ e ≤ 64
  · rw [if_pos c1] at hx ⊢
    obtain ⟨h1, h2⟩ := puts_has (puts_gb h).1 hx
    obtain ⟨h3, h4⟩ := puts_has h (puts_ex (puts_gb h).1 hx)
    rw [puts_sz] at h1 h2
    have b0 : bitD F.1 b.2 = _ := h3 0 (by decide)
    have b1 := h3 1 (by decide)
    have o : onesT F.1 F.2 4 b.2 = (1, b.2 + 2) := by rw [ones_yes (by omega) (b0.trans (by decide +kernel)), ones_no (b1.trans (by decide +kernel))]
    rw [bendT, o, if_neg (by simp), if_pos rfl, puts_sz, puts_sz, small 1 7 (e + 63) (by decide) (by omega) (by omega) _ h1 h2]
    simp only [Prod.mk.injEq, and_true]; omega
  rw [if_neg c1] at hx ⊢
  by_cases c2 : -255 ≤ e ∧ e ≤ 256
  · rw [if_pos c2] at hx ⊢
    obtain ⟨h1, h2⟩ := puts_has (puts_gb h).1 hx
    obtain ⟨h3, h4⟩ := puts_has h (puts_ex (puts_gb h).1 hx)
    rw [puts_sz] at h1 h2
    have b0 : bitD F.1 b.2 = _ := h3 0 (by decide)
    have b1 := h3 1 (by decide)
    have b2 := h3 2 (by decide)
    have o : onesT F.1 F.2 4 b.2 = (2, b.2 + 3) := by rw [ones_yes (by omega) (b0.trans (by decide +kernel)), ones_yes (by omega) (b1.trans (by decide +kernel)), ones_no (b2.trans (by decide +kernel))]
    rw [bendT, o, if_neg (by simp), if_neg (by simp), if_pos rfl, puts_sz, puts_sz, small 1 9 (e + 255) (by decide) (by omega) (by omega) _ h1 h2]
    simp only [Prod.mk.injEq, and_true]; omega
  rw [if_neg c2] at hx ⊢
  by_cases c3 : -2047 ≤ e ∧ e ≤ 2048
  · rw [if_pos c3] at hx ⊢
    obtain ⟨h1, h2⟩ := puts_has (puts_gb h).1 hx
    obtain ⟨h3, h4⟩ := puts_has h (puts_ex (puts_gb h).1 hx)
    rw [puts_sz] at h1 h2
    have b0 : bitD F.1 b.2 = _ := h3 0 (by decide)
    have b1 := h3 1 (by decide)
    have b2 := h3 2 (by decide)
    have b3 := h3 3 (by decide)
    have o : onesT F.1 F.2 4 b.2 = (3, b.2 + 4) := by rw [ones_yes (by omega) (b0.trans (by decide +kernel)), ones_yes (by omega) (b1.trans (by decide +kernel)), ones_yes (by omega) (b2.trans (by decide +kernel)), ones_no (b3.trans (by decide +kernel))]
    rw [bendT, o, if_neg (by simp), if_neg (by simp), if_neg (by simp), if_pos rfl, puts_sz, puts_sz, small 1 12 (e + 2047) (by decide) (by omega) (by omega) _ h1 h2]
    simp only [Prod.mk.injEq, and_true]; omega
  rw [if_neg c3] at hx ⊢
  obtain ⟨h1, h2⟩ := puts_has (puts_gb h).1 hx
  obtain ⟨h3, h4⟩ := puts_has h (puts_ex (puts_gb h).1 hx)
  rw [puts_sz] at h1 h2
  have b0 : bitD F.1 b.2 = _ := h3 0 (by decide)
  have b1 := h3 1 (by decide)
  have b2 := h3 2 (by decide)
  have b3 := h3 3 (by decide)
  have o : onesT F.1 F.2 4 b.2 = (4, b.2 + 4) := by rw [ones_yes (by omega) (b0.trans (by decide +kernel)), ones_yes (by omega) (b1.trans (by decide +kernel)), ones_yes (by omega) (b2.trans (by decide +kernel)), ones_yes (by omega) (b3.trans (by decide +kernel))]; rfl
  obtain ⟨w, hw⟩ : ∃ w : Nat, IntKind.wrap .u64 e = (w : Int) := ⟨(e % 18446744073709551616).toNat, by rw [wrapu]; omega⟩
  rw [bendT, o, if_neg (by simp), if_neg (by simp), if_neg (by simp), if_neg (by simp), puts_sz, puts_sz, rdT_has (b := b) h1 hw (by decide) h2]
  have hw2 : w < 2 ^ 64 := by rw [wrapu] at hw; omega
  rw [Nat.mod_eq_of_lt hw2, ← hw, wrapi_u, i64_ok he.1 he.2]
theorem lz_lt {y : Nat} (h0 : y ≠ 0) (h : y < 18446744073709551616) : y < 2 ^ (64 - lzN y) := by
  have := log2_le h0 h
  rw [lzN, show 64 - (63 - Nat.log2 y) = Nat.log2 y + 1 by omega]
  exact Nat.lt_log2_self
theorem tz_dvd {y t : Nat} (h0 : y ≠ 0) (h : y < 18446744073709551616) (ht : t ≤ tzN y) : y / 2 ^ t * 2 ^ t = y := by
  have h2 : y % 2 ^ t = 0 := by
    apply Nat.eq_of_testBit_eq
    intro j
    rw [Nat.testBit_mod_two_pow, Nat.zero_testBit]
    by_cases hj : j < t
    · rw [(tz_spec h0 h).2.2 j (by omega), Bool.and_false]
    · rw [decide_eq_false hj, Bool.false_and]
  exact Nat.div_mul_cancel (Nat.dvd_of_mod_eq_zero h2)
theorem valB_gb {b : BBE} {st : FRE} {y : Nat} (h : GB b) : GB (valB b st y).1 ∧ ExB b (valB b st y).1 := by
  have two : ∀ v q w k, GB (puts w k (puts v q b)) ∧ ExB b (puts w k (puts v q b)) := fun v q w k => ⟨(puts_gb (puts_gb h).1).1, (puts_gb h).2.1.trans (puts_gb (puts_gb h).1).2.1⟩
  simp only [valB]
  split
  · exact ⟨(puts_gb h).1, (puts_gb h).2.1⟩
  split
  · exact two _ _ _ _
  · obtain ⟨h1, h2⟩ := two 3 2 (lzN y : Int) 6
    exact ⟨(puts_gb (puts_gb h1).1).1, (h2.trans (puts_gb h1).2.1).trans (puts_gb (puts_gb h1).1).2.1⟩
theorem val_rt {b F : BBE} {st : FRE} {y : Nat} {imp : Bool} (h : GB b) (hx : ExB (valB b st y).1 F) (hs : FrOK st) (hy : y < 18446744073709551616) : valT imp F.1 F.2 b.2 st = some (y, (valB b st y).2, (valB b st y).1.2) := by
  simp only [FrOK] at hs
  rw [valB] at hx ⊢
  by_cases c0 : y = 0
  · rw [if_pos c0] at hx ⊢
    obtain ⟨h1, h2⟩ := puts_has h hx
    have b0 : bitD F.1 b.2 = _ := h1 0 (by decide)
    have o : onesT F.1 F.2 2 b.2 = (0, b.2 + 1) := ones_no (b0.trans (by decide +kernel))
    rw [valT, o, if_pos rfl, puts_sz, c0]
  rw [if_neg c0] at hx ⊢
  have hlt := lz_lt c0 hy
  by_cases c1 : frB st y = true
  · rw [if_pos c1] at hx ⊢
    rw [oldB] at hx ⊢
    obtain ⟨h1, h2⟩ := puts_has (puts_gb h).1 hx
    obtain ⟨h3, h4⟩ := puts_has h (puts_ex (puts_gb h).1 hx)
    rw [puts_sz] at h1 h2
    have b0 : bitD F.1 b.2 = _ := h3 0 (by decide)
    have b1 := h3 1 (by decide)
    have o : onesT F.1 F.2 2 b.2 = (1, b.2 + 2) := by rw [ones_yes (by omega) (b0.trans (by decide +kernel)), ones_no (b1.trans (by decide +kernel))]
    obtain ⟨p, rfl⟩ : ∃ p, st = some p := by cases st with | none => simp [frB] at c1 | some p => exact ⟨p, rfl⟩
    obtain ⟨ld, tr⟩ := p
    simp only [frB, Bool.and_eq_true, decide_eq_true_eq] at c1
    simp only [leadN, trailN, Option.getD_some] at h1 h2 hs ⊢
    have hd := tz_dvd c0 hy c1.2
    have hq : y / 2 ^ tr < 2 ^ (64 - ld - tr) := by
      refine (Nat.div_lt_iff_lt_mul (Nat.pos_of_ne_zero (by simp))).2 ?_
      rw [← Nat.pow_add, show 64 - ld - tr + tr = 64 - ld by omega]
      exact Nat.lt_of_lt_of_le hlt (Nat.pow_le_pow_right (by decide) (by omega))
    have hq2 : y / 2 ^ tr < 18446744073709551616 := Nat.lt_of_le_of_lt (Nat.div_le_self _ _) hy
    have hr := rdT_has (b := b) h1 (w := y / 2 ^ tr) (by rw [wrapu_i]; exact wrapu_nat hq2) (by omega) h2
    rw [Nat.mod_eq_of_lt hq] at hr
    rw [valT, o, if_neg (by simp), if_pos rfl, if_pos (by simp)]
    simp only [leadN, trailN, Option.getD_some]
    rw [hr, hd, puts_sz, puts_sz]
  · rw [if_neg c1] at hx ⊢
    rw [newB] at hx ⊢
    have g1 := puts_gb (v := 3) (n := 2) h
    have g2 := puts_gb (v := (lzN y : Int)) (n := 6) g1.1
    have g3 := puts_gb (v := ((64 - lzN y - tzN y - 1 : Nat) : Int)) (n := 6) g2.1
    obtain ⟨h1, h2⟩ := puts_has g3.1 hx
    have x3 := puts_ex g3.1 hx
    obtain ⟨h3, h4⟩ := puts_has g2.1 x3
    have x2 := puts_ex g2.1 x3
    obtain ⟨h5, h6⟩ := puts_has g1.1 x2
    obtain ⟨h7, h8⟩ := puts_has h (puts_ex g1.1 x2)
    simp only [puts_sz] at h1 h2 h3 h4 h5 h6 h7 h8 ⊢
    have b0 : bitD F.1 b.2 = _ := h7 0 (by decide)
    have b1 := h7 1 (by decide)
    have o : onesT F.1 F.2 2 b.2 = (2, b.2 + 2) := by rw [ones_yes (by omega) (b0.trans (by decide +kernel)), ones_yes (by omega) (b1.trans (by decide +kernel))]; rfl
    have hz := lz_tz c0 hy
    have r1 := rdT_has (b := b) h5 (w := lzN y) (wrapu_nat (by omega)) (by decide) h6
    have r2 := rdT_has (b := b) h3 (w := 64 - lzN y - tzN y - 1) (wrapu_nat (by omega)) (by decide) h4
    rw [Nat.mod_eq_of_lt (by omega)] at r1 r2
    have hd := tz_dvd c0 hy (Nat.le_refl _)
    have hq : y / 2 ^ tzN y < 2 ^ (64 - lzN y - tzN y) := by
      refine (Nat.div_lt_iff_lt_mul (Nat.pos_of_ne_zero (by simp))).2 ?_
      rw [← Nat.pow_add, show 64 - lzN y - tzN y + tzN y = 64 - lzN y by omega]
      exact hlt
    have hq2 : y / 2 ^ tzN y < 18446744073709551616 := Nat.lt_of_le_of_lt (Nat.div_le_self _ _) hy
    have r3 := rdT_has (b := b) h1 (w := y / 2 ^ tzN y) (by rw [wrapu_i]; exact wrapu_nat hq2) (by omega) h2
    rw [Nat.mod_eq_of_lt hq] at r3
    rw [valT, o, if_neg (by simp), if_neg (by simp)]
    simp only
    rw [r1, show b.2 + 2 + 6 = b.2 + 2 + 6 from rfl, r2, show 64 - lzN y - tzN y - 1 + 1 = 64 - lzN y - tzN y by omega, if_neg (by omega), show b.2 + 2 + 12 = b.2 + 2 + 6 + 6 by omega, r3, show 64 - lzN y - (64 - lzN y - tzN y) = tzN y by omega, hd]
theorem xorI_turn {a p : Int} (ha : -9223372036854775808 ≤ a ∧ a ≤ 9223372036854775807) : xorI p (turnN a p) = a := by
  have e : BitVec.ofInt 64 (IntKind.wrap .i64 (turnN a p : Int)) = BitVec.ofInt 64 a ^^^ BitVec.ofInt 64 p := by
    apply BitVec.eq_of_toNat_eq
    have := @turn_lt a p
    rw [BitVec.toNat_ofInt, IntKind.wrap_i64]
    have h2 : (BitVec.ofInt 64 a ^^^ BitVec.ofInt 64 p).toNat = turnN a p := rfl
    rw [h2]; omega
  show IntKind.wrap .i64 ((BitVec.ofInt 64 p ^^^ BitVec.ofInt 64 (IntKind.wrap .i64 (turnN a p : Int))).toNat : Int) = a
  rw [e, BitVec.xor_comm, BitVec.xor_assoc, BitVec.xor_self, BitVec.xor_zero, BitVec.toNat_ofInt, IntKind.wrap_i64]
  omega
theorem i64_rng {x : Int} : -9223372036854775808 ≤ IntKind.wrap .i64 x ∧ IntKind.wrap .i64 x ≤ 9223372036854775807 := by rw [IntKind.wrap_i64]; omega
def ValsOK (l : List SME) : Prop := ∀ i, i < l.length → -9223372036854775808 ≤ (l.getD i default).2.1 ∧ (l.getD i default).2.1 ≤ 9223372036854775807
theorem packR_gb {l : List SME} : ∀ d i b st step, GB b → GB (packR l d i b st step) ∧ ExB b (packR l d i b st step)
  | 0, _, b, _, _, h => ⟨h, ExB.refl⟩
  | d + 1, i, b, st, step, h => by
    rw [packR]
    split
    · have h1 := puts_gb (v := (l.getD i default).1) (n := 40) h
      have h2 := puts_gb (v := (l.getD i default).2.1) (n := 64) h1.1
      obtain ⟨h3, h4⟩ := packR_gb (l := l) d (i + 1) _ st step h2.1
      exact ⟨h3, (h1.2.1.trans h2.2.1).trans h4⟩
    · obtain ⟨h1, h2⟩ := bendB_gb (e := bendI l i step) h
      obtain ⟨h3, h4⟩ := valB_gb (st := st) (y := turnI l i) h1
      obtain ⟨h5, h6⟩ := packR_gb (l := l) d (i + 1) _ (valB (bendB b (bendI l i step)) st (turnI l i)).2 (nowI l i) h3
      exact ⟨h5, (h2.trans h4).trans h6⟩
theorem samples_at {l : List SME} (h : samplesB l = true) {i : Nat} (hi : i < l.length) : 0 ≤ (l.getD i default).1 ∧ (l.getD i default).1 ≤ 1000000000000 := by
  simp only [samplesB, Bool.and_eq_true, List.all_eq_true, List.mem_range] at h
  have := (h.1 i hi).1
  simpa [timeB] using this
theorem take_next {α : Type} {l : List α} {i : Nat} {d : α} (h : i < l.length) : l.take (i + 1) = l.take i ++ [l.getD i d] := by
  rw [List.take_add_one, List.getD_eq_getElem?_getD, List.getElem?_eq_getElem h]; rfl
theorem take_getD {α : Type} {l : List α} {i j : Nat} {d : α} (h : j < i) : (l.take i).getD j d = l.getD j d := by
  rw [List.getD_eq_getElem?_getD, List.getD_eq_getElem?_getD, List.getElem?_take_of_lt h]
theorem unR_rt {l : List SME} {imp : Bool} (hg : samplesB l = true) (hv : ValsOK l) : ∀ d i b st step, i + d = l.length → GB b → FrOK st → (i ≤ 1 → step = 0) → (-1000000000000 ≤ step ∧ step ≤ 1000000000000) →
    unR imp (packR l d i b st step).1 (packR l d i b st step).2 d i b.2 st step (l.take i) = some (l, (packR l d i b st step).2) := by
  intro d
  induction d with
  | zero =>
    intro i b st step hi _ _ _ _
    rw [unR, packR, List.take_of_length_le (by omega)]
  | succ d ih =>
    intro i b st step hi hb hs h0 hstep
    have hlt : i < l.length := by omega
    have hle := (packR_gb (l := l) (d + 1) i b st step hb).2.le
    have ht := samples_at hg hlt
    rw [unR, if_neg (by omega)]
    by_cases e : i = 0
    · rw [if_pos e]
      have h1 := puts_gb (v := (l.getD i default).1) (n := 40) hb
      have h2 := puts_gb (v := (l.getD i default).2.1) (n := 64) h1.1
      have hF : packR l (d + 1) i b st step = packR l d (i + 1) (puts (l.getD i default).2.1 64 (puts (l.getD i default).1 40 b)) st step := by rw [packR, if_pos e]
      have hx := (packR_gb (l := l) d (i + 1) _ st step h2.1).2
      have := ih (i + 1) _ st step (by omega) h2.1 hs (fun _ => h0 (by omega)) hstep
      rw [hF]
      generalize packR l d (i + 1) (puts (l.getD i default).2.1 64 (puts (l.getD i default).1 40 b)) st step = F at this hx ⊢
      obtain ⟨k1, k2⟩ := puts_has h1.1 hx
      obtain ⟨k3, k4⟩ := puts_has hb (puts_ex h1.1 hx)
      rw [puts_sz] at k1 k2
      have r1 := rdT_has (b := b) k3 (w := (l.getD i default).1.toNat) (by rw [wrapu]; omega) (by decide) k4
      rw [Nat.mod_eq_of_lt (by omega)] at r1
      obtain ⟨w, hw⟩ : ∃ w : Nat, IntKind.wrap .u64 (l.getD i default).2.1 = (w : Int) := ⟨((l.getD i default).2.1 % 18446744073709551616).toNat, by rw [wrapu]; omega⟩
      have r2 := rdT_has (b := b) k1 hw (by decide) k2
      have hw2 : w < 2 ^ 64 := by rw [wrapu] at hw; omega
      have hr := hv i hlt
      rw [Nat.mod_eq_of_lt hw2] at r2
      rw [puts_sz, puts_sz, take_next (d := default) hlt] at this
      rw [r1, r2, ← hw, wrapi_u, i64_ok hr.1 hr.2, show (((l.getD i default).1.toNat : Nat) : Int) = (l.getD i default).1 by omega]
      exact this
    · rw [if_neg e]
      have hp := samples_at hg (show i - 1 < l.length by omega)
      obtain ⟨h1, h2⟩ := bendB_gb (e := bendI l i step) hb
      obtain ⟨h3, h4⟩ := valB_gb (st := st) (y := turnI l i) h1
      have hy : turnI l i < 18446744073709551616 := turn_lt
      have hF : packR l (d + 1) i b st step = packR l d (i + 1) (valB (bendB b (bendI l i step)) st (turnI l i)).1 (valB (bendB b (bendI l i step)) st (turnI l i)).2 (nowI l i) := by rw [packR, if_neg e]
      have hx := (packR_gb (l := l) d (i + 1) _ (valB (bendB b (bendI l i step)) st (turnI l i)).2 (nowI l i) h3).2
      have hnow : nowI l i = (l.getD i default).1 - (l.getD (i - 1) default).1 := i64_ok (by omega) (by omega)
      have this := ih (i + 1) _ (valB (bendB b (bendI l i step)) st (turnI l i)).2 (nowI l i) (by omega) h3 (valB_ok h1.ok hs hy).2.2 (fun h => absurd h (by omega)) (by rw [hnow]; omega)
      rw [hF]
      generalize packR l d (i + 1) (valB (bendB b (bendI l i step)) st (turnI l i)).1 (valB (bendB b (bendI l i step)) st (turnI l i)).2 (nowI l i) = F at this hx ⊢
      have hbend : -9223372036854775808 ≤ bendI l i step ∧ bendI l i step ≤ 9223372036854775807 := by
        rw [bendI]; split
        · exact i64_rng
        · exact i64_rng
      have hnext : IntKind.wrap .i64 (step + bendI l i step) = nowI l i := by
        rw [bendI]; split
        · rw [h0 (by omega), Int.zero_add, nowI, i64_ok i64_rng.1 i64_rng.2]
        · rw [i64_ok (x := nowI l i - step) (by omega) (by omega), show step + (nowI l i - step) = nowI l i by omega, i64_ok (by omega) (by omega)]
      rw [bend_rt hb (h4.trans hx) hbend, val_rt h1 hx hs hy]
      simp only [nextT]
      rw [hnext, take_getD (by omega), hnow, show (l.getD (i - 1) default).1 + ((l.getD i default).1 - (l.getD (i - 1) default).1) = (l.getD i default).1 by omega, i64_ok (x := (l.getD i default).1) (by omega) (by omega), turnI, xorI_turn (hv i hlt)]
      rw [take_next (d := default) hlt, hnow, turnI] at this
      exact this
theorem gb0 : GB ([], 0) := ⟨rfl, fun j => by simp, fun i _ => by simp [bitD]⟩
theorem unF_rt {l : List SME} {imp : Bool} (hg : samplesB l = true) (hv : ValsOK l) (hl : l.length ≤ 120) : unF imp (packV l).1 (packV l).2 = some (l, (packV l).2) := by
  have g := puts_gb (v := (l.length : Int)) (n := 8) gb0
  have := unR_rt (imp := imp) hg hv l.length 0 _ none 0 (by omega) g.1 (by simp [FrOK, leadN, trailN]) (fun _ => rfl) (by decide)
  have hx := (packR_gb (l := l) l.length 0 _ none 0 g.1).2
  rw [← packV] at this hx
  obtain ⟨k1, k2⟩ := puts_has gb0 hx
  have r := rdT_has (b := ([], 0)) k1 (w := l.length) (wrapu_nat (by omega)) (by decide) k2
  rw [Nat.mod_eq_of_lt (by omega)] at r
  rw [unF]
  have r : rdT (packV l).1 (packV l).2 0 8 = l.length := r
  rw [r]
  rw [puts_sz] at this
  exact this
theorem valT_le {imp : Bool} {D : List Int} {S a : Nat} {st : FRE} {r : Nat × FRE × Nat} (h : valT imp D S a st = some r) : (onesT D S 2 a).2 ≤ r.2.2 := by
  simp only [valT] at h
  repeat' split at h
  all_goals first | (injection h with h; subst h; dsimp only; omega) | cases h
theorem unR_le {imp : Bool} {D : List Int} {S : Nat} {l : List SME} {z : Nat} : ∀ d i a st step out, unR imp D S d i a st step out = some (l, z) → a ≤ z ∧ (z ≤ S → l.length = out.length + d) ∧ (ValsOK out → ValsOK l)
  | 0, i, a, st, step, out, h => by
    rw [unR] at h
    injection h with h
    injection h with h1 h2
    subst h1 h2
    exact ⟨Nat.le_refl _, fun _ => rfl, id⟩
  | d + 1, i, a, st, step, out, h => by
    have app : ∀ x : SME, (-9223372036854775808 ≤ x.2.1 ∧ x.2.1 ≤ 9223372036854775807) → ValsOK out → ValsOK (out ++ [x]) := by
      intro x hx ho j hj
      rw [List.length_append, List.length_singleton] at hj
      rcases Nat.lt_or_ge j out.length with h1 | h1
      · have := ho j h1
        rw [List.getD_eq_getElem?_getD, List.getElem?_append_left h1, ← List.getD_eq_getElem?_getD]; exact this
      · obtain rfl : j = out.length := by omega
        rw [List.getD_eq_getElem?_getD, List.getElem?_append_right (Nat.le_refl _), Nat.sub_self]; exact hx
    rw [unR] at h
    by_cases e1 : S < a
    · rw [if_pos e1] at h
      injection h with h
      injection h with h1 h2
      subst h1 h2
      exact ⟨Nat.le_refl _, fun h => absurd h (by omega), id⟩
    rw [if_neg e1] at h
    by_cases e2 : i = 0
    · rw [if_pos e2] at h
      obtain ⟨k1, k2, k3⟩ := unR_le _ _ _ _ _ _ h
      exact ⟨by omega, fun hz => by rw [k2 hz, List.length_append, List.length_singleton]; omega, fun ho => k3 (app _ i64_rng ho)⟩
    rw [if_neg e2] at h
    cases hq : valT imp D S (bendT D S a).2 st with
    | none => rw [hq] at h; cases h
    | some r =>
      rw [hq] at h
      obtain ⟨k1, k2, k3⟩ := unR_le _ _ _ _ _ _ h
      have l1 := valT_le hq
      have l2 := bendT_le (D := D) (S := S) (a := a)
      have l3 := onesT_le (D := D) (S := S) (k := 4) (a := a)
      have l4 := onesT_le (D := D) (S := S) (k := 2) (a := (bendT D S a).2)
      exact ⟨by omega, fun hz => by rw [k2 hz, List.length_append, List.length_singleton]; omega, fun ho => k3 (app _ i64_rng ho)⟩
def ChunkOf (D : List Int) (S : Nat) (l : List SME) : Prop := samplesB l = true ∧ l.length ≤ 120 ∧ ValsOK l ∧ packV l = (D, S)
theorem chunkOf_un {D : List Int} {S : Nat} {l : List SME} (h : ChunkOf D S l) (imp : Bool) : unF imp D S = some (l, S) := by
  obtain ⟨h1, h2, h3, h4⟩ := h
  have := unF_rt (imp := imp) h1 h3 h2
  rwa [h4] at this
open Classical in
noncomputable def unV (D : List Int) (S : Nat) : List SME × Bool := if h : ∃ l, ChunkOf D S l then (h.choose, true) else ([], false)
theorem unV_yes {D : List Int} {S : Nat} {l : List SME} (h : ChunkOf D S l) : unV D S = (l, true) := by
  have hx : ∃ l, ChunkOf D S l := ⟨l, h⟩
  rw [unV, dif_pos hx]
  have := chunkOf_un hx.choose_spec true
  rw [chunkOf_un h true] at this
  injection this with this
  injection this with this
  rw [this]
theorem unV_no {D : List Int} {S : Nat} (h : ∀ l, ¬ ChunkOf D S l) : unV D S = ([], false) := by
  rw [unV, dif_neg (fun hx => h hx.choose hx.choose_spec)]
theorem eq_yes {n k : Nat} (h : decide ((n : Int) = (k : Int)) = true) : n = k := by have := of_decide_eq_true h; omega
theorem eq_no {n k : Nat} (h : decide ((n : Int) = (k : Int)) = false) : ¬ n = k := by have := of_decide_eq_false h; omega
theorem not_neg {n : Nat} : decide ((n : Int) < 0) = false := decide_eq_false (by omega)
theorem nn_nat {n : Nat} : decide (0 ≤ (n : Int)) = true := decide_eq_true (by omega)
theorem nn_wrapu {x : Int} : decide (0 ≤ IntKind.wrap .u64 x) = true := decide_eq_true (by rw [wrapu]; omega)
abbrev RSE := (List Int × Int × Unit) × Int × Bool × Unit
abbrev RS (D : List Int) (S a : Nat) : RSE := ((D, ((S : Int), ())), ((a : Int), (decide (a ≤ S), ())))
theorem unR_len {imp : Bool} {D : List Int} {S : Nat} {l : List SME} {z : Nat} : ∀ d i a st step out, unR imp D S d i a st step out = some (l, z) → l.length ≤ out.length + d
  | 0, i, a, st, step, out, h => by
    rw [unR] at h
    injection h with h
    injection h with h1 h2
    subst h1 h2
    exact Nat.le_refl _
  | d + 1, i, a, st, step, out, h => by
    rw [unR] at h
    by_cases e1 : S < a
    · rw [if_pos e1] at h
      injection h with h
      injection h with h1 h2
      subst h1 h2
      exact Nat.le_add_right _ _
    rw [if_neg e1] at h
    by_cases e2 : i = 0
    · rw [if_pos e2] at h
      have := unR_len _ _ _ _ _ _ h
      rw [List.length_append, List.length_singleton] at this; omega
    rw [if_neg e2] at h
    cases hq : valT imp D S (bendT D S a).2 st with
    | none => rw [hq] at h; cases h
    | some r =>
      rw [hq] at h
      have := unR_len _ _ _ _ _ _ h
      rw [List.length_append, List.length_singleton] at this; omega
theorem bit_tab : ∀ x : Nat, x < 256 → ∀ k : Nat, k < 8 → band .i64 (IntKind.wrap .i64 (shr .u8 (x : Int) ((7 - k : Nat) : Int))) 1 = ((decide (x / 2 ^ (7 - k) % 2 = 1)).toNat : Int) ∧ IntKind.wrap .u64 (band .u8 (shr .u8 (x : Int) ((7 - k : Nat) : Int)) 1) = ((decide (x / 2 ^ (7 - k) % 2 = 1)).toNat : Int) := by decide +kernel
theorem shl_tab : ∀ x : Nat, x < 256 → ∀ k : Nat, k < 8 → decide (shl .u8 (x : Int) (k : Int) = 0) = (List.range (8 - k)).all (fun j => !decide (x / 2 ^ (7 - (k + j)) % 2 = 1)) := by decide +kernel
theorem wrap_bit {b : Bool} : IntKind.wrap .u64 ((b.toNat : Nat) : Int) = ((b.toNat : Nat) : Int) := by cases b <;> rfl
theorem bor_shl {v : Nat} {b : Bool} (h : v < 9223372036854775808) : bor .u64 (shl .u64 (v : Int) 1) ((b.toNat : Nat) : Int) = ((v * 2 + b.toNat : Nat) : Int) := by
  have hb : b.toNat < 2 := by cases b <;> decide
  have e1 : shl .u64 (v : Int) 1 = ((v * 2 : Nat) : Int) := by
    show IntKind.wrap .u64 ((v : Int) * 2 ^ 1) = _
    rw [wrapu]; omega
  rw [e1]
  show IntKind.wrap .u64 ((BitVec.ofInt 64 ((v * 2 : Nat) : Int) ||| BitVec.ofInt 64 ((b.toNat : Nat) : Int)).toNat : Int) = _
  rw [BitVec.ofInt_natCast, BitVec.ofInt_natCast, BitVec.toNat_or, BitVec.toNat_ofNat, BitVec.toNat_ofNat, Nat.mod_eq_of_lt (by omega), Nat.mod_eq_of_lt (by omega)]
  have := Nat.two_pow_add_eq_or_of_lt (i := 1) (b := b.toNat) hb v
  rw [Nat.mul_comm v 2, show 2 * v ||| b.toNat = 2 * v + b.toNat by rw [show 2 * v = 2 ^ 1 * v by omega]; exact this.symm]
  exact wrapu_nat (by omega)
theorem wrap_mul {x c : Int} : IntKind.wrap .i64 (IntKind.wrap .i64 x * c) = IntKind.wrap .i64 (x * c) := by
  obtain ⟨k, hk⟩ : ∃ k : Int, IntKind.wrap .i64 x = x - k * 18446744073709551616 := ⟨(x + 9223372036854775808) / 18446744073709551616, by rw [IntKind.wrap_i64]; omega⟩
  rw [hk, Int.sub_mul, show k * 18446744073709551616 * c = k * c * 18446744073709551616 by rw [Int.mul_assoc, Int.mul_comm 18446744073709551616 c, ← Int.mul_assoc], IntKind.wrap_i64, IntKind.wrap_i64]
  omega
theorem wrap_mulu {x c : Int} : IntKind.wrap .u64 (IntKind.wrap .u64 x * c) = IntKind.wrap .u64 (x * c) := by
  obtain ⟨k, hk⟩ : ∃ k : Int, IntKind.wrap .u64 x = x - k * 18446744073709551616 := ⟨x / 18446744073709551616, by rw [wrapu]; omega⟩
  rw [hk, Int.sub_mul, show k * 18446744073709551616 * c = k * c * 18446744073709551616 by rw [Int.mul_assoc, Int.mul_comm 18446744073709551616 c, ← Int.mul_assoc], wrapu, wrapu]
  omega
theorem shl_i {r t : Nat} (ht : t ≤ 64) : shl .i64 (IntKind.wrap .i64 (r : Int)) (t : Int) = IntKind.wrap .i64 ((r * 2 ^ t : Nat) : Int) := by
  show IntKind.wrap .i64 (IntKind.wrap .i64 (r : Int) * 2 ^ (min (Int.toNat (t : Int)) 64)) = _
  rw [Int.toNat_natCast, Nat.min_eq_left ht, wrap_mul]; simp
theorem shl_u {r t : Nat} (ht : t ≤ 64) : IntKind.wrap .i64 (shl .u64 (IntKind.wrap .u64 (IntKind.wrap .i64 (r : Int))) (t : Int)) = IntKind.wrap .i64 ((r * 2 ^ t : Nat) : Int) := by
  show IntKind.wrap .i64 (IntKind.wrap .u64 (IntKind.wrap .u64 (IntKind.wrap .i64 (r : Int)) * 2 ^ (min (Int.toNat (t : Int)) 64))) = _
  rw [Int.toNat_natCast, Nat.min_eq_left ht, wrapu_i, wrap_mulu, wrapi_u]; simp
theorem byb_of {D : List Int} (h : ∀ x ∈ D, 0 ≤ x ∧ x < 256) : BYB D := fun j => by
  rcases Nat.lt_or_ge j D.length with hj | hj
  · exact h _ (getD_mem hj)
  · rw [List.getD_eq_getElem?_getD, List.getElem?_eq_none hj]; decide
theorem ofOcts_inj {a b : List Int} (ha : BYB a) (hb : BYB b) (h : ofOcts a = ofOcts b) : a = b := by
  have h : (a.map fun n => UInt8.ofNat n.toNat) = b.map fun n => UInt8.ofNat n.toNat := by
    have := congrArg (fun x : ByteArray => x.data.toList) h
    simpa [ofOcts] using this
  have hl : a.length = b.length := by simpa using congrArg List.length h
  refine ext_getD hl (d := default) fun j hj => ?_
  have h2 := congrArg (fun l => l[j]?) h
  simp only [List.getElem?_map, List.getElem?_eq_getElem hj, List.getElem?_eq_getElem (show j < a.length by omega), Option.map_some, Option.some.injEq] at h2
  have k1 := ha j; have k2 := hb j
  rw [List.getD_eq_getElem?_getD, List.getElem?_eq_getElem (show j < a.length by omega), Option.getD_some] at k1 ⊢
  rw [List.getD_eq_getElem?_getD, List.getElem?_eq_getElem hj, Option.getD_some] at k2 ⊢
  have h3 := congrArg UInt8.toNat h2
  simp only [UInt8.toNat_ofNat'] at h3
  omega
theorem all_same {α : Type} {p q : α → Bool} : ∀ {l : List α}, (∀ x, x ∈ l → p x = q x) → l.all p = l.all q
  | [], _ => rfl
  | a :: l, h => by rw [List.all_cons, List.all_cons, h a (List.mem_cons_self ..), all_same fun x hx => h x (List.mem_cons_of_mem _ hx)]
def tailB (D : List Int) (S : Nat) : Bool := (List.range (8 * D.length - S)).all fun j => !bitD D (S + j)
def goodBB (D : List Int) (S : Int) : Bool := decide (0 ≤ S) && decide (S ≤ 80000) && decide ((D.length : Int) = (S + 7) / 8) && tailB D S.toNat
noncomputable def upV (D : List Int) (S : Int) : List SME × Bool := if goodBB D S = true then unV D S.toNat else ([], false)
def cntV (r : List SME × Bool) : Int := if r.2 = true then (r.1.length : Int) else -1
/-- what unpacking comes to, of what the reader read -/
def finU (S : Nat) (r : Option (List SME × Nat)) : List SME × Bool := match r with | none => ([], false) | some p => (p.1, decide ((p.2 : Int) = (S : Int)))
theorem packV_by {l : List SME} : BYB (packV l).1 := (packR_gb (l := l) _ _ _ _ _ (puts_gb gb0).1).1.by_
theorem wf_byb {D : List Int} (h : Wf (.sl false (.int .u8)) D) : BYB D := byb_of fun x hx => by
  have h1 : IntKind.min .u8 ≤ x ∧ x ≤ IntKind.max .u8 := by have := h.2 x hx; simpa only [Wf, Lit.wf, Bool.and_eq_true, decide_eq_true_eq] using this
  have e1 : IntKind.min .u8 = 0 := by decide
  have e2 : IntKind.max .u8 = 255 := by decide
  omega
theorem upV_len {D : List Int} {S : Int} : (upV D S).1.length ≤ 120 := by
  rw [upV]
  split
  · rw [unV]
    split
    · rename_i h; exact h.choose_spec.2.1
    · exact Nat.zero_le _
  · exact Nat.zero_le _
theorem rd1_wrap {D : List Int} {S a k : Nat} (hk : k ≤ 62) : IntKind.wrap .i64 (rdT D S a k : Int) = (rdT D S a k : Int) := by
  have h := rdT_lt (D := D) (S := S) (a := a) (n := k)
  have h2 : (2 : Nat) ^ k ≤ 2 ^ 62 := Nat.pow_le_pow_right (by decide) hk
  exact i64_ok (by omega) (by omega)
theorem goodBB_of {D : List Int} {S : Int} (h : goodBB D S = true) : ∃ s : Nat, S = (s : Int) ∧ s ≤ 80000 ∧ D.length = (s + 7) / 8 := by
  simp only [goodBB, Bool.and_eq_true, decide_eq_true_eq] at h
  exact ⟨S.toNat, by omega, by omega, by omega⟩
theorem unF_rng {imp : Bool} {D : List Int} {S : Nat} {l : List SME} {z : Nat} (h : unF imp D S = some (l, z)) : l.length ≤ 256 ∧ ValsOK l ∧ (z ≤ S → l.length = rdT D S 0 8) := by
  have h1 := unR_len _ _ _ _ _ _ h
  have h2 := unR_le _ _ _ _ _ _ h
  have q := rdT_lt (D := D) (S := S) (a := 0) (n := 8)
  refine ⟨by simp at h1; omega, h2.2.2 fun j hj => absurd hj (Nat.not_lt_zero _), fun hz => by have := h2.2.1 hz; simpa using this⟩
noncomputable def apF (D : List Int) (S : Int) (s : SME) : BBE := if (upV D S).2 = true then chunkF ((upV D S).1 ++ [s]) else ([], 0)
theorem getD_one {α : Type} {x d : α} : List.getD [x] 0 d = x := rfl
abbrev CRE := List Int × Int × Int × Unit
def CurOK (code : List Int) (m : Int) (c : CRE) : Prop := c.1 = code ∧ 0 ≤ c.2.1 ∧ c.2.1 ≤ m
def CodeOK (code : List Int) : Prop := code.length ≤ 1048576 ∧ ∀ x ∈ code, 0 ≤ x ∧ x ≤ 255
theorem CurOK.up {code : List Int} {m m' : Int} {c : CRE} (h : CurOK code m c) (hm : m ≤ m') : CurOK code m' c := ⟨h.1, h.2.1, Int.le_trans h.2.2 hm⟩
theorem band255 {x : Int} : ∃ z : Nat, band .u64 x 255 = (z : Int) ∧ z ≤ 255 := by
  have h : (BitVec.ofInt 64 x &&& BitVec.ofInt 64 255).toNat ≤ 255 := by
    rw [BitVec.toNat_and]
    exact Nat.le_trans Nat.and_le_right (by decide)
  refine ⟨_, ?_, h⟩
  show IntKind.wrap .u64 ((BitVec.ofInt 64 x &&& BitVec.ofInt 64 255).toNat : Int) = _
  exact wrapu_nat (by omega)
theorem wrap_range {x : Int} : -9223372036854775808 ≤ IntKind.wrap .i64 x ∧ IntKind.wrap .i64 x ≤ 9223372036854775807 := by
  have e : IntKind.wrap .i64 x = (if (true && decide (x % 18446744073709551616 ≥ 9223372036854775808)) = true then x % 18446744073709551616 - 18446744073709551616 else x % 18446744073709551616) := rfl
  rw [e]
  split <;> rename_i h <;> simp only [Bool.true_and, decide_eq_true_eq, Bool.not_eq_true] at h <;> omega
def PickOK (code : List Int) (m k : Int) (r : Int × CRE) : Prop := 0 ≤ r.1 ∧ r.1 ≤ 65535 ∧ (1 ≤ k → r.1 < k) ∧ CurOK code m r.2
/-- any int64 -/
def InR (x : Int) : Prop := -9223372036854775808 ≤ x ∧ x ≤ 9223372036854775807
def VR (l : List SME) : Prop := ∀ x ∈ l, InR x.2.1
theorem VR.vals {l : List SME} (h : VR l) : ValsOK l := fun i hi => h _ (getD_mem hi)
theorem VR.app {l m : List SME} (h : VR l) (h' : VR m) : VR (l ++ m) := fun x hx => by
  rcases List.mem_append.1 hx with hx | hx
  · exact h x hx
  · exact h' x hx
theorem VR.one {x : SME} (h : InR x.2.1) : VR [x] := fun y hy => by rw [List.mem_singleton.1 hy]; exact h
theorem VR.set {l : List SME} {i : Nat} {x : SME} (h : VR l) (hx : InR x.2.1) : VR (l.set i x) := fun y hy => by
  rcases List.mem_or_eq_of_mem_set hy with hy | rfl
  · exact h y hy
  · exact hx
theorem VR.at {l : List SME} (h : VR l) (i : Nat) : InR (l.getD i default).2.1 := by
  rcases Nat.lt_or_ge i l.length with hi | hi
  · exact h _ (getD_mem hi)
  · rw [List.getD_eq_getElem?_getD, List.getElem?_eq_none hi]; exact ⟨by decide, by decide⟩
theorem wrapR {x : Int} : InR (IntKind.wrap .i64 x) := wrap_range
theorem shrR {x y : Int} (h : InR x) : InR (shr .i64 x y) := by
  show InR (Int.fdiv x (2 ^ (min y.toNat 64)))
  obtain ⟨d, hd⟩ : ∃ d : Nat, (2 : Int) ^ (min y.toNat 64) = (d : Int) ∧ 1 ≤ d := ⟨2 ^ (min y.toNat 64), by simp, Nat.one_le_two_pow⟩
  rw [hd.1, Int.fdiv_eq_ediv_of_nonneg _ (by omega)]
  have h1 : (d : Int) ≠ 0 := by omega
  have h2 := Int.emod_nonneg x h1
  have h3 := Int.emod_lt_of_pos x (show (0 : Int) < d by omega)
  have h4 := Int.mul_ediv_add_emod x d
  obtain ⟨h5, h6⟩ := h
  have pos : (1 : Int) ≤ d := by omega
  generalize x / (d : Int) = q at *
  constructor
  · by_cases hq : q < -9223372036854775808
    · have : (d : Int) * q ≤ 1 * q := Int.mul_le_mul_of_nonpos_right pos (by omega)
      have e : (d : Int) * q = x - x % d := by omega
      have : (d : Int) * q ≤ (d : Int) * (-9223372036854775809) := Int.mul_le_mul_of_nonneg_left (by omega) (by omega)
      omega
    · omega
  · by_cases hq : 9223372036854775807 < q
    · have : 1 * q ≤ (d : Int) * q := Int.mul_le_mul_of_nonneg_right pos (by omega)
      omega
    · omega
def stL (s v : Int) (n : Nat) : List SME := (List.range n).map fun (i : Nat) => ((i : Int) * s, (v, ()))
theorem stL_len {s v : Int} {n : Nat} : (stL s v n).length = n := by simp [stL]
theorem stL_get {s v : Int} {n i : Nat} (h : i < n) : (stL s v n).getD i default = ((i : Int) * s, (v, ())) := by
  rw [List.getD_eq_getElem?_getD, stL, List.getElem?_map, List.getElem?_range h]; rfl
theorem stL_succ {s v : Int} {n : Nat} : stL s v (n + 1) = stL s v n ++ [((n : Int) * s, (v, ()))] := by simp [stL, List.range_succ]
theorem stL_size {s v : Int} (h0 : 1 ≤ s) (h1 : s ≤ 64) : (chunkF (stL s v 120)).2 = 358 := by
  have mono : ∀ i j : Nat, i ≤ j → (i : Int) * s ≤ (j : Int) * s := fun i j h => Int.mul_le_mul_of_nonneg_right (by omega) (by omega)
  have top : ∀ i : Nat, i < 120 → 0 ≤ (i : Int) * s ∧ (i : Int) * s ≤ 7680 := fun i hi => by
    have a := mono 0 i (Nat.zero_le _)
    have b := mono i 120 (by omega)
    rw [show ((0 : Nat) : Int) * s = 0 by simp] at a
    have : ((120 : Nat) : Int) * s ≤ 120 * 64 := Int.mul_le_mul_of_nonneg_left h1 (by decide)
    omega
  have stepE : ∀ i : Nat, ((i + 1 : Nat) : Int) * s = (i : Int) * s + s := fun i => by rw [Int.natCast_add, Int.add_mul]; simp
  have hg : samplesB (stL s v 120) = true := by
    rw [samplesB, stL_len, Bool.and_eq_true]
    refine ⟨List.all_eq_true.2 fun i hi => ?_, by decide⟩
    have hi := List.mem_range.1 hi
    have ht := top i hi
    rw [stL_get hi, Bool.and_eq_true, timeB, Bool.and_eq_true, decide_eq_true_eq, decide_eq_true_eq]
    refine ⟨⟨ht.1, Int.le_trans ht.2 (by decide)⟩, ?_⟩
    rw [Bool.not_eq_true', Bool.and_eq_false_iff, decide_eq_false_iff_not, decide_eq_false_iff_not]
    by_cases h : 0 < i
    · right
      rw [stL_get (by omega)]
      have := stepE (i - 1)
      rw [show i - 1 + 1 = i by omega] at this
      show ¬ (i : Int) * s ≤ ((i - 1 : Nat) : Int) * s
      omega
    · left; exact h
  have hnow : ∀ i, 1 ≤ i → i < 120 → nowI (stL s v 120) i = s := fun i h1 h2 => by
    have := stepE (i - 1)
    rw [show i - 1 + 1 = i by omega] at this
    rw [nowI, stL_get h2, stL_get (by omega)]
    show IntKind.wrap .i64 ((i : Int) * s - ((i - 1 : Nat) : Int) * s) = s
    rw [show (i : Int) * s - ((i - 1 : Nat) : Int) * s = s by omega, i64_ok (by omega) (by omega)]
  have hturn : ∀ i, 1 ≤ i → i < 120 → turnI (stL s v 120) i = 0 := fun i h1 h2 => by
    rw [turnI, stL_get h2, stL_get (by omega), turnN, BitVec.xor_self]; rfl
  have rest : ∀ d i b st, i + d = 120 → 2 ≤ i → (packR (stL s v 120) d i b st s).2 = b.2 + 2 * d := by
    intro d
    induction d with
    | zero => intro i b st _ _; rfl
    | succ d ih =>
      intro i b st hi h2
      have hb : bendI (stL s v 120) i s = 0 := by rw [bendI, if_neg (by omega), hnow i (by omega) (by omega), Int.sub_self]; rfl
      rw [packR, if_neg (by omega), hb, hturn i (by omega) (by omega), hnow i (by omega) (by omega), ih (i + 1) _ _ (by omega) (by omega), valB, if_pos rfl]
      simp only [puts_sz, bendB, if_true]
      omega
  have e : chunkF (stL s v 120) = packV (stL s v 120) := by rw [chunkF, hg, stL_len, if_pos (by decide)]
  have hb : bendI (stL s v 120) 1 0 = s := by rw [bendI, if_pos rfl, hnow 1 (by omega) (by omega)]
  have key : ∀ n, n = 118 + 1 + 1 → ∀ b : BBE, b.2 = 8 → (packR (stL s v 120) n 0 b none 0).2 = 358 := by
    rintro n rfl b hb8
    rw [packR, if_pos rfl, packR, if_neg (by decide), Nat.zero_add, hb, hturn 1 (by omega) (by omega), hnow 1 (by omega) (by omega), rest 118 (1 + 1) _ _ (by omega) (by omega), valB, if_pos rfl, bendB, if_neg (by omega), if_pos (by omega)]
    simp only [puts_sz, hb8]
  rw [e, packV, stL_len]
  exact key 120 rfl _ (by rw [puts_sz])
theorem pack_good {l : List SME} (hl : l.length ≤ 120) : goodBB (packV l).1 ((packV l).2 : Int) = true := by
  have g := (packR_gb (l := l) l.length 0 _ none 0 (puts_gb (v := (l.length : Int)) (n := 8) gb0).1).1
  have sz := (packR_ok (l := l) l.length 0 (puts (l.length : Int) 8 ([], 0)) none 0 (puts_ok rfl) (by simp [FrOK, leadN, trailN])).2
  rw [puts_sz] at sz
  rw [← packV] at g sz
  have ok : (packV l).1.length = _ := g.ok
  have hm : 150 * l.length ≤ 18000 := by omega
  rw [goodBB, decide_eq_true (show (0 : Int) ≤ ((packV l).2 : Int) by omega), decide_eq_true (show ((packV l).2 : Int) ≤ 80000 by simp only at sz; omega), decide_eq_true (show (((packV l).1.length : Nat) : Int) = (((packV l).2 : Int) + 7) / 8 by rw [ok]; omega), Int.toNat_natCast]
  rw [tailB, Bool.true_and, Bool.true_and, Bool.true_and, List.all_eq_true]
  intro j _
  rw [g.z _ (by omega)]; rfl
theorem upV_pack {l : List SME} (hg : samplesB l = true) (hv : ValsOK l) (hl : l.length ≤ 120) : upV (packV l).1 ((packV l).2 : Int) = (l, true) := by
  rw [upV, if_pos (pack_good hl), Int.toNat_natCast]
  exact unV_yes ⟨hg, hl, hv, rfl⟩
theorem samples_take {l : List SME} {k : Nat} (h : samplesB l = true) : samplesB (l.take k) = true := by
  simp only [samplesB, Bool.and_eq_true, List.all_eq_true, List.mem_range, decide_eq_true_eq] at h ⊢
  refine ⟨fun i hi => ?_, by rw [List.length_take]; omega⟩
  rw [List.length_take] at hi
  have := h.1 i (by omega)
  rw [take_getD (by omega), take_getD (by omega)]
  exact this
abbrev SRE := List LB × List SME × Unit
abbrev SRU : U := .pair (.sl false LU) (.pair (.sl false SMU) .unit)
abbrev NDE := List MT × Int × Int × Unit
abbrev NDU : U := .pair (.sl false MU) (.pair (.int .i64) (.pair (.int .i64) .unit))
theorem cmpL_rng : ∀ a b : List Int, cmpL a b = -1 ∨ cmpL a b = 0 ∨ cmpL a b = 1
  | [], [] => by simp [cmpL]
  | [], _ :: _ => by simp [cmpL]
  | _ :: _, [] => by simp [cmpL]
  | x :: a, y :: b => by
    have := cmpL_rng a b
    simp only [cmpL]
    split
    · simp
    · split
      · simp
      · exact this
theorem cmpL_swap : ∀ a b : List Int, cmpL b a = -cmpL a b
  | [], [] => by simp [cmpL]
  | [], _ :: _ => by simp [cmpL]
  | _ :: _, [] => by simp [cmpL]
  | x :: a, y :: b => by
    have := cmpL_swap a b
    simp only [cmpL]
    by_cases h1 : x < y
    · rw [if_neg (by omega), if_pos h1, if_pos h1]; rfl
    · by_cases h2 : y < x
      · rw [if_pos h2, if_neg h1, if_pos h2]
      · rw [if_neg h2, if_neg h1, if_neg h1, if_neg h2]; exact this
theorem cmpT_three {a b : ByteArray} : (if slt a b = true then (-1 : Int) else if slt b a = true then 1 else 0) = cmpT a b := by
  have h1 : cmpT a b = -1 ∨ cmpT a b = 0 ∨ cmpT a b = 1 := cmpL_rng (octs a) (octs b)
  have h2 : cmpT b a = -cmpT a b := cmpL_swap (octs a) (octs b)
  rw [slt_cmp, slt_cmp]
  rcases h1 with h | h | h <;> simp [h2, h]
def cmpLs : List LB → List LB → Int
  | x :: a, y :: b => if cmpT x.1 y.1 ≠ 0 then cmpT x.1 y.1 else if cmpT x.2.1 y.2.1 ≠ 0 then cmpT x.2.1 y.2.1 else cmpLs a b
  | [], [] => 0 | [], _ :: _ => -1 | _ :: _, [] => 1
theorem cmpLs_end {a b : List LB} {i : Nat} (h : ¬ (i < a.length ∧ i < b.length)) (ha : i ≤ a.length) (hb : i ≤ b.length) : cmpLs (a.drop i) (b.drop i) = cmpN (a.length : Int) (b.length : Int) := by
  rcases Nat.lt_or_ge i a.length with h1 | h1
  · have h2 : i = b.length := by omega
    have e1 : b.drop i = [] := List.drop_eq_nil_of_le (by omega)
    rw [e1, drop_getD h1, cmpN, if_neg (by omega), if_pos (by omega)]; rfl
  · have e1 : a.drop i = [] := List.drop_eq_nil_of_le h1
    rw [e1]
    rcases Nat.lt_or_ge i b.length with h2 | h2
    · rw [drop_getD h2, cmpN, if_pos (by omega)]; rfl
    · have e2 : b.drop i = [] := List.drop_eq_nil_of_le h2
      rw [e2, cmpN, if_neg (by omega), if_neg (by omega)]; rfl
theorem cmpLs_next {a b : List LB} {i : Nat} (h1 : i < a.length) (h2 : i < b.length) : cmpLs (a.drop i) (b.drop i) = if cmpT (a.getD i default).1 (b.getD i default).1 ≠ 0 then cmpT (a.getD i default).1 (b.getD i default).1 else if cmpT (a.getD i default).2.1 (b.getD i default).2.1 ≠ 0 then cmpT (a.getD i default).2.1 (b.getD i default).2.1 else cmpLs (a.drop (i + 1)) (b.drop (i + 1)) := by
  rw [drop_getD h1, drop_getD h2]; rfl
def nameK : ByteArray := ⟨#[95, 110, 97, 109, 101]⟩
def namedB (l : List LB) : Bool := labelsB l && !seq (valL l nameK) ⟨#[]⟩
def serB (l : List SRE) (i : Nat) : Bool := namedB (l.getD i default).1 && samplesB (l.getD i default).2.1 && decide ((l.getD i default).2.1.length ≠ 0) && (decide (i = 0) || decide (cmpLs (l.getD (i - 1) default).1 (l.getD i default).1 < 0))
def seriesB (l : List SRE) : Bool := decide (l.length ≤ 200) && (List.range l.length).all (serB l)
theorem seriesB_at {l : List SRE} (h : seriesB l = true) {i : Nat} (hi : i < l.length) : labelsB (l.getD i default).1 = true ∧ (l.getD i default).1 ≠ [] ∧ (l.getD i default).1.length ≤ 20 ∧ (l.getD i default).2.1.length ≤ 2000 := by
  simp only [seriesB, Bool.and_eq_true, List.all_eq_true, List.mem_range] at h
  have h1 := h.2 i hi
  simp only [serB, namedB, Bool.and_eq_true] at h1
  have h2 : labelsB (l.getD i default).1 = true := h1.1.1.1.1
  have h3 := h1.1.1.2
  simp only [samplesB, Bool.and_eq_true, decide_eq_true_eq] at h3
  have h4 := h2
  simp only [labelsB, Bool.and_eq_true, decide_eq_true_eq] at h4
  refine ⟨h2, fun e => ?_, h4.1, h3.2⟩
  have h5 := h1.1.1.1.2
  rw [e] at h5
  simp [valL, seq] at h5
def rngB (nd : NDE) (x : SME) : Bool := decide (nd.2.1 ≤ x.1) && decide (x.1 ≤ nd.2.2.1)
def trimOne (needs : List NDE) (s : SRE) : List SME := s.2.1.filter fun x => needs.any fun nd => fitsB nd.1 s.1 && rngB nd x
def trimV (needs : List NDE) (l : List SRE) : List SRE := l.flatMap fun s => if (trimOne needs s).length = 0 then [] else [(s.1, (trimOne needs s, ()))]
theorem trimV_cons {needs : List NDE} {l : List SRE} {i : Nat} (h : i < l.length) (out : List SRE) : out ++ trimV needs (l.drop i) = (if (trimOne needs (l.getD i default)).length = 0 then out else out ++ [((l.getD i default).1, (trimOne needs (l.getD i default), ()))]) ++ trimV needs (l.drop (i + 1)) := by
  rw [drop_getD h, trimV, List.flatMap_cons]
  split
  · simp [trimV]
  · simp [trimV]
def trimF (l : List SRE) (needs : List NDE) : List SRE := if (seriesB l && decide (needs.length ≤ 60) && (List.range needs.length).all fun i => matchersB (needs.getD i default).1) = true then trimV needs l else []
theorem filter_next {α : Type} [Inhabited α] {p : α → Bool} {l : List α} {i : Nat} (h : i < l.length) (out : List α) : out ++ (l.drop i).filter p = (if p (l.getD i default) = true then out ++ [l.getD i default] else out) ++ (l.drop (i + 1)).filter p := by
  rw [drop_getD h, List.filter_cons]
  split
  · simp
  · rfl
abbrev HDE := Int × Int × Int × List SRE × Unit
abbrev HDU : U := .pair (.int .i64) (.pair (.int .i64) (.pair (.int .i64) (.pair (.sl false SRU) .unit)))
abbrev PTE := List LB × Int × Int × Unit
abbrev PTU : U := .pair (.sl false LU) (.pair (.int .i64) (.pair (.int .i64) .unit))
def lx (p q : Int) : Int := if p ≠ 0 then p else q
theorem lx_tr {p q r p' q' r' : Int} (h1 : p < 0 → q < 0 → r < 0) (h2 : p = 0 → r = q) (h3 : q = 0 → r = p) (h4 : p' < 0 → q' < 0 → r' < 0) (hp : lx p p' < 0) (hq : lx q q' < 0) : lx r r' < 0 := by
  unfold lx at *
  by_cases a : p = 0
  · have e := h2 a
    rw [if_neg (by simpa using a)] at hp
    by_cases b : q = 0
    · rw [if_neg (by simpa using b)] at hq
      rw [if_neg (by simpa using (e.trans b))]
      exact h4 hp hq
    · rw [if_pos b] at hq
      rw [if_pos (by rw [e]; exact b), e]; exact hq
  · rw [if_pos a] at hp
    by_cases b : q = 0
    · have e := h3 b
      rw [if_pos (by rw [e]; exact a), e]; exact hp
    · rw [if_pos b] at hq
      have := h1 hp hq
      rw [if_pos (by omega)]; exact this
theorem cmpL_tr : ∀ a b c : List Int, cmpL a b < 0 → cmpL b c < 0 → cmpL a c < 0
  | [], [], _, h, _ => by simp [cmpL] at h
  | _ :: _, [], _, h, _ => by simp [cmpL] at h
  | [], _ :: _, [], _, h => by simp [cmpL] at h
  | _ :: _, _ :: _, [], _, h => by simp [cmpL] at h
  | [], _ :: _, _ :: _, _, _ => by simp [cmpL]
  | x :: a, y :: b, z :: c, h, h' => by
    have ih := cmpL_tr a b c
    simp only [cmpL] at h h' ⊢
    split at h <;> split at h' <;> (try split at h) <;> (try split at h') <;> (try omega) <;> (try (rw [if_pos (by omega)]; omega)) <;> (try (rw [if_neg (by omega), if_neg (by omega)]; exact ih h h'))
theorem cmpL_zero : ∀ a b : List Int, cmpL a b = 0 → a = b
  | [], [], _ => rfl
  | _ :: _, [], h => by simp [cmpL] at h
  | [], _ :: _, h => by simp [cmpL] at h
  | x :: a, y :: b, h => by
    simp only [cmpL] at h
    split at h
    · omega
    · split at h
      · omega
      · rw [cmpL_zero a b h, show x = y by omega]
theorem cmpT_tr {a b c : ByteArray} (h : cmpT a b < 0) (h' : cmpT b c < 0) : cmpT a c < 0 := cmpL_tr _ _ _ h h'
theorem cmpT_eqL {a b c : ByteArray} (h : cmpT a b = 0) : cmpT a c = cmpT b c := by simp only [cmpT]; rw [cmpL_zero _ _ h]
theorem cmpT_eqR {a b c : ByteArray} (h : cmpT b c = 0) : cmpT a c = cmpT a b := by simp only [cmpT]; rw [cmpL_zero _ _ h]
theorem cmpLs_tr : ∀ a b c : List LB, cmpLs a b < 0 → cmpLs b c < 0 → cmpLs a c < 0
  | [], [], _, h, _ => by simp [cmpLs] at h
  | _ :: _, [], _, h, _ => by simp [cmpLs] at h
  | [], _ :: _, [], _, h => by simp [cmpLs] at h
  | _ :: _, _ :: _, [], _, h => by simp [cmpLs] at h
  | [], _ :: _, _ :: _, _, _ => by simp [cmpLs]
  | x :: a, y :: b, z :: c, h, h' =>
    lx_tr (p := cmpT x.1 y.1) (q := cmpT y.1 z.1) (r := cmpT x.1 z.1) (p' := lx (cmpT x.2.1 y.2.1) (cmpLs a b)) (q' := lx (cmpT y.2.1 z.2.1) (cmpLs b c)) (r' := lx (cmpT x.2.1 z.2.1) (cmpLs a c)) cmpT_tr cmpT_eqL cmpT_eqR
      (lx_tr cmpT_tr cmpT_eqL cmpT_eqR (cmpLs_tr a b c)) h h'
theorem lx_neg {p q : Int} : lx (-p) (-q) = -lx p q := by
  unfold lx
  by_cases h : p = 0
  · subst h; rfl
  · rw [if_pos (by omega), if_pos h]
theorem cmpT_swap {a b : ByteArray} : cmpT b a = -cmpT a b := cmpL_swap _ _
theorem cmpLs_swap : ∀ a b : List LB, cmpLs b a = -cmpLs a b
  | [], [] => rfl
  | [], _ :: _ => rfl
  | _ :: _, [] => rfl
  | x :: a, y :: b => by
    have ih := cmpLs_swap a b
    show lx (cmpT y.1 x.1) (lx (cmpT y.2.1 x.2.1) (cmpLs b a)) = -lx (cmpT x.1 y.1) (lx (cmpT x.2.1 y.2.1) (cmpLs a b))
    rw [@cmpT_swap x.1 y.1, @cmpT_swap x.2.1 y.2.1, ih, lx_neg, lx_neg]
def plc {α : Type} (f : α → Int) : List α → Nat
  | [] => 0 | x :: l => if f x < 0 then plc f l + 1 else 0
section
variable {α : Type} [Inhabited α] {f : α → Int}
omit [Inhabited α] in
theorem plc_le : ∀ {l : List α}, plc f l ≤ l.length
  | [] => Nat.le_refl _
  | x :: l => by have := plc_le (l := l); rw [plc]; split <;> simp <;> omega
theorem plc_lt : ∀ {l : List α} {i : Nat}, i < plc f l → f (l.getD i default) < 0
  | [], i, h => absurd h (Nat.not_lt_zero _)
  | x :: l, i, h => by
    rw [plc] at h
    split at h
    · rename_i c
      match i with
      | 0 => exact c
      | i + 1 => exact plc_lt (l := l) (i := i) (by omega)
    · omega
theorem plc_at : ∀ {l : List α}, plc f l < l.length → ¬ f (l.getD (plc f l) default) < 0
  | [], h => absurd h (Nat.not_lt_zero _)
  | x :: l, h => by
    by_cases c : f x < 0
    · have e : plc f (x :: l) = plc f l + 1 := by rw [plc, if_pos c]
      rw [e] at h ⊢
      exact plc_at (l := l) (by simp at h; omega)
    · have e : plc f (x :: l) = 0 := by rw [plc, if_neg c]
      rw [e]; exact c
omit [Inhabited α] in
theorem plc_take : ∀ {l : List α} {a : α}, a ∈ l.take (plc f l) → f a < 0
  | [], a, h => by simp at h
  | x :: l, a, h => by
    rw [plc] at h
    split at h
    · rename_i c
      rw [List.take_succ_cons] at h
      rcases List.mem_cons.1 h with rfl | h
      · exact c
      · exact plc_take h
    · simp at h
/-- whether it is there -/
def fndB (f : α → Int) (l : List α) : Bool := decide (plc f l < l.length) && decide (f (l.getD (plc f l) default) = 0)
def Up (f : α → Int) (l : List α) : Prop := ∀ i j, i < j → j < l.length → f (l.getD j default) < 0 → f (l.getD i default) < 0
theorem up_lt {l : List α} (h : Up f l) {m : Nat} (hm : m < l.length) (c : f (l.getD m default) < 0) : m < plc f l := by
  rcases Nat.lt_or_ge m (plc f l) with h1 | h1
  · exact h1
  · have hp : plc f l < l.length := by omega
    have := plc_at hp
    rcases Nat.lt_or_ge (plc f l) m with h2 | h2
    · exact absurd (h _ _ h2 hm c) this
    · rw [show plc f l = m by omega] at this; exact absurd c this
theorem up_ge {l : List α} {m : Nat} (c : ¬ f (l.getD m default) < 0) : plc f l ≤ m := by
  rcases Nat.lt_or_ge m (plc f l) with h1 | h1
  · exact absurd (plc_lt h1) c
  · exact h1
def insAt (l : List α) (k : Nat) (x : α) : List α := l.take k ++ [x] ++ l.drop k
omit [Inhabited α] in
theorem insAt_len {l : List α} {k : Nat} {x : α} (h : k ≤ l.length) : (insAt l k x).length = l.length + 1 := by
  simp only [insAt, List.length_append, List.length_take, List.length_drop, List.length_cons, List.length_nil]; omega
theorem insAt_get {l : List α} {k : Nat} {x : α} (h : k ≤ l.length) : (insAt l k x).getD k default = x := by
  have e : (l.take k).length = k := by rw [List.length_take]; omega
  rw [insAt, List.append_assoc, List.getD_eq_getElem?_getD, List.getElem?_append_right (by omega), e, Nat.sub_self]; rfl
omit [Inhabited α] in
theorem insAt_mem {l : List α} {k : Nat} {x a : α} (h : a ∈ insAt l k x) : a = x ∨ a ∈ l := by
  simp only [insAt, List.mem_append, List.mem_singleton] at h
  rcases h with (h | h) | h
  · exact .inr (List.mem_of_mem_take h)
  · exact .inl h
  · exact .inr (List.mem_of_mem_drop h)
omit [Inhabited α] in
theorem insAt_map {β : Type} [Inhabited β] {g : α → β} {l : List α} {k : Nat} {x : α} : (insAt l k x).map g = insAt (l.map g) k (g x) := by
  simp [insAt, List.map_take, List.map_drop]
omit [Inhabited α] in
theorem shift_ins {l : List α} {k : Nat} {x z d : α} (h : k ≤ l.length) : (shiftL (l ++ [z]) k d).set k x = insAt l k x := by
  have e : (l.take k).length = k := by rw [List.length_take]; omega
  rw [shiftL, List.take_append_of_le_length h, List.drop_append_of_le_length h, List.dropLast_concat, List.set_append, if_neg (by omega), e, Nat.sub_self, List.set_cons_zero, insAt, List.append_assoc]; rfl
omit [Inhabited α] in
theorem shift_len {l : List α} {k : Nat} {z d : α} (h : k ≤ l.length) : (shiftL (l ++ [z]) k d).length = l.length + 1 := by
  have := congrArg List.length (shift_ins (x := d) (z := z) (d := d) h)
  rwa [List.length_set, insAt_len h] at this
theorem ins_pw {R : α → α → Prop} (tr : ∀ a b c, R a b → R b c → R a c) {l : List α} (h : l.Pairwise R) {x : α} {k : Nat} (hk : k ≤ l.length) (h1 : ∀ a ∈ l.take k, R a x) (h2 : k < l.length → R x (l.getD k default)) : (insAt l k x).Pairwise R := by
  have hd : ∀ b ∈ l.drop k, R x b := by
    intro b hb
    rcases Nat.lt_or_ge k l.length with c | c
    · have p : (l.drop k).Pairwise R := h.sublist (List.drop_sublist _ _)
      rw [drop_getD c] at hb p
      rcases List.mem_cons.1 hb with rfl | hb
      · exact h2 c
      · exact tr _ _ _ (h2 c) ((List.pairwise_cons.1 p).1 b hb)
    · rw [List.drop_eq_nil_of_le c] at hb; cases hb
  have h3 := h
  rw [← List.take_append_drop k l] at h3
  obtain ⟨p1, p2, p3⟩ := List.pairwise_append.1 h3
  rw [insAt, List.append_assoc]
  refine List.pairwise_append.2 ⟨p1, List.pairwise_cons.2 ⟨hd, p2⟩, fun a ha b hb => ?_⟩
  rcases List.mem_cons.1 hb with rfl | hb
  · exact h1 a ha
  · exact p3 a ha b hb
theorem pw_at {R : α → α → Prop} {l : List α} (h : l.Pairwise R) {i j : Nat} (hij : i < j) (hj : j < l.length) : R (l.getD i default) (l.getD j default) := by
  have := List.pairwise_iff_getElem.1 h i j (by omega) hj hij
  rwa [List.getD_eq_getElem?_getD, List.getD_eq_getElem?_getD, List.getElem?_eq_getElem (by omega), List.getElem?_eq_getElem hj]
theorem adj_pw {R : α → α → Prop} (tr : ∀ a b c, R a b → R b c → R a c) : ∀ {l : List α}, (∀ i, i + 1 < l.length → R (l.getD i default) (l.getD (i + 1) default)) → l.Pairwise R
  | [], _ => .nil
  | [_], _ => List.pairwise_singleton _ _
  | x :: y :: l, h => by
    have ih : (y :: l).Pairwise R := adj_pw tr fun i hi => h (i + 1) (by simp at hi ⊢; omega)
    refine List.pairwise_cons.2 ⟨fun b hb => ?_, ih⟩
    have h0 : R x y := h 0 (by simp)
    rcases List.mem_cons.1 hb with rfl | hb
    · exact h0
    · exact tr _ _ _ h0 ((List.pairwise_cons.1 ih).1 b hb)
end
def byL (t : List LB) (s : SRE) : Int := cmpLs s.1 t
def byT (t : Int) (x : SME) : Int := cmpN x.1 t
def putS (w lim nw : Int) (l : List SRE) (k : Nat) (p : PTE) : Int × HDE :=
  if fndB (byT p.2.1) (l.getD k default).2.1 = true then (if ((l.getD k default).2.1.getD (plc (byT p.2.1) (l.getD k default).2.1) default).2.1 = p.2.2.1 then 6 else 5, (w, lim, nw, l, ()))
  else if 2000 ≤ (l.getD k default).2.1.length then (7, (w, lim, nw, l, ()))
  else (0, (w, lim, max nw p.2.1, l.set k ((l.getD k default).1, insAt (l.getD k default).2.1 (plc (byT p.2.1) (l.getD k default).2.1) (p.2.1, p.2.2.1, ()), (l.getD k default).2.2), ()))
def putF (w lim nw : Int) (l : List SRE) (p : PTE) : Int × HDE :=
  if namedB p.1 = false then (1, (w, lim, nw, l, ())) else if timeB p.2.1 = false then (2, (w, lim, nw, l, ())) else if p.2.1 < IntKind.wrap .i64 (nw - w) then (3, (w, lim, nw, l, ()))
  else if fndB (byL p.1) l = true then putS w lim nw l (plc (byL p.1) l) p
  else if lim ≤ (l.length : Int) then (4, (w, lim, nw, l, ()))
  else putS w lim nw (insAt l (plc (byL p.1) l) (p.1, [], ())) (plc (byL p.1) l) p
def SerOK (s : SRE) : Prop := s.2.1.Pairwise (fun a b => a.1 < b.1) ∧ s.2.1.length ≤ 2000 ∧ s.1.length ≤ 20 ∧ Sm 1048576 (.sl false LU) s.1
def HdOK (lim : Int) (l : List SRE) : Prop := lim ≤ 200 ∧ (l.length : Int) ≤ lim ∧ l.Pairwise (fun a b => cmpLs a.1 b.1 < 0) ∧ ∀ s ∈ l, SerOK s
theorem cmpN_lt {a b : Int} : cmpN a b < 0 ↔ a < b := by unfold cmpN; split <;> (try split) <;> omega
theorem cmpN_zero {a b : Int} : cmpN a b = 0 ↔ a = b := by unfold cmpN; split <;> (try split) <;> omega
theorem byL_up {t : List LB} {l : List SRE} (h : l.Pairwise (fun a b => cmpLs a.1 b.1 < 0)) : Up (byL t) l := fun i j hij hj c => cmpLs_tr _ _ _ (pw_at (R := fun a b : SRE => cmpLs a.1 b.1 < 0) h hij hj) c
theorem byT_up {t : Int} {l : List SME} (h : l.Pairwise (fun a b => a.1 < b.1)) : Up (byT t) l := fun i j hij hj c => cmpN_lt.2 (by have := pw_at (R := fun a b : SME => a.1 < b.1) h hij hj; have := cmpN_lt.1 c; omega)
theorem getD_of_mem {α : Type} [Inhabited α] {l : List α} {s : α} (h : s ∈ l) : ∃ i, i < l.length ∧ s = l.getD i default := by
  obtain ⟨i, hi, rfl⟩ := List.getElem_of_mem h
  exact ⟨i, hi, by rw [List.getD_eq_getElem?_getD, List.getElem?_eq_getElem hi]; rfl⟩
theorem ins_time {l : List SME} {t v : Int} (h : l.Pairwise (fun a b => a.1 < b.1)) (c : fndB (byT t) l = false) : (insAt l (plc (byT t) l) (t, v, ())).Pairwise (fun a b => a.1 < b.1) := by
  refine ins_pw (R := fun a b : SME => a.1 < b.1) (fun a b c h1 h2 => by omega) h plc_le (fun a ha => cmpN_lt.1 (plc_take (f := byT t) ha)) fun hk => ?_
  have h1 := plc_at hk
  rw [byT, cmpN_lt] at h1
  simp only [fndB, decide_eq_true hk, Bool.true_and, decide_eq_false_iff_not, byT, cmpN_zero] at c
  show t < _
  omega
theorem ins_lab {l : List SRE} {t : List LB} {y : List SME × Unit} (h : l.Pairwise (fun a b => cmpLs a.1 b.1 < 0)) (c : fndB (byL t) l = false) : (insAt l (plc (byL t) l) (t, y)).Pairwise (fun a b => cmpLs a.1 b.1 < 0) := by
  refine ins_pw (R := fun a b : SRE => cmpLs a.1 b.1 < 0) (fun a b c h1 h2 => cmpLs_tr _ _ _ h1 h2) h plc_le (fun a ha => plc_take (f := byL t) ha) fun hk => ?_
  have h1 := plc_at hk
  simp only [fndB, decide_eq_true hk, Bool.true_and, decide_eq_false_iff_not] at c
  have h2 := cmpLs_swap (l.getD (plc (byL t) l) default).1 t
  simp only [byL] at h1 c h2 ⊢
  show cmpLs t _ < 0
  omega
theorem putS_ok {w lim nw : Int} {l : List SRE} {k : Nat} {p : PTE} (h : HdOK lim l) (hk : k < l.length) : (putS w lim nw l k p).2.1 = w ∧ (putS w lim nw l k p).2.2.1 = lim ∧ HdOK lim (putS w lim nw l k p).2.2.2.2.1 := by
  unfold putS
  split
  · exact ⟨rfl, rfl, h⟩
  · split
    · exact ⟨rfl, rfl, h⟩
    · rename_i c1 c2
      refine ⟨rfl, rfl, ?_⟩
      obtain ⟨a1, a2, a3, a4⟩ := h
      have hs := a4 _ (getD_mem hk (d := default))
      refine ⟨a1, by simpa using a2, ?_, ?_⟩
      · have e : (l.set k ((l.getD k default).1, insAt (l.getD k default).2.1 (plc (byT p.2.1) (l.getD k default).2.1) (p.2.1, p.2.2.1, ()), (l.getD k default).2.2)).map (·.1) = l.map (·.1) := by
          rw [List.map_set]
          refine List.ext_getElem (by simp) fun i h1 h2 => ?_
          rw [List.getElem_set]
          split
          · rename_i e; subst e
            rw [List.getElem_map, List.getD_eq_getElem?_getD, List.getElem?_eq_getElem hk]; rfl
          · rfl
        have a5 : (l.map (·.1)).Pairwise (fun a b => cmpLs a b < 0) := List.pairwise_map.2 a3
        show List.Pairwise _ _
        rw [← e] at a5
        exact List.pairwise_map.1 a5
      · intro s hs'
        rcases List.mem_or_eq_of_mem_set hs' with h1 | rfl
        · exact a4 s h1
        · exact ⟨ins_time hs.1 (by simpa using c1), by show (insAt _ _ _).length ≤ 2000; rw [insAt_len plc_le]; omega, hs.2.2.1, hs.2.2.2⟩
theorem named_le {l : List LB} (h : namedB l = true) : l.length ≤ 20 ∧ l ≠ [] := by
  simp only [namedB, labelsB, Bool.and_eq_true, decide_eq_true_eq] at h
  refine ⟨h.1.1, fun e => ?_⟩
  have h5 := h.2
  rw [e] at h5
  simp [valL, seq] at h5
theorem insSer_ok {lim : Int} {l : List SRE} {t : List LB} (h : HdOK lim l) (hn : namedB t = true) (ht : Sm 1048576 (.sl false LU) t) (c : fndB (byL t) l = false) (hl : ¬ lim ≤ (l.length : Int)) : HdOK lim (insAt l (plc (byL t) l) (t, [], ())) := by
  obtain ⟨a1, a2, a3, a4⟩ := h
  refine ⟨a1, by rw [insAt_len plc_le]; omega, ins_lab a3 c, fun s hs => ?_⟩
  rcases insAt_mem hs with rfl | hs
  · exact ⟨.nil, Nat.zero_le _, (named_le hn).1, ht⟩
  · exact a4 s hs
theorem putF_ok {w lim nw : Int} {l : List SRE} {p : PTE} (h : HdOK lim l) (ht : Sm 1048576 (.sl false LU) p.1) : (putF w lim nw l p).2.1 = w ∧ (putF w lim nw l p).2.2.1 = lim ∧ HdOK lim (putF w lim nw l p).2.2.2.2.1 := by
  unfold putF
  split
  · exact ⟨rfl, rfl, h⟩
  split
  · exact ⟨rfl, rfl, h⟩
  split
  · exact ⟨rfl, rfl, h⟩
  split
  · rename_i c
    simp only [fndB, Bool.and_eq_true, decide_eq_true_eq] at c
    exact putS_ok h c.1
  split
  · exact ⟨rfl, rfl, h⟩
  · rename_i c1 _ _ c2 c3
    exact putS_ok (insSer_ok h (by simpa using c1) ht (by simpa using c2) c3) (by rw [insAt_len plc_le]; have := plc_le (f := byL p.1) (l := l); omega)
def putN (w lim : Int) : Int → List SRE → List Int → List PTE → HDE × List Int
  | nw, l, out, [] => ((w, lim, nw, l, ()), out)
  | nw, l, out, p :: r => putN w lim (putF w lim nw l p).2.2.2.1 (putF w lim nw l p).2.2.2.2.1 (out ++ [(putF w lim nw l p).1]) r
theorem putN_ok {w lim : Int} : ∀ {r : List PTE} {nw : Int} {l : List SRE} {out : List Int}, HdOK lim l → (∀ p ∈ r, Sm 1048576 (.sl false LU) p.1) → (putN w lim nw l out r).2.length = out.length + r.length ∧ HdOK lim (putN w lim nw l out r).1.2.2.2.1
  | [], _, _, _, h, _ => ⟨rfl, h⟩
  | p :: r, nw, l, out, h, hp => by
    have h1 := putF_ok (w := w) (nw := nw) h (hp p (List.mem_cons_self ..))
    have ih := putN_ok (w := w) (r := r) (nw := (putF w lim nw l p).2.2.2.1) (out := out ++ [(putF w lim nw l p).1]) h1.2.2 fun q hq => hp q (List.mem_cons_of_mem _ hq)
    rw [putN]
    refine ⟨?_, ih.2⟩
    rw [ih.1]; simp; omega
def lastB (nw : Int) (s : SRE) : Bool := !decide (nw < (s.2.1.getD (s.2.1.length - 1) default).1)
def headB (h : HDE) : Bool := timeB h.1 && decide (0 ≤ h.2.1) && decide (h.2.1 ≤ 200) && seriesB h.2.2.2.1 && !decide (h.2.1 < (h.2.2.2.1.length : Int)) && (decide (h.2.2.1 = -1) || timeB h.2.2.1) && (List.range h.2.2.2.1.length).all (fun i => lastB h.2.2.1 (h.2.2.2.1.getD i default))
def putsV (h : HDE) (ps : List PTE) : HDE × List Int := if headB h = true ∧ ps.length ≤ 500 then putN h.1 h.2.1 h.2.2.1 h.2.2.2.1 [] ps else (default, [])
theorem series_ok {l : List SRE} (h : seriesB l = true) (hb : Sm 1048576 (.sl false SRU) l) : l.Pairwise (fun a b => cmpLs a.1 b.1 < 0) ∧ ∀ s ∈ l, SerOK s := by
  constructor
  · refine adj_pw (R := fun a b : SRE => cmpLs a.1 b.1 < 0) (fun a b c h1 h2 => cmpLs_tr _ _ _ h1 h2) fun i hi => ?_
    simp only [seriesB, Bool.and_eq_true, List.all_eq_true, List.mem_range] at h
    have h1 := h.2 (i + 1) hi
    simp only [serB, Bool.and_eq_true, Bool.or_eq_true, decide_eq_true_eq] at h1
    exact h1.2.resolve_left (by omega)
  · intro s hs
    have m := hb.2 s hs
    obtain ⟨i, hi, rfl⟩ := getD_of_mem hs
    have h2 := seriesB_at h hi
    refine ⟨?_, h2.2.2.2, h2.2.2.1, m.1⟩
    refine adj_pw (R := fun a b : SME => a.1 < b.1) (fun a b c h1 h2 => Int.lt_trans h1 h2) fun j hj => ?_
    simp only [seriesB, Bool.and_eq_true, List.all_eq_true, List.mem_range] at h
    have h1 := h.2 i hi
    simp only [serB, Bool.and_eq_true] at h1
    have h3 := h1.1.1.2
    simp only [samplesB, Bool.and_eq_true, List.all_eq_true, List.mem_range, Bool.not_eq_true', Bool.and_eq_false_iff, decide_eq_false_iff_not] at h3
    have h4 := (h3.1 (j + 1) hj).2
    have h5 := h4.resolve_left (by omega)
    simp only [Nat.add_sub_cancel] at h5
    omega
theorem headB_ser {h : HDE} (c : headB h = true) : seriesB h.2.2.2.1 = true := by
  simp only [headB, Bool.and_eq_true] at c
  exact c.1.1.1.2
theorem head_ok {h : HDE} (c : headB h = true) (hb : Sm 1048576 (.sl false SRU) h.2.2.2.1) : HdOK h.2.1 h.2.2.2.1 := by
  simp only [headB, Bool.and_eq_true, decide_eq_true_eq, Bool.not_eq_true', decide_eq_false_iff_not] at c
  obtain ⟨⟨⟨⟨⟨⟨_, _⟩, c3⟩, c4⟩, c5⟩, _⟩, _⟩ := c
  have := series_ok c4 hb
  exact ⟨c3, by omega, this.1, this.2⟩
def cutV (t : Int) (l : List SME) : List SME := l.filter fun x => decide (t ≤ x.1) && decide (x.1 ≤ t)
theorem cutV_gt {t : Int} {l : List SME} (h : ∀ x ∈ l, t < x.1) : cutV t l = [] := by
  rw [cutV, List.filter_eq_nil_iff]
  intro x hx
  have := h x hx
  simp only [Bool.and_eq_true, decide_eq_true_eq]; omega
theorem cutV_val {t : Int} : ∀ {l : List SME}, l.Pairwise (fun a b => a.1 < b.1) → cutV t l = if fndB (byT t) l = true then [l.getD (plc (byT t) l) default] else []
  | [], _ => rfl
  | x :: l, h => by
    obtain ⟨h1, h2⟩ := List.pairwise_cons.1 h
    have ih := cutV_val (t := t) h2
    by_cases c : x.1 < t
    · have e : plc (byT t) (x :: l) = plc (byT t) l + 1 := by rw [plc, if_pos (show byT t x < 0 from cmpN_lt.2 c)]
      have e2 : fndB (byT t) (x :: l) = fndB (byT t) l := by
        rw [fndB, fndB, e, List.getD_cons_succ]
        congr 1
        simp
      have e3 : cutV t (x :: l) = cutV t l := by rw [cutV, List.filter_cons, if_neg (by simp only [Bool.and_eq_true, decide_eq_true_eq]; omega)]; rfl
      rw [e2, e3, e, ih]; rfl
    · have e : plc (byT t) (x :: l) = 0 := by rw [plc, if_neg (by rw [byT, cmpN_lt]; exact c)]
      have e3 : cutV t l = [] := cutV_gt fun y hy => by have := h1 y hy; omega
      have e2 : fndB (byT t) (x :: l) = decide (x.1 = t) := by
        rw [fndB, e, List.getD_cons_zero, decide_eq_true (show 0 < (x :: l).length by simp), Bool.true_and]
        exact decide_eq_decide.2 cmpN_zero
      rw [e2, e, List.getD_cons_zero]
      by_cases c2 : x.1 = t
      · rw [decide_eq_true c2, if_pos rfl, cutV, List.filter_cons, if_pos (by simp only [Bool.and_eq_true, decide_eq_true_eq]; omega)]
        show x :: cutV t l = _
        rw [e3]
      · rw [decide_eq_false c2, if_neg (by simp)]
        exact cutV_gt fun y hy => by
          rcases List.mem_cons.1 hy with rfl | hy
          · omega
          · have := h1 y hy; omega
theorem half {a b : Nat} (h : a + b ≤ 4611686018427387904) : IntKind.wrap .i64 (shr .u64 (IntKind.wrap .u64 (IntKind.wrap .i64 ((a : Int) + (b : Int)))) (1 : Int)) = (((a + b) / 2 : Nat) : Int) := by
  have e1 : IntKind.wrap .i64 ((a : Int) + (b : Int)) = ((a + b : Nat) : Int) := by rw [i64_ok] <;> omega
  have e2 : IntKind.wrap .u64 ((a + b : Nat) : Int) = ((a + b : Nat) : Int) := wrapu_nat (by omega)
  have e3 : shr .u64 ((a + b : Nat) : Int) (1 : Int) = (((a + b) / 2 ^ 1 : Nat) : Int) := shr_nat (k := 1) (by decide)
  rw [e1, e2, e3, i64_ok] <;> omega
theorem laws_szLabel.ev (x : (ByteArray) × ((ByteArray) × (Unit))) (left : Int) (h0 : 0 ≤ left) (h1 : left ≤ 1048576) (hw : Wf (.pair .str (.pair .str .unit)) x) : Sz (fun n => laws_szLabel n x left) left (Sm 1048576 (.pair .str (.pair .str .unit)) x) := by
  refine Sz.step ?_
  simp only [laws_szLabel.step]
  have b1 : ByteArray.size x.1 ≤ 9223372036854775807 := by have := hw.1; simp only [Wf, maxLen] at this; omega
  have e1 : IntKind.wrap .i64 (left - ((ByteArray.size x.1) : Int)) = left - ((ByteArray.size x.1) : Int) := i64_ok (by omega) (by omega)
  simp only [e1]
  by_cases c1 : (left - ((ByteArray.size x.1) : Int)) < 0
  · exact Sz.yes (by simpa using c1) (Sz.neg h0)
  refine Sz.no (by simpa using c1) ?_
  have b2 : ByteArray.size x.2.1 ≤ 9223372036854775807 := by have := hw.2.1; simp only [Wf, maxLen] at this; omega
  have e2 : IntKind.wrap .i64 ((left - ((ByteArray.size x.1) : Int)) - ((ByteArray.size x.2.1) : Int)) = (left - ((ByteArray.size x.1) : Int)) - ((ByteArray.size x.2.1) : Int) := i64_ok (by omega) (by omega)
  simp only [e2]
  by_cases c2 : ((left - ((ByteArray.size x.1) : Int)) - ((ByteArray.size x.2.1) : Int)) < 0
  · exact Sz.yes (by simpa using c2) (Sz.neg h0)
  refine Sz.no (by simpa using c2) ?_
  exact ⟨((left - ((ByteArray.size x.1) : Int)) - ((ByteArray.size x.2.1) : Int)), Ev.pure, by omega, fun _ => ⟨(show ByteArray.size x.1 ≤ 1048576 by omega), ⟨(show ByteArray.size x.2.1 ≤ 1048576 by omega), trivial⟩⟩⟩
theorem laws_szLabelS.loop (l : List ((ByteArray) × ((ByteArray) × (Unit)))) (hl : l.length ≤ 1048576) (hw : ∀ x ∈ l, Wf (.pair .str (.pair .str .unit)) x) : ∀ d i (left : Int), i + d = l.length → 0 ≤ left → left ≤ 1048576 → Sz (fun n => goRec laws_szLabelS.step n (.p17 l left (i : Int))) left (∀ j, i ≤ j → j < l.length → Sm 1048576 (.pair .str (.pair .str .unit)) (l.getD j default)) := by
  intro d
  induction d with
  | zero =>
    intro i left h h0 h1
    rw [Nat.add_zero] at h
    subst h
    refine Sz.step ?_
    simp only [laws_szLabelS.step]
    exact Sz.no lt_no ⟨left, Ev.pure, Int.le_refl _, fun _ j h1 h2 => by omega⟩
  | succ d ih =>
    intro i left h h0 h1
    have hi : i < l.length := by omega
    refine Sz.step ?_
    simp only [laws_szLabelS.step, toNat_cast]
    refine Sz.yes (lt_yes hi) (Sz.yes (inB_nat hi) ?_)
    obtain ⟨r1, k1, m1, q1⟩ := laws_szLabel.ev (l.getD i default) left h0 h1 (hw _ (getD_mem hi))
    refine Sz.bind k1 ?_
    by_cases c1 : r1 < 0
    · exact Sz.yes (by simpa using c1) (Sz.neg h0)
    refine Sz.no (by simpa using c1) ?_
    rw [i64_nat (by omega)]
    have := ih (i + 1) r1 (by omega) (by omega) (by omega)
    refine (this.le m1).imp fun hq j h2 h3 => ?_
    rcases Nat.eq_or_lt_of_le h2 with rfl | h2
    · exact q1 (by omega)
    · exact hq j h2 h3
theorem laws_szLabelS.ev (l : List ((ByteArray) × ((ByteArray) × (Unit)))) (left : Int) (h0 : 0 ≤ left) (h1 : left ≤ 1048576) (hw : Wf (.sl false (.pair .str (.pair .str .unit))) l) : Sz (fun n => laws_szLabelS n l left) left (Sm 1048576 (.sl false (.pair .str (.pair .str .unit))) l) := by
  refine Sz.step ?_
  simp only [laws_szLabelS.step]
  have b1 : l.length ≤ 9223372036854775807 := by have := hw.1; simp only [maxLen] at this; omega
  have e1 : IntKind.wrap .i64 (left - ((List.length l) : Int)) = left - ((List.length l) : Int) := i64_ok (by omega) (by omega)
  simp only [e1]
  by_cases c1 : left - ((List.length l) : Int) < 0
  · exact Sz.yes (by simpa using c1) (Sz.neg h0)
  refine Sz.no (by simpa using c1) ?_
  refine ((laws_szLabelS.loop l (by omega) hw.2 l.length 0 _ (by omega) (by omega) (by omega)).le (by omega)).imp fun hq => ⟨by omega, fun x hx => ?_⟩
  obtain ⟨j, hj, rfl⟩ := List.getElem_of_mem hx
  have := hq j (by omega) hj
  rwa [List.getD_eq_getElem?_getD, List.getElem?_eq_getElem hj] at this
theorem laws_szSampleS.ev (l : List ((Int) × ((Int) × (Unit)))) (left : Int) (h0 : 0 ≤ left) (h1 : left ≤ 1048576) (hw : Wf (.sl false (.pair (.int .i64) (.pair (.int .i64) .unit))) l) : Sz (fun n => laws_szSampleS n l left) left (Sm 1048576 (.sl false (.pair (.int .i64) (.pair (.int .i64) .unit))) l) := by
  refine Sz.step ?_
  simp only [laws_szSampleS.step]
  have b1 : l.length ≤ 9223372036854775807 := by have := hw.1; simp only [maxLen] at this; omega
  have e1 : IntKind.wrap .i64 (left - ((List.length l) : Int)) = left - ((List.length l) : Int) := i64_ok (by omega) (by omega)
  simp only [e1]
  by_cases c1 : left - ((List.length l) : Int) < 0
  · exact Sz.yes (by simpa using c1) (Sz.neg h0)
  refine Sz.no (by simpa using c1) ?_
  exact ⟨_, Ev.pure, by omega, fun _ => ⟨by omega, fun x _ => ⟨trivial, ⟨trivial, trivial⟩⟩⟩⟩
theorem laws_szSeries.ev (x : (List ((ByteArray) × ((ByteArray) × (Unit)))) × ((List ((Int) × ((Int) × (Unit)))) × (Unit))) (left : Int) (h0 : 0 ≤ left) (h1 : left ≤ 1048576) (hw : Wf (.pair (.sl false (.pair .str (.pair .str .unit))) (.pair (.sl false (.pair (.int .i64) (.pair (.int .i64) .unit))) .unit)) x) : Sz (fun n => laws_szSeries n x left) left (Sm 1048576 (.pair (.sl false (.pair .str (.pair .str .unit))) (.pair (.sl false (.pair (.int .i64) (.pair (.int .i64) .unit))) .unit)) x) := by
  refine Sz.step ?_
  simp only [laws_szSeries.step]
  obtain ⟨r1, k1, m1, q1⟩ := laws_szLabelS.ev x.1 left (by omega) (by omega) hw.1
  refine Sz.bind k1 ?_
  by_cases c1 : r1 < 0
  · exact Sz.yes (by simpa using c1) (Sz.neg h0)
  refine Sz.no (by simpa using c1) ?_
  obtain ⟨r2, k2, m2, q2⟩ := laws_szSampleS.ev x.2.1 r1 (by omega) (by omega) hw.2.1
  refine Sz.bind k2 ?_
  by_cases c2 : r2 < 0
  · exact Sz.yes (by simpa using c2) (Sz.neg h0)
  refine Sz.no (by simpa using c2) ?_
  exact ⟨r2, Ev.pure, by omega, fun _ => ⟨(q1 (by omega)), ⟨(q2 (by omega)), trivial⟩⟩⟩
theorem laws_szSeriesS.loop (l : List ((List ((ByteArray) × ((ByteArray) × (Unit)))) × ((List ((Int) × ((Int) × (Unit)))) × (Unit)))) (hl : l.length ≤ 1048576) (hw : ∀ x ∈ l, Wf (.pair (.sl false (.pair .str (.pair .str .unit))) (.pair (.sl false (.pair (.int .i64) (.pair (.int .i64) .unit))) .unit)) x) : ∀ d i (left : Int), i + d = l.length → 0 ≤ left → left ≤ 1048576 → Sz (fun n => goRec laws_szSeriesS.step n (.p17 l left (i : Int))) left (∀ j, i ≤ j → j < l.length → Sm 1048576 (.pair (.sl false (.pair .str (.pair .str .unit))) (.pair (.sl false (.pair (.int .i64) (.pair (.int .i64) .unit))) .unit)) (l.getD j default)) := by
  intro d
  induction d with
  | zero =>
    intro i left h h0 h1
    rw [Nat.add_zero] at h
    subst h
    refine Sz.step ?_
    simp only [laws_szSeriesS.step]
    exact Sz.no lt_no ⟨left, Ev.pure, Int.le_refl _, fun _ j h1 h2 => by omega⟩
  | succ d ih =>
    intro i left h h0 h1
    have hi : i < l.length := by omega
    refine Sz.step ?_
    simp only [laws_szSeriesS.step, toNat_cast]
    refine Sz.yes (lt_yes hi) (Sz.yes (inB_nat hi) ?_)
    obtain ⟨r1, k1, m1, q1⟩ := laws_szSeries.ev (l.getD i default) left h0 h1 (hw _ (getD_mem hi))
    refine Sz.bind k1 ?_
    by_cases c1 : r1 < 0
    · exact Sz.yes (by simpa using c1) (Sz.neg h0)
    refine Sz.no (by simpa using c1) ?_
    rw [i64_nat (by omega)]
    have := ih (i + 1) r1 (by omega) (by omega) (by omega)
    refine (this.le m1).imp fun hq j h2 h3 => ?_
    rcases Nat.eq_or_lt_of_le h2 with rfl | h2
    · exact q1 (by omega)
    · exact hq j h2 h3
theorem laws_szSeriesS.ev (l : List ((List ((ByteArray) × ((ByteArray) × (Unit)))) × ((List ((Int) × ((Int) × (Unit)))) × (Unit)))) (left : Int) (h0 : 0 ≤ left) (h1 : left ≤ 1048576) (hw : Wf (.sl false (.pair (.sl false (.pair .str (.pair .str .unit))) (.pair (.sl false (.pair (.int .i64) (.pair (.int .i64) .unit))) .unit))) l) : Sz (fun n => laws_szSeriesS n l left) left (Sm 1048576 (.sl false (.pair (.sl false (.pair .str (.pair .str .unit))) (.pair (.sl false (.pair (.int .i64) (.pair (.int .i64) .unit))) .unit))) l) := by
  refine Sz.step ?_
  simp only [laws_szSeriesS.step]
  have b1 : l.length ≤ 9223372036854775807 := by have := hw.1; simp only [maxLen] at this; omega
  have e1 : IntKind.wrap .i64 (left - ((List.length l) : Int)) = left - ((List.length l) : Int) := i64_ok (by omega) (by omega)
  simp only [e1]
  by_cases c1 : left - ((List.length l) : Int) < 0
  · exact Sz.yes (by simpa using c1) (Sz.neg h0)
  refine Sz.no (by simpa using c1) ?_
  refine ((laws_szSeriesS.loop l (by omega) hw.2 l.length 0 _ (by omega) (by omega) (by omega)).le (by omega)).imp fun hq => ⟨by omega, fun x hx => ?_⟩
  obtain ⟨j, hj, rfl⟩ := List.getElem_of_mem hx
  have := hq j (by omega) hj
  rwa [List.getD_eq_getElem?_getD, List.getElem?_eq_getElem hj] at this
theorem laws_szHead.ev (x : (Int) × ((Int) × ((Int) × ((List ((List ((ByteArray) × ((ByteArray) × (Unit)))) × ((List ((Int) × ((Int) × (Unit)))) × (Unit)))) × (Unit))))) (left : Int) (h0 : 0 ≤ left) (h1 : left ≤ 1048576) (hw : Wf (.pair (.int .i64) (.pair (.int .i64) (.pair (.int .i64) (.pair (.sl false (.pair (.sl false (.pair .str (.pair .str .unit))) (.pair (.sl false (.pair (.int .i64) (.pair (.int .i64) .unit))) .unit))) .unit)))) x) : Sz (fun n => laws_szHead n x left) left (Sm 1048576 (.pair (.int .i64) (.pair (.int .i64) (.pair (.int .i64) (.pair (.sl false (.pair (.sl false (.pair .str (.pair .str .unit))) (.pair (.sl false (.pair (.int .i64) (.pair (.int .i64) .unit))) .unit))) .unit)))) x) := by
  refine Sz.step ?_
  simp only [laws_szHead.step]
  obtain ⟨r1, k1, m1, q1⟩ := laws_szSeriesS.ev x.2.2.2.1 left (by omega) (by omega) hw.2.2.2.1
  refine Sz.bind k1 ?_
  by_cases c1 : r1 < 0
  · exact Sz.yes (by simpa using c1) (Sz.neg h0)
  refine Sz.no (by simpa using c1) ?_
  exact ⟨r1, Ev.pure, by omega, fun _ => ⟨trivial, ⟨trivial, ⟨trivial, ⟨(q1 (by omega)), trivial⟩⟩⟩⟩⟩
theorem laws_szPut.ev (x : (List ((ByteArray) × ((ByteArray) × (Unit)))) × ((Int) × ((Int) × (Unit)))) (left : Int) (h0 : 0 ≤ left) (h1 : left ≤ 1048576) (hw : Wf (.pair (.sl false (.pair .str (.pair .str .unit))) (.pair (.int .i64) (.pair (.int .i64) .unit))) x) : Sz (fun n => laws_szPut n x left) left (Sm 1048576 (.pair (.sl false (.pair .str (.pair .str .unit))) (.pair (.int .i64) (.pair (.int .i64) .unit))) x) := by
  refine Sz.step ?_
  simp only [laws_szPut.step]
  obtain ⟨r1, k1, m1, q1⟩ := laws_szLabelS.ev x.1 left (by omega) (by omega) hw.1
  refine Sz.bind k1 ?_
  by_cases c1 : r1 < 0
  · exact Sz.yes (by simpa using c1) (Sz.neg h0)
  refine Sz.no (by simpa using c1) ?_
  exact ⟨r1, Ev.pure, by omega, fun _ => ⟨(q1 (by omega)), ⟨trivial, ⟨trivial, trivial⟩⟩⟩⟩
theorem laws_szPutS.loop (l : List ((List ((ByteArray) × ((ByteArray) × (Unit)))) × ((Int) × ((Int) × (Unit))))) (hl : l.length ≤ 1048576) (hw : ∀ x ∈ l, Wf (.pair (.sl false (.pair .str (.pair .str .unit))) (.pair (.int .i64) (.pair (.int .i64) .unit))) x) : ∀ d i (left : Int), i + d = l.length → 0 ≤ left → left ≤ 1048576 → Sz (fun n => goRec laws_szPutS.step n (.p17 l left (i : Int))) left (∀ j, i ≤ j → j < l.length → Sm 1048576 (.pair (.sl false (.pair .str (.pair .str .unit))) (.pair (.int .i64) (.pair (.int .i64) .unit))) (l.getD j default)) := by
  intro d
  induction d with
  | zero =>
    intro i left h h0 h1
    rw [Nat.add_zero] at h
    subst h
    refine Sz.step ?_
    simp only [laws_szPutS.step]
    exact Sz.no lt_no ⟨left, Ev.pure, Int.le_refl _, fun _ j h1 h2 => by omega⟩
  | succ d ih =>
    intro i left h h0 h1
    have hi : i < l.length := by omega
    refine Sz.step ?_
    simp only [laws_szPutS.step, toNat_cast]
    refine Sz.yes (lt_yes hi) (Sz.yes (inB_nat hi) ?_)
    obtain ⟨r1, k1, m1, q1⟩ := laws_szPut.ev (l.getD i default) left h0 h1 (hw _ (getD_mem hi))
    refine Sz.bind k1 ?_
    by_cases c1 : r1 < 0
    · exact Sz.yes (by simpa using c1) (Sz.neg h0)
    refine Sz.no (by simpa using c1) ?_
    rw [i64_nat (by omega)]
    have := ih (i + 1) r1 (by omega) (by omega) (by omega)
    refine (this.le m1).imp fun hq j h2 h3 => ?_
    rcases Nat.eq_or_lt_of_le h2 with rfl | h2
    · exact q1 (by omega)
    · exact hq j h2 h3
theorem laws_szPutS.ev (l : List ((List ((ByteArray) × ((ByteArray) × (Unit)))) × ((Int) × ((Int) × (Unit))))) (left : Int) (h0 : 0 ≤ left) (h1 : left ≤ 1048576) (hw : Wf (.sl false (.pair (.sl false (.pair .str (.pair .str .unit))) (.pair (.int .i64) (.pair (.int .i64) .unit)))) l) : Sz (fun n => laws_szPutS n l left) left (Sm 1048576 (.sl false (.pair (.sl false (.pair .str (.pair .str .unit))) (.pair (.int .i64) (.pair (.int .i64) .unit)))) l) := by
  refine Sz.step ?_
  simp only [laws_szPutS.step]
  have b1 : l.length ≤ 9223372036854775807 := by have := hw.1; simp only [maxLen] at this; omega
  have e1 : IntKind.wrap .i64 (left - ((List.length l) : Int)) = left - ((List.length l) : Int) := i64_ok (by omega) (by omega)
  simp only [e1]
  by_cases c1 : left - ((List.length l) : Int) < 0
  · exact Sz.yes (by simpa using c1) (Sz.neg h0)
  refine Sz.no (by simpa using c1) ?_
  refine ((laws_szPutS.loop l (by omega) hw.2 l.length 0 _ (by omega) (by omega) (by omega)).le (by omega)).imp fun hq => ⟨by omega, fun x hx => ?_⟩
  obtain ⟨j, hj, rfl⟩ := List.getElem_of_mem hx
  have := hq j (by omega) hj
  rwa [List.getD_eq_getElem?_getD, List.getElem?_eq_getElem hj] at this
theorem laws_toLabel.ev (x : (ByteArray) × ((ByteArray) × (Unit))) (h : Sm 1048576 (.pair .str (.pair .str .unit)) x) : Ev (fun n => laws_toLabel n x) x := by
  refine Ev.step ?_
  simp only [laws_toLabel.step]
  exact Ev.pure
theorem laws_toLabelS.loop (l : List ((ByteArray) × ((ByteArray) × (Unit)))) (h : Sm 1048576 (.sl false (.pair .str (.pair .str .unit))) l) : ∀ d i (out : List ((ByteArray) × ((ByteArray) × (Unit)))), i + d = l.length → out.length = l.length → (∀ j, j < i → out.getD j default = l.getD j default) → Ev (fun n => goRec laws_toLabelS.step n (.p9 l (i : Int) out)) l := by
  have hl : l.length ≤ 1048576 := h.1
  intro d
  induction d with
  | zero =>
    intro i out hd ho hj
    rw [Nat.add_zero] at hd
    subst hd
    refine Ev.step ?_
    simp only [laws_toLabelS.step]
    exact Ev.no lt_no (Ev.pure' (ext_getD ho hj))
  | succ d ih =>
    intro i out hd ho hj
    have hi : i < l.length := by omega
    refine Ev.step ?_
    simp only [laws_toLabelS.step, toNat_cast, Nat.zero_add]
    refine Ev.yes (lt_yes hi) (Ev.yes (inB_nat hi) ?_)
    refine Ev.bind (laws_toLabel.ev (l.getD i default) (h.2 _ (getD_mem hi))) ?_
    refine Ev.yes (inB_nat (by omega)) ?_
    rw [i64_nat (by omega)]
    refine ih (i + 1) _ (by omega) (by simpa using ho) fun j hj2 => ?_
    by_cases e : j = i
    · subst e; rw [getD_set_same (by omega)]
    · rw [getD_set_other e]; exact hj j (by omega)
theorem laws_toLabelS.ev (l : List ((ByteArray) × ((ByteArray) × (Unit)))) (h : Sm 1048576 (.sl false (.pair .str (.pair .str .unit))) l) : Ev (fun n => laws_toLabelS n l) l := by
  have hl : l.length ≤ 1048576 := h.1
  refine Ev.step ?_
  simp only [laws_toLabelS.step, toNat_cast]
  refine Ev.yes (inC_nat (Nat.le_refl _) (by omega)) ?_
  exact laws_toLabelS.loop l h l.length 0 _ (by omega) (by simp) (by omega)
theorem laws_toSample.ev (x : (Int) × ((Int) × (Unit))) (h : Sm 1048576 (.pair (.int .i64) (.pair (.int .i64) .unit)) x) : Ev (fun n => laws_toSample n x) x := by
  refine Ev.step ?_
  simp only [laws_toSample.step]
  exact Ev.pure
theorem laws_toSampleS.loop (l : List ((Int) × ((Int) × (Unit)))) (h : Sm 1048576 (.sl false (.pair (.int .i64) (.pair (.int .i64) .unit))) l) : ∀ d i (out : List ((Int) × ((Int) × (Unit)))), i + d = l.length → out.length = l.length → (∀ j, j < i → out.getD j default = l.getD j default) → Ev (fun n => goRec laws_toSampleS.step n (.p9 l (i : Int) out)) l := by
  have hl : l.length ≤ 1048576 := h.1
  intro d
  induction d with
  | zero =>
    intro i out hd ho hj
    rw [Nat.add_zero] at hd
    subst hd
    refine Ev.step ?_
    simp only [laws_toSampleS.step]
    exact Ev.no lt_no (Ev.pure' (ext_getD ho hj))
  | succ d ih =>
    intro i out hd ho hj
    have hi : i < l.length := by omega
    refine Ev.step ?_
    simp only [laws_toSampleS.step, toNat_cast, Nat.zero_add]
    refine Ev.yes (lt_yes hi) (Ev.yes (inB_nat hi) ?_)
    refine Ev.bind (laws_toSample.ev (l.getD i default) (h.2 _ (getD_mem hi))) ?_
    refine Ev.yes (inB_nat (by omega)) ?_
    rw [i64_nat (by omega)]
    refine ih (i + 1) _ (by omega) (by simpa using ho) fun j hj2 => ?_
    by_cases e : j = i
    · subst e; rw [getD_set_same (by omega)]
    · rw [getD_set_other e]; exact hj j (by omega)
theorem laws_toSampleS.ev (l : List ((Int) × ((Int) × (Unit)))) (h : Sm 1048576 (.sl false (.pair (.int .i64) (.pair (.int .i64) .unit))) l) : Ev (fun n => laws_toSampleS n l) l := by
  have hl : l.length ≤ 1048576 := h.1
  refine Ev.step ?_
  simp only [laws_toSampleS.step, toNat_cast]
  refine Ev.yes (inC_nat (Nat.le_refl _) (by omega)) ?_
  exact laws_toSampleS.loop l h l.length 0 _ (by omega) (by simp) (by omega)
theorem laws_toSeries.ev (x : (List ((ByteArray) × ((ByteArray) × (Unit)))) × ((List ((Int) × ((Int) × (Unit)))) × (Unit))) (h : Sm 1048576 (.pair (.sl false (.pair .str (.pair .str .unit))) (.pair (.sl false (.pair (.int .i64) (.pair (.int .i64) .unit))) .unit)) x) : Ev (fun n => laws_toSeries n x) x := by
  refine Ev.step ?_
  simp only [laws_toSeries.step]
  refine Ev.bind (laws_toLabelS.ev x.1 h.1) ?_
  refine Ev.bind (laws_toSampleS.ev x.2.1 h.2.1) ?_
  exact Ev.pure
theorem laws_toSeriesS.loop (l : List ((List ((ByteArray) × ((ByteArray) × (Unit)))) × ((List ((Int) × ((Int) × (Unit)))) × (Unit)))) (h : Sm 1048576 (.sl false (.pair (.sl false (.pair .str (.pair .str .unit))) (.pair (.sl false (.pair (.int .i64) (.pair (.int .i64) .unit))) .unit))) l) : ∀ d i (out : List ((List ((ByteArray) × ((ByteArray) × (Unit)))) × ((List ((Int) × ((Int) × (Unit)))) × (Unit)))), i + d = l.length → out.length = l.length → (∀ j, j < i → out.getD j default = l.getD j default) → Ev (fun n => goRec laws_toSeriesS.step n (.p9 l (i : Int) out)) l := by
  have hl : l.length ≤ 1048576 := h.1
  intro d
  induction d with
  | zero =>
    intro i out hd ho hj
    rw [Nat.add_zero] at hd
    subst hd
    refine Ev.step ?_
    simp only [laws_toSeriesS.step]
    exact Ev.no lt_no (Ev.pure' (ext_getD ho hj))
  | succ d ih =>
    intro i out hd ho hj
    have hi : i < l.length := by omega
    refine Ev.step ?_
    simp only [laws_toSeriesS.step, toNat_cast, Nat.zero_add]
    refine Ev.yes (lt_yes hi) (Ev.yes (inB_nat hi) ?_)
    refine Ev.bind (laws_toSeries.ev (l.getD i default) (h.2 _ (getD_mem hi))) ?_
    refine Ev.yes (inB_nat (by omega)) ?_
    rw [i64_nat (by omega)]
    refine ih (i + 1) _ (by omega) (by simpa using ho) fun j hj2 => ?_
    by_cases e : j = i
    · subst e; rw [getD_set_same (by omega)]
    · rw [getD_set_other e]; exact hj j (by omega)
theorem laws_toSeriesS.ev (l : List ((List ((ByteArray) × ((ByteArray) × (Unit)))) × ((List ((Int) × ((Int) × (Unit)))) × (Unit)))) (h : Sm 1048576 (.sl false (.pair (.sl false (.pair .str (.pair .str .unit))) (.pair (.sl false (.pair (.int .i64) (.pair (.int .i64) .unit))) .unit))) l) : Ev (fun n => laws_toSeriesS n l) l := by
  have hl : l.length ≤ 1048576 := h.1
  refine Ev.step ?_
  simp only [laws_toSeriesS.step, toNat_cast]
  refine Ev.yes (inC_nat (Nat.le_refl _) (by omega)) ?_
  exact laws_toSeriesS.loop l h l.length 0 _ (by omega) (by simp) (by omega)
theorem laws_toHead.ev (x : (Int) × ((Int) × ((Int) × ((List ((List ((ByteArray) × ((ByteArray) × (Unit)))) × ((List ((Int) × ((Int) × (Unit)))) × (Unit)))) × (Unit))))) (h : Sm 1048576 (.pair (.int .i64) (.pair (.int .i64) (.pair (.int .i64) (.pair (.sl false (.pair (.sl false (.pair .str (.pair .str .unit))) (.pair (.sl false (.pair (.int .i64) (.pair (.int .i64) .unit))) .unit))) .unit)))) x) : Ev (fun n => laws_toHead n x) x := by
  refine Ev.step ?_
  simp only [laws_toHead.step]
  refine Ev.bind (laws_toSeriesS.ev x.2.2.2.1 h.2.2.2.1) ?_
  exact Ev.pure
theorem laws_toPut.ev (x : (List ((ByteArray) × ((ByteArray) × (Unit)))) × ((Int) × ((Int) × (Unit)))) (h : Sm 1048576 (.pair (.sl false (.pair .str (.pair .str .unit))) (.pair (.int .i64) (.pair (.int .i64) .unit))) x) : Ev (fun n => laws_toPut n x) x := by
  refine Ev.step ?_
  simp only [laws_toPut.step]
  refine Ev.bind (laws_toLabelS.ev x.1 h.1) ?_
  exact Ev.pure
theorem laws_toPutS.loop (l : List ((List ((ByteArray) × ((ByteArray) × (Unit)))) × ((Int) × ((Int) × (Unit))))) (h : Sm 1048576 (.sl false (.pair (.sl false (.pair .str (.pair .str .unit))) (.pair (.int .i64) (.pair (.int .i64) .unit)))) l) : ∀ d i (out : List ((List ((ByteArray) × ((ByteArray) × (Unit)))) × ((Int) × ((Int) × (Unit))))), i + d = l.length → out.length = l.length → (∀ j, j < i → out.getD j default = l.getD j default) → Ev (fun n => goRec laws_toPutS.step n (.p9 l (i : Int) out)) l := by
  have hl : l.length ≤ 1048576 := h.1
  intro d
  induction d with
  | zero =>
    intro i out hd ho hj
    rw [Nat.add_zero] at hd
    subst hd
    refine Ev.step ?_
    simp only [laws_toPutS.step]
    exact Ev.no lt_no (Ev.pure' (ext_getD ho hj))
  | succ d ih =>
    intro i out hd ho hj
    have hi : i < l.length := by omega
    refine Ev.step ?_
    simp only [laws_toPutS.step, toNat_cast, Nat.zero_add]
    refine Ev.yes (lt_yes hi) (Ev.yes (inB_nat hi) ?_)
    refine Ev.bind (laws_toPut.ev (l.getD i default) (h.2 _ (getD_mem hi))) ?_
    refine Ev.yes (inB_nat (by omega)) ?_
    rw [i64_nat (by omega)]
    refine ih (i + 1) _ (by omega) (by simpa using ho) fun j hj2 => ?_
    by_cases e : j = i
    · subst e; rw [getD_set_same (by omega)]
    · rw [getD_set_other e]; exact hj j (by omega)
theorem laws_toPutS.ev (l : List ((List ((ByteArray) × ((ByteArray) × (Unit)))) × ((Int) × ((Int) × (Unit))))) (h : Sm 1048576 (.sl false (.pair (.sl false (.pair .str (.pair .str .unit))) (.pair (.int .i64) (.pair (.int .i64) .unit)))) l) : Ev (fun n => laws_toPutS n l) l := by
  have hl : l.length ≤ 1048576 := h.1
  refine Ev.step ?_
  simp only [laws_toPutS.step, toNat_cast]
  refine Ev.yes (inC_nat (Nat.le_refl _) (by omega)) ?_
  exact laws_toPutS.loop l h l.length 0 _ (by omega) (by simp) (by omega)
theorem spec_l3Time.ev (b : Int) : Ev (fun n => spec_l3Time n b) (timeB b) := by
  refine Ev.step ?_
  simp only [spec_l3Time.step]
  exact Ev.cnd (fun h => Ev.pure' (by simp [timeB, h])) fun h => Ev.pure' (by simp [timeB, h])
theorem spec_l2Digit.ev (b : Int) : Ev (fun n => spec_l2Digit n b) (digitB b) := by
  refine Ev.step ?_
  simp only [spec_l2Digit.step]
  exact Ev.cnd (fun h => Ev.pure' (by simp [digitB, h])) fun h => Ev.pure' (by simp [digitB, h])
theorem spec_l2Letter.ev (b : Int) : Ev (fun n => spec_l2Letter n b) (letterB b) := by
  refine Ev.step ?_
  simp only [spec_l2Letter.step]
  refine Ev.cnd (fun h => Ev.cnd (fun h2 => Ev.pure' (by simp [letterB, h, h2])) fun h2 => Ev.cnd (fun h3 => Ev.pure' (by simp [letterB, h, h2, h3])) fun h3 => Ev.pure' (by simp [letterB, h, h2, h3])) fun h => Ev.cnd (fun h3 => Ev.pure' (by simp [letterB, h, h3])) fun h3 => Ev.pure' (by simp [letterB, h, h3])
theorem spec_l2Name.ev (s : ByteArray) (hs : s.size ≤ 1048576) : Ev (fun n => spec_l2Name n s) (nameB s) := by
  have go : Ev (fun n => goRec spec_l2Name.step n (spec_l2Name.Pt.p15 s 0)) (allB wordB s) := by
    refine Ev.allN (pt := fun i : Nat => spec_l2Name.Pt.p15 s (i : Int)) (fun i hi => ⟨fun hp v hv => ?_, fun hp => ?_⟩) ?_
    · refine Ev.step ?_
      simp only [spec_l2Name.step]
      have h24 : Ev (fun n => goRec spec_l2Name.step n (spec_l2Name.Pt.p24 s (i : Int) false)) v := by
        refine Ev.step ?_
        simp only [spec_l2Name.step, i64_nat (show i ≤ 4611686018427387904 by omega)]
        exact Ev.no rfl hv
      refine Ev.yes (lt_yes hi) (Ev.yes (inB_nat hi) (Ev.bind (spec_l2Letter.ev _) (Ev.cnd (fun h => Ev.yes (inB_nat hi) (Ev.bind (spec_l2Digit.ev _) (Ev.cnd (fun h2 => Ev.yes (inB_nat hi) ?_) fun h2 => h24))) fun h => h24)))
      have : (!decide (bt s i = 95)) = false := by simp [wordB] at hp h h2 ⊢; simp [h, h2] at hp; exact hp
      rw [this]; exact h24
    · refine Ev.step ?_
      simp only [spec_l2Name.step]
      simp [wordB] at hp
      refine Ev.yes (lt_yes hi) (Ev.yes (inB_nat hi) (Ev.bind (spec_l2Letter.ev _) (Ev.yes (by simp [hp]) (Ev.yes (inB_nat hi) (Ev.bind (spec_l2Digit.ev _) (Ev.yes (by simp [hp]) (Ev.yes (inB_nat hi) ?_)))))))
      refine Ev.step ?_
      simp only [spec_l2Name.step]
      exact Ev.yes (by simp [hp]) Ev.pure
    · refine Ev.step ?_
      simp only [spec_l2Name.step]
      exact Ev.no lt_no Ev.pure
  refine Ev.step ?_
  simp only [spec_l2Name.step]
  have bad : nameB s = false → Ev (fun n => goRec spec_l2Name.step n (spec_l2Name.Pt.p4 s true)) (nameB s) := fun h => by
    refine Ev.step ?_
    simp only [spec_l2Name.step]
    exact Ev.yes rfl (Ev.pure' h.symm)
  refine Ev.cnd (fun h => bad ?_) fun h => Ev.cnd (fun h2 => bad ?_) fun h2 => Ev.yes ?_ (Ev.bind (spec_l2Digit.ev _) (Ev.step ?_))
  · have : ¬ 1 ≤ s.size := by simp at h; omega
    simp [nameB, this]
  · have : ¬ s.size ≤ 40 := by simp at h2; omega
    simp [nameB, this]
  · simp at h; exact inB_zero (by omega)
  · have h1 : 1 ≤ s.size := by simp at h; omega
    have h3 : s.size ≤ 40 := by simp at h2; omega
    simp only [spec_l2Name.step]
    refine Ev.cnd (fun h4 => Ev.pure' (by simp [nameB, h4])) fun h4 => Ev.of_eq go ?_
    simp [nameB, h1, h3, h4]
theorem spec_l2Printed.ev (s : ByteArray) (hs : s.size ≤ 1048576) : Ev (fun n => spec_l2Printed n s) (printB s) := by
  refine Ev.step ?_
  simp only [spec_l2Printed.step]
  refine Ev.allN (pt := fun i : Nat => spec_l2Printed.Pt.p7 s (i : Int)) (fun i hi => ⟨fun hp v hv => ?_, fun hp => ?_⟩) ?_
  · refine Ev.step ?_
    simp only [Bool.and_eq_true, decide_eq_true_eq] at hp
    simp only [spec_l2Printed.step, i64_nat (show i ≤ 4611686018427387904 by omega)]
    exact Ev.yes (lt_yes hi) (Ev.yes (inB_nat hi) (Ev.no (by simp; omega) (Ev.yes (inB_nat hi) (Ev.no (by simp; omega) hv))))
  · refine Ev.step ?_
    simp only [spec_l2Printed.step]
    refine Ev.yes (lt_yes hi) (Ev.yes (inB_nat hi) (Ev.cnd (fun _ => Ev.pure) fun h => Ev.yes (inB_nat hi) (Ev.yes ?_ Ev.pure)))
    simp at hp h ⊢; omega
  · refine Ev.step ?_
    simp only [spec_l2Printed.step]
    exact Ev.no lt_no Ev.pure
theorem spec_l2Value.ev (s : ByteArray) (hs : s.size ≤ 1048576) : Ev (fun n => spec_l2Value n s) (valueB s) := by
  refine Ev.step ?_
  simp only [spec_l2Value.step]
  refine Ev.cnd (fun e => Ev.cnd (fun e2 => Ev.bind (spec_l2Printed.ev _ hs) (Ev.pure' ?_)) fun e2 => Ev.pure' ?_) fun e => Ev.pure' ?_
  · have a1 : 1 ≤ s.size := by simp at e; omega
    have a2 : s.size ≤ 100 := by simp at e2; omega
    simp [valueB, a1, a2]
  · have a2 : ¬ s.size ≤ 100 := by simp at e2; omega
    simp [valueB, a2]
  · have a1 : ¬ 1 ≤ s.size := by simp at e; omega
    simp [valueB, a1]
theorem spec_l2CmpNum.ev (a b : Int) : Ev (fun n => spec_l2CmpNum n a b) (cmpN a b) := by
  refine Ev.step ?_
  simp only [spec_l2CmpNum.step]
  exact Ev.cnd (fun h => Ev.pure' (by rw [cmpN, if_pos (of_decide_eq_true h)])) fun h => Ev.cnd (fun h2 => Ev.pure' (by rw [cmpN, if_neg (of_decide_eq_false h), if_pos (of_decide_eq_true h2)])) fun h2 => Ev.pure' (by rw [cmpN, if_neg (of_decide_eq_false h), if_neg (of_decide_eq_false h2)])
theorem spec_l2CmpText.loop (a b : ByteArray) (ha : a.size ≤ 1048576) (hb : b.size ≤ 1048576) : ∀ d i, i + d = a.size → i ≤ b.size → Ev (fun n => goRec spec_l2CmpText.step n (spec_l2CmpText.Pt.p7 a b (i : Int))) (cmpL ((octs a).drop i) ((octs b).drop i)) := by
  have out : ∀ i, i ≤ a.size → i ≤ b.size → (i = a.size ∨ i = b.size) → Ev (fun n => goRec spec_l2CmpText.step n (spec_l2CmpText.Pt.p9 a b (i : Int) false)) (cmpL ((octs a).drop i) ((octs b).drop i)) := by
    intro i h1 h2 h3
    refine Ev.step ?_
    simp only [spec_l2CmpText.step]
    refine Ev.no rfl (Ev.bind (spec_l2CmpNum.ev _ _) (Ev.pure' ?_))
    rcases h3 with rfl | rfl
    · rw [octs_nil]
      rcases Nat.eq_or_lt_of_le h2 with e | h2
      · rw [e, octs_nil]; simp [cmpN, cmpL]
      · rw [octs_drop h2]; simp only [cmpL, cmpN]; rw [if_pos (by omega)]
    · rw [octs_nil]
      rcases Nat.eq_or_lt_of_le h1 with e | h1
      · rw [e, octs_nil]; simp [cmpN, cmpL]
      · rw [octs_drop h1]; simp only [cmpL, cmpN]; rw [if_neg (by omega), if_pos (by omega)]
  intro d
  induction d with
  | zero =>
    intro i h hb'
    refine Ev.step ?_
    simp only [spec_l2CmpText.step]
    exact Ev.no (by simp; omega) (out i (by omega) hb' (by omega))
  | succ d ih =>
    intro i h hb'
    refine Ev.step ?_
    simp only [spec_l2CmpText.step]
    refine Ev.yes (lt_yes (by omega)) ?_
    rcases Nat.eq_or_lt_of_le hb' with e | hlt
    · rw [show decide ((i : Int) < (b.size : Int)) = false by simp; omega]
      exact out i (by omega) hb' (.inr e)
    · rw [lt_yes hlt]
      refine Ev.step ?_
      simp only [spec_l2CmpText.step, i64_bt]
      have hia : i < a.size := by omega
      refine Ev.yes rfl (Ev.yes (inB_nat hia) (Ev.yes (inB_nat hlt) ?_))
      rw [octs_drop hia, octs_drop hlt]
      simp only [cmpL]
      refine Ev.cnd (fun hc => Ev.yes (inB_nat hia) (Ev.yes (inB_nat hlt) (Ev.bind (spec_l2CmpNum.ev _ _) (Ev.pure' ?_)))) fun hc => ?_
      · simp at hc
        simp only [cmpN]
        by_cases c1 : bt a i < bt b i
        · simp [c1]
        · have c2 : bt b i < bt a i := by omega
          simp [c1, c2]
      · have hc : bt a i = bt b i := by simpa using hc
        rw [hc, if_neg (by omega), if_neg (by omega), i64_nat (by omega)]
        exact ih (i + 1) (by omega) (by omega)
theorem spec_l2CmpText.ev (a b : ByteArray) (ha : a.size ≤ 1048576) (hb : b.size ≤ 1048576) : Ev (fun n => spec_l2CmpText n a b) (cmpT a b) := by
  refine Ev.step ?_
  simp only [spec_l2CmpText.step]
  exact spec_l2CmpText.loop a b ha hb a.size 0 (by omega) (by omega)
theorem spec_GoodLabels.ev (l : List LB) (h : Sm 1048576 (.sl false LU) l) : Ev (fun n => spec_GoodLabels n l) (labelsB l) := by
  have hl : l.length ≤ 1048576 := h.1
  refine Ev.step ?_
  simp only [spec_GoodLabels.step]
  refine Ev.cnd (fun c => Ev.pure' ?_) fun c => ?_
  · have : ¬ l.length ≤ 20 := by simp at c; omega
    simp [labelsB, this]
  have h50 : l.length ≤ 20 := by simp at c; omega
  simp only [labelsB, h50, decide_true, Bool.true_and]
  have go : ∀ i v, i < l.length → (labB l i = true → Ev (fun n => goRec spec_GoodLabels.step n (spec_GoodLabels.Pt.p15 l l (l.length : Int) ((i + 1 : Nat) : Int))) v) → (labB l i = false → v = false) →
      Ev (fun n => goRec spec_GoodLabels.step n (spec_GoodLabels.Pt.p15 l l (l.length : Int) (i : Int))) v := by
    intro i v hi hv hv2
    have hx := h.2 _ (getD_mem (d := default) hi)
    have hs := (labB.eq_1 l i).symm
    have h26 : ∀ b, (b = !labB l i) → Ev (fun n => goRec spec_GoodLabels.step n (spec_GoodLabels.Pt.p26 l l (l.length : Int) (i : Int) b)) v := by
      rintro b rfl
      refine Ev.step ?_
      simp only [spec_GoodLabels.step, i64_nat (show i ≤ 4611686018427387904 by omega)]
      exact Ev.cnd (fun e => Ev.pure' (hv2 (by simpa using e)).symm) fun e => hv (by simpa using e)
    refine Ev.step ?_
    simp only [spec_GoodLabels.step, toNat_cast]
    generalize hxe : l.getD i default = x at hx hs
    have bad : labB l i = false → Ev (fun n => goRec spec_GoodLabels.step n (spec_GoodLabels.Pt.p26 l l (l.length : Int) (i : Int) true)) v := fun e => h26 _ (by rw [e]; rfl)
    refine Ev.yes (lt_yes hi) (Ev.yes (inB_nat hi) ?_)
    refine Ev.bind (spec_l2Name.ev _ hx.1) (Ev.cnd (fun e => bad (by rw [← hs]; simp at e; simp [e])) fun e1 => ?_)
    refine Ev.bind (spec_l2Value.ev _ hx.2.1) (Ev.cnd (fun e => bad (by rw [← hs]; simp at e; simp [e])) fun e2 => ?_)
    simp at e1 e2
    cases i with
    | zero => exact Ev.no (by simp) (h26 _ (by rw [← hs]; simp [e1, e2]))
    | succ k =>
      refine Ev.yes (by simp) ?_
      simp only [i64_pred (show k ≤ 4611686018427387904 by omega), toNat_cast]
      refine Ev.yes (inB_nat (by omega)) (Ev.bind (spec_l2CmpText.ev _ _ (h.2 _ (getD_mem (by omega))).1 hx.1) (h26 _ ?_))
      rw [← hs]; simp [e1, e2]
      rw [← decide_not]
      exact decide_eq_decide.2 (by omega)
  refine Ev.allN (pt := fun i : Nat => spec_GoodLabels.Pt.p15 l l (l.length : Int) (i : Int)) (fun i hi => ⟨fun hp v hv => go i v hi (fun _ => hv) (fun h => by rw [hp] at h; cases h), fun hp => go i false hi (fun h => by rw [hp] at h; cases h) (fun _ => rfl)⟩) ?_
  refine Ev.step ?_
  simp only [spec_GoodLabels.step]
  exact Ev.no lt_no Ev.pure
theorem spec_l2Of.loop (l : List LB) (k : ByteArray) (hl : l.length ≤ 1048576) : ∀ d i, i + d = l.length → Ev (fun n => goRec spec_l2Of.step n (spec_l2Of.Pt.p7 k l (l.length : Int) (i : Int))) (valL (l.drop i) k) := by
  intro d
  induction d with
  | zero =>
    intro i h
    obtain rfl : i = l.length := by omega
    refine Ev.step ?_
    simp only [spec_l2Of.step]
    exact Ev.no lt_no (Ev.pure' (by rw [List.drop_length]; rfl))
  | succ d ih =>
    intro i h
    have hi : i < l.length := by omega
    refine Ev.step ?_
    simp only [spec_l2Of.step, toNat_cast, i64_nat (show i ≤ 4611686018427387904 by omega)]
    rw [drop_getD hi]
    refine Ev.yes (lt_yes hi) (Ev.yes (inB_nat hi) (Ev.cnd (fun c => Ev.pure' ?_) fun c => Ev.of_eq (ih (i + 1) (by omega)) ?_))
    · simp only [valL, c, cond_true]
    · simp only [valL, c, cond_false]
theorem spec_l2Of.ev (l : List LB) (k : ByteArray) (hl : l.length ≤ 1048576) : Ev (fun n => spec_l2Of n l k) (valL l k) := by
  refine Ev.step ?_
  simp only [spec_l2Of.step]
  exact spec_l2Of.loop l k hl l.length 0 (by omega)
theorem spec_l7Named.ev (l : List LB) (h : Sm 1048576 (.sl false LU) l) : Ev (fun n => spec_l7Named n l) (namedB l) := by
  refine Ev.step ?_
  simp only [spec_l7Named.step]
  refine Ev.bind (spec_GoodLabels.ev l h) (Ev.cnd (fun c => Ev.bind (spec_l2Of.ev l nameK h.1) (Ev.pure' ?_)) fun c => Ev.pure' ?_)
  · rw [namedB, c]; rfl
  · rw [namedB, c]; rfl
theorem spec_GoodSamples.ev (l : List SME) (hl : l.length ≤ 1048576) : Ev (fun n => spec_GoodSamples n l) (samplesB l) := by
  refine Ev.step ?_
  simp only [spec_GoodSamples.step]
  refine Ev.allK (pt := fun i : Nat => spec_GoodSamples.Pt.p7 l l (l.length : Int) (i : Int)) (fun i hi => ?_) (fun _ => ?_)
  · have fin : ∀ b, b = !(timeB (l.getD i default).1 && !(decide (0 < i) && decide ((l.getD i default).1 ≤ (l.getD (i - 1) default).1))) → ((timeB (l.getD i default).1 && !(decide (0 < i) && decide ((l.getD i default).1 ≤ (l.getD (i - 1) default).1))) = true → ∀ v, Ev (fun m => goRec spec_GoodSamples.step m (spec_GoodSamples.Pt.p7 l l (l.length : Int) ((i + 1 : Nat) : Int))) v → Ev (fun m => goRec spec_GoodSamples.step m (spec_GoodSamples.Pt.p18 l l (l.length : Int) (i : Int) b)) v) ∧
        ((timeB (l.getD i default).1 && !(decide (0 < i) && decide ((l.getD i default).1 ≤ (l.getD (i - 1) default).1))) = false → Ev (fun m => goRec spec_GoodSamples.step m (spec_GoodSamples.Pt.p18 l l (l.length : Int) (i : Int) b)) false) := by
      rintro b rfl
      refine ⟨fun h v hv => ?_, fun h => ?_⟩
      · refine Ev.step ?_
        simp only [spec_GoodSamples.step, i64_nat (show i ≤ 4611686018427387904 by omega)]
        exact Ev.no (by rw [h]; rfl) hv
      · refine Ev.step ?_
        simp only [spec_GoodSamples.step]
        exact Ev.yes (by rw [h]; rfl) Ev.pure
    have run : ∀ v, (∀ b, b = !(timeB (l.getD i default).1 && !(decide (0 < i) && decide ((l.getD i default).1 ≤ (l.getD (i - 1) default).1))) → Ev (fun m => goRec spec_GoodSamples.step m (spec_GoodSamples.Pt.p18 l l (l.length : Int) (i : Int) b)) v) → Ev (fun m => goRec spec_GoodSamples.step m (spec_GoodSamples.Pt.p7 l l (l.length : Int) (i : Int))) v := by
      intro v hv
      refine Ev.step ?_
      simp only [spec_GoodSamples.step, toNat_cast]
      refine Ev.yes (lt_yes hi) (Ev.yes (inB_nat hi) (Ev.bind (spec_l3Time.ev _) (Ev.cnd (fun c => hv _ ?_) fun c => Ev.cnd (fun c2 => ?_) fun c2 => hv _ ?_)))
      · rw [Bool.not_eq_true'] at c; rw [c]; rfl
      · have c2 : 0 < i := by simp only [decide_eq_true_eq] at c2; omega
        rw [Bool.not_eq_false'] at c
        rw [pred_i64 (by omega) (by omega), toNat_cast]
        refine Ev.yes (inB_nat (by omega)) (hv _ ?_)
        rw [c, decide_eq_true c2]; simp
      · have c2 : ¬ 0 < i := by simp only [decide_eq_false_iff_not] at c2; omega
        rw [Bool.not_eq_false'] at c
        rw [c, decide_eq_false c2]; rfl
    exact ⟨fun h v hv => run v fun b hb => (fin b hb).1 h v hv, fun h => run false fun b hb => (fin b hb).2 h⟩
  · refine Ev.step ?_
    simp only [spec_GoodSamples.step]
    exact Ev.no lt_no (Ev.pure' (by
      by_cases h : l.length ≤ 2000
      · rw [decide_eq_true h, decide_eq_true (show (l.length : Int) ≤ 2000 by omega)]
      · rw [decide_eq_false h, decide_eq_false (show ¬ (l.length : Int) ≤ 2000 by omega)]))
theorem spec_l2Cmp.ev (a b : List LB) (ha : Sm 1048576 (.sl false LU) a) (hb : Sm 1048576 (.sl false LU) b) : Ev (fun n => spec_l2Cmp n a b) (cmpLs a b) := by
  have la : a.length ≤ 1048576 := ha.1
  have lb : b.length ≤ 1048576 := hb.1
  have loop : ∀ d i, i + d = min a.length b.length → Ev (fun n => goRec spec_l2Cmp.step n (spec_l2Cmp.Pt.p7 a b (i : Int))) (cmpLs (a.drop i) (b.drop i)) := by
    have p9 : ∀ i x, i ≤ a.length → i ≤ b.length → x = decide (i < a.length ∧ i < b.length) → (i < a.length → i < b.length → Ev (fun n => goRec spec_l2Cmp.step n (spec_l2Cmp.Pt.p7 a b ((i + 1 : Nat) : Int))) (cmpLs (a.drop (i + 1)) (b.drop (i + 1)))) → Ev (fun n => goRec spec_l2Cmp.step n (spec_l2Cmp.Pt.p9 a b (i : Int) x)) (cmpLs (a.drop i) (b.drop i)) := by
      rintro i x h1 h2 rfl hn
      refine Ev.step ?_
      simp only [spec_l2Cmp.step, toNat_cast, i64_nat (show i ≤ 4611686018427387904 by omega)]
      refine Ev.cnd (fun c => ?_) fun c => ?_
      · obtain ⟨c1, c2⟩ := of_decide_eq_true c
        have ma := ha.2 _ (getD_mem c1 (d := default))
        have mb := hb.2 _ (getD_mem c2 (d := default))
        rw [cmpLs_next c1 c2]
        refine Ev.yes (inB_nat c1) (Ev.yes (inB_nat c2) (Ev.bind (spec_l2CmpText.ev _ _ ma.1 mb.1) (Ev.cnd (fun e => Ev.pure' ?_) fun e => Ev.yes (inB_nat c1) (Ev.yes (inB_nat c2) (Ev.bind (spec_l2CmpText.ev _ _ ma.2.1 mb.2.1) (Ev.cnd (fun e2 => Ev.pure' ?_) fun e2 => ?_))))))
        · have e : ¬ cmpT (a.getD i default).1 (b.getD i default).1 = 0 := of_decide_eq_false (by rw [Bool.not_eq_true'] at e; exact e)
          rw [if_pos e]
        · have e : cmpT (a.getD i default).1 (b.getD i default).1 = 0 := of_decide_eq_true (by rw [Bool.not_eq_false'] at e; exact e)
          have e2 : ¬ cmpT (a.getD i default).2.1 (b.getD i default).2.1 = 0 := of_decide_eq_false (by rw [Bool.not_eq_true'] at e2; exact e2)
          rw [if_neg (by simpa using e), if_pos e2]
        · have e : cmpT (a.getD i default).1 (b.getD i default).1 = 0 := of_decide_eq_true (by rw [Bool.not_eq_false'] at e; exact e)
          have e2 : cmpT (a.getD i default).2.1 (b.getD i default).2.1 = 0 := of_decide_eq_true (by rw [Bool.not_eq_false'] at e2; exact e2)
          rw [if_neg (by simpa using e), if_neg (by simpa using e2)]
          exact hn c1 c2
      · have c := of_decide_eq_false c
        rw [cmpLs_end c h1 h2]
        exact Ev.bind (spec_l2CmpNum.ev _ _) Ev.pure
    intro d
    induction d with
    | zero =>
      intro i h
      have key := p9 i false (by omega) (by omega) (decide_eq_false (by omega)).symm (fun h1 h2 => absurd h1 (by omega))
      refine Ev.step ?_
      simp only [spec_l2Cmp.step]
      refine Ev.cnd (fun c => ?_) fun c => key
      have c : i < a.length := by have := of_decide_eq_true c; omega
      rw [decide_eq_false (show ¬ (i : Int) < (b.length : Int) by omega)]
      exact key
    | succ d ih =>
      intro i h
      have key := p9 i true (by omega) (by omega) (decide_eq_true (by omega)).symm (fun _ _ => ih (i + 1) (by omega))
      refine Ev.step ?_
      simp only [spec_l2Cmp.step]
      refine Ev.yes (lt_yes (show i < a.length by omega)) ?_
      rw [decide_eq_true (show (i : Int) < (b.length : Int) by omega)]
      exact key
  refine Ev.step ?_
  simp only [spec_l2Cmp.step]
  exact loop (min a.length b.length) 0 (by omega)
theorem spec_GoodSeries.ev (l : List SRE) (h : Sm 1048576 (.sl false SRU) l) : Ev (fun n => spec_GoodSeries n l) (seriesB l) := by
  have hl : l.length ≤ 1048576 := h.1
  refine Ev.step ?_
  simp only [spec_GoodSeries.step]
  refine Ev.cnd (fun c => Ev.pure' ?_) fun c => ?_
  · have c : ¬ l.length ≤ 200 := by have := of_decide_eq_true c; omega
    rw [seriesB, decide_eq_false c]; rfl
  have c : l.length ≤ 200 := by have := of_decide_eq_false c; omega
  rw [seriesB, decide_eq_true c, Bool.true_and, ← Bool.and_true ((List.range l.length).all (serB l))]
  refine Ev.allK (pt := fun i : Nat => spec_GoodSeries.Pt.p15 l l (l.length : Int) (i : Int)) (fun i hi => ?_) (fun _ => ?_)
  · have m := h.2 _ (getD_mem hi (d := default))
    have fin : ∀ b, b = !(serB l i) → (serB l i = true → ∀ v, Ev (fun m => goRec spec_GoodSeries.step m (spec_GoodSeries.Pt.p15 l l (l.length : Int) ((i + 1 : Nat) : Int))) v → Ev (fun m => goRec spec_GoodSeries.step m (spec_GoodSeries.Pt.p26 l l (l.length : Int) (i : Int) b)) v) ∧
        (serB l i = false → Ev (fun m => goRec spec_GoodSeries.step m (spec_GoodSeries.Pt.p26 l l (l.length : Int) (i : Int) b)) false) := by
      rintro b rfl
      refine ⟨fun h v hv => ?_, fun h => ?_⟩
      · refine Ev.step ?_
        simp only [spec_GoodSeries.step, i64_nat (show i ≤ 4611686018427387904 by omega)]
        exact Ev.no (by rw [h]; rfl) hv
      · refine Ev.step ?_
        simp only [spec_GoodSeries.step]
        exact Ev.yes (by rw [h]; rfl) Ev.pure
    have run : ∀ v, (∀ b, b = !(serB l i) → Ev (fun m => goRec spec_GoodSeries.step m (spec_GoodSeries.Pt.p26 l l (l.length : Int) (i : Int) b)) v) → Ev (fun m => goRec spec_GoodSeries.step m (spec_GoodSeries.Pt.p15 l l (l.length : Int) (i : Int))) v := by
      intro v hv
      refine Ev.step ?_
      simp only [spec_GoodSeries.step, toNat_cast]
      refine Ev.yes (lt_yes hi) (Ev.yes (inB_nat hi) (Ev.bind (spec_l7Named.ev _ m.1) (Ev.cnd (fun c => hv _ ?_) fun c => Ev.bind (spec_GoodSamples.ev _ m.2.1.1) (Ev.cnd (fun c2 => hv _ ?_) fun c2 => Ev.cnd (fun c3 => hv _ ?_) fun c3 => Ev.cnd (fun c4 => ?_) fun c4 => hv _ ?_))))
      · rw [Bool.not_eq_true'] at c; rw [serB, c]; rfl
      · rw [Bool.not_eq_true'] at c2; rw [serB, c2]; simp
      · have c3 : (l.getD i default).2.1.length = 0 := eq_yes (k := 0) c3
        rw [serB, c3]; simp
      · rw [Bool.not_eq_false'] at c c2
        have c3 : ¬ (l.getD i default).2.1.length = 0 := eq_no (k := 0) c3
        have c4 : 0 < i := by have := of_decide_eq_true c4; omega
        have mp := h.2 _ (getD_mem (show i - 1 < l.length by omega) (d := default))
        rw [pred_i64 (by omega) (by omega), toNat_cast]
        refine Ev.yes (inB_nat (by omega)) (Ev.bind (spec_l2Cmp.ev _ _ mp.1 m.1) (hv _ ?_))
        rw [serB, c, c2, decide_eq_true (show (l.getD i default).2.1.length ≠ 0 from c3), decide_eq_false (show ¬ i = 0 by omega)]
        simp only [Bool.true_and, Bool.false_or]
        by_cases e : cmpLs (l.getD (i - 1) default).1 (l.getD i default).1 < 0
        · rw [decide_eq_true e, decide_eq_false (by omega)]; rfl
        · rw [decide_eq_false e, decide_eq_true (by omega)]; rfl
      · rw [Bool.not_eq_false'] at c c2
        have c3 : ¬ (l.getD i default).2.1.length = 0 := eq_no (k := 0) c3
        have c4 : i = 0 := by have := of_decide_eq_false c4; omega
        rw [serB, c, c2, decide_eq_true (show (l.getD i default).2.1.length ≠ 0 from c3), decide_eq_true c4]; rfl
    exact ⟨fun h v hv => run v fun b hb => (fin b hb).1 h v hv, fun h => run false fun b hb => (fin b hb).2 h⟩
  · refine Ev.step ?_
    simp only [spec_GoodSeries.step]
    exact Ev.no lt_no Ev.pure
theorem spec_GoodHead.ev (h : HDE) (hb : Sm 1048576 (.sl false SRU) h.2.2.2.1) : Ev (fun n => spec_GoodHead n h) (headB h) := by
  obtain ⟨w, lim, nw, l, _⟩ := h
  have hl : l.length ≤ 1048576 := hb.1
  refine Ev.step ?_
  simp only [spec_GoodHead.step]
  have bad : headB (w, lim, nw, l, ()) = false → Ev (fun n => goRec spec_GoodHead.step n (.p4 true w lim nw l)) (headB (w, lim, nw, l, ())) := fun e => by
    refine Ev.step ?_
    simp only [spec_GoodHead.step]
    exact Ev.yes rfl (Ev.pure' e.symm)
  refine Ev.bind (spec_l3Time.ev w) (Ev.cnd (fun c => bad ?_) fun c1 => Ev.cnd (fun c => bad ?_) fun c2 => Ev.cnd (fun c => bad ?_) fun c3 => Ev.bind (spec_GoodSeries.ev l hb) (Ev.cnd (fun c => bad ?_) fun c4 => Ev.cnd (fun c => bad ?_) fun c5 => Ev.cnd (fun c => bad ?_) fun c6 => ?_))
  · rw [Bool.not_eq_true'] at c; simp [headB, c]
  · have := of_decide_eq_true c; simp only [headB]; rw [decide_eq_false (show ¬ (0 ≤ lim) by omega)]; simp
  · have := of_decide_eq_true c; simp only [headB]; rw [decide_eq_false (show ¬ (lim ≤ 200) by omega)]; simp
  · rw [Bool.not_eq_true'] at c; simp [headB, c]
  · simp only [headB, c]; simp
  · have := of_decide_eq_true c
    simp only [headB, timeB]; rw [decide_eq_false (show ¬ nw = -1 by omega), decide_eq_false (show ¬ 0 ≤ nw by omega)]; simp
  rw [Bool.not_eq_false'] at c1 c4
  have c2 := of_decide_eq_false c2
  have c3 := of_decide_eq_false c3
  have c6 := of_decide_eq_false c6
  have ht : (decide (nw = -1) || timeB nw) = !decide ((1000000000000 : Int) < nw) := by
    by_cases a : nw = -1
    · subst a; rfl
    · rw [decide_eq_false a, Bool.false_or, timeB, decide_eq_true (show 0 ≤ nw by omega), Bool.true_and]
      by_cases b : (1000000000000 : Int) < nw
      · rw [decide_eq_true b, decide_eq_false (by omega)]; rfl
      · rw [decide_eq_false b, decide_eq_true (by omega)]; rfl
  have hh : headB (w, lim, nw, l, ()) = (!decide ((1000000000000 : Int) < nw) && (List.range l.length).all (fun i => lastB nw (l.getD i default))) := by
    simp only [headB, c1, c4, c5, ht]; rw [decide_eq_true (show 0 ≤ lim by omega), decide_eq_true (show lim ≤ 200 by omega)]; simp
  refine Ev.step ?_
  simp only [spec_GoodHead.step]
  refine Ev.cnd (fun c => Ev.pure' (by rw [hh, c]; rfl)) fun c7 => ?_
  rw [hh, c7, Bool.not_false, Bool.true_and, ← Bool.and_true ((List.range l.length).all _)]
  refine Ev.allK (pt := fun i : Nat => spec_GoodHead.Pt.p15 l (l.length : Int) (i : Int) w lim nw l) (fun i hi => ?_) (fun _ => ?_)
  · have h2 := seriesB_at c4 hi
    have h3 : (l.getD i default).2.1.length ≠ 0 := by
      have c4 := c4
      simp only [seriesB, Bool.and_eq_true, List.all_eq_true, List.mem_range] at c4
      have h1 := c4.2 i hi
      simp only [serB, Bool.and_eq_true, decide_eq_true_eq] at h1
      exact h1.1.2
    have e : IntKind.wrap .i64 (((l.getD i default).2.1.length : Int) - 1) = (((l.getD i default).2.1.length - 1 : Nat) : Int) := by rw [i64_ok] <;> omega
    refine ⟨fun h v hv => ?_, fun h => ?_⟩
    · refine Ev.step ?_
      simp only [spec_GoodHead.step, toNat_cast, i64_nat (show i ≤ 4611686018427387904 by omega), e]
      refine Ev.yes (lt_yes hi) (Ev.yes (inB_nat hi) (Ev.yes (inB_nat (by omega)) (Ev.no ?_ hv)))
      rw [lastB, Bool.not_eq_true'] at h; exact h
    · refine Ev.step ?_
      simp only [spec_GoodHead.step, toNat_cast, e]
      refine Ev.yes (lt_yes hi) (Ev.yes (inB_nat hi) (Ev.yes (inB_nat (by omega)) (Ev.yes ?_ Ev.pure)))
      rw [lastB, Bool.not_eq_false'] at h; exact h
  · refine Ev.step ?_
    simp only [spec_GoodHead.step]
    exact Ev.no lt_no Ev.pure
theorem spec_l3Copy.ev (l : List LB) (hl : l.length ≤ 1048576) : Ev (fun n => spec_l3Copy n l) l := by
  refine Ev.step ?_
  simp only [spec_l3Copy.step]
  exact Ev.yes (room_ok (by simp; omega)) (Ev.pure' (List.nil_append _))
theorem spec_l7CopySamples.ev (l : List SME) (hl : l.length ≤ 1048576) : Ev (fun n => spec_l7CopySamples n l) l := by
  refine Ev.step ?_
  simp only [spec_l7CopySamples.step]
  exact Ev.yes (room_ok (by simp; omega)) Ev.pure
theorem spec_l7Copy.ev (l : List SRE) (hb : Sm 1048576 (.sl false SRU) l) : Ev (fun n => spec_l7Copy n l) l := by
  have hl : l.length ≤ 1048576 := hb.1
  have loop : ∀ d i, i + d = l.length → Ev (fun n => goRec spec_l7Copy.step n (.p9 l (l.length : Int) (i : Int) (l.take i))) l := by
    intro d
    induction d with
    | zero =>
      intro i hi
      obtain rfl : i = l.length := by omega
      refine Ev.step ?_
      simp only [spec_l7Copy.step]
      exact Ev.no lt_no (Ev.pure' (List.take_length))
    | succ d ih =>
      intro i hi
      have hi' : i < l.length := by omega
      have m := hb.2 _ (getD_mem hi' (d := default))
      refine Ev.step ?_
      simp only [spec_l7Copy.step, toNat_cast, i64_nat (show i ≤ 4611686018427387904 by omega)]
      refine Ev.yes (lt_yes hi') (Ev.yes (inB_nat hi') (Ev.bind (spec_l3Copy.ev _ m.1.1) (Ev.bind (spec_l7CopySamples.ev _ m.2.1.1) (Ev.yes (room_ok (by simp; omega)) ?_))))
      have e : l.take (i + 1) = l.take i ++ [((l.getD i default).1, (l.getD i default).2.1, ())] := by
        rw [List.take_add_one, List.getD_eq_getElem?_getD, List.getElem?_eq_getElem hi']; rfl
      rw [← e]
      exact ih (i + 1) (by omega)
  refine Ev.step ?_
  simp only [spec_l7Copy.step]
  exact loop l.length 0 (by omega)
theorem spec_l7Place.ev (l : List SRE) (t : List LB) (hl : l.length ≤ 1048576) (hs : ∀ s ∈ l, Sm 1048576 (.sl false LU) s.1) (ht : Sm 1048576 (.sl false LU) t) : Ev (fun n => spec_l7Place n l t) ((plc (byL t) l : Int), fndB (byL t) l) := by
  have loop : ∀ d i, i + d = plc (byL t) l → Ev (fun n => goRec spec_l7Place.step n (.p7 l t l (l.length : Int) (i : Int))) ((plc (byL t) l : Int), fndB (byL t) l) := by
    have hp := plc_le (f := byL t) (l := l)
    intro d
    induction d with
    | zero =>
      intro i hi
      obtain rfl : i = plc (byL t) l := by omega
      refine Ev.step ?_
      simp only [spec_l7Place.step, toNat_cast]
      refine Ev.cnd (fun c => ?_) fun c => ?_
      · have c : plc (byL t) l < l.length := by have := of_decide_eq_true c; omega
        have h1 := plc_at c
        refine Ev.yes (inB_nat c) (Ev.bind (spec_l2Cmp.ev _ _ (hs _ (getD_mem c)) ht) (Ev.cnd (fun e => Ev.pure' ?_) fun e => Ev.yes ?_ (Ev.pure' ?_)))
        · rw [fndB, decide_eq_true c, Bool.true_and]; exact congrArg _ e.symm
        · have e := of_decide_eq_false e
          exact decide_eq_true (by simp only [byL] at h1; omega)
        · rw [fndB, decide_eq_true c, Bool.true_and]; exact congrArg _ e.symm
      · have c : plc (byL t) l = l.length := by have := of_decide_eq_false c; omega
        refine Ev.pure' ?_
        rw [fndB, c, decide_eq_false (Nat.lt_irrefl _)]; rfl
    | succ d ih =>
      intro i hi
      have c : i < l.length := by omega
      have h1 := plc_lt (f := byL t) (l := l) (i := i) (by omega)
      refine Ev.step ?_
      simp only [spec_l7Place.step, toNat_cast, i64_nat (show i ≤ 4611686018427387904 by omega)]
      simp only [byL] at h1
      exact Ev.yes (lt_yes c) (Ev.yes (inB_nat c) (Ev.bind (spec_l2Cmp.ev _ _ (hs _ (getD_mem c)) ht) (Ev.no (decide_eq_false (by omega)) (Ev.no (decide_eq_false (by omega)) (ih (i + 1) (by omega))))))
  refine Ev.step ?_
  simp only [spec_l7Place.step]
  exact loop (plc (byL t) l) 0 (by omega)
theorem spec_l6Cut.ev (l : List SME) (t : Int) (hl : l.length ≤ 1048576) : Ev (fun n => spec_l6Cut n l t t) (cutV t l) := by
  have loop : ∀ d i out, i + d = l.length → out.length ≤ i → Ev (fun n => goRec spec_l6Cut.step n (.p9 t t l (l.length : Int) (i : Int) out)) (out ++ cutV t (l.drop i)) := by
    intro d
    induction d with
    | zero =>
      intro i out hi ho
      obtain rfl : i = l.length := by omega
      refine Ev.step ?_
      simp only [spec_l6Cut.step]
      exact Ev.no lt_no (Ev.pure' (by simp [cutV]))
    | succ d ih =>
      intro i out hi ho
      have c : i < l.length := by omega
      refine Ev.step ?_
      simp only [spec_l6Cut.step, toNat_cast, i64_nat (show i ≤ 4611686018427387904 by omega)]
      rw [cutV, filter_next c]
      refine Ev.yes (lt_yes c) (Ev.yes (inB_nat c) (Ev.cnd (fun c1 => Ev.cnd (fun c2 => Ev.yes (room_ok (by simp; omega)) ?_) fun c2 => ?_) fun c1 => ?_))
      · rw [c1, c2, if_pos (show (true && true) = true from rfl)]; exact ih (i + 1) _ (by omega) (by simp; omega)
      · rw [c1, c2, if_neg (by simp)]; exact ih (i + 1) _ (by omega) (by omega)
      · rw [c1, if_neg (by simp)]; exact ih (i + 1) _ (by omega) (by omega)
  refine Ev.step ?_
  simp only [spec_l6Cut.step]
  exact loop l.length 0 [] (by omega) (by simp)
theorem spec_l6Merge.ev (l : List SME) (t v : Int) (hl : l.length ≤ 1048576) (hs : l.Pairwise (fun a b => a.1 < b.1)) (hf : fndB (byT t) l = false) : Ev (fun n => spec_l6Merge n l [(t, v, ())]) (insAt l (plc (byT t) l) (t, v, ())) := by
  have hp := plc_le (f := byT t) (l := l)
  have tail : ∀ d i (out : List SME), i + d = l.length → out.length ≤ i + 1 → Ev (fun n => goRec spec_l6Merge.step n (.p11 l [(t, v, ())] (i : Int) (1 : Int) out)) (out ++ l.drop i) := by
    intro d
    induction d with
    | zero =>
      intro i out hi ho
      obtain rfl : i = l.length := by omega
      refine Ev.step ?_
      simp only [spec_l6Merge.step]
      refine Ev.no lt_no (Ev.step ?_)
      simp only [spec_l6Merge.step]
      exact Ev.no rfl (Ev.pure' (by simp))
    | succ d ih =>
      intro i out hi ho
      have c : i < l.length := by omega
      refine Ev.step ?_
      simp only [spec_l6Merge.step]
      refine Ev.yes (lt_yes c) (Ev.step ?_)
      simp only [spec_l6Merge.step]
      refine Ev.yes rfl (Ev.yes rfl (Ev.step ?_))
      simp only [spec_l6Merge.step]
      refine Ev.yes rfl (Ev.no rfl (Ev.step ?_))
      simp only [spec_l6Merge.step, toNat_cast, i64_nat (show i ≤ 4611686018427387904 by omega)]
      have := ih (i + 1) (out ++ [l.getD i default]) (by omega) (by simp; omega)
      rw [drop_getD c, show out ++ l.getD i default :: l.drop (i + 1) = out ++ [l.getD i default] ++ l.drop (i + 1) by simp]
      exact Ev.no rfl (Ev.yes (inB_nat c) (Ev.yes (room_ok (by simp; omega)) this))
  have loop : ∀ d i, i + d = plc (byT t) l → Ev (fun n => goRec spec_l6Merge.step n (.p11 l [(t, v, ())] (i : Int) (0 : Int) (l.take i))) (insAt l (plc (byT t) l) (t, v, ())) := by
    intro d
    induction d with
    | zero =>
      intro i hi
      obtain rfl : i = plc (byT t) l := by omega
      have fin := tail (l.length - plc (byT t) l) (plc (byT t) l) (l.take (plc (byT t) l) ++ [(t, v, ())]) (by omega) (by simp; omega)
      have put : Ev (fun n => goRec spec_l6Merge.step n (.p19 l [(t, v, ())] ((plc (byT t) l : Nat) : Int) (0 : Int) false (l.take (plc (byT t) l)))) (insAt l (plc (byT t) l) (t, v, ())) := by
        refine Ev.step ?_
        simp only [spec_l6Merge.step]
        exact Ev.no rfl (Ev.yes rfl (Ev.yes (room_ok (by simp; omega)) fin))
      refine Ev.step ?_
      simp only [spec_l6Merge.step]
      refine Ev.cnd (fun c => ?_) fun c => ?_
      · have c' : plc (byT t) l < l.length := by have := of_decide_eq_true c; omega
        have h1 := plc_at c'
        simp only [fndB, decide_eq_true c', Bool.true_and, decide_eq_false_iff_not, byT, cmpN_zero] at hf
        simp only [byT, cmpN_lt] at h1
        refine Ev.step ?_
        simp only [spec_l6Merge.step, toNat_cast]
        refine Ev.yes rfl (Ev.no rfl (Ev.yes c (Ev.yes (inB_nat c') (Ev.yes rfl ?_))))
        rw [decide_eq_false (show ¬ (l.getD (plc (byT t) l) default).1 ≤ (List.getD [((t, v, ()) : SME)] (Int.toNat 0) default).1 from by show ¬ (_ ≤ t); omega)]
        exact put
      · refine Ev.step ?_
        simp only [spec_l6Merge.step]
        exact Ev.yes rfl (Ev.no rfl (Ev.no c put))
    | succ d ih =>
      intro i hi
      have c : i < l.length := by omega
      have h1 := plc_lt (f := byT t) (l := l) (i := i) (by omega)
      simp only [byT, cmpN_lt] at h1
      refine Ev.step ?_
      simp only [spec_l6Merge.step]
      refine Ev.yes (lt_yes c) (Ev.step ?_)
      simp only [spec_l6Merge.step, toNat_cast]
      refine Ev.yes rfl (Ev.no rfl (Ev.yes (lt_yes c) (Ev.yes (inB_nat c) (Ev.yes rfl ?_))))
      rw [decide_eq_true (show (l.getD i default).1 ≤ (List.getD [((t, v, ()) : SME)] (Int.toNat 0) default).1 from by show _ ≤ t; omega)]
      refine Ev.step ?_
      simp only [spec_l6Merge.step, toNat_cast]
      refine Ev.yes rfl (Ev.yes rfl (Ev.yes (inB_nat c) (Ev.yes rfl ?_)))
      rw [decide_eq_false (show ¬ (l.getD i default).1 = (List.getD [((t, v, ()) : SME)] (Int.toNat 0) default).1 from by show ¬ _ = t; omega)]
      refine Ev.step ?_
      simp only [spec_l6Merge.step, toNat_cast, i64_nat (show i ≤ 4611686018427387904 by omega)]
      have e : l.take (i + 1) = l.take i ++ [l.getD i default] := by
        rw [List.take_add_one, List.getD_eq_getElem?_getD, List.getElem?_eq_getElem c]; rfl
      have := ih (i + 1) (by omega)
      rw [e] at this
      exact Ev.no rfl (Ev.yes (inB_nat c) (Ev.yes (room_ok (by simp; omega)) this))
  refine Ev.step ?_
  simp only [spec_l6Merge.step]
  exact loop (plc (byT t) l) 0 (by omega)
theorem spec_l7Put.at (w lim nw : Int) (l : List SRE) (k : Nat) (ls : List LB) (t v : Int) (h : HdOK lim l) (hk : k < l.length) : Ev (fun n => goRec spec_l7Put.step n (.p31 (k : Int) w lim nw ls t v t v l)) (putS w lim nw l k (ls, t, v, ())) := by
  have hs := h.2.2.2 _ (getD_mem hk (d := default))
  refine Ev.step ?_
  simp only [spec_l7Put.step, toNat_cast, Nat.zero_add]
  refine Ev.yes (inB_nat hk) (Ev.bind (spec_l6Cut.ev _ t (by have := hs.2.1; omega)) ?_)
  rw [cutV_val hs.1, putS]
  by_cases c : fndB (byT t) (l.getD k default).2.1 = true
  · rw [if_pos c, if_pos c]
    refine Ev.yes rfl (Ev.yes rfl (Ev.cnd (fun e => Ev.pure' ?_) fun e => Ev.pure' ?_))
    · rw [if_pos]; exact of_decide_eq_true e
    · rw [if_neg]; exact of_decide_eq_false e
  · rw [if_neg c, if_neg c]
    refine Ev.no rfl (Ev.yes (inB_nat hk) (Ev.cnd (fun e => Ev.pure' ?_) fun e => Ev.yes (inB_nat hk) (Ev.bind (spec_l6Merge.ev _ t v (by have := hs.2.1; omega) hs.1 (by simpa using c)) (Ev.yes (inB_nat hk) (Ev.cnd (fun e2 => Ev.pure' ?_) fun e2 => Ev.pure' ?_)))))
    · have e := of_decide_eq_true e
      rw [if_pos (by omega)]
    · have e := of_decide_eq_false e
      have e2 := of_decide_eq_true e2
      rw [if_neg (by omega), show max nw (ls, t, v, ()).2.1 = t from by show max nw t = t; omega]
    · have e := of_decide_eq_false e
      have e2 := of_decide_eq_false e2
      rw [if_neg (by omega), show max nw (ls, t, v, ()).2.1 = nw from by show max nw t = nw; omega]
theorem spec_l7Put.ev (w lim nw : Int) (l : List SRE) (p : PTE) (h : HdOK lim l) (ht : Sm 1048576 (.sl false LU) p.1) : Ev (fun n => spec_l7Put n (w, lim, nw, l, ()) p) (putF w lim nw l p) := by
  obtain ⟨ls, t, v, _⟩ := p
  have hp := plc_le (f := byL ls) (l := l)
  obtain ⟨a1, a2, a3, a4⟩ := id h
  refine Ev.step ?_
  simp only [spec_l7Put.step]
  unfold putF
  refine Ev.bind (spec_l7Named.ev ls ht) (Ev.cnd (fun c => Ev.pure' ?_) fun c => ?_)
  · rw [Bool.not_eq_true'] at c; rw [if_pos c]
  rw [Bool.not_eq_false'] at c
  rw [if_neg (by rw [c]; simp)]
  refine Ev.bind (spec_l3Time.ev t) (Ev.cnd (fun c2 => Ev.pure' ?_) fun c2 => ?_)
  · rw [Bool.not_eq_true'] at c2; rw [if_pos c2]
  rw [Bool.not_eq_false'] at c2
  rw [if_neg (by show ¬ timeB t = false; rw [c2]; simp)]
  refine Ev.cnd (fun c3 => Ev.pure' ?_) fun c3 => ?_
  · rw [if_pos (of_decide_eq_true c3)]
  rw [if_neg (of_decide_eq_false c3)]
  refine Ev.bind (spec_l7Place.ev l ls (by omega) (fun s hs => (a4 s hs).2.2.2) ht) ?_
  by_cases c4 : fndB (byL ls) l = true
  · rw [if_pos c4]
    simp only [c4]
    refine Ev.no rfl ?_
    simp only [fndB, Bool.and_eq_true, decide_eq_true_eq] at c4
    exact spec_l7Put.at w lim nw l _ ls t v h c4.1
  · rw [if_neg c4]
    have c4 : fndB (byL ls) l = false := by simpa using c4
    simp only [c4]
    refine Ev.yes rfl (Ev.cnd (fun c5 => Ev.pure' ?_) fun c5 => ?_)
    · rw [if_pos (of_decide_eq_true c5)]
    · have c5 := of_decide_eq_false c5
      rw [if_neg c5]
      simp only [toNat_cast, Nat.zero_add, i64_nat (show plc (byL ls) l ≤ 4611686018427387904 by omega)]
      have hl1 : (l ++ [(([], [], ()) : SRE)]).length = l.length + 1 := by simp
      refine Ev.yes (room_ok (by simp; omega)) (Ev.yes (inC_nat (by rw [hl1]; omega) (Nat.le_refl _)) (Ev.yes (inC_nat (by rw [hl1]; omega) (Nat.le_refl _)) (Ev.yes ?_ (Ev.bind (spec_l3Copy.ev ls ht.1) (Ev.yes (inB_nat (by rw [shift_len hp]; omega)) (Ev.yes ?_ ?_))))))
      · simp only [Bool.and_eq_true, Nat.beq_eq, Nat.blt_eq, List.length_append, List.length_cons, List.length_nil]; exact ⟨⟨⟨trivial, by omega⟩, by omega⟩, by omega⟩
      · simp only [Nat.beq_eq]
      · rw [shift_ins hp]
        exact spec_l7Put.at w lim nw _ _ ls t v (insSer_ok h c ht c4 c5) (by rw [insAt_len hp]; omega)
theorem spec_PutAll.ev (h : HDE) (ps : List PTE) (hb : Sm 1048576 (.sl false SRU) h.2.2.2.1) (hp : Sm 1048576 (.sl false PTU) ps) : Ev (fun n => spec_PutAll n h ps) (putsV h ps) := by
  obtain ⟨w, lim, nw, l, _⟩ := h
  have hl : ps.length ≤ 1048576 := hp.1
  have loop : ps.length ≤ 500 → ∀ (y7 y8 y9 : Int) y12 d i nw l out, i + d = ps.length → out.length = i → HdOK lim l → Ev (fun n => goRec spec_PutAll.step n (.p19 ps (ps.length : Int) (i : Int) w lim nw y7 y8 y9 out l y12)) (putN w lim nw l out (ps.drop i)) := by
    intro h500 y7 y8 y9 y12 d
    induction d with
    | zero =>
      intro i nw l out hi ho hh
      obtain rfl : i = ps.length := by omega
      refine Ev.step ?_
      simp only [spec_PutAll.step]
      exact Ev.no lt_no (Ev.pure' (by rw [List.drop_length, putN]))
    | succ d ih =>
      intro i nw l out hi ho hh
      have c : i < ps.length := by omega
      have m := hp.2 _ (getD_mem c (d := default))
      refine Ev.step ?_
      simp only [spec_PutAll.step, toNat_cast, i64_nat (show i ≤ 4611686018427387904 by omega)]
      rw [drop_getD c, putN]
      have ok := putF_ok (w := w) (nw := nw) (p := ps.getD i default) hh m.1
      refine Ev.yes (lt_yes c) (Ev.yes (inB_nat c) (Ev.bind (spec_l7Put.ev w lim nw l (ps.getD i default) hh m.1) (Ev.yes (room_ok (by simp; omega)) ?_)))
      have := ih (i + 1) (putF w lim nw l (ps.getD i default)).2.2.2.1 (putF w lim nw l (ps.getD i default)).2.2.2.2.1 (out ++ [(putF w lim nw l (ps.getD i default)).1]) (by omega) (by simp; omega) ok.2.2
      rw [ok.1, ok.2.1]
      exact this
  have p4 : ∀ b, b = !(headB (w, lim, nw, l, ()) && decide (ps.length ≤ 500)) → ∀ (y7 y8 y9 : Int) y12, Ev (fun n => goRec spec_PutAll.step n (.p4 ps b w lim nw l y7 y8 y9 y12)) (putsV (w, lim, nw, l, ()) ps) := by
    rintro b rfl y7 y8 y9 y12
    refine Ev.step ?_
    simp only [spec_PutAll.step]
    refine Ev.cnd (fun c => Ev.pure' ?_) fun c => ?_
    · rw [putsV, if_neg]
      rintro ⟨h1, h2⟩
      rw [h1, decide_eq_true h2] at c; cases c
    · rw [Bool.not_eq_false', Bool.and_eq_true, decide_eq_true_eq] at c
      rw [putsV, if_pos c]
      have hh := head_ok c.1 hb
      refine Ev.bind (spec_l7Copy.ev l hb) ?_
      exact loop c.2 y7 y8 y9 y12 ps.length 0 nw l [] (by omega) rfl hh
  refine Ev.step ?_
  simp only [spec_PutAll.step]
  refine Ev.bind (spec_GoodHead.ev (w, lim, nw, l, ()) hb) (Ev.cnd (fun c => p4 _ ?_ _ _ _ _) fun c => p4 _ ?_ _ _ _ _)
  · rw [Bool.not_eq_true'] at c; rw [c]; rfl
  · rw [Bool.not_eq_false'] at c; rw [c, Bool.true_and]
    by_cases e : ps.length ≤ 500
    · rw [decide_eq_true e, decide_eq_false (by omega)]; rfl
    · rw [decide_eq_false e, decide_eq_true (by omega)]; rfl
theorem impl_isTime.ev (b : Int) : Ev (fun n => impl_isTime n b) (timeB b) := by
  refine Ev.step ?_
  simp only [impl_isTime.step]
  exact Ev.cnd (fun h => Ev.pure' (by simp [timeB, h])) fun h => Ev.pure' (by simp [timeB, h])
theorem impl_goodWindow.ev (w lim : Int) : Ev (fun n => impl_goodWindow n w lim) (timeB w && (decide (0 ≤ lim) && decide (lim ≤ 200))) := by
  refine Ev.step ?_
  simp only [impl_goodWindow.step]
  refine Ev.bind (impl_isTime.ev w) (Ev.cnd (fun c => Ev.cnd (fun c2 => Ev.pure' ?_) fun c2 => Ev.pure' ?_) fun c => Ev.pure' ?_)
  · rw [c, c2]; rfl
  · rw [c, c2]; rfl
  · rw [c]; rfl
theorem impl_digitByte.ev (b : Int) : Ev (fun n => impl_digitByte n b) (digitB b) := by
  refine Ev.step ?_
  simp only [impl_digitByte.step]
  exact Ev.cnd (fun h => Ev.pure' (by simp [digitB, h])) fun h => Ev.pure' (by simp [digitB, h])
theorem impl_letterByte.ev (b : Int) : Ev (fun n => impl_letterByte n b) (letterB b) := by
  refine Ev.step ?_
  simp only [impl_letterByte.step]
  refine Ev.cnd (fun h => Ev.cnd (fun h2 => Ev.pure' (by simp [letterB, h, h2])) fun h2 => Ev.cnd (fun h3 => Ev.pure' (by simp [letterB, h, h2, h3])) fun h3 => Ev.pure' (by simp [letterB, h, h2, h3])) fun h => Ev.cnd (fun h3 => Ev.pure' (by simp [letterB, h, h3])) fun h3 => Ev.pure' (by simp [letterB, h, h3])
theorem impl_wordByte.ev (b : Int) : Ev (fun n => impl_wordByte n b) (wordB b) := by
  refine Ev.step ?_
  simp only [impl_wordByte.step]
  refine Ev.bind (impl_letterByte.ev b) (Ev.cnd (fun h => Ev.pure' (by simp [wordB, h])) fun h => ?_)
  refine Ev.bind (impl_digitByte.ev b) (Ev.cnd (fun h2 => Ev.pure' (by simp [wordB, h2])) fun h2 => Ev.pure' (by simp [wordB, h, h2]))
theorem impl_isName.ev (s : ByteArray) (hs : s.size ≤ 1048576) : Ev (fun n => impl_isName n s) (nameB s) := by
  have go : Ev (fun n => goRec impl_isName.step n (impl_isName.Pt.p15 s (s.size : Int) 0)) (allB wordB s) := by
    refine Ev.allN (pt := fun i : Nat => impl_isName.Pt.p15 s (s.size : Int) (i : Int)) (fun i hi => ⟨fun hp v hv => ?_, fun hp => ?_⟩) ?_
    · refine Ev.step ?_
      simp only [impl_isName.step, i64_nat (show i ≤ 4611686018427387904 by omega)]
      exact Ev.yes (lt_yes hi) (Ev.yes (inB_nat hi) (Ev.bind (impl_wordByte.ev _) (Ev.no (by simp [hp]) hv)))
    · refine Ev.step ?_
      simp only [impl_isName.step]
      exact Ev.yes (lt_yes hi) (Ev.yes (inB_nat hi) (Ev.bind (impl_wordByte.ev _) (Ev.yes (by simp [hp]) Ev.pure)))
    · refine Ev.step ?_
      simp only [impl_isName.step]
      exact Ev.no lt_no Ev.pure
  refine Ev.step ?_
  simp only [impl_isName.step]
  have bad : nameB s = false → Ev (fun n => goRec impl_isName.step n (impl_isName.Pt.p4 s true)) (nameB s) := fun h => by
    refine Ev.step ?_
    simp only [impl_isName.step]
    exact Ev.yes rfl (Ev.pure' h.symm)
  refine Ev.cnd (fun h => bad ?_) fun h => Ev.cnd (fun h2 => bad ?_) fun h2 => Ev.yes ?_ (Ev.bind (impl_digitByte.ev _) (Ev.step ?_))
  · have : ¬ 1 ≤ s.size := by have := of_decide_eq_true (seq_empty.symm.trans h); omega
    simp [nameB, this]
  · have : ¬ s.size ≤ 40 := by simp at h2; omega
    simp [nameB, this]
  · exact inB_zero (by have := of_decide_eq_false (seq_empty.symm.trans h); omega)
  · have h1 : 1 ≤ s.size := by have := of_decide_eq_false (seq_empty.symm.trans h); omega
    have h3 : s.size ≤ 40 := by simp at h2; omega
    simp only [impl_isName.step]
    refine Ev.cnd (fun h4 => Ev.pure' (by simp [nameB, h4])) fun h4 => Ev.of_eq go ?_
    simp [nameB, h1, h3, h4]
theorem impl_printed.ev (s : ByteArray) (m : Nat) (hs : s.size ≤ 1048576) (hm : m ≤ 1000000) : Ev (fun n => impl_printed n s (m : Int)) (decide (s.size ≤ m) && printB s) := by
  refine Ev.step ?_
  simp only [impl_printed.step]
  refine Ev.cnd (fun h => Ev.pure' (by simp at h; simp; omega)) fun h => ?_
  have h2 : s.size ≤ m := by simp at h; omega
  simp only [h2, decide_true, Bool.true_and]
  refine Ev.allN (pt := fun i : Nat => impl_printed.Pt.p15 s (s.size : Int) (i : Int)) (fun i hi => ⟨fun hp v hv => ?_, fun hp => ?_⟩) ?_
  · refine Ev.step ?_
    simp only [Bool.and_eq_true, decide_eq_true_eq] at hp
    simp only [impl_printed.step, i64_nat (show i ≤ 4611686018427387904 by omega)]
    exact Ev.yes (lt_yes hi) (Ev.yes (inB_nat hi) (Ev.no (by simp; omega) (Ev.yes (inB_nat hi) (Ev.no (by simp; omega) hv))))
  · refine Ev.step ?_
    simp only [impl_printed.step]
    refine Ev.yes (lt_yes hi) (Ev.yes (inB_nat hi) (Ev.cnd (fun _ => Ev.pure) fun h => Ev.yes (inB_nat hi) (Ev.yes ?_ Ev.pure)))
    simp at hp h ⊢; omega
  · refine Ev.step ?_
    simp only [impl_printed.step]
    exact Ev.no lt_no Ev.pure
theorem impl_isValue.ev (s : ByteArray) (hs : s.size ≤ 1048576) : Ev (fun n => impl_isValue n s) (valueB s) := by
  refine Ev.step ?_
  simp only [impl_isValue.step]
  refine Ev.cnd (fun e => Ev.bind (impl_printed.ev s 100 hs (by omega)) (Ev.pure' ?_)) fun e => Ev.pure' ?_
  · rw [seq_empty] at e
    have a1 : 1 ≤ s.size := by have := of_decide_eq_false ((Bool.not_eq_true' _).mp e); omega
    simp [valueB, a1]
  · rw [seq_empty] at e
    have a1 : ¬ 1 ≤ s.size := by have := of_decide_eq_true ((Bool.not_eq_false' _).mp e); omega
    simp [valueB, a1]
theorem impl_GoodLabels.ev (l : List LB) (h : Sm 1048576 (.sl false LU) l) : Ev (fun n => impl_GoodLabels n l) (labelsB l) := by
  have hl : l.length ≤ 1048576 := h.1
  refine Ev.step ?_
  simp only [impl_GoodLabels.step]
  refine Ev.cnd (fun c => Ev.pure' ?_) fun c => ?_
  · have : ¬ l.length ≤ 20 := by simp at c; omega
    simp [labelsB, this]
  have h50 : l.length ≤ 20 := by simp at c; omega
  simp only [labelsB, h50, decide_true, Bool.true_and]
  have go : ∀ i v, i < l.length → (labB l i = true → Ev (fun n => goRec impl_GoodLabels.step n (impl_GoodLabels.Pt.p15 l l (l.length : Int) ((i + 1 : Nat) : Int))) v) → (labB l i = false → v = false) →
      Ev (fun n => goRec impl_GoodLabels.step n (impl_GoodLabels.Pt.p15 l l (l.length : Int) (i : Int))) v := by
    intro i v hi hv hv2
    have hx := h.2 _ (getD_mem (d := default) hi)
    have hs := (labB.eq_1 l i).symm
    have h26 : ∀ b, (b = !labB l i) → Ev (fun n => goRec impl_GoodLabels.step n (impl_GoodLabels.Pt.p26 l l (l.length : Int) (i : Int) b)) v := by
      rintro b rfl
      refine Ev.step ?_
      simp only [impl_GoodLabels.step, i64_nat (show i ≤ 4611686018427387904 by omega)]
      exact Ev.cnd (fun e => Ev.pure' (hv2 (by simpa using e)).symm) fun e => hv (by simpa using e)
    refine Ev.step ?_
    simp only [impl_GoodLabels.step, toNat_cast]
    generalize hxe : l.getD i default = x at hx hs
    have bad : labB l i = false → Ev (fun n => goRec impl_GoodLabels.step n (impl_GoodLabels.Pt.p26 l l (l.length : Int) (i : Int) true)) v := fun e => h26 _ (by rw [e]; rfl)
    refine Ev.yes (lt_yes hi) (Ev.yes (inB_nat hi) ?_)
    refine Ev.bind (impl_isName.ev _ hx.1) (Ev.cnd (fun e => bad (by rw [← hs]; simp at e; simp [e])) fun e1 => ?_)
    refine Ev.bind (impl_isValue.ev _ hx.2.1) (Ev.cnd (fun e => bad (by rw [← hs]; simp at e; simp [e])) fun e2 => ?_)
    simp at e1 e2
    cases i with
    | zero => exact Ev.no (by simp) (h26 _ (by rw [← hs]; simp [e1, e2]))
    | succ k =>
      refine Ev.yes (by simp) ?_
      simp only [i64_pred (show k ≤ 4611686018427387904 by omega), toNat_cast]
      refine Ev.yes (inB_nat (by omega)) (h26 _ ?_)
      rw [← hs, slt_cmp]; simp [e1, e2]
  refine Ev.allN (pt := fun i : Nat => impl_GoodLabels.Pt.p15 l l (l.length : Int) (i : Int)) (fun i hi => ⟨fun hp v hv => go i v hi (fun _ => hv) (fun h => by rw [hp] at h; cases h), fun hp => go i false hi (fun h => by rw [hp] at h; cases h) (fun _ => rfl)⟩) ?_
  refine Ev.step ?_
  simp only [impl_GoodLabels.step]
  exact Ev.no lt_no Ev.pure
theorem impl_valueOf.loop (l : List LB) (k : ByteArray) (hl : l.length ≤ 1048576) : ∀ d i, i + d = l.length → Ev (fun n => goRec impl_valueOf.step n (impl_valueOf.Pt.p7 k l (l.length : Int) (i : Int))) (valL (l.drop i) k) := by
  intro d
  induction d with
  | zero =>
    intro i h
    obtain rfl : i = l.length := by omega
    refine Ev.step ?_
    simp only [impl_valueOf.step]
    exact Ev.no lt_no (Ev.pure' (by rw [List.drop_length]; rfl))
  | succ d ih =>
    intro i h
    have hi : i < l.length := by omega
    refine Ev.step ?_
    simp only [impl_valueOf.step, toNat_cast, i64_nat (show i ≤ 4611686018427387904 by omega)]
    rw [drop_getD hi]
    refine Ev.yes (lt_yes hi) (Ev.yes (inB_nat hi) (Ev.cnd (fun c => Ev.pure' ?_) fun c => Ev.of_eq (ih (i + 1) (by omega)) ?_))
    · simp only [valL, c, cond_true]
    · simp only [valL, c, cond_false]
theorem impl_valueOf.ev (l : List LB) (k : ByteArray) (hl : l.length ≤ 1048576) : Ev (fun n => impl_valueOf n l k) (valL l k) := by
  refine Ev.step ?_
  simp only [impl_valueOf.step]
  exact impl_valueOf.loop l k hl l.length 0 (by omega)
theorem impl_GoodSamples.ev (l : List SME) (hl : l.length ≤ 1048576) : Ev (fun n => impl_GoodSamples n l) (samplesB l) := by
  refine Ev.step ?_
  simp only [impl_GoodSamples.step]
  refine Ev.cnd (fun c => Ev.pure' ?_) fun c => ?_
  · have c : ¬ l.length ≤ 2000 := by simp only [decide_eq_true_eq] at c; omega
    rw [samplesB, decide_eq_false c, Bool.and_false]
  have c : l.length ≤ 2000 := by simp only [decide_eq_false_iff_not] at c; omega
  rw [samplesB, decide_eq_true c]
  refine Ev.allK (pt := fun i : Nat => impl_GoodSamples.Pt.p15 l l (l.length : Int) (i : Int)) (fun i hi => ?_) (fun _ => ?_)
  · have fin : ∀ b, b = !(timeB (l.getD i default).1 && !(decide (0 < i) && decide ((l.getD i default).1 ≤ (l.getD (i - 1) default).1))) → ((timeB (l.getD i default).1 && !(decide (0 < i) && decide ((l.getD i default).1 ≤ (l.getD (i - 1) default).1))) = true → ∀ v, Ev (fun m => goRec impl_GoodSamples.step m (impl_GoodSamples.Pt.p15 l l (l.length : Int) ((i + 1 : Nat) : Int))) v → Ev (fun m => goRec impl_GoodSamples.step m (impl_GoodSamples.Pt.p26 l l (l.length : Int) (i : Int) b)) v) ∧
        ((timeB (l.getD i default).1 && !(decide (0 < i) && decide ((l.getD i default).1 ≤ (l.getD (i - 1) default).1))) = false → Ev (fun m => goRec impl_GoodSamples.step m (impl_GoodSamples.Pt.p26 l l (l.length : Int) (i : Int) b)) false) := by
      rintro b rfl
      refine ⟨fun h v hv => ?_, fun h => ?_⟩
      · refine Ev.step ?_
        simp only [impl_GoodSamples.step, i64_nat (show i ≤ 4611686018427387904 by omega)]
        exact Ev.no (by rw [h]; rfl) hv
      · refine Ev.step ?_
        simp only [impl_GoodSamples.step]
        exact Ev.yes (by rw [h]; rfl) Ev.pure
    have run : ∀ v, (∀ b, b = !(timeB (l.getD i default).1 && !(decide (0 < i) && decide ((l.getD i default).1 ≤ (l.getD (i - 1) default).1))) → Ev (fun m => goRec impl_GoodSamples.step m (impl_GoodSamples.Pt.p26 l l (l.length : Int) (i : Int) b)) v) → Ev (fun m => goRec impl_GoodSamples.step m (impl_GoodSamples.Pt.p15 l l (l.length : Int) (i : Int))) v := by
      intro v hv
      refine Ev.step ?_
      simp only [impl_GoodSamples.step, toNat_cast]
      refine Ev.yes (lt_yes hi) (Ev.yes (inB_nat hi) (Ev.bind (impl_isTime.ev _) (Ev.cnd (fun c => hv _ ?_) fun c => Ev.cnd (fun c2 => ?_) fun c2 => hv _ ?_)))
      · rw [Bool.not_eq_true'] at c; rw [c]; rfl
      · have c2 : 0 < i := by simp only [decide_eq_true_eq] at c2; omega
        rw [Bool.not_eq_false'] at c
        rw [pred_i64 (by omega) (by omega), toNat_cast]
        refine Ev.yes (inB_nat (by omega)) (hv _ ?_)
        rw [c, decide_eq_true c2]; simp
      · have c2 : ¬ 0 < i := by simp only [decide_eq_false_iff_not] at c2; omega
        rw [Bool.not_eq_false'] at c
        rw [c, decide_eq_false c2]; rfl
    exact ⟨fun h v hv => run v fun b hb => (fin b hb).1 h v hv, fun h => run false fun b hb => (fin b hb).2 h⟩
  · refine Ev.step ?_
    simp only [impl_GoodSamples.step]
    exact Ev.no lt_no Ev.pure
theorem cmp_isNaN_string.ev (a : ByteArray) : Ev (fun n => cmp_isNaN_string n a) false := by
  refine Ev.step ?_
  simp only [cmp_isNaN_string.step]
  exact Ev.pure' (by simp [seq])
theorem cmp_Compare_string.ev (a b : ByteArray) : Ev (fun n => cmp_Compare_string n a b) (cmpT a b) := by
  have h := @cmpT_three a b
  refine Ev.step ?_
  simp only [cmp_Compare_string.step]
  refine Ev.bind (cmp_isNaN_string.ev a) (Ev.bind (cmp_isNaN_string.ev b) (Ev.no rfl (Ev.no rfl (Ev.cnd (fun c => Ev.pure' ?_) fun c => Ev.cnd (fun c2 => Ev.pure' ?_) fun c2 => Ev.pure' ?_))))
  · rw [if_pos c] at h; exact h
  · rw [if_neg (by simp [c]), if_pos c2] at h; exact h
  · rw [if_neg (by simp [c]), if_neg (by simp [c2])] at h; exact h
theorem cmp_Or_int.ev (x y : Int) : Ev (fun n => cmp_Or_int n [x, y]) (if x ≠ 0 then x else y) := by
  refine Ev.step ?_
  simp only [cmp_Or_int.step]
  refine Ev.step ?_
  simp only [cmp_Or_int.step]
  refine Ev.yes rfl (Ev.yes rfl (Ev.cnd (fun c => Ev.pure' ?_) fun c => ?_))
  · have c : ¬ x = 0 := of_decide_eq_false (by rw [Bool.not_eq_true'] at c; exact c)
    rw [if_pos c]; rfl
  · have c : x = 0 := of_decide_eq_true (by rw [Bool.not_eq_false'] at c; exact c)
    rw [if_neg (by simpa using c)]
    refine Ev.step ?_
    simp only [cmp_Or_int.step]
    refine Ev.yes rfl (Ev.yes rfl (Ev.cnd (fun c => Ev.pure' rfl) fun c => ?_))
    have c : y = 0 := of_decide_eq_true (by rw [Bool.not_eq_false'] at c; exact c)
    refine Ev.step ?_
    simp only [cmp_Or_int.step]
    exact Ev.no rfl (Ev.pure' c.symm)
theorem cmp_isNaN_int.ev (a : Int) : Ev (fun n => cmp_isNaN_int n a) false := by
  refine Ev.step ?_
  simp only [cmp_isNaN_int.step]
  exact Ev.pure' (by simp)
theorem cmp_Compare_int.ev (a b : Int) : Ev (fun n => cmp_Compare_int n a b) (cmpN a b) := by
  refine Ev.step ?_
  simp only [cmp_Compare_int.step]
  refine Ev.bind (cmp_isNaN_int.ev a) (Ev.bind (cmp_isNaN_int.ev b) (Ev.no rfl (Ev.no rfl (Ev.cnd (fun c => Ev.pure' ?_) fun c => Ev.cnd (fun c2 => Ev.pure' ?_) fun c2 => Ev.pure' ?_))))
  · rw [cmpN, if_pos (of_decide_eq_true c)]
  · rw [cmpN, if_neg (of_decide_eq_false c), if_pos (of_decide_eq_true c2)]
  · rw [cmpN, if_neg (of_decide_eq_false c), if_neg (of_decide_eq_false c2)]
theorem impl_compare.ev (a b : List LB) (la : a.length ≤ 1048576) (lb : b.length ≤ 1048576) : Ev (fun n => impl_compare n a b) (cmpLs a b) := by
  have loop : ∀ d i, i + d = min a.length b.length → Ev (fun n => goRec impl_compare.step n (impl_compare.Pt.p7 a b ((min a.length b.length : Nat) : Int) (i : Int))) (cmpLs (a.drop i) (b.drop i)) := by
    intro d
    induction d with
    | zero =>
      intro i h
      refine Ev.step ?_
      simp only [impl_compare.step]
      rw [cmpLs_end (by omega) (by omega) (by omega)]
      exact Ev.no (decide_eq_false (by omega)) (Ev.bind (cmp_Compare_int.ev _ _) Ev.pure)
    | succ d ih =>
      intro i h
      have c1 : i < a.length := by omega
      have c2 : i < b.length := by omega
      refine Ev.step ?_
      simp only [impl_compare.step, toNat_cast, i64_nat (show i ≤ 4611686018427387904 by omega)]
      rw [cmpLs_next c1 c2]
      refine Ev.yes (decide_eq_true (by omega)) (Ev.yes (inB_nat c1) (Ev.yes (inB_nat c2) (Ev.bind (cmp_Compare_string.ev _ _) (Ev.yes (inB_nat c1) (Ev.yes (inB_nat c2) (Ev.bind (cmp_Compare_string.ev _ _) (Ev.bind (cmp_Or_int.ev _ _) ?_)))))))
      by_cases e : cmpT (a.getD i default).1 (b.getD i default).1 = 0
      · rw [if_neg (by simpa using e), if_neg (by simpa using e)]
        by_cases e2 : cmpT (a.getD i default).2.1 (b.getD i default).2.1 = 0
        · rw [if_neg (by simpa using e2)]
          exact Ev.no (by rw [decide_eq_true e2]; rfl) (ih (i + 1) (by omega))
        · rw [if_pos e2]
          exact Ev.yes (by rw [decide_eq_false e2]; rfl) Ev.pure
      · rw [if_pos e, if_pos e]
        exact Ev.yes (by rw [decide_eq_false e]; rfl) Ev.pure
  refine Ev.step ?_
  simp only [impl_compare.step]
  rw [show min (a.length : Int) (b.length : Int) = ((min a.length b.length : Nat) : Int) by omega]
  exact loop (min a.length b.length) 0 (by omega)
theorem impl_GoodSeries.ev (l : List SRE) (h : Sm 1048576 (.sl false SRU) l) : Ev (fun n => impl_GoodSeries n l) (seriesB l) := by
  have hl : l.length ≤ 1048576 := h.1
  refine Ev.step ?_
  simp only [impl_GoodSeries.step]
  refine Ev.cnd (fun c => Ev.pure' ?_) fun c => ?_
  · have c : ¬ l.length ≤ 200 := by have := of_decide_eq_true c; omega
    rw [seriesB, decide_eq_false c]; rfl
  have c : l.length ≤ 200 := by have := of_decide_eq_false c; omega
  rw [seriesB, decide_eq_true c, Bool.true_and, ← Bool.and_true ((List.range l.length).all (serB l))]
  refine Ev.allK (pt := fun i : Nat => impl_GoodSeries.Pt.p15 l l (l.length : Int) (i : Int)) (fun i hi => ?_) (fun _ => ?_)
  · have m := h.2 _ (getD_mem hi (d := default))
    have fin : ∀ b, b = !(serB l i) → (serB l i = true → ∀ v, Ev (fun m => goRec impl_GoodSeries.step m (impl_GoodSeries.Pt.p15 l l (l.length : Int) ((i + 1 : Nat) : Int))) v → Ev (fun m => goRec impl_GoodSeries.step m (impl_GoodSeries.Pt.p26 l l (l.length : Int) (i : Int) b)) v) ∧
        (serB l i = false → Ev (fun m => goRec impl_GoodSeries.step m (impl_GoodSeries.Pt.p26 l l (l.length : Int) (i : Int) b)) false) := by
      rintro b rfl
      refine ⟨fun h v hv => ?_, fun h => ?_⟩
      · refine Ev.step ?_
        simp only [impl_GoodSeries.step, i64_nat (show i ≤ 4611686018427387904 by omega)]
        exact Ev.no (by rw [h]; rfl) hv
      · refine Ev.step ?_
        simp only [impl_GoodSeries.step]
        exact Ev.yes (by rw [h]; rfl) Ev.pure
    have run : ∀ v, (∀ b, b = !(serB l i) → Ev (fun m => goRec impl_GoodSeries.step m (impl_GoodSeries.Pt.p26 l l (l.length : Int) (i : Int) b)) v) → Ev (fun m => goRec impl_GoodSeries.step m (impl_GoodSeries.Pt.p15 l l (l.length : Int) (i : Int))) v := by
      intro v hv
      refine Ev.step ?_
      simp only [impl_GoodSeries.step, toNat_cast]
      refine Ev.yes (lt_yes hi) (Ev.yes (inB_nat hi) (Ev.bind (impl_GoodLabels.ev _ m.1) (Ev.cnd (fun c => hv _ ?_) fun c => Ev.bind (impl_valueOf.ev _ nameK m.1.1) (Ev.cnd (fun cv => hv _ ?_) fun cv => Ev.cnd (fun c3 => hv _ ?_) fun c3 => Ev.bind (impl_GoodSamples.ev _ m.2.1.1) (Ev.cnd (fun c2 => hv _ ?_) fun c2 => Ev.cnd (fun c4 => ?_) fun c4 => hv _ ?_)))))
      · rw [Bool.not_eq_true'] at c; rw [serB, namedB, c]; rfl
      · rw [serB, namedB, cv]; simp
      · have c3 : (l.getD i default).2.1.length = 0 := eq_yes (k := 0) c3
        rw [serB, c3]; simp
      · rw [Bool.not_eq_true'] at c2; rw [serB, c2]; simp
      · rw [Bool.not_eq_false'] at c c2
        have c3 : ¬ (l.getD i default).2.1.length = 0 := eq_no (k := 0) c3
        have c4 : 0 < i := by have := of_decide_eq_true c4; omega
        have mp := h.2 _ (getD_mem (show i - 1 < l.length by omega) (d := default))
        rw [pred_i64 (by omega) (by omega), toNat_cast]
        refine Ev.yes (inB_nat (by omega)) (Ev.bind (impl_compare.ev _ _ mp.1.1 m.1.1) (hv _ ?_))
        rw [serB, namedB, c, cv, c2, decide_eq_true (show (l.getD i default).2.1.length ≠ 0 from c3), decide_eq_false (show ¬ i = 0 by omega)]
        simp only [Bool.true_and, Bool.false_or, Bool.not_false]
        by_cases e : cmpLs (l.getD (i - 1) default).1 (l.getD i default).1 < 0
        · rw [decide_eq_true e, decide_eq_false (by omega)]; rfl
        · rw [decide_eq_false e, decide_eq_true (by omega)]; rfl
      · rw [Bool.not_eq_false'] at c c2
        have c3 : ¬ (l.getD i default).2.1.length = 0 := eq_no (k := 0) c3
        have c4 : i = 0 := by have := of_decide_eq_false c4; omega
        rw [serB, namedB, c, cv, c2, decide_eq_true (show (l.getD i default).2.1.length ≠ 0 from c3), decide_eq_true c4]; rfl
    exact ⟨fun h v hv => run v fun b hb => (fin b hb).1 h v hv, fun h => run false fun b hb => (fin b hb).2 h⟩
  · refine Ev.step ?_
    simp only [impl_GoodSeries.step]
    exact Ev.no lt_no Ev.pure
theorem impl_GoodHead.ev (h : HDE) (hb : Sm 1048576 (.sl false SRU) h.2.2.2.1) : Ev (fun n => impl_GoodHead n h) (headB h) := by
  obtain ⟨w, lim, nw, l, _⟩ := h
  have hl : l.length ≤ 1048576 := hb.1
  refine Ev.step ?_
  simp only [impl_GoodHead.step]
  have bad : headB (w, lim, nw, l, ()) = false → Ev (fun n => goRec impl_GoodHead.step n (.p4 true w lim nw l)) (headB (w, lim, nw, l, ())) := fun e => by
    refine Ev.step ?_
    simp only [impl_GoodHead.step]
    exact Ev.yes rfl (Ev.pure' e.symm)
  refine Ev.bind (impl_goodWindow.ev w lim) (Ev.cnd (fun c => bad ?_) fun c1 => Ev.bind (impl_GoodSeries.ev l hb) (Ev.cnd (fun c => bad ?_) fun c4 => Ev.cnd (fun c => bad ?_) fun c5 => ?_))
  · rw [Bool.not_eq_true'] at c; simp only [headB]; rw [← Bool.and_assoc] at c; rw [c]; simp
  · rw [Bool.not_eq_true'] at c; simp [headB, c]
  · simp only [headB, c]; simp
  rw [Bool.not_eq_false'] at c1 c4
  have hh : headB (w, lim, nw, l, ()) = ((decide (nw = -1) || timeB nw) && (List.range l.length).all (fun i => lastB nw (l.getD i default))) := by
    rw [← Bool.and_assoc] at c1
    simp only [headB, c1, c4, c5]; simp
  have rest : ∀ b, b = !(decide (nw = -1) || timeB nw) → Ev (fun n => goRec impl_GoodHead.step n (.p4 b w lim nw l)) (headB (w, lim, nw, l, ())) := by
    intro b hb'
    refine Ev.step ?_
    simp only [impl_GoodHead.step]
    have hb2 : (decide (nw = -1) || timeB nw) = !b := by rw [hb', Bool.not_not]
    refine Ev.cnd (fun c => Ev.pure' (by rw [hh, hb2, c]; rfl)) fun c7 => ?_
    rw [hh, hb2, c7, Bool.not_false, Bool.true_and, ← Bool.and_true ((List.range l.length).all _)]
    refine Ev.allK (pt := fun i : Nat => impl_GoodHead.Pt.p15 l (l.length : Int) (i : Int) w lim nw l) (fun i hi => ?_) (fun _ => ?_)
    · have h2 := seriesB_at c4 hi
      have h3 : (l.getD i default).2.1.length ≠ 0 := by
        have c4 := c4
        simp only [seriesB, Bool.and_eq_true, List.all_eq_true, List.mem_range] at c4
        have h1 := c4.2 i hi
        simp only [serB, Bool.and_eq_true, decide_eq_true_eq] at h1
        exact h1.1.2
      have e : IntKind.wrap .i64 (((l.getD i default).2.1.length : Int) - 1) = (((l.getD i default).2.1.length - 1 : Nat) : Int) := by rw [i64_ok] <;> omega
      refine ⟨fun h v hv => ?_, fun h => ?_⟩
      · refine Ev.step ?_
        simp only [impl_GoodHead.step, toNat_cast, i64_nat (show i ≤ 4611686018427387904 by omega), e]
        refine Ev.yes (lt_yes hi) (Ev.yes (inB_nat hi) (Ev.yes (inB_nat (by omega)) (Ev.no ?_ hv)))
        rw [lastB, Bool.not_eq_true'] at h; exact h
      · refine Ev.step ?_
        simp only [impl_GoodHead.step, toNat_cast, e]
        refine Ev.yes (lt_yes hi) (Ev.yes (inB_nat hi) (Ev.yes (inB_nat (by omega)) (Ev.yes ?_ Ev.pure)))
        rw [lastB, Bool.not_eq_false'] at h; exact h
    · refine Ev.step ?_
      simp only [impl_GoodHead.step]
      exact Ev.no lt_no Ev.pure
  refine Ev.cnd (fun c => Ev.bind (impl_isTime.ev nw) (rest _ ?_)) fun c => rest _ ?_
  · rw [Bool.not_eq_true'] at c; rw [c]; simp
  · rw [Bool.not_eq_false'] at c; rw [c]; simp
theorem slices_Clone_Label.ev (l : List LB) (hl : l.length ≤ 1048576) (h : l ≠ []) : Ev (fun n => slices_Clone_Label n l) l := by
  refine Ev.step ?_
  simp only [slices_Clone_Label.step]
  exact Ev.no (by cases l with | nil => exact absurd rfl h | cons => rfl) (Ev.yes (room_ok (by simp; omega)) (Ev.pure' (List.nil_append _)))
theorem slices_Clone_Sample.ev (l : List SME) (hl : l.length ≤ 1048576) (h : l.length ≠ 0) : Ev (fun n => slices_Clone_Sample n l) l := by
  refine Ev.step ?_
  simp only [slices_Clone_Sample.step]
  exact Ev.no (by cases l with | nil => exact absurd rfl h | cons _ _ => rfl) (Ev.yes (room_ok (by simp; omega)) Ev.pure)
theorem impl_ownSeries.ev (l : List SRE) (hb : Sm 1048576 (.sl false SRU) l) (hs : seriesB l = true) : Ev (fun n => impl_ownSeries n l) l := by
  have hl : l.length ≤ 1048576 := hb.1
  have loop : ∀ d i, i + d = l.length → Ev (fun n => goRec impl_ownSeries.step n (.p9 l (l.length : Int) (i : Int) (l.take i))) l := by
    intro d
    induction d with
    | zero =>
      intro i hi
      obtain rfl : i = l.length := by omega
      refine Ev.step ?_
      simp only [impl_ownSeries.step]
      exact Ev.no lt_no (Ev.pure' (List.take_length))
    | succ d ih =>
      intro i hi
      have hi' : i < l.length := by omega
      have m := hb.2 _ (getD_mem hi' (d := default))
      have h2 := seriesB_at hs hi'
      have h3 : (l.getD i default).2.1.length ≠ 0 := by
        have c4 := hs
        simp only [seriesB, Bool.and_eq_true, List.all_eq_true, List.mem_range] at c4
        have h1 := c4.2 i hi'
        simp only [serB, Bool.and_eq_true, decide_eq_true_eq] at h1
        exact h1.1.2
      refine Ev.step ?_
      simp only [impl_ownSeries.step, toNat_cast, i64_nat (show i ≤ 4611686018427387904 by omega)]
      refine Ev.yes (lt_yes hi') (Ev.yes (inB_nat hi') (Ev.bind (slices_Clone_Label.ev _ m.1.1 h2.2.1) (Ev.bind (slices_Clone_Sample.ev _ m.2.1.1 h3) (Ev.yes (room_ok (by simp; omega)) ?_))))
      have e : l.take (i + 1) = l.take i ++ [((l.getD i default).1, (l.getD i default).2.1, ())] := by
        rw [List.take_add_one, List.getD_eq_getElem?_getD, List.getElem?_eq_getElem hi']; rfl
      rw [← e]
      exact ih (i + 1) (by omega)
  refine Ev.step ?_
  simp only [impl_ownSeries.step]
  exact loop l.length 0 (by omega)
theorem impl_findSeries_1.ev (s : SRE) (t : List LB) (ls : s.1.length ≤ 1048576) (lt : t.length ≤ 1048576) : Ev (fun n => impl_findSeries_1 n s t) (byL t s) := by
  refine Ev.step ?_
  simp only [impl_findSeries_1.step]
  exact Ev.bind (impl_compare.ev _ _ ls lt) Ev.pure
theorem slices_BinarySearchFunc_Label_impl_findSeries_1.ev (l : List SRE) (t : List LB) (hl : l.length ≤ 1048576) (hs : ∀ s ∈ l, s.1.length ≤ 1048576) (ht : t.length ≤ 1048576) (up : Up (byL t) l) : Ev (fun n => slices_BinarySearchFunc_Label_impl_findSeries_1 n l t) ((plc (byL t) l : Int), fndB (byL t) l) := by
  have hp := plc_le (f := byL t) (l := l)
  have loop : ∀ d a b, b - a ≤ d → a ≤ plc (byL t) l → plc (byL t) l ≤ b → b ≤ l.length → Ev (fun n => goRec slices_BinarySearchFunc_Label_impl_findSeries_1.step n (.p9 l t (l.length : Int) (a : Int) (b : Int))) ((plc (byL t) l : Int), fndB (byL t) l) := by
    have fin : ∀ a, a = plc (byL t) l → Ev (fun n => goRec slices_BinarySearchFunc_Label_impl_findSeries_1.step n (.p9 l t (l.length : Int) (a : Int) (a : Int))) ((plc (byL t) l : Int), fndB (byL t) l) := by
      rintro a rfl
      refine Ev.step ?_
      simp only [slices_BinarySearchFunc_Label_impl_findSeries_1.step, toNat_cast]
      refine Ev.no lt_no (Ev.cnd (fun c => ?_) fun c => Ev.pure' ?_)
      · have c' : plc (byL t) l < l.length := by have := of_decide_eq_true c; omega
        refine Ev.yes (inB_nat c') (Ev.bind (impl_findSeries_1.ev _ _ (hs _ (getD_mem c')) ht) (Ev.pure' ?_))
        rw [fndB, decide_eq_true c', Bool.true_and]
      · have c' : ¬ plc (byL t) l < l.length := by have := of_decide_eq_false c; omega
        rw [fndB, decide_eq_false c', Bool.false_and]
    intro d
    induction d with
    | zero =>
      intro a b h1 h2 h3 h4
      obtain rfl : a = b := by omega
      exact fin a (by omega)
    | succ d ih =>
      intro a b h1 h2 h3 h4
      rcases Nat.lt_or_ge a b with c | c
      · have hm : (a + b) / 2 < b := by omega
        have hm2 : a ≤ (a + b) / 2 := by omega
        refine Ev.step ?_
        simp only [slices_BinarySearchFunc_Label_impl_findSeries_1.step, half (show a + b ≤ 4611686018427387904 by omega), toNat_cast, i64_nat (show (a + b) / 2 ≤ 4611686018427387904 by omega)]
        have c' : (a + b) / 2 < l.length := by omega
        refine Ev.yes (lt_yes c) (Ev.yes (inB_nat c') (Ev.bind (impl_findSeries_1.ev _ _ (hs _ (getD_mem c')) ht) (Ev.cnd (fun e => ?_) fun e => ?_)))
        · have := up_lt up c' (of_decide_eq_true e)
          exact ih _ _ (by omega) (by omega) h3 h4
        · have := up_ge (f := byL t) (l := l) (m := (a + b) / 2) (of_decide_eq_false e)
          exact ih _ _ (by omega) h2 this (by omega)
      · obtain rfl : a = b := by omega
        exact fin a (by omega)
  refine Ev.step ?_
  simp only [slices_BinarySearchFunc_Label_impl_findSeries_1.step]
  exact loop l.length 0 l.length (by omega) (Nat.zero_le _) hp (Nat.le_refl _)
theorem impl_findSeries.ev (l : List SRE) (t : List LB) (hl : l.length ≤ 1048576) (hs : ∀ s ∈ l, s.1.length ≤ 1048576) (ht : t.length ≤ 1048576) (up : Up (byL t) l) : Ev (fun n => impl_findSeries n l t) ((plc (byL t) l : Int), fndB (byL t) l) := by
  refine Ev.step ?_
  simp only [impl_findSeries.step]
  exact Ev.bind (slices_BinarySearchFunc_Label_impl_findSeries_1.ev l t hl hs ht up) Ev.pure
theorem slices_Insert_Series.ev (l : List SRE) (k : Nat) (x : SRE) (hk : k ≤ l.length) (hl : l.length ≤ 1000000) : Ev (fun n => slices_Insert_Series n l (k : Int) [x]) (insAt l k x) := by
  refine Ev.held ?_
  rw [decide_eq_true (show (0 : Int) ≤ (k : Int) by omega), decide_eq_true (show (k : Int) ≤ (l.length : Int) by omega), decide_eq_true hl, toNat_cast]
  rfl
theorem impl_findSample_1.ev (s : SME) (t : Int) : Ev (fun n => impl_findSample_1 n s t) (byT t s) := by
  refine Ev.step ?_
  simp only [impl_findSample_1.step]
  exact Ev.bind (cmp_Compare_int.ev _ _) Ev.pure
theorem slices_BinarySearchFunc_int_impl_findSample_1.ev (l : List SME) (t : Int) (hl : l.length ≤ 1048576) (up : Up (byT t) l) : Ev (fun n => slices_BinarySearchFunc_int_impl_findSample_1 n l t) ((plc (byT t) l : Int), fndB (byT t) l) := by
  have hp := plc_le (f := byT t) (l := l)
  have loop : ∀ d a b, b - a ≤ d → a ≤ plc (byT t) l → plc (byT t) l ≤ b → b ≤ l.length → Ev (fun n => goRec slices_BinarySearchFunc_int_impl_findSample_1.step n (.p9 l t (l.length : Int) (a : Int) (b : Int))) ((plc (byT t) l : Int), fndB (byT t) l) := by
    have fin : ∀ a, a = plc (byT t) l → Ev (fun n => goRec slices_BinarySearchFunc_int_impl_findSample_1.step n (.p9 l t (l.length : Int) (a : Int) (a : Int))) ((plc (byT t) l : Int), fndB (byT t) l) := by
      rintro a rfl
      refine Ev.step ?_
      simp only [slices_BinarySearchFunc_int_impl_findSample_1.step, toNat_cast]
      refine Ev.no lt_no (Ev.cnd (fun c => ?_) fun c => Ev.pure' ?_)
      · have c' : plc (byT t) l < l.length := by have := of_decide_eq_true c; omega
        refine Ev.yes (inB_nat c') (Ev.bind (impl_findSample_1.ev _ _) (Ev.pure' ?_))
        rw [fndB, decide_eq_true c', Bool.true_and]
      · have c' : ¬ plc (byT t) l < l.length := by have := of_decide_eq_false c; omega
        rw [fndB, decide_eq_false c', Bool.false_and]
    intro d
    induction d with
    | zero =>
      intro a b h1 h2 h3 h4
      obtain rfl : a = b := by omega
      exact fin a (by omega)
    | succ d ih =>
      intro a b h1 h2 h3 h4
      rcases Nat.lt_or_ge a b with c | c
      · have hm : (a + b) / 2 < b := by omega
        have hm2 : a ≤ (a + b) / 2 := by omega
        refine Ev.step ?_
        simp only [slices_BinarySearchFunc_int_impl_findSample_1.step, half (show a + b ≤ 4611686018427387904 by omega), toNat_cast, i64_nat (show (a + b) / 2 ≤ 4611686018427387904 by omega)]
        have c' : (a + b) / 2 < l.length := by omega
        refine Ev.yes (lt_yes c) (Ev.yes (inB_nat c') (Ev.bind (impl_findSample_1.ev _ _) (Ev.cnd (fun e => ?_) fun e => ?_)))
        · have := up_lt up c' (of_decide_eq_true e)
          exact ih _ _ (by omega) (by omega) h3 h4
        · have := up_ge (f := byT t) (l := l) (m := (a + b) / 2) (of_decide_eq_false e)
          exact ih _ _ (by omega) h2 this (by omega)
      · obtain rfl : a = b := by omega
        exact fin a (by omega)
  refine Ev.step ?_
  simp only [slices_BinarySearchFunc_int_impl_findSample_1.step]
  exact loop l.length 0 l.length (by omega) (Nat.zero_le _) hp (Nat.le_refl _)
theorem impl_findSample.ev (l : List SME) (t : Int) (hl : l.length ≤ 1048576) (up : Up (byT t) l) : Ev (fun n => impl_findSample n l t) ((plc (byT t) l : Int), fndB (byT t) l) := by
  refine Ev.step ?_
  simp only [impl_findSample.step]
  exact Ev.bind (slices_BinarySearchFunc_int_impl_findSample_1.ev l t hl up) Ev.pure
theorem slices_Insert_Sample.ev (l : List SME) (k : Nat) (x : SME) (hk : k ≤ l.length) (hl : l.length ≤ 1000000) : Ev (fun n => slices_Insert_Sample n l (k : Int) [x]) (insAt l k x) := by
  refine Ev.held ?_
  rw [decide_eq_true (show (0 : Int) ≤ (k : Int) by omega), decide_eq_true (show (k : Int) ≤ (l.length : Int) by omega), decide_eq_true hl, toNat_cast]
  rfl
theorem impl_put.at (w lim nw : Int) (l : List SRE) (k : Nat) (ls : List LB) (t v : Int) (h : HdOK lim l) (hk : k < l.length) : Ev (fun n => goRec impl_put.step n (.p29 (k : Int) w lim nw ls t v l)) (putS w lim nw l k (ls, t, v, ())) := by
  have hs := h.2.2.2 _ (getD_mem hk (d := default))
  have hp := plc_le (f := byT t) (l := (l.getD k default).2.1)
  have hs2 := hs.2.1
  refine Ev.step ?_
  simp only [impl_put.step, toNat_cast, Nat.zero_add]
  refine Ev.yes (inB_nat hk) (Ev.bind (impl_findSample.ev _ t (by omega) (byT_up hs.1)) ?_)
  rw [putS]
  by_cases c : fndB (byT t) (l.getD k default).2.1 = true
  · rw [if_pos c]
    have c' := c
    simp only [fndB, Bool.and_eq_true, decide_eq_true_eq] at c'
    simp only [c, toNat_cast]
    refine Ev.yes rfl (Ev.yes (inB_nat c'.1) (Ev.step ?_))
    simp only [impl_put.step]
    refine Ev.cnd (fun e => Ev.pure' ?_) fun e => Ev.yes rfl (Ev.pure' ?_)
    · rw [if_pos (of_decide_eq_true e)]
    · rw [if_neg (of_decide_eq_false e)]
  · have c : fndB (byT t) (l.getD k default).2.1 = false := by simpa using c
    rw [if_neg (by show ¬ fndB (byT t) _ = true; rw [c]; simp)]
    simp only [c]
    refine Ev.no rfl (Ev.step ?_)
    simp only [impl_put.step]
    refine Ev.no rfl (Ev.no rfl (Ev.cnd (fun e => Ev.pure' ?_) fun e => Ev.bind (slices_Insert_Sample.ev _ _ _ hp (by omega)) (Ev.yes (Nat.beq_refl k) (Ev.pure' ?_))))
    · have e := of_decide_eq_true e
      rw [if_pos (by omega)]
    · have e := of_decide_eq_false e
      rw [if_neg (by omega)]
theorem impl_put.ev (w lim nw : Int) (l : List SRE) (p : PTE) (h : HdOK lim l) (ht : Sm 1048576 (.sl false LU) p.1) : Ev (fun n => impl_put n (w, lim, nw, l, ()) p (0 : Int)) (putF w lim nw l p) := by
  obtain ⟨ls, t, v, _⟩ := p
  have hp := plc_le (f := byL ls) (l := l)
  obtain ⟨a1, a2, a3, a4⟩ := id h
  unfold putF
  have p4 : ∀ b, b = !namedB ls → Ev (fun n => goRec impl_put.step n (.p4 (0 : Int) b w lim nw ls t v l)) (putF w lim nw l (ls, t, v, ())) := by
    rintro b rfl
    unfold putF
    refine Ev.step ?_
    simp only [impl_put.step]
    refine Ev.cnd (fun c => Ev.pure' ?_) fun c => ?_
    · rw [Bool.not_eq_true'] at c; rw [if_pos c]
    rw [Bool.not_eq_false'] at c
    rw [if_neg (by show ¬ namedB ls = false; rw [c]; simp)]
    refine Ev.bind (impl_isTime.ev t) (Ev.cnd (fun c2 => Ev.pure' ?_) fun c2 => ?_)
    · rw [Bool.not_eq_true'] at c2; rw [if_pos c2]
    rw [Bool.not_eq_false'] at c2
    rw [if_neg (by show ¬ timeB t = false; rw [c2]; simp)]
    have c2' := c2
    simp only [timeB, Bool.and_eq_true, decide_eq_true_eq] at c2'
    refine Ev.cnd (fun c3 => ?_) fun c3 => ?_
    · rw [if_pos (of_decide_eq_true c3)]
      refine Ev.step ?_
      simp only [impl_put.step]
      exact Ev.yes rfl Ev.pure
    rw [if_neg (of_decide_eq_false c3), decide_eq_false (show ¬ t < 0 by omega)]
    refine Ev.step ?_
    simp only [impl_put.step]
    refine Ev.no rfl (Ev.bind (impl_findSeries.ev l ls (by omega) (fun s hs => (a4 s hs).2.2.2.1) ht.1 (byL_up a3)) ?_)
    by_cases c4 : fndB (byL ls) l = true
    · rw [if_pos c4]
      simp only [c4]
      refine Ev.no rfl ?_
      simp only [fndB, Bool.and_eq_true, decide_eq_true_eq] at c4
      exact impl_put.at w lim nw l _ ls t v h c4.1
    · rw [if_neg c4]
      have c4 : fndB (byL ls) l = false := by simpa using c4
      simp only [c4]
      refine Ev.yes rfl (Ev.cnd (fun c5 => Ev.pure' ?_) fun c5 => ?_)
      · rw [if_pos (of_decide_eq_true c5)]
      · have c5 := of_decide_eq_false c5
        rw [if_neg c5]
        refine Ev.bind (slices_Clone_Label.ev ls ht.1 (named_le c).2) (Ev.bind (slices_Insert_Series.ev l _ (ls, [], ()) hp (by omega)) ?_)
        exact impl_put.at w lim nw _ _ ls t v (insSer_ok h c ht c4 c5) (by rw [insAt_len hp]; omega)
  refine Ev.step ?_
  simp only [impl_put.step]
  refine Ev.bind (impl_GoodLabels.ev ls ht) (Ev.cnd (fun c => p4 _ ?_) fun c => Ev.bind (impl_valueOf.ev ls nameK ht.1) (p4 _ ?_))
  · rw [Bool.not_eq_true'] at c; rw [namedB, c]; rfl
  · rw [Bool.not_eq_false'] at c; rw [namedB, c]; simp
theorem impl_PutAll.ev (h : HDE) (ps : List PTE) (hb : Sm 1048576 (.sl false SRU) h.2.2.2.1) (hp : Sm 1048576 (.sl false PTU) ps) : Ev (fun n => impl_PutAll n h ps) (putsV h ps) := by
  obtain ⟨w, lim, nw, l, _⟩ := h
  have hl : ps.length ≤ 1048576 := hp.1
  have loop : ps.length ≤ 500 → ∀ (y7 y8 y9 : Int) y12 d i nw l out, i + d = ps.length → out.length = i → HdOK lim l → Ev (fun n => goRec impl_PutAll.step n (.p19 ps (ps.length : Int) (i : Int) w lim nw y7 y8 y9 out l y12)) (putN w lim nw l out (ps.drop i)) := by
    intro h500 y7 y8 y9 y12 d
    induction d with
    | zero =>
      intro i nw l out hi ho hh
      obtain rfl : i = ps.length := by omega
      refine Ev.step ?_
      simp only [impl_PutAll.step]
      exact Ev.no lt_no (Ev.pure' (by rw [List.drop_length, putN]))
    | succ d ih =>
      intro i nw l out hi ho hh
      have c : i < ps.length := by omega
      have m := hp.2 _ (getD_mem c (d := default))
      refine Ev.step ?_
      simp only [impl_PutAll.step, toNat_cast, i64_nat (show i ≤ 4611686018427387904 by omega)]
      rw [drop_getD c, putN]
      have ok := putF_ok (w := w) (nw := nw) (p := ps.getD i default) hh m.1
      refine Ev.yes (lt_yes c) (Ev.yes (inB_nat c) (Ev.bind (impl_put.ev w lim nw l (ps.getD i default) hh m.1) (Ev.yes (room_ok (by simp; omega)) ?_)))
      have := ih (i + 1) (putF w lim nw l (ps.getD i default)).2.2.2.1 (putF w lim nw l (ps.getD i default)).2.2.2.2.1 (out ++ [(putF w lim nw l (ps.getD i default)).1]) (by omega) (by simp; omega) ok.2.2
      rw [ok.1, ok.2.1]
      exact this
  have p4 : ∀ b, b = !(headB (w, lim, nw, l, ()) && decide (ps.length ≤ 500)) → ∀ (y7 y8 y9 : Int) y12, Ev (fun n => goRec impl_PutAll.step n (.p4 ps b w lim nw l y7 y8 y9 y12)) (putsV (w, lim, nw, l, ()) ps) := by
    rintro b rfl y7 y8 y9 y12
    refine Ev.step ?_
    simp only [impl_PutAll.step]
    refine Ev.cnd (fun c => Ev.pure' ?_) fun c => ?_
    · rw [putsV, if_neg]
      rintro ⟨h1, h2⟩
      rw [h1, decide_eq_true h2] at c; cases c
    · rw [Bool.not_eq_false', Bool.and_eq_true, decide_eq_true_eq] at c
      rw [putsV, if_pos c]
      have hh := head_ok c.1 hb
      refine Ev.bind (impl_ownSeries.ev l hb (headB_ser c.1)) ?_
      exact loop c.2 y7 y8 y9 y12 ps.length 0 nw l [] (by omega) rfl hh
  refine Ev.step ?_
  simp only [impl_PutAll.step]
  refine Ev.bind (impl_GoodHead.ev (w, lim, nw, l, ()) hb) (Ev.cnd (fun c => p4 _ ?_ _ _ _ _) fun c => p4 _ ?_ _ _ _ _)
  · rw [Bool.not_eq_true'] at c; rw [c]; rfl
  · rw [Bool.not_eq_false'] at c; rw [c, Bool.true_and]
    by_cases e : ps.length ≤ 500
    · rw [decide_eq_true e, decide_eq_false (by omega)]; rfl
    · rw [decide_eq_false e, decide_eq_true (by omega)]; rfl
theorem laws_eqLabel.ev (x y : (ByteArray) × ((ByteArray) × (Unit))) (hx : Sm 1048576 (.pair .str (.pair .str .unit)) x) (hy : Sm 1048576 (.pair .str (.pair .str .unit)) y) : Ev (fun n => laws_eqLabel n x y) (eqB x y) := by
  refine Ev.step ?_
  simp only [laws_eqLabel.step]
  refine Ev.cnd (fun h => Ev.pure' (eqB_no fun e => by subst e; simp [seq, eqB] at h).symm) fun h1 => ?_
  replace h1 : x.1 = y.1 := by simpa [seq, eqB] using h1
  refine Ev.cnd (fun h => Ev.pure' (eqB_no fun e => by subst e; simp [seq, eqB] at h).symm) fun h2 => ?_
  replace h2 : x.2.1 = y.2.1 := by simpa [seq, eqB] using h2
  exact Ev.pure' (eqB_yes (Prod.ext h1 (Prod.ext h2 rfl))).symm
theorem laws_eqLabelS.loop (l m : List ((ByteArray) × ((ByteArray) × (Unit)))) (hl : Sm 1048576 (.sl false (.pair .str (.pair .str .unit))) l) (hm : Sm 1048576 (.sl false (.pair .str (.pair .str .unit))) m) (hlm : l.length = m.length) : ∀ d i, i + d = l.length → (∀ j, j < i → l.getD j default = m.getD j default) → Ev (fun n => goRec laws_eqLabelS.step n (.p15 l m (i : Int))) (eqB l m) := by
  have hk : l.length ≤ 1048576 := hl.1
  intro d
  induction d with
  | zero =>
    intro i hd hj
    rw [Nat.add_zero] at hd
    subst hd
    refine Ev.step ?_
    simp only [laws_eqLabelS.step]
    exact Ev.no lt_no (Ev.pure' (eqB_yes (ext_getD (d := default) hlm (fun j hj2 => hj j (by omega)))).symm)
  | succ d ih =>
    intro i hd hj
    have hi : i < l.length := by omega
    refine Ev.step ?_
    simp only [laws_eqLabelS.step, toNat_cast]
    refine Ev.yes (lt_yes hi) (Ev.yes (inB_nat hi) (Ev.yes (inB_nat (by omega)) ?_))
    refine Ev.bind (laws_eqLabel.ev (l.getD i default) (m.getD i default) (hl.2 _ (getD_mem hi)) (hm.2 _ (getD_mem (by omega)))) ?_
    refine Ev.cnd (fun h => Ev.pure' (eqB_no fun e => by subst e; simp [seq, eqB] at h).symm) fun h => ?_
    rw [i64_nat (by omega)]
    refine ih (i + 1) (by omega) fun j hj2 => ?_
    by_cases e : j = i
    · subst e; simpa [seq, eqB] using h
    · exact hj j (by omega)
theorem laws_eqLabelS.ev (l m : List ((ByteArray) × ((ByteArray) × (Unit)))) (hl : Sm 1048576 (.sl false (.pair .str (.pair .str .unit))) l) (hm : Sm 1048576 (.sl false (.pair .str (.pair .str .unit))) m) : Ev (fun n => laws_eqLabelS n l m) (eqB l m) := by
  refine Ev.step ?_
  simp only [laws_eqLabelS.step]
  refine Ev.cnd (fun h => Ev.pure' (eqB_no fun e => by subst e; simp at h).symm) fun h => ?_
  replace h : l.length = m.length := by simp at h; omega
  exact laws_eqLabelS.loop l m hl hm h l.length 0 (by omega) (by omega)
theorem laws_eqSample.ev (x y : (Int) × ((Int) × (Unit))) (hx : Sm 1048576 (.pair (.int .i64) (.pair (.int .i64) .unit)) x) (hy : Sm 1048576 (.pair (.int .i64) (.pair (.int .i64) .unit)) y) : Ev (fun n => laws_eqSample n x y) (eqB x y) := by
  refine Ev.step ?_
  simp only [laws_eqSample.step]
  refine Ev.cnd (fun h => Ev.pure' (eqB_no fun e => by subst e; simp [seq, eqB] at h).symm) fun h1 => ?_
  replace h1 : x.1 = y.1 := by simpa [seq, eqB] using h1
  refine Ev.cnd (fun h => Ev.pure' (eqB_no fun e => by subst e; simp [seq, eqB] at h).symm) fun h2 => ?_
  replace h2 : x.2.1 = y.2.1 := by simpa [seq, eqB] using h2
  exact Ev.pure' (eqB_yes (Prod.ext h1 (Prod.ext h2 rfl))).symm
theorem laws_eqSampleS.loop (l m : List ((Int) × ((Int) × (Unit)))) (hl : Sm 1048576 (.sl false (.pair (.int .i64) (.pair (.int .i64) .unit))) l) (hm : Sm 1048576 (.sl false (.pair (.int .i64) (.pair (.int .i64) .unit))) m) (hlm : l.length = m.length) : ∀ d i, i + d = l.length → (∀ j, j < i → l.getD j default = m.getD j default) → Ev (fun n => goRec laws_eqSampleS.step n (.p15 l m (i : Int))) (eqB l m) := by
  have hk : l.length ≤ 1048576 := hl.1
  intro d
  induction d with
  | zero =>
    intro i hd hj
    rw [Nat.add_zero] at hd
    subst hd
    refine Ev.step ?_
    simp only [laws_eqSampleS.step]
    exact Ev.no lt_no (Ev.pure' (eqB_yes (ext_getD (d := default) hlm (fun j hj2 => hj j (by omega)))).symm)
  | succ d ih =>
    intro i hd hj
    have hi : i < l.length := by omega
    refine Ev.step ?_
    simp only [laws_eqSampleS.step, toNat_cast]
    refine Ev.yes (lt_yes hi) (Ev.yes (inB_nat hi) (Ev.yes (inB_nat (by omega)) ?_))
    refine Ev.bind (laws_eqSample.ev (l.getD i default) (m.getD i default) (hl.2 _ (getD_mem hi)) (hm.2 _ (getD_mem (by omega)))) ?_
    refine Ev.cnd (fun h => Ev.pure' (eqB_no fun e => by subst e; simp [seq, eqB] at h).symm) fun h => ?_
    rw [i64_nat (by omega)]
    refine ih (i + 1) (by omega) fun j hj2 => ?_
    by_cases e : j = i
    · subst e; simpa [seq, eqB] using h
    · exact hj j (by omega)
theorem laws_eqSampleS.ev (l m : List ((Int) × ((Int) × (Unit)))) (hl : Sm 1048576 (.sl false (.pair (.int .i64) (.pair (.int .i64) .unit))) l) (hm : Sm 1048576 (.sl false (.pair (.int .i64) (.pair (.int .i64) .unit))) m) : Ev (fun n => laws_eqSampleS n l m) (eqB l m) := by
  refine Ev.step ?_
  simp only [laws_eqSampleS.step]
  refine Ev.cnd (fun h => Ev.pure' (eqB_no fun e => by subst e; simp at h).symm) fun h => ?_
  replace h : l.length = m.length := by simp at h; omega
  exact laws_eqSampleS.loop l m hl hm h l.length 0 (by omega) (by omega)
theorem laws_eqSeries.ev (x y : (List ((ByteArray) × ((ByteArray) × (Unit)))) × ((List ((Int) × ((Int) × (Unit)))) × (Unit))) (hx : Sm 1048576 (.pair (.sl false (.pair .str (.pair .str .unit))) (.pair (.sl false (.pair (.int .i64) (.pair (.int .i64) .unit))) .unit)) x) (hy : Sm 1048576 (.pair (.sl false (.pair .str (.pair .str .unit))) (.pair (.sl false (.pair (.int .i64) (.pair (.int .i64) .unit))) .unit)) y) : Ev (fun n => laws_eqSeries n x y) (eqB x y) := by
  refine Ev.step ?_
  simp only [laws_eqSeries.step]
  refine Ev.bind (laws_eqLabelS.ev x.1 y.1 hx.1 hy.1) ?_
  refine Ev.cnd (fun h => Ev.pure' (eqB_no fun e => by subst e; simp [seq, eqB] at h).symm) fun h1 => ?_
  replace h1 : x.1 = y.1 := by simpa [seq, eqB] using h1
  refine Ev.bind (laws_eqSampleS.ev x.2.1 y.2.1 hx.2.1 hy.2.1) ?_
  refine Ev.cnd (fun h => Ev.pure' (eqB_no fun e => by subst e; simp [seq, eqB] at h).symm) fun h2 => ?_
  replace h2 : x.2.1 = y.2.1 := by simpa [seq, eqB] using h2
  exact Ev.pure' (eqB_yes (Prod.ext h1 (Prod.ext h2 rfl))).symm
theorem laws_eqSeriesS.loop (l m : List ((List ((ByteArray) × ((ByteArray) × (Unit)))) × ((List ((Int) × ((Int) × (Unit)))) × (Unit)))) (hl : Sm 1048576 (.sl false (.pair (.sl false (.pair .str (.pair .str .unit))) (.pair (.sl false (.pair (.int .i64) (.pair (.int .i64) .unit))) .unit))) l) (hm : Sm 1048576 (.sl false (.pair (.sl false (.pair .str (.pair .str .unit))) (.pair (.sl false (.pair (.int .i64) (.pair (.int .i64) .unit))) .unit))) m) (hlm : l.length = m.length) : ∀ d i, i + d = l.length → (∀ j, j < i → l.getD j default = m.getD j default) → Ev (fun n => goRec laws_eqSeriesS.step n (.p15 l m (i : Int))) (eqB l m) := by
  have hk : l.length ≤ 1048576 := hl.1
  intro d
  induction d with
  | zero =>
    intro i hd hj
    rw [Nat.add_zero] at hd
    subst hd
    refine Ev.step ?_
    simp only [laws_eqSeriesS.step]
    exact Ev.no lt_no (Ev.pure' (eqB_yes (ext_getD (d := default) hlm (fun j hj2 => hj j (by omega)))).symm)
  | succ d ih =>
    intro i hd hj
    have hi : i < l.length := by omega
    refine Ev.step ?_
    simp only [laws_eqSeriesS.step, toNat_cast]
    refine Ev.yes (lt_yes hi) (Ev.yes (inB_nat hi) (Ev.yes (inB_nat (by omega)) ?_))
    refine Ev.bind (laws_eqSeries.ev (l.getD i default) (m.getD i default) (hl.2 _ (getD_mem hi)) (hm.2 _ (getD_mem (by omega)))) ?_
    refine Ev.cnd (fun h => Ev.pure' (eqB_no fun e => by subst e; simp [seq, eqB] at h).symm) fun h => ?_
    rw [i64_nat (by omega)]
    refine ih (i + 1) (by omega) fun j hj2 => ?_
    by_cases e : j = i
    · subst e; simpa [seq, eqB] using h
    · exact hj j (by omega)
theorem laws_eqSeriesS.ev (l m : List ((List ((ByteArray) × ((ByteArray) × (Unit)))) × ((List ((Int) × ((Int) × (Unit)))) × (Unit)))) (hl : Sm 1048576 (.sl false (.pair (.sl false (.pair .str (.pair .str .unit))) (.pair (.sl false (.pair (.int .i64) (.pair (.int .i64) .unit))) .unit))) l) (hm : Sm 1048576 (.sl false (.pair (.sl false (.pair .str (.pair .str .unit))) (.pair (.sl false (.pair (.int .i64) (.pair (.int .i64) .unit))) .unit))) m) : Ev (fun n => laws_eqSeriesS n l m) (eqB l m) := by
  refine Ev.step ?_
  simp only [laws_eqSeriesS.step]
  refine Ev.cnd (fun h => Ev.pure' (eqB_no fun e => by subst e; simp at h).symm) fun h => ?_
  replace h : l.length = m.length := by simp at h; omega
  exact laws_eqSeriesS.loop l m hl hm h l.length 0 (by omega) (by omega)
theorem laws_eqHead.ev (x y : (Int) × ((Int) × ((Int) × ((List ((List ((ByteArray) × ((ByteArray) × (Unit)))) × ((List ((Int) × ((Int) × (Unit)))) × (Unit)))) × (Unit))))) (hx : Sm 1048576 (.pair (.int .i64) (.pair (.int .i64) (.pair (.int .i64) (.pair (.sl false (.pair (.sl false (.pair .str (.pair .str .unit))) (.pair (.sl false (.pair (.int .i64) (.pair (.int .i64) .unit))) .unit))) .unit)))) x) (hy : Sm 1048576 (.pair (.int .i64) (.pair (.int .i64) (.pair (.int .i64) (.pair (.sl false (.pair (.sl false (.pair .str (.pair .str .unit))) (.pair (.sl false (.pair (.int .i64) (.pair (.int .i64) .unit))) .unit))) .unit)))) y) : Ev (fun n => laws_eqHead n x y) (eqB x y) := by
  refine Ev.step ?_
  simp only [laws_eqHead.step]
  refine Ev.cnd (fun h => Ev.pure' (eqB_no fun e => by subst e; simp [seq, eqB] at h).symm) fun h1 => ?_
  replace h1 : x.1 = y.1 := by simpa [seq, eqB] using h1
  refine Ev.cnd (fun h => Ev.pure' (eqB_no fun e => by subst e; simp [seq, eqB] at h).symm) fun h2 => ?_
  replace h2 : x.2.1 = y.2.1 := by simpa [seq, eqB] using h2
  refine Ev.cnd (fun h => Ev.pure' (eqB_no fun e => by subst e; simp [seq, eqB] at h).symm) fun h3 => ?_
  replace h3 : x.2.2.1 = y.2.2.1 := by simpa [seq, eqB] using h3
  refine Ev.bind (laws_eqSeriesS.ev x.2.2.2.1 y.2.2.2.1 hx.2.2.2.1 hy.2.2.2.1) ?_
  refine Ev.cnd (fun h => Ev.pure' (eqB_no fun e => by subst e; simp [seq, eqB] at h).symm) fun h4 => ?_
  replace h4 : x.2.2.2.1 = y.2.2.2.1 := by simpa [seq, eqB] using h4
  exact Ev.pure' (eqB_yes (Prod.ext h1 (Prod.ext h2 (Prod.ext h3 (Prod.ext h4 rfl))))).symm
theorem laws_eqIntS.loop (l m : List (Int)) (hl : Sm 1048576 (.sl false (.int .i64)) l) (hm : Sm 1048576 (.sl false (.int .i64)) m) (hlm : l.length = m.length) : ∀ d i, i + d = l.length → (∀ j, j < i → l.getD j default = m.getD j default) → Ev (fun n => goRec laws_eqIntS.step n (.p15 l m (i : Int))) (eqB l m) := by
  have hk : l.length ≤ 1048576 := hl.1
  intro d
  induction d with
  | zero =>
    intro i hd hj
    rw [Nat.add_zero] at hd
    subst hd
    refine Ev.step ?_
    simp only [laws_eqIntS.step]
    exact Ev.no lt_no (Ev.pure' (eqB_yes (ext_getD (d := default) hlm (fun j hj2 => hj j (by omega)))).symm)
  | succ d ih =>
    intro i hd hj
    have hi : i < l.length := by omega
    refine Ev.step ?_
    simp only [laws_eqIntS.step, toNat_cast]
    refine Ev.yes (lt_yes hi) (Ev.yes (inB_nat hi) (Ev.yes (inB_nat (by omega)) ?_))
    refine Ev.cnd (fun h => Ev.pure' (eqB_no fun e => by subst e; simp [seq, eqB] at h).symm) fun h => ?_
    rw [i64_nat (by omega)]
    refine ih (i + 1) (by omega) fun j hj2 => ?_
    by_cases e : j = i
    · subst e; simpa [seq, eqB] using h
    · exact hj j (by omega)
theorem laws_eqIntS.ev (l m : List (Int)) (hl : Sm 1048576 (.sl false (.int .i64)) l) (hm : Sm 1048576 (.sl false (.int .i64)) m) : Ev (fun n => laws_eqIntS n l m) (eqB l m) := by
  refine Ev.step ?_
  simp only [laws_eqIntS.step]
  refine Ev.cnd (fun h => Ev.pure' (eqB_no fun e => by subst e; simp at h).symm) fun h => ?_
  replace h : l.length = m.length := by simp at h; omega
  exact laws_eqIntS.loop l m hl hm h l.length 0 (by omega) (by omega)
theorem laws_eqPut.ev (x y : (List ((ByteArray) × ((ByteArray) × (Unit)))) × ((Int) × ((Int) × (Unit)))) (hx : Sm 1048576 (.pair (.sl false (.pair .str (.pair .str .unit))) (.pair (.int .i64) (.pair (.int .i64) .unit))) x) (hy : Sm 1048576 (.pair (.sl false (.pair .str (.pair .str .unit))) (.pair (.int .i64) (.pair (.int .i64) .unit))) y) : Ev (fun n => laws_eqPut n x y) (eqB x y) := by
  refine Ev.step ?_
  simp only [laws_eqPut.step]
  refine Ev.bind (laws_eqLabelS.ev x.1 y.1 hx.1 hy.1) ?_
  refine Ev.cnd (fun h => Ev.pure' (eqB_no fun e => by subst e; simp [seq, eqB] at h).symm) fun h1 => ?_
  replace h1 : x.1 = y.1 := by simpa [seq, eqB] using h1
  refine Ev.cnd (fun h => Ev.pure' (eqB_no fun e => by subst e; simp [seq, eqB] at h).symm) fun h2 => ?_
  replace h2 : x.2.1 = y.2.1 := by simpa [seq, eqB] using h2
  refine Ev.cnd (fun h => Ev.pure' (eqB_no fun e => by subst e; simp [seq, eqB] at h).symm) fun h3 => ?_
  replace h3 : x.2.2.1 = y.2.2.1 := by simpa [seq, eqB] using h3
  exact Ev.pure' (eqB_yes (Prod.ext h1 (Prod.ext h2 (Prod.ext h3 rfl)))).symm
theorem laws_eqPutS.loop (l m : List ((List ((ByteArray) × ((ByteArray) × (Unit)))) × ((Int) × ((Int) × (Unit))))) (hl : Sm 1048576 (.sl false (.pair (.sl false (.pair .str (.pair .str .unit))) (.pair (.int .i64) (.pair (.int .i64) .unit)))) l) (hm : Sm 1048576 (.sl false (.pair (.sl false (.pair .str (.pair .str .unit))) (.pair (.int .i64) (.pair (.int .i64) .unit)))) m) (hlm : l.length = m.length) : ∀ d i, i + d = l.length → (∀ j, j < i → l.getD j default = m.getD j default) → Ev (fun n => goRec laws_eqPutS.step n (.p15 l m (i : Int))) (eqB l m) := by
  have hk : l.length ≤ 1048576 := hl.1
  intro d
  induction d with
  | zero =>
    intro i hd hj
    rw [Nat.add_zero] at hd
    subst hd
    refine Ev.step ?_
    simp only [laws_eqPutS.step]
    exact Ev.no lt_no (Ev.pure' (eqB_yes (ext_getD (d := default) hlm (fun j hj2 => hj j (by omega)))).symm)
  | succ d ih =>
    intro i hd hj
    have hi : i < l.length := by omega
    refine Ev.step ?_
    simp only [laws_eqPutS.step, toNat_cast]
    refine Ev.yes (lt_yes hi) (Ev.yes (inB_nat hi) (Ev.yes (inB_nat (by omega)) ?_))
    refine Ev.bind (laws_eqPut.ev (l.getD i default) (m.getD i default) (hl.2 _ (getD_mem hi)) (hm.2 _ (getD_mem (by omega)))) ?_
    refine Ev.cnd (fun h => Ev.pure' (eqB_no fun e => by subst e; simp [seq, eqB] at h).symm) fun h => ?_
    rw [i64_nat (by omega)]
    refine ih (i + 1) (by omega) fun j hj2 => ?_
    by_cases e : j = i
    · subst e; simpa [seq, eqB] using h
    · exact hj j (by omega)
theorem laws_eqPutS.ev (l m : List ((List ((ByteArray) × ((ByteArray) × (Unit)))) × ((Int) × ((Int) × (Unit))))) (hl : Sm 1048576 (.sl false (.pair (.sl false (.pair .str (.pair .str .unit))) (.pair (.int .i64) (.pair (.int .i64) .unit)))) l) (hm : Sm 1048576 (.sl false (.pair (.sl false (.pair .str (.pair .str .unit))) (.pair (.int .i64) (.pair (.int .i64) .unit)))) m) : Ev (fun n => laws_eqPutS n l m) (eqB l m) := by
  refine Ev.step ?_
  simp only [laws_eqPutS.step]
  refine Ev.cnd (fun h => Ev.pure' (eqB_no fun e => by subst e; simp at h).symm) fun h => ?_
  replace h : l.length = m.length := by simp at h; omega
  exact laws_eqPutS.loop l m hl hm h l.length 0 (by omega) (by omega)
theorem laws_markText.loop : ∀ d (y : Nat) (s : ByteArray), y < 10 ^ d → y ≤ 4611686018427387904 → s.size + d ≤ 1000 → EvP (fun n => goRec laws_markText.step n (laws_markText.Pt.p15 (y : Int) s)) (fun _ => True) := by
  intro d
  induction d with
  | zero =>
    intro y s h h1 h2
    obtain rfl : y = 0 := by simp at h; omega
    refine EvP.step ?_
    simp only [laws_markText.step]
    refine EvP.no (by simp) (EvP.yes (room_ok ?_) (EvP.pure trivial))
    show 1 + s.size ≤ 1000000000
    omega
  | succ d ih =>
    intro y s h h1 h2
    refine EvP.step ?_
    simp only [laws_markText.step]
    have e : IntKind.wrap .i64 (Int.tdiv (y : Int) 10) = ((y / 10 : Nat) : Int) := by
      rw [Int.tdiv_eq_ediv_of_nonneg (by omega), i64_ok (by omega) (by omega)]
      omega
    rw [e]
    refine EvP.cnd (fun c => EvP.yes (room_ok ?_) (ih (y / 10) _ ?_ (by omega) ?_)) fun c => EvP.yes (room_ok ?_) (EvP.pure trivial)
    · show 1 + s.size ≤ 1000000000
      omega
    · rw [Nat.pow_succ] at h; omega
    · rw [ByteArray.size_append]
      show 1 + s.size + d ≤ 1000
      omega
    · show 1 + s.size ≤ 1000000000
      omega
theorem laws_markText.ex (k : Nat) (hk : k ≤ 4611686018427387904) : ∃ s, Ev (fun n => laws_markText n (k : Int)) s := by
  obtain ⟨v, h, _⟩ : EvP (fun n => laws_markText n (k : Int)) (fun _ => True) := by
    refine EvP.step ?_
    simp only [laws_markText.step]
    exact EvP.cnd (fun _ => EvP.pure trivial) fun _ => laws_markText.loop 19 k _ (by omega) hk (by simp [size_empty])
  exact ⟨v, h⟩
noncomputable def markT (k : Nat) : ByteArray := Classical.epsilon fun s => Ev (fun n => laws_markText n (k : Int)) s
theorem laws_markText.ev (k : Nat) (hk : k ≤ 4611686018427387904) : Ev (fun n => laws_markText n (k : Int)) (markT k) := Classical.epsilon_spec (laws_markText.ex k hk)
theorem laws_markLabelS.loop (l : List ((ByteArray) × ((ByteArray) × (Unit)))) (h : Sm 1048576 (.sl false (.pair .str (.pair .str .unit))) l) : ∀ d i (k : Nat) (m : List ((ByteArray) × ((ByteArray) × (Unit)))), i + d = l.length → m.length = l.length → (∀ j, i ≤ j → j < l.length → m.getD j default = l.getD j default) → k + d * 2 ≤ 1152921504606846976 →
    EvP (fun n => goRec laws_markLabelS.step n (laws_markLabelS.Pt.p7 (k : Int) (i : Int) m)) (fun r => ∃ k2 : Nat, r.1 = (k2 : Int) ∧ k ≤ k2 ∧ k2 ≤ k + d * 2 ∧ r.2.length = l.length) := by
  have hl : l.length ≤ 1048576 := h.1
  intro d
  induction d with
  | zero =>
    intro i k m hd h1 h2 hb
    refine EvP.step ?_
    simp only [laws_markLabelS.step]
    exact EvP.no (by simp; omega) (EvP.pure ⟨k, rfl, by omega, by omega, h1⟩)
  | succ d ih =>
    intro i k m hd h1 h2 hb
    have hi : i < m.length := by omega
    have hx := h.2 _ (getD_mem (d := default) (show i < l.length by omega))
    refine EvP.step ?_
    simp only [laws_markLabelS.step, toNat_cast, Nat.zero_add, List.length_set, getD_set_same hi, List.set_set, i64_nat (show i ≤ 4611686018427387904 by omega), i64_nat (show k ≤ 4611686018427387904 by omega), i64_nat (show k + 1 ≤ 4611686018427387904 by omega), i64_nat (show k + 1 + 1 ≤ 4611686018427387904 by omega)]
    refine EvP.yes (lt_yes hi) ?_
    refine EvP.bind (laws_markText.ev (k) (by omega)) ?_
    refine EvP.yes (inB_nat hi) ?_
    refine EvP.bind (laws_markText.ev (k + 1) (by omega)) ?_
    refine EvP.yes (inB_nat hi) ?_
    refine (ih (i + 1) (k + 1 + 1) _ (by omega) (by simpa using h1) (fun j hj1 hj2 => ?_) (by omega)).imp fun r hr => ?_
    · rw [getD_set_other (by omega)]; exact h2 j (by omega) hj2
    · obtain ⟨k9, e9, m9, n9, o9⟩ := hr
      exact ⟨k9, e9, by omega, by omega, o9⟩
theorem laws_markLabelS.ev (l : List ((ByteArray) × ((ByteArray) × (Unit)))) (k : Nat) (h : Sm 1048576 (.sl false (.pair .str (.pair .str .unit))) l) (hk : k + 2097152 ≤ 1152921504606846976) : EvP (fun n => laws_markLabelS n l (k : Int)) (fun r => ∃ k2 : Nat, r.1 = (k2 : Int) ∧ k ≤ k2 ∧ k2 ≤ k + 2097152 ∧ r.2.length = l.length) := by
  have hl : l.length ≤ 1048576 := h.1
  refine EvP.step ?_
  simp only [laws_markLabelS.step]
  refine (laws_markLabelS.loop l h l.length 0 k l (by omega) rfl (fun _ _ _ => rfl) (by omega)).imp fun r hr => ?_
  obtain ⟨k9, e9, m9, n9, o9⟩ := hr
  exact ⟨k9, e9, m9, by omega, o9⟩
theorem laws_markSampleS.loop (l : List ((Int) × ((Int) × (Unit)))) (h : Sm 1048576 (.sl false (.pair (.int .i64) (.pair (.int .i64) .unit))) l) : ∀ d i (k : Nat) (m : List ((Int) × ((Int) × (Unit)))), i + d = l.length → m.length = l.length → (∀ j, i ≤ j → j < l.length → m.getD j default = l.getD j default) → k + d * 2 ≤ 1152921504606846976 →
    EvP (fun n => goRec laws_markSampleS.step n (laws_markSampleS.Pt.p7 (k : Int) (i : Int) m)) (fun r => ∃ k2 : Nat, r.1 = (k2 : Int) ∧ k ≤ k2 ∧ k2 ≤ k + d * 2 ∧ r.2.length = l.length) := by
  have hl : l.length ≤ 1048576 := h.1
  intro d
  induction d with
  | zero =>
    intro i k m hd h1 h2 hb
    refine EvP.step ?_
    simp only [laws_markSampleS.step]
    exact EvP.no (by simp; omega) (EvP.pure ⟨k, rfl, by omega, by omega, h1⟩)
  | succ d ih =>
    intro i k m hd h1 h2 hb
    have hi : i < m.length := by omega
    have hx := h.2 _ (getD_mem (d := default) (show i < l.length by omega))
    refine EvP.step ?_
    simp only [laws_markSampleS.step, toNat_cast, Nat.zero_add, List.length_set, getD_set_same hi, List.set_set, i64_nat (show i ≤ 4611686018427387904 by omega), i64_nat (show k ≤ 4611686018427387904 by omega), i64_nat (show k + 1 ≤ 4611686018427387904 by omega), i64_nat (show k + 1 + 1 ≤ 4611686018427387904 by omega)]
    refine EvP.yes (lt_yes hi) ?_
    refine EvP.yes (inB_nat hi) ?_
    refine EvP.yes (inB_nat hi) ?_
    refine (ih (i + 1) (k + 1 + 1) _ (by omega) (by simpa using h1) (fun j hj1 hj2 => ?_) (by omega)).imp fun r hr => ?_
    · rw [getD_set_other (by omega)]; exact h2 j (by omega) hj2
    · obtain ⟨k9, e9, m9, n9, o9⟩ := hr
      exact ⟨k9, e9, by omega, by omega, o9⟩
theorem laws_markSampleS.ev (l : List ((Int) × ((Int) × (Unit)))) (k : Nat) (h : Sm 1048576 (.sl false (.pair (.int .i64) (.pair (.int .i64) .unit))) l) (hk : k + 2097152 ≤ 1152921504606846976) : EvP (fun n => laws_markSampleS n l (k : Int)) (fun r => ∃ k2 : Nat, r.1 = (k2 : Int) ∧ k ≤ k2 ∧ k2 ≤ k + 2097152 ∧ r.2.length = l.length) := by
  have hl : l.length ≤ 1048576 := h.1
  refine EvP.step ?_
  simp only [laws_markSampleS.step]
  refine (laws_markSampleS.loop l h l.length 0 k l (by omega) rfl (fun _ _ _ => rfl) (by omega)).imp fun r hr => ?_
  obtain ⟨k9, e9, m9, n9, o9⟩ := hr
  exact ⟨k9, e9, m9, by omega, o9⟩
theorem laws_markSeriesS.loop (l : List ((List ((ByteArray) × ((ByteArray) × (Unit)))) × ((List ((Int) × ((Int) × (Unit)))) × (Unit)))) (h : Sm 1048576 (.sl false (.pair (.sl false (.pair .str (.pair .str .unit))) (.pair (.sl false (.pair (.int .i64) (.pair (.int .i64) .unit))) .unit))) l) : ∀ d i (k : Nat) (m : List ((List ((ByteArray) × ((ByteArray) × (Unit)))) × ((List ((Int) × ((Int) × (Unit)))) × (Unit)))), i + d = l.length → m.length = l.length → (∀ j, i ≤ j → j < l.length → m.getD j default = l.getD j default) → k + d * 4194304 ≤ 1152921504606846976 →
    EvP (fun n => goRec laws_markSeriesS.step n (laws_markSeriesS.Pt.p7 (k : Int) (i : Int) m)) (fun r => ∃ k2 : Nat, r.1 = (k2 : Int) ∧ k ≤ k2 ∧ k2 ≤ k + d * 4194304 ∧ r.2.length = l.length) := by
  have hl : l.length ≤ 1048576 := h.1
  intro d
  induction d with
  | zero =>
    intro i k m hd h1 h2 hb
    refine EvP.step ?_
    simp only [laws_markSeriesS.step]
    exact EvP.no (by simp; omega) (EvP.pure ⟨k, rfl, by omega, by omega, h1⟩)
  | succ d ih =>
    intro i k m hd h1 h2 hb
    have hi : i < m.length := by omega
    have hx := h.2 _ (getD_mem (d := default) (show i < l.length by omega))
    refine EvP.step ?_
    simp only [laws_markSeriesS.step, toNat_cast, Nat.zero_add, List.length_set, getD_set_same hi, List.set_set, i64_nat (show i ≤ 4611686018427387904 by omega), i64_nat (show k ≤ 4611686018427387904 by omega), i64_nat (show k + 1 ≤ 4611686018427387904 by omega), i64_nat (show k + 1 + 1 ≤ 4611686018427387904 by omega)]
    rw [h2 i (Nat.le_refl _) (by omega)]
    refine EvP.yes (lt_yes hi) ?_
    refine EvP.yes (inB_nat hi) ?_
    refine EvP.bindP (laws_markLabelS.ev (l.getD i default).1 (k) hx.1 (by omega)) ?_
    intro r1 hr1
    obtain ⟨k1, e1, n1', n1, _⟩ := hr1
    rw [e1]
    try simp only [i64_nat (show k1 ≤ 4611686018427387904 by omega), i64_nat (show k1 + 1 ≤ 4611686018427387904 by omega), i64_nat (show k1 + 1 + 1 ≤ 4611686018427387904 by omega)]
    refine EvP.yes (inB_nat hi) ?_
    refine EvP.bindP (laws_markSampleS.ev (l.getD i default).2.1 (k1) hx.2.1 (by omega)) ?_
    intro r2 hr2
    obtain ⟨k2, e2, n2', n2, _⟩ := hr2
    rw [e2]
    try simp only [i64_nat (show k2 ≤ 4611686018427387904 by omega), i64_nat (show k2 + 1 ≤ 4611686018427387904 by omega), i64_nat (show k2 + 1 + 1 ≤ 4611686018427387904 by omega)]
    refine (ih (i + 1) (k2) _ (by omega) (by simpa using h1) (fun j hj1 hj2 => ?_) (by omega)).imp fun r hr => ?_
    · rw [getD_set_other (by omega)]; exact h2 j (by omega) hj2
    · obtain ⟨k9, e9, m9, n9, o9⟩ := hr
      exact ⟨k9, e9, by omega, by omega, o9⟩
theorem laws_markSeriesS.ev (l : List ((List ((ByteArray) × ((ByteArray) × (Unit)))) × ((List ((Int) × ((Int) × (Unit)))) × (Unit)))) (k : Nat) (h : Sm 1048576 (.sl false (.pair (.sl false (.pair .str (.pair .str .unit))) (.pair (.sl false (.pair (.int .i64) (.pair (.int .i64) .unit))) .unit))) l) (hk : k + 4398046511104 ≤ 1152921504606846976) : EvP (fun n => laws_markSeriesS n l (k : Int)) (fun r => ∃ k2 : Nat, r.1 = (k2 : Int) ∧ k ≤ k2 ∧ k2 ≤ k + 4398046511104 ∧ r.2.length = l.length) := by
  have hl : l.length ≤ 1048576 := h.1
  refine EvP.step ?_
  simp only [laws_markSeriesS.step]
  refine (laws_markSeriesS.loop l h l.length 0 k l (by omega) rfl (fun _ _ _ => rfl) (by omega)).imp fun r hr => ?_
  obtain ⟨k9, e9, m9, n9, o9⟩ := hr
  exact ⟨k9, e9, m9, by omega, o9⟩
theorem laws_markLabelS.loopX (l : List LB) (k : Nat) (hl : l.length ≤ 1048576) (hk : k ≤ 1152921504606846976) : ∀ d i (m : List LB), i + d = l.length → m.length = l.length → (∀ j, j < i → m.getD j default = (markT (k + 2 * j), markT (k + 2 * j + 1), ())) →
    EvP (fun n => goRec laws_markLabelS.step n (laws_markLabelS.Pt.p7 ((k + 2 * i : Nat) : Int) (i : Int) m)) (fun r => r.1 = ((k + 2 * l.length : Nat) : Int) ∧ r.2.length = l.length ∧ ∀ j, j < l.length → r.2.getD j default = (markT (k + 2 * j), markT (k + 2 * j + 1), ())) := by
  intro d
  induction d with
  | zero =>
    intro i m h h1 h2
    obtain rfl : i = l.length := by omega
    refine EvP.step ?_
    simp only [laws_markLabelS.step]
    exact EvP.no (by simp; omega) (EvP.pure ⟨rfl, h1, h2⟩)
  | succ d ih =>
    intro i m h h1 h2
    have hi : i < m.length := by omega
    refine EvP.step ?_
    simp only [laws_markLabelS.step, toNat_cast, Nat.zero_add, List.length_set, getD_set_same hi, List.set_set, i64_nat (show i ≤ 4611686018427387904 by omega), i64_nat (show k + 2 * i ≤ 4611686018427387904 by omega), i64_nat (show k + 2 * i + 1 ≤ 4611686018427387904 by omega)]
    refine EvP.yes (lt_yes hi) (EvP.bind (laws_markText.ev (k + 2 * i) (by omega)) (EvP.yes (inB_nat hi) (EvP.bind (laws_markText.ev (k + 2 * i + 1) (by omega)) (EvP.yes (inB_nat hi) ?_))))
    refine ih (i + 1) _ (by omega) (by simpa using h1) fun j hj => ?_
    by_cases e : j = i
    · subst e; rw [getD_set_same hi]
    · rw [getD_set_other e]; exact h2 j (by omega)
theorem laws_markLabelS.evX (l : List LB) (k : Nat) (hl : l.length ≤ 1048576) (hk : k ≤ 1152921504606846976) : EvP (fun n => laws_markLabelS n l (k : Int)) (fun r => r.1 = ((k + 2 * l.length : Nat) : Int) ∧ r.2.length = l.length ∧ ∀ j, j < l.length → r.2.getD j default = (markT (k + 2 * j), markT (k + 2 * j + 1), ())) := by
  refine EvP.step ?_
  simp only [laws_markLabelS.step]
  exact laws_markLabelS.loopX l k hl hk l.length 0 l (by omega) rfl (fun j hj => by omega)
theorem laws_heldLabelS.loop (l : List LB) (k : Nat) (hl : l.length ≤ 1048576) (hk : k ≤ 1152921504606846976) (hm : ∀ j, j < l.length → l.getD j default = (markT (k + 2 * j), markT (k + 2 * j + 1), ())) : ∀ d i, i + d = l.length → Ev (fun n => goRec laws_heldLabelS.step n (laws_heldLabelS.Pt.p7 l ((k + 2 * i : Nat) : Int) (i : Int))) ((k + 2 * l.length : Nat) : Int) := by
  intro d
  induction d with
  | zero =>
    intro i h
    obtain rfl : i = l.length := by omega
    refine Ev.step ?_
    simp only [laws_heldLabelS.step]
    exact Ev.no lt_no Ev.pure
  | succ d ih =>
    intro i h
    have hi : i < l.length := by omega
    refine Ev.step ?_
    simp only [laws_heldLabelS.step, toNat_cast, i64_nat (show i ≤ 4611686018427387904 by omega), i64_nat (show k + 2 * i ≤ 4611686018427387904 by omega), i64_nat (show k + 2 * i + 1 ≤ 4611686018427387904 by omega), hm i hi]
    refine Ev.yes (lt_yes hi) (Ev.yes (inB_nat hi) (Ev.bind (laws_markText.ev (k + 2 * i) (by omega)) ?_))
    refine Ev.no (by simp [seq]) (Ev.yes (inB_nat hi) (Ev.bind (laws_markText.ev (k + 2 * i + 1) (by omega)) ?_))
    exact Ev.no (by simp [seq]) (ih (i + 1) (by omega))
theorem laws_heldLabelS.ev (l : List LB) (k : Nat) (hl : l.length ≤ 1048576) (hk : k ≤ 1152921504606846976) (hm : ∀ j, j < l.length → l.getD j default = (markT (k + 2 * j), markT (k + 2 * j + 1), ())) : Ev (fun n => laws_heldLabelS n l (k : Int)) ((k + 2 * l.length : Nat) : Int) := by
  refine Ev.step ?_
  simp only [laws_heldLabelS.step]
  exact laws_heldLabelS.loop l k hl hk hm l.length 0 (by omega)
theorem laws_markSampleS.vals (l : List SME) (k : Nat) (hl : l.length ≤ 1048576) (hk : k ≤ 1073741824) : EvP (fun n => laws_markSampleS n l (k : Int)) (fun r => r.1 = ((k + 2 * l.length : Nat) : Int) ∧ r.2.length = l.length ∧ ∀ j, j < l.length → r.2.getD j default = (((k + 2 * j : Nat) : Int), (((k + 2 * j + 1 : Nat) : Int), ()))) := by
  have loop : ∀ d i (m : List SME), i + d = l.length → m.length = l.length → (∀ j, j < i → m.getD j default = (((k + 2 * j : Nat) : Int), (((k + 2 * j + 1 : Nat) : Int), ()))) →
    EvP (fun n => goRec laws_markSampleS.step n (laws_markSampleS.Pt.p7 ((k + 2 * i : Nat) : Int) (i : Int) m)) (fun r => r.1 = ((k + 2 * l.length : Nat) : Int) ∧ r.2.length = l.length ∧ ∀ j, j < l.length → r.2.getD j default = (((k + 2 * j : Nat) : Int), (((k + 2 * j + 1 : Nat) : Int), ()))) := by
    intro d
    induction d with
    | zero =>
      intro i m h h1 h2
      obtain rfl : i = l.length := by omega
      refine EvP.step ?_
      simp only [laws_markSampleS.step]
      exact EvP.no (decide_eq_false (by omega)) (EvP.pure ⟨rfl, h1, h2⟩)
    | succ d ih =>
      intro i m h h1 h2
      have hi : i < m.length := by omega
      refine EvP.step ?_
      simp only [laws_markSampleS.step, toNat_cast, Nat.zero_add, List.length_set, getD_set_same hi, List.set_set, i64_nat (show i ≤ 4611686018427387904 by omega), i64_nat (show k + 2 * i ≤ 4611686018427387904 by omega), i64_nat (show k + 2 * i + 1 ≤ 4611686018427387904 by omega)]
      refine EvP.yes (lt_yes hi) (EvP.yes (inB_nat hi) (EvP.yes (inB_nat (by simpa using hi)) ?_))
      refine ih (i + 1) _ (by omega) (by simpa using h1) fun j hj => ?_
      by_cases e : j = i
      · subst e; rw [getD_set_same hi]
      · rw [getD_set_other e]; exact h2 j (by omega)
  refine EvP.step ?_
  simp only [laws_markSampleS.step]
  exact loop l.length 0 l (by omega) rfl (fun j hj => by omega)
theorem laws_heldSampleS.ev (l : List SME) (k : Nat) (hl : l.length ≤ 1048576) (hk : k ≤ 1073741824) (hm : ∀ j, j < l.length → l.getD j default = (((k + 2 * j : Nat) : Int), (((k + 2 * j + 1 : Nat) : Int), ()))) : Ev (fun n => laws_heldSampleS n l (k : Int)) ((k + 2 * l.length : Nat) : Int) := by
  have loop : ∀ d i, i + d = l.length → Ev (fun n => goRec laws_heldSampleS.step n (laws_heldSampleS.Pt.p7 l ((k + 2 * i : Nat) : Int) (i : Int))) ((k + 2 * l.length : Nat) : Int) := by
    intro d
    induction d with
    | zero =>
      intro i h
      obtain rfl : i = l.length := by omega
      refine Ev.step ?_
      simp only [laws_heldSampleS.step]
      exact Ev.no lt_no Ev.pure
    | succ d ih =>
      intro i h
      have hi : i < l.length := by omega
      refine Ev.step ?_
      simp only [laws_heldSampleS.step, toNat_cast, i64_nat (show i ≤ 4611686018427387904 by omega), i64_nat (show k + 2 * i ≤ 4611686018427387904 by omega), i64_nat (show k + 2 * i + 1 ≤ 4611686018427387904 by omega), hm i hi]
      exact Ev.yes (lt_yes hi) (Ev.yes (inB_nat hi) (Ev.no (by simp) (Ev.yes (inB_nat hi) (Ev.no (by simp) (ih (i + 1) (by omega))))))
  refine Ev.step ?_
  simp only [laws_heldSampleS.step]
  exact loop l.length 0 (by omega)
/-- the number that a series' marks begin with -/
def kAt (k : Nat) (l : List SRE) : Nat → Nat
  | 0 => k
  | j + 1 => kAt k l j + 2 * (l.getD j default).1.length + 2 * (l.getD j default).2.1.length
def serMark (k : Nat) (s : SRE) (x : SRE) : Prop := x.1.length = s.1.length ∧ (∀ j, j < s.1.length → x.1.getD j default = (markT (k + 2 * j), markT (k + 2 * j + 1), ())) ∧ x.2.1.length = s.2.1.length ∧ ∀ j, j < s.2.1.length → x.2.1.getD j default = (((k + 2 * s.1.length + 2 * j : Nat) : Int), (((k + 2 * s.1.length + 2 * j + 1 : Nat) : Int), ()))
def SerSm (l : List SRE) : Prop := l.length ≤ 200 ∧ ∀ j, j < l.length → (l.getD j default).1.length ≤ 20 ∧ (l.getD j default).2.1.length ≤ 2000
theorem kAt_le {k : Nat} {l : List SRE} (h : SerSm l) : ∀ j, j ≤ l.length → kAt k l j ≤ k + 5000 * j
  | 0, _ => Nat.le_refl _
  | j + 1, hj => by
    have := kAt_le (k := k) h j (by omega)
    have := h.2 j (by omega)
    rw [kAt]; omega
theorem laws_markSeriesS.vals (l : List SRE) (h : SerSm l) : EvP (fun n => laws_markSeriesS n l (1 : Int)) (fun r => r.1 = ((kAt 1 l l.length : Nat) : Int) ∧ r.2.length = l.length ∧ ∀ j, j < l.length → serMark (kAt 1 l j) (l.getD j default) (r.2.getD j default)) := by
  have loop : ∀ d i (m : List SRE), i + d = l.length → m.length = l.length → (∀ j, j < i → serMark (kAt 1 l j) (l.getD j default) (m.getD j default)) → (∀ j, i ≤ j → m.getD j default = l.getD j default) →
    EvP (fun n => goRec laws_markSeriesS.step n (laws_markSeriesS.Pt.p7 ((kAt 1 l i : Nat) : Int) (i : Int) m)) (fun r => r.1 = ((kAt 1 l l.length : Nat) : Int) ∧ r.2.length = l.length ∧ ∀ j, j < l.length → serMark (kAt 1 l j) (l.getD j default) (r.2.getD j default)) := by
    intro d
    induction d with
    | zero =>
      intro i m h1 h2 h3 h4
      obtain rfl : i = l.length := by omega
      refine EvP.step ?_
      simp only [laws_markSeriesS.step]
      exact EvP.no (decide_eq_false (by omega)) (EvP.pure ⟨rfl, h2, h3⟩)
    | succ d ih =>
      intro i m h1 h2 h3 h4
      have hi : i < l.length := by omega
      have him : i < m.length := by omega
      have hs := h.2 i hi
      have hk := kAt_le (k := 1) h i (by omega)
      have h200 := h.1
      refine EvP.step ?_
      simp only [laws_markSeriesS.step, toNat_cast, Nat.zero_add, List.length_set, i64_nat (show i ≤ 4611686018427387904 by omega), h4 i (Nat.le_refl _)]
      refine EvP.yes (lt_yes him) (EvP.yes (inB_nat him) (EvP.bindP (laws_markLabelS.evX (l.getD i default).1 (kAt 1 l i) (by omega) (by omega)) ?_))
      rintro ⟨r1, r2⟩ ⟨e1, e2, e3⟩
      have e1 : r1 = _ := e1
      subst e1
      simp only [getD_set_same him, List.set_set]
      refine EvP.yes (inB_nat (by simpa using him)) (EvP.bindP (laws_markSampleS.vals (l.getD i default).2.1 (kAt 1 l i + 2 * (l.getD i default).1.length) (by omega) (by omega)) ?_)
      rintro ⟨q1, q2⟩ ⟨f1, f2, f3⟩
      have f1 : q1 = _ := f1
      subst f1
      refine ih (i + 1) _ (by omega) (by simpa using h2) (fun j hj => ?_) (fun j hj => ?_)
      · by_cases e : j = i
        · subst e
          rw [getD_set_same him]
          exact ⟨e2, e3, f2, f3⟩
        · rw [getD_set_other e]; exact h3 j (by omega)
      · rw [getD_set_other (by omega)]; exact h4 j (by omega)
  refine EvP.step ?_
  simp only [laws_markSeriesS.step]
  exact loop l.length 0 l (by omega) rfl (fun j hj => by omega) (fun _ _ => rfl)
theorem laws_heldSeriesS.ev (l m : List SRE) (h : SerSm l) (hl : m.length = l.length) (hm : ∀ j, j < l.length → serMark (kAt 1 l j) (l.getD j default) (m.getD j default)) : Ev (fun n => laws_heldSeriesS n m (1 : Int)) ((kAt 1 l l.length : Nat) : Int) := by
  have loop : ∀ d i, i + d = l.length → Ev (fun n => goRec laws_heldSeriesS.step n (laws_heldSeriesS.Pt.p7 m ((kAt 1 l i : Nat) : Int) (i : Int))) ((kAt 1 l l.length : Nat) : Int) := by
    intro d
    induction d with
    | zero =>
      intro i hi
      obtain rfl : i = l.length := by omega
      refine Ev.step ?_
      simp only [laws_heldSeriesS.step]
      exact Ev.no (decide_eq_false (by omega)) Ev.pure
    | succ d ih =>
      intro i hi
      have hi' : i < l.length := by omega
      have him : i < m.length := by omega
      have hs := h.2 i hi'
      have hk := kAt_le (k := 1) h i (by omega)
      have h200 := h.1
      obtain ⟨a1, a2, a3, a4⟩ := hm i hi'
      refine Ev.step ?_
      simp only [laws_heldSeriesS.step, toNat_cast, i64_nat (show i ≤ 4611686018427387904 by omega)]
      have g1 := laws_heldLabelS.ev (m.getD i default).1 (kAt 1 l i) (by omega) (by omega) (fun j hj => a2 j (by omega))
      have g2 := laws_heldSampleS.ev (m.getD i default).2.1 (kAt 1 l i + 2 * (l.getD i default).1.length) (by omega) (by omega) (fun j hj => a4 j (by omega))
      rw [a1] at g1
      rw [a3] at g2
      exact Ev.yes (lt_yes him) (Ev.yes (inB_nat him) (Ev.bind g1 (Ev.no not_neg (Ev.yes (inB_nat him) (Ev.bind g2 (Ev.no not_neg (ih (i + 1) (by omega))))))))
  refine Ev.step ?_
  simp only [laws_heldSeriesS.step]
  exact loop l.length 0 (by omega)
theorem laws_markHead.vals (a b c : Int) (l : List SRE) (h : SerSm l) : EvP (fun n => laws_markHead n a b c l (1 : Int)) (fun r => r.1 = ((kAt 1 l l.length : Nat) : Int) ∧ r.2.length = l.length ∧ ∀ j, j < l.length → serMark (kAt 1 l j) (l.getD j default) (r.2.getD j default)) := by
  refine EvP.step ?_
  simp only [laws_markHead.step]
  refine EvP.bindP (laws_markSeriesS.vals l h) ?_
  rintro r hr
  exact EvP.pure hr
theorem laws_markHead.evN (a b c : Int) (l : List SRE) (h : Sm 1048576 (.sl false SRU) l) : EvP (fun n => laws_markHead n a b c l (1 : Int)) (fun r => ∃ k : Nat, r.1 = (k : Int) ∧ k + 2199025352704 ≤ 1152921504606846976) := by
  refine EvP.step ?_
  simp only [laws_markHead.step]
  refine EvP.bindP (laws_markSeriesS.ev l 1 h (by omega)) ?_
  rintro r ⟨k, e, k1, k2, _⟩
  exact EvP.pure ⟨k, e, by omega⟩
end Go.PA
