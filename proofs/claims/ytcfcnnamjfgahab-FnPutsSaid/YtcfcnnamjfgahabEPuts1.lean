/- What these functions come to, part 1. -/
import Derived.Test.YtcfcnnamjfgahabV1
import Derived.Test.YtcfcnnamjfgahabV2
import Derived.Test.YtcfcnnamjfgahabV3
import Derived.Test.YtcfcnnamjfgahabV4
import Derived.Test.YtcfcnnamjfgahabFPuts1
import Derived.Test.YtcfcnnamjfgahabFPuts2
open Go Go.VM
set_option maxRecDepth 100000
namespace Go.FP
set_option linter.unusedVariables false
set_option linter.unusedSimpArgs false
abbrev MT := ByteArray × Int × ByteArray × Unit
def matcherB (x : MT) : Bool := nameB x.1 && decide (1 ≤ x.2.1) && decide (x.2.1 ≤ 4) && decide (x.2.2.1.size ≤ 100) && printB x.2.2.1 && (decide (x.2.1 < 3) || (alts x.2.2.1).isSome)
def matchersB (l : List MT) : Bool := decide (l.length ≤ 10) && (List.range l.length).all fun i => matcherB (l.getD i default)
abbrev MU : U := .pair .str (.pair (.int .i64) (.pair .str .unit))
abbrev SIL := ByteArray × List MT × Int × Int × Unit
abbrev SIU : U := .pair .str (.pair (.sl false MU) (.pair (.int .i64) (.pair (.int .i64) .unit)))
def silB (l : List SIL) (i : Nat) : Bool := nameB (l.getD i default).1 && matchersB (l.getD i default).2.1 && decide ((l.getD i default).2.1.length ≠ 0) && timeB (l.getD i default).2.2.1 && timeB (l.getD i default).2.2.2.1 &&
  decide ((l.getD i default).2.2.1 ≤ (l.getD i default).2.2.2.1) && (decide (i = 0) || decide (cmpT (l.getD (i - 1) default).1 (l.getD i default).1 < 0))
def silsB (l : List SIL) : Bool := decide (l.length ≤ 50) && (List.range l.length).all (silB l)
/-- texts that rise -/
def risingB (l : List ByteArray) : Bool := (List.range (l.length - 1)).all fun i => decide (cmpT (l.getD i default) (l.getD (i + 1) default) < 0)
def namesB (l : List ByteArray) : Bool := decide (l.length ≤ 10) && risingB l && (List.range l.length).all fun i => nameB (l.getD i default)
abbrev INH := List MT × List MT × List ByteArray × Unit
abbrev INU : U := .pair (.sl false MU) (.pair (.sl false MU) (.pair (.sl false .str) .unit))
def inhB (x : INH) : Bool := matchersB x.1 && matchersB x.2.1 && decide (x.1.length ≠ 0) && decide (x.2.1.length ≠ 0) && namesB x.2.2.1
def inhsB (l : List INH) : Bool := decide (l.length ≤ 20) && (List.range l.length).all fun i => inhB (l.getD i default)
def lp (y : Int) : Int := if y % 4 = 0 ∧ (y % 100 ≠ 0 ∨ y % 400 = 0) then 1 else 0
def yl (y : Int) : Int := 365 + lp y
def dto (y : Int) : Int := (y - 1970) * 365 + ((y - 1) / 4 - (y - 1) / 100 + (y - 1) / 400) - 477
def mon (y m : Int) : Int := if m = 2 then 28 + lp y else if m = 4 ∨ m = 6 ∨ m = 9 ∨ m = 11 then 30 else 31
def cumd (y m : Int) : Int := if m ≤ 1 then 0 else if m = 2 then 31 else if m = 3 then 59 + lp y else if m = 4 then 90 + lp y else if m = 5 then 120 + lp y else if m = 6 then 151 + lp y else if m = 7 then 181 + lp y else if m = 8 then 212 + lp y else if m = 9 then 243 + lp y else if m = 10 then 273 + lp y else if m = 11 then 304 + lp y else if m = 12 then 334 + lp y else 365 + lp y
noncomputable def yearOf (day : Int) : Int := @dite _ (∃ y, 1970 ≤ y ∧ dto y ≤ day ∧ day < dto (y + 1)) (Classical.propDecidable _) (fun h => h.choose) (fun _ => 0)
noncomputable def monthOf (y n : Int) : Int := @dite _ (∃ m, 1 ≤ m ∧ m ≤ 12 ∧ cumd y m ≤ n ∧ n < cumd y m + mon y m) (Classical.propDecidable _) (fun h => h.choose) (fun _ => 0)
abbrev DTE := Int × Int × Int × Int × Int × Int × Unit
noncomputable def dateOfDay (day mi : Int) : DTE := (yearOf day, monthOf (yearOf day) (day - dto (yearOf day)), day - dto (yearOf day) - cumd (yearOf day) (monthOf (yearOf day) (day - dto (yearOf day))) + 1, mon (yearOf day) (monthOf (yearOf day) (day - dto (yearOf day))), (day + 4) % 7, mi, ())
def dateIn (t z : Int) : Bool := timeB t && decide (-1440 ≤ z) && decide (z ≤ 1440) && decide (0 ≤ t + 60 * z)
noncomputable def dateV (t z : Int) : DTE := if dateIn t z = true then dateOfDay ((t + 60 * z) / 86400) ((t + 60 * z) / 60 % 1440) else (0, 0, 0, 0, 0, 0, ())
def dayIn (y m d : Int) : Bool := decide (1970 ≤ y) && decide (y ≤ 40000) && decide (1 ≤ m) && decide (m ≤ 12) && decide (1 ≤ d) && decide (d ≤ mon y m)
def dayV (y m d : Int) : Int := if dayIn y m d = true then dto y + d - 1 + cumd y m else -1
abbrev RG := Int × Int × Unit
abbrev RGU : U := .pair (.int .i64) (.pair (.int .i64) .unit)
abbrev ITV := Int × List RG × List RG × List RG × List RG × List RG × List Int × Unit
abbrev ITU : U := .pair (.int .i64) (.pair (.sl false RGU) (.pair (.sl false RGU) (.pair (.sl false RGU) (.pair (.sl false RGU) (.pair (.sl false RGU) (.pair (.sl false (.int .i64)) .unit))))))
def rangeB (lo hi : Int) (r : RG) : Bool := decide (r.1 ≤ r.2.1) && decide (lo ≤ r.1) && decide (r.2.1 ≤ hi)
def rangesB (l : List RG) (lo hi : Int) : Bool := decide (l.length ≤ 10) && (List.range l.length).all fun i => rangeB lo hi (l.getD i default)
/-- numbers that rise -/
def risingI (l : List Int) : Bool := (List.range (l.length - 1)).all fun i => decide (l.getD i default < l.getD (i + 1) default)
def freeB (n : Int) : Bool := decide (0 ≤ n) && decide (n ≤ 20000000)
def dayRB (r : RG) : Bool := decide (0 < r.1) || decide (r.2.1 < 0)
def dayRS (r : RG) : Bool := !decide (r.1 = 0) && !decide (r.2.1 = 0) && (decide (r.1 < 0) == decide (r.2.1 < 0))
def allG {α : Type} [Inhabited α] (p : α → Bool) (l : List α) : Bool := (List.range l.length).all fun i => p (l.getD i default)
def itvB (x : ITV) : Bool := decide (-1440 ≤ x.1) && decide (x.1 ≤ 1440) && rangesB x.2.1 0 1439 && rangesB x.2.2.1 0 6 && rangesB x.2.2.2.1 (-31) 31 && rangesB x.2.2.2.2.1 1 12 && rangesB x.2.2.2.2.2.1 1970 40000 &&
  decide (x.2.2.2.2.2.2.1.length ≤ 10) && risingI x.2.2.2.2.2.2.1 && allG dayRB x.2.2.2.1 && allG freeB x.2.2.2.2.2.2.1
def inRB (l : List RG) (n : Int) : Bool := decide (l.length = 0) || (List.range l.length).any fun i => decide ((l.getD i default).1 ≤ n) && decide (n ≤ (l.getD i default).2.1)
def inIB (l : List Int) (n : Int) : Bool := (List.range l.length).any fun i => decide (l.getD i default = n)
noncomputable def inItvB (x : ITV) (t : Int) : Bool := itvB x && timeB t && !decide ((dateV t x.1).1 = 0) && inRB x.2.1 (dateV t x.1).2.2.2.2.2.1 && inRB x.2.2.1 (dateV t x.1).2.2.2.2.1 &&
  (inRB x.2.2.2.1 (dateV t x.1).2.2.1 || inRB x.2.2.2.1 (IntKind.wrap .i64 ((IntKind.wrap .i64 ((dateV t x.1).2.2.1 - (dateV t x.1).2.2.2.1)) - (1 : Int)))) && inRB x.2.2.2.2.1 (dateV t x.1).2.1 && inRB x.2.2.2.2.2.1 (dateV t x.1).1 &&
  !inIB x.2.2.2.2.2.2.1 (dayV (dateV t x.1).1 (dateV t x.1).2.1 (dateV t x.1).2.2.1)
abbrev LB := ByteArray × ByteArray × Unit
abbrev LU : U := .pair .str (.pair .str .unit)
def valueB (s : ByteArray) : Bool := decide (1 ≤ s.size) && decide (s.size ≤ 100) && printB s
def labB (l : List LB) (i : Nat) : Bool := nameB (l.getD i default).1 && valueB (l.getD i default).2.1 && (decide (i = 0) || decide (cmpT (l.getD (i - 1) default).1 (l.getD i default).1 < 0))
def labelsB (l : List LB) : Bool := decide (l.length ≤ 20) && (List.range l.length).all (labB l)
def valL : List LB → ByteArray → ByteArray
  | [], _ => ⟨#[]⟩
  | x :: r, k => bif seq x.1 k then x.2.1 else valL r k
theorem drop_getD {α : Type} [Inhabited α] {l : List α} {i : Nat} (h : i < l.length) : l.drop i = l.getD i default :: l.drop (i + 1) := by
  rw [List.drop_eq_getElem_cons h, List.getD_eq_getElem?_getD, List.getElem?_eq_getElem h]; rfl
def mt : List Int → List Int → Bool
  | [], s => s.isEmpty
  | c :: p, s => if c = -1 then mt p s || (match s with | [] => false | _ :: r => mt (c :: p) r) else match s with | [] => false | x :: r => (decide (c = -2) || decide (c = x)) && mt p r
termination_by p s => p.length + s.length
decreasing_by all_goals simp_wf; try omega
def fitsP (p s : ByteArray) : Bool := match alts p with | some l => (List.range l.length).any fun i => mt (l.getD i default) (octs s) | none => false
def cellM (p : List Int) (s : ByteArray) (j i : Nat) : Bool := mt (p.drop j) ((octs s).drop i)
def EvP {α : Type} (f : Nat → Option α) (Q : α → Prop) : Prop := ∃ v, Ev f v ∧ Q v
namespace EvP
variable {α β : Type} {Q : α → Prop}
theorem pure {v : α} (h : Q v) : EvP (fun _ => some v) Q := ⟨v, Ev.pure, h⟩
theorem of {f : Nat → Option α} {v : α} (h : Ev f v) (q : Q v) : EvP f Q := ⟨v, h, q⟩
theorem imp {f : Nat → Option α} {R : α → Prop} (h : EvP f Q) (q : ∀ v, Q v → R v) : EvP f R := ⟨h.choose, h.choose_spec.1, q _ h.choose_spec.2⟩
theorem bind {f : Nat → Option β} {g : Nat → β → Option α} {a : β} (h : Ev f a) (h' : EvP (fun n => g n a) Q) : EvP (fun n => (f n).bind (g n)) Q := ⟨h'.choose, Ev.bind h h'.choose_spec.1, h'.choose_spec.2⟩
theorem bindP {f : Nat → Option β} {g : Nat → β → Option α} {R : β → Prop} (h : EvP f R) (h' : ∀ a, R a → EvP (fun n => g n a) Q) : EvP (fun n => (f n).bind (g n)) Q := by
  obtain ⟨a, h1, h2⟩ := h
  exact bind h1 (h' a h2)
theorem cnd {c : Bool} {f g : Nat → Option α} (ht : c = true → EvP f Q) (hf : c = false → EvP g Q) : EvP (fun n => cond c (f n) (g n)) Q := by
  cases c with
  | true => exact ht rfl
  | false => exact hf rfl
theorem yes {c : Bool} {f g : Nat → Option α} (hc : c = true) (h : EvP f Q) : EvP (fun n => cond c (f n) (g n)) Q := by subst hc; exact h
theorem no {c : Bool} {f g : Nat → Option α} (hc : c = false) (h : EvP g Q) : EvP (fun n => cond c (f n) (g n)) Q := by subst hc; exact h
theorem step {P : Type} {s : Nat → (P → Option α) → P → Option α} {p : P} (h : EvP (fun n => s n (goRec s n) p) Q) : EvP (fun n => goRec s n p) Q := ⟨h.choose, Ev.step h.choose_spec.1, h.choose_spec.2⟩
end EvP
def matchOne (x : MT) (v : ByteArray) : Bool := if x.2.1 = 1 then seq v x.2.2.1 else if x.2.1 = 2 then !seq v x.2.2.1 else if x.2.1 = 3 then fitsP x.2.2.1 v else !fitsP x.2.2.1 v
def fitsB (ms : List MT) (l : List LB) : Bool := (List.range ms.length).all fun i => matchOne (ms.getD i default) (valL l (ms.getD i default).1)
def inhOne (x : INH) (s t : List LB) : Bool := (fitsB x.1 s && !(fitsB x.2.1 s && fitsB x.1 t)) && x.2.2.1.all fun k => seq (valL s k) (valL t k)
def inhibitedB (l : List INH) (ss : List (List LB)) (t : List LB) : Bool := l.any fun x => fitsB x.2.1 t && ss.any fun s => inhOne x s t
def inhibitedF (l : List INH) (ss : List (List LB)) (t : List LB) : Bool := (inhsB l && decide (ss.length ≤ 200) && labelsB t && ss.all labelsB) && inhibitedB l ss t
theorem Ev.bindP {α β : Type} {f : Nat → Option β} {g : Nat → β → Option α} {R : β → Prop} {v : α} (h : EvP f R) (h' : ∀ a, R a → Ev (fun n => g n a) v) : Ev (fun n => (f n).bind (g n)) v := by
  obtain ⟨a, h1, h2⟩ := h
  exact Ev.bind h1 (h' a h2)
def silP (t : List LB) (n : Int) (x : SIL) : Bool := fitsB x.2.1 t && decide (x.2.2.1 ≤ n) && decide (n ≤ x.2.2.2.1)
def silL (l : List SIL) (t : List LB) (n : Int) : List ByteArray := (l.filter (silP t n)).map fun x => x.1
def silencedF (l : List SIL) (t : List LB) (n : Int) : List ByteArray := if (silsB l && labelsB t && timeB n) = true then silL l t n else []
abbrev RTE := ByteArray × List MT × List ByteArray × Int × Int × Int × List Int × Bool × Int × Unit
abbrev RTU : U := .pair .str (.pair (.sl false MU) (.pair (.sl false .str) (.pair (.int .i64) (.pair (.int .i64) (.pair (.int .i64) (.pair (.sl false (.int .i64)) (.pair .bool (.pair (.int .i64) .unit))))))))
def mutesB (l : List Int) : Bool := (List.range l.length).all fun i => decide (0 ≤ l.getD i default) && decide (l.getD i default < 20)
def posB (n : Int) : Bool := decide (1 ≤ n) && decide (n ≤ 1000000000000)
def routeB (r : RTE) : Bool := nameB r.1 && matchersB r.2.1 && namesB r.2.2.1 && timeB r.2.2.2.1 && posB r.2.2.2.2.1 && posB r.2.2.2.2.2.1 && (decide (r.2.2.2.2.2.2.1.length ≤ 20) && risingI r.2.2.2.2.2.2.1) && mutesB r.2.2.2.2.2.2.1
def kidsOf (l : List RTE) (i : Nat) : Int := (l.getD i default).2.2.2.2.2.2.2.2.1
def manyN (f : Nat → Option Nat) : Nat → Nat → Option Nat
  | 0, p => some p
  | k + 1, p => match f p with | some q => manyN f k q | none => none
def nodeN (l : List RTE) (g : RTE → Bool) : Nat → Nat → Option Nat
  | 0, _ => none
  | d + 1, i => if (decide (i < l.length) && decide (0 ≤ kidsOf l i) && g (l.getD i default)) = true then manyN (nodeN l g d) (kidsOf l i).toNat (i + 1) else none
def smallB (r : RTE) : Bool := decide (r.2.2.2.2.2.2.2.2.1 ≤ 40)
def tkV : Option Nat → Int | some q => (q : Int) | none => -1
def routesB (l : List RTE) : Bool := (decide (l.length ≠ 0) && decide (l.length ≤ 40) && decide (nodeN l routeB 8 0 = some l.length)) && (decide ((l.getD 0 default).2.1.length = 0) && !(l.getD 0 default).2.2.2.2.2.2.2.1)
def hasB (l : List ByteArray) (x : ByteArray) : Bool := (List.range l.length).any fun i => decide (l.getD i default = x)
def groupF (l : List RTE) (k : Int) (t : List LB) : List LB := if (routesB l && decide (0 ≤ k) && decide (k < (l.length : Int)) && labelsB t) = true then t.filter (fun x => hasB (l.getD k.toNat default).2.2.1 x.1) else []
theorem Ev.allK {P : Type} {step : Nat → (P → Option Bool) → P → Option Bool} {n : Nat} {p : Nat → Bool} {pt : Nat → P} {b : Bool}
    (hs : ∀ i, i < n → (p i = true → ∀ v, Ev (fun m => goRec step m (pt (i + 1))) v → Ev (fun m => goRec step m (pt i)) v) ∧ (p i = false → Ev (fun m => goRec step m (pt i)) false))
    (he : (List.range n).all p = true → Ev (fun m => goRec step m (pt n)) b) : Ev (fun m => goRec step m (pt 0)) ((List.range n).all p && b) := by
  have key : ∀ d i, i + d = n → (∀ j, j < i → p j = true) → Ev (fun m => goRec step m (pt i)) ((List.range' i d).all p && b) := by
    intro d
    induction d with
    | zero =>
      intro i h hj
      rw [Nat.add_zero] at h
      subst h
      exact he (by simpa using hj)
    | succ d ih =>
      intro i h hj
      obtain ⟨h1, h2⟩ := hs i (by omega)
      rw [List.range'_succ, List.all_cons]
      cases hp : p i with
      | false => rw [Bool.false_and, Bool.false_and]; exact h2 hp
      | true =>
        rw [Bool.true_and]
        refine h1 hp _ (ih (i + 1) (by omega) fun j h => ?_)
        rcases Nat.lt_succ_iff_lt_or_eq.1 h with h | rfl
        · exact hj j h
        · exact hp
  have := key n 0 (by omega) (by omega)
  rwa [List.range_eq_range']
abbrev NCE := List RTE × List ITV × List SIL × List INH × Unit
abbrev NCU : U := .pair (.sl false RTU) (.pair (.sl false ITU) (.pair (.sl false SIU) (.pair (.sl false INU) .unit)))
def mutesOK (m : Nat) (l : List Int) : Bool := (List.range l.length).all fun j => !decide ((m : Int) ≤ l.getD j default)
def itvsB (l : List ITV) : Bool := (List.range l.length).all fun i => itvB (l.getD i default)
def rmutesB (m : Nat) (l : List RTE) : Bool := (List.range l.length).all fun i => mutesOK m (l.getD i default).2.2.2.2.2.2.1
def notifyB (c : NCE) : Bool := (routesB c.1 && silsB c.2.2.1 && inhsB c.2.2.2.1) && decide (c.2.1.length ≤ 20) && itvsB c.2.1 && rmutesB c.2.1.length c.1
abbrev CUE := Int × Int × Int × Int × Unit
abbrev CUU : U := .pair (.int .i64) (.pair (.int .i64) (.pair (.int .i64) (.pair (.int .i64) .unit)))
abbrev MCE := Int × Int × List CUE × List CUE × Unit
abbrev MCU : U := .pair (.int .i64) (.pair (.int .i64) (.pair (.sl false CUU) (.pair (.sl false CUU) .unit)))
def cutB (m : Int) (d : Bool) (x : CUE) : Bool := timeB x.2.2.1 && timeB x.2.2.2.1 && decide (0 ≤ x.1) && decide (x.1 < m) && decide (0 ≤ x.2.1) && decide (x.2.1 < m) && !(d && !decide (x.2.1 = 0))
def cutsB (l : List CUE) (m : Int) (d : Bool) : Bool := decide (l.length ≤ 20) && (List.range l.length).all fun i => cutB m d (l.getD i default)
def slowB (l : List RTE) (k : Int) : Bool := (List.range l.length).all fun i => !decide ((l.getD i default).2.2.2.2.1 ≤ k)
def membersB (c : NCE) (m : MCE) : Bool := (notifyB c && decide (1 ≤ m.1) && decide (m.1 ≤ 5) && timeB m.2.1 && cutsB m.2.2.1 m.1 false && cutsB m.2.2.2.1 m.1 true) && slowB c.1 (IntKind.wrap .i64 ((IntKind.wrap .i64 (m.1 - (1 : Int))) * m.2.1))
noncomputable def mutedB (c : NCE) (l : List Int) (t : Int) : Bool := (List.range l.length).any fun j => inItvB (c.2.1.getD (l.getD j default).toNat default) t
noncomputable def mutedAtB (c : NCE) (r t : Int) : Bool := notifyB c && decide (0 ≤ r) && decide (r < (c.1.length : Int)) && timeB t && mutedB c (c.1.getD r.toNat default).2.2.2.2.2.2.1 t
/-- the mutes of a route of good routes name intervals -/
theorem inB_of {i : Int} {n : Nat} (h : 0 ≤ i ∧ i < (n : Int)) : inB i n = true := by simpa [inB] using h
/-- a loop that goes on until p holds -/
def onB (l : List RTE) (i : Nat) : Bool := (l.getD i default).2.2.2.2.2.2.2.1
def fitI (l : List RTE) (t : List LB) (i : Nat) : Bool := fitsB (l.getD i default).2.1 t
def takeK (f : Nat → Option Nat) (g : Nat → List Int) (fit on : Nat → Bool) : Nat → Nat → Bool → List Int
  | 0, _, _ => []
  | k + 1, p, go => if (go && fit p) = true then g p ++ takeK f g fit on k ((f p).getD 0) (on p) else takeK f g fit on k ((f p).getD 0) go
def takeN (l : List RTE) (t : List LB) : Nat → Nat → List Int
  | 0, _ => []
  | d + 1, i => if (takeK (nodeN l routeB d) (takeN l t d) (fitI l t) (onB l) (kidsOf l i).toNat (i + 1) true).isEmpty = true then [(i : Int)] else takeK (nodeN l routeB d) (takeN l t d) (fitI l t) (onB l) (kidsOf l i).toNat (i + 1) true
/-- in order, within bounds -/
def InO (r : List Int) (p q : Nat) : Prop := r.Pairwise (· ≤ ·) ∧ (∀ x ∈ r, (p : Int) ≤ x ∧ x < (q : Int)) ∧ r.length ≤ q - p
theorem InO.app {r s : List Int} {p q n : Nat} (h1 : InO r p q) (h2 : InO s q n) (hp : p ≤ q) (hq : q ≤ n) : InO (r ++ s) p n := by
  obtain ⟨a1, a2, a3⟩ := h1
  obtain ⟨b1, b2, b3⟩ := h2
  refine ⟨List.pairwise_append.2 ⟨a1, b1, fun x hx y hy => ?_⟩, fun x hx => ?_, by rw [List.length_append]; omega⟩
  · have := a2 x hx
    have := b2 y hy
    omega
  · rcases List.mem_append.1 hx with hx | hx
    · have := a2 x hx; omega
    · have := b2 x hx; omega
theorem InO.up {s : List Int} {p q n : Nat} (h : InO s q n) (hp : p ≤ q) : InO s p n := ⟨h.1, fun x hx => by have := h.2.1 x hx; omega, by have := h.2.2; omega⟩
def forF (l : List RTE) (t : List LB) : List Int := if (routesB l && labelsB t) = true then takeN l t 8 0 else []
theorem wrapu {x : Int} : IntKind.wrap .u64 x = x % 18446744073709551616 := rfl
theorem wrapu_nat {n : Nat} (h : n < 18446744073709551616) : IntKind.wrap .u64 (n : Int) = (n : Int) := by rw [wrapu]; omega
theorem i64_id {n : Nat} (h : n ≤ 4611686018427387904) : IntKind.wrap .i64 (n : Int) = (n : Int) := i64_ok (by omega) (by omega)
theorem shr_nat {y k : Nat} (hk : k ≤ 64) : shr .u64 (y : Int) (k : Int) = ((y / 2 ^ k : Nat) : Int) := by
  show Int.fdiv (y : Int) (2 ^ (min (Int.toNat (k : Int)) 64)) = _
  rw [Int.toNat_natCast, Nat.min_eq_left hk, Int.fdiv_eq_ediv_of_nonneg _ (Int.pow_nonneg (by decide))]
  rw [show ((2 : Int) ^ k) = ((2 ^ k : Nat) : Int) by simp]
  rfl
def bitN (y k : Nat) : Nat := y / 2 ^ k % 2
def lzN (y : Nat) : Nat := 63 - Nat.log2 y
def tzN (y : Nat) : Nat := ((List.range 64).find? fun i => y.testBit i).getD 64
def len8T : ByteArray := ⟨#[0, 1, 2, 2, 3, 3, 3, 3, 4, 4, 4, 4, 4, 4, 4, 4, 5, 5, 5, 5, 5, 5, 5, 5, 5, 5, 5, 5, 5, 5, 5, 5, 6, 6, 6, 6, 6, 6, 6, 6, 6, 6, 6, 6, 6, 6, 6, 6, 6, 6, 6, 6, 6, 6, 6, 6, 6, 6, 6, 6, 6, 6, 6, 6, 7, 7, 7, 7, 7, 7, 7, 7, 7, 7, 7, 7, 7, 7, 7, 7, 7, 7, 7, 7, 7, 7, 7, 7, 7, 7, 7, 7, 7, 7, 7, 7, 7, 7, 7, 7, 7, 7, 7, 7, 7, 7, 7, 7, 7, 7, 7, 7, 7, 7, 7, 7, 7, 7, 7, 7, 7, 7, 7, 7, 7, 7, 7, 7, 8, 8, 8, 8, 8, 8, 8, 8, 8, 8, 8, 8, 8, 8, 8, 8, 8, 8, 8, 8, 8, 8, 8, 8, 8, 8, 8, 8, 8, 8, 8, 8, 8, 8, 8, 8, 8, 8, 8, 8, 8, 8, 8, 8, 8, 8, 8, 8, 8, 8, 8, 8, 8, 8, 8, 8, 8, 8, 8, 8, 8, 8, 8, 8, 8, 8, 8, 8, 8, 8, 8, 8, 8, 8, 8, 8, 8, 8, 8, 8, 8, 8, 8, 8, 8, 8, 8, 8, 8, 8, 8, 8, 8, 8, 8, 8, 8, 8, 8, 8, 8, 8, 8, 8, 8, 8, 8, 8, 8, 8, 8, 8, 8, 8, 8, 8, 8, 8, 8, 8, 8, 8, 8, 8, 8, 8, 8, 8]⟩
def tzT : List Int := [0, 1, 56, 2, 57, 49, 28, 3, 61, 58, 42, 50, 38, 29, 17, 4, 62, 47, 59, 36, 45, 43, 51, 22, 53, 39, 33, 30, 24, 18, 12, 5, 63, 55, 48, 27, 60, 41, 37, 16, 46, 35, 44, 21, 52, 32, 23, 11, 54, 26, 40, 15, 34, 20, 31, 10, 25, 14, 19, 9, 13, 8, 7, 6]
abbrev SME := Int × Int × Unit
abbrev SMU : U := .pair (.int .i64) (.pair (.int .i64) .unit)
abbrev BBE := List Int × Nat
def bitAt (v : Int) (k : Nat) : Bool := decide (band .u64 (shr .u64 (IntKind.wrap .u64 v) (k : Int)) (1 : Int) = 1)
def growB (b : BBE) : List Int := if b.2 % 8 = 0 then b.1 ++ [0] else b.1
def put1 (b : BBE) (x : Bool) : BBE := (if x = true then (growB b).set (b.2 / 8) (bor .u8 ((growB b).getD (b.2 / 8) default) (shr .u8 (128 : Int) ((b.2 % 8 : Nat) : Int))) else growB b, b.2 + 1)
def puts (v : Int) : Nat → BBE → BBE
  | 0, b => b
  | k + 1, b => puts v k (put1 b (bitAt v k))
def OKB (b : BBE) : Prop := b.1.length = (b.2 + 7) / 8
def outB (b : BBE) : List Int × Int × Unit := (b.1, ((b.2 : Nat) : Int), ())
def bendB (b : BBE) (e : Int) : BBE :=
  if e = 0 then puts 0 1 b else if -63 ≤ e ∧ e ≤ 64 then puts (IntKind.wrap .i64 (e + 63)) 7 (puts 2 2 b) else if -255 ≤ e ∧ e ≤ 256 then puts (IntKind.wrap .i64 (e + 255)) 9 (puts 6 3 b)
  else if -2047 ≤ e ∧ e ≤ 2048 then puts (IntKind.wrap .i64 (e + 2047)) 12 (puts 14 4 b) else puts e 64 (puts 15 4 b)
def turnN (a p : Int) : Nat := (BitVec.ofInt 64 a ^^^ BitVec.ofInt 64 p).toNat
abbrev FRE := Option (Nat × Nat)
def frB (st : FRE) (y : Nat) : Bool := match st with | some (ld, tr) => decide (ld ≤ lzN y) && decide (tr ≤ tzN y) | none => false
def leadN (st : FRE) : Nat := (st.getD (0, 0)).1
def leadI (st : FRE) : Int := match st with | some p => (p.1 : Int) | none => -1
def trailN (st : FRE) : Nat := (st.getD (0, 0)).2
def oldB (b : BBE) (st : FRE) (y : Nat) : BBE := puts (IntKind.wrap .i64 ((y / 2 ^ trailN st : Nat) : Int)) (64 - leadN st - trailN st) (puts 2 2 b)
def newB (b : BBE) (y : Nat) : BBE := puts (IntKind.wrap .i64 ((y / 2 ^ tzN y : Nat) : Int)) (64 - lzN y - tzN y) (puts ((64 - lzN y - tzN y - 1 : Nat) : Int) 6 (puts (lzN y : Int) 6 (puts 3 2 b)))
def valB (b : BBE) (st : FRE) (y : Nat) : BBE × FRE := if y = 0 then (puts 0 1 b, st) else if frB st y = true then (oldB b st y, st) else (newB b y, some (lzN y, tzN y))
def nowI (l : List SME) (i : Nat) : Int := IntKind.wrap .i64 ((l.getD i default).1 - (l.getD (i - 1) default).1)
def bendI (l : List SME) (i : Nat) (step : Int) : Int := if i = 1 then nowI l i else IntKind.wrap .i64 (nowI l i - step)
def turnI (l : List SME) (i : Nat) : Nat := turnN (l.getD i default).2.1 (l.getD (i - 1) default).2.1
def packR (l : List SME) : Nat → Nat → BBE → FRE → Int → BBE
  | 0, _, b, _, _ => b
  | d + 1, i, b, st, step => if i = 0 then packR l d (i + 1) (puts (l.getD i default).2.1 64 (puts (l.getD i default).1 40 b)) st step
    else packR l d (i + 1) (valB (bendB b (bendI l i step)) st (turnI l i)).1 (valB (bendB b (bendI l i step)) st (turnI l i)).2 (nowI l i)
def packV (l : List SME) : BBE := packR l l.length 0 (puts (l.length : Int) 8 ([], 0)) none 0
def FrOK (st : FRE) : Prop := leadN st + trailN st ≤ 63
def samplesB (l : List SME) : Bool := ((List.range l.length).all fun i => timeB (l.getD i default).1 && !(decide (0 < i) && decide ((l.getD i default).1 ≤ (l.getD (i - 1) default).1))) && decide (l.length ≤ 2000)
def chunkF (l : List SME) : BBE := if (samplesB l && decide (l.length ≤ 120)) = true then packV l else ([], 0)
theorem pred_i64 {i : Nat} (h : i ≠ 0) (h2 : i ≤ 4611686018427387904) : IntKind.wrap .i64 ((i : Int) - 1) = ((i - 1 : Nat) : Int) := by
  rw [i64_ok (by omega) (by omega)]; omega
def bitD (D : List Int) (i : Nat) : Bool := decide ((D.getD (i / 8) default).toNat / 2 ^ (7 - i % 8) % 2 = 1)
def BYB (D : List Int) : Prop := ∀ j, 0 ≤ D.getD j default ∧ D.getD j default < 256
structure GB (b : BBE) : Prop where
  ok : OKB b
  by_ : BYB b.1
  z : ∀ i, b.2 ≤ i → bitD b.1 i = false
structure ExB (b c : BBE) : Prop where
  le : b.2 ≤ c.2
  eq : ∀ i, i < b.2 → bitD c.1 i = bitD b.1 i
theorem ExB.trans {a b c : BBE} (h : ExB a b) (h' : ExB b c) : ExB a c := ⟨Nat.le_trans h.le h'.le, fun i hi => by rw [h'.eq i (Nat.lt_of_lt_of_le hi h.le), h.eq i hi]⟩
def HasB (D : List Int) (at_ : Nat) (v : Int) (n : Nat) : Prop := ∀ j, j < n → bitD D (at_ + j) = bitAt v (n - 1 - j)
theorem HasB.ext {b c : BBE} {a n : Nat} {v : Int} (h : HasB b.1 a v n) (hx : ExB b c) (hn : a + n ≤ b.2) : HasB c.1 a v n := fun j hj => by rw [hx.eq _ (by omega)]; exact h j hj
def rdN (D : List Int) (at_ : Nat) : Nat → Nat
  | 0 => 0
  | n + 1 => rdN D at_ n * 2 + (bitD D (at_ + n)).toNat
def rdT (D : List Int) (S at_ n : Nat) : Nat := if at_ + n ≤ S then rdN D at_ n else 0
def onesT (D : List Int) (S : Nat) : Nat → Nat → Nat × Nat
  | 0, a => (0, a)
  | k + 1, a => if rdT D S a 1 = 1 then ((onesT D S k (a + 1)).1 + 1, (onesT D S k (a + 1)).2) else (0, a + 1)
def bendT (D : List Int) (S a : Nat) : Int × Nat :=
  if (onesT D S 4 a).1 = 0 then (0, (onesT D S 4 a).2) else if (onesT D S 4 a).1 = 1 then ((rdT D S (onesT D S 4 a).2 7 : Int) - 63, (onesT D S 4 a).2 + 7)
  else if (onesT D S 4 a).1 = 2 then ((rdT D S (onesT D S 4 a).2 9 : Int) - 255, (onesT D S 4 a).2 + 9) else if (onesT D S 4 a).1 = 3 then ((rdT D S (onesT D S 4 a).2 12 : Int) - 2047, (onesT D S 4 a).2 + 12)
  else (IntKind.wrap .i64 (rdT D S (onesT D S 4 a).2 64 : Int), (onesT D S 4 a).2 + 64)
def xorI (p : Int) (y : Nat) : Int := bxor .i64 p (IntKind.wrap .i64 (y : Int))
/-- one value: which, the frame behind it, where it ends -/
def valT (imp : Bool) (D : List Int) (S a : Nat) (st : FRE) : Option (Nat × FRE × Nat) :=
  if (onesT D S 2 a).1 = 0 then some (0, st, (onesT D S 2 a).2)
  else if (onesT D S 2 a).1 = 1 then
    if st.isSome || imp then some (rdT D S (onesT D S 2 a).2 (64 - leadN st - trailN st) * 2 ^ trailN st, st, (onesT D S 2 a).2 + (64 - leadN st - trailN st)) else none
  else if 64 < rdT D S (onesT D S 2 a).2 6 + (rdT D S ((onesT D S 2 a).2 + 6) 6 + 1) then none
  else some (rdT D S ((onesT D S 2 a).2 + 12) (rdT D S ((onesT D S 2 a).2 + 6) 6 + 1) * 2 ^ (64 - rdT D S (onesT D S 2 a).2 6 - (rdT D S ((onesT D S 2 a).2 + 6) 6 + 1)),
    some (rdT D S (onesT D S 2 a).2 6, 64 - rdT D S (onesT D S 2 a).2 6 - (rdT D S ((onesT D S 2 a).2 + 6) 6 + 1)), (onesT D S 2 a).2 + 12 + (rdT D S ((onesT D S 2 a).2 + 6) 6 + 1))
def nextT (e : Int) (p : SME) (step : Int) (y : Nat) : SME := (IntKind.wrap .i64 (p.1 + IntKind.wrap .i64 (step + e)), xorI p.2.1 y, ())
def unR (imp : Bool) (D : List Int) (S : Nat) : Nat → Nat → Nat → FRE → Int → List SME → Option (List SME × Nat)
  | 0, _, a, _, _, out => some (out, a)
  | d + 1, i, a, st, step, out => if S < a then some (out, a)
    else if i = 0 then unR imp D S d (i + 1) (a + 104) st step (out ++ [((rdT D S a 40 : Int), IntKind.wrap .i64 (rdT D S (a + 40) 64 : Int), ())])
    else match valT imp D S (bendT D S a).2 st with
      | none => none
      | some r => unR imp D S d (i + 1) r.2.2 r.2.1 (IntKind.wrap .i64 (step + (bendT D S a).1)) (out ++ [nextT (bendT D S a).1 (out.getD (i - 1) default) step r.1])
def unF (imp : Bool) (D : List Int) (S : Nat) : Option (List SME × Nat) := unR imp D S (rdT D S 0 8) 0 8 none 0 []
def ValsOK (l : List SME) : Prop := ∀ i, i < l.length → -9223372036854775808 ≤ (l.getD i default).2.1 ∧ (l.getD i default).2.1 ≤ 9223372036854775807
def ChunkOf (D : List Int) (S : Nat) (l : List SME) : Prop := samplesB l = true ∧ l.length ≤ 120 ∧ ValsOK l ∧ packV l = (D, S)
open Classical in
noncomputable def unV (D : List Int) (S : Nat) : List SME × Bool := if h : ∃ l, ChunkOf D S l then (h.choose, true) else ([], false)
theorem eq_yes {n k : Nat} (h : decide ((n : Int) = (k : Int)) = true) : n = k := by have := of_decide_eq_true h; omega
theorem eq_no {n k : Nat} (h : decide ((n : Int) = (k : Int)) = false) : ¬ n = k := by have := of_decide_eq_false h; omega
abbrev RSE := (List Int × Int × Unit) × Int × Bool × Unit
abbrev RS (D : List Int) (S a : Nat) : RSE := ((D, ((S : Int), ())), ((a : Int), (decide (a ≤ S), ())))
def tailB (D : List Int) (S : Nat) : Bool := (List.range (8 * D.length - S)).all fun j => !bitD D (S + j)
def goodBB (D : List Int) (S : Int) : Bool := decide (0 ≤ S) && decide (S ≤ 80000) && decide ((D.length : Int) = (S + 7) / 8) && tailB D S.toNat
noncomputable def upV (D : List Int) (S : Int) : List SME × Bool := if goodBB D S = true then unV D S.toNat else ([], false)
def cntV (r : List SME × Bool) : Int := if r.2 = true then (r.1.length : Int) else -1
/-- what unpacking comes to, of what the reader read -/
def finU (S : Nat) (r : Option (List SME × Nat)) : List SME × Bool := match r with | none => ([], false) | some p => (p.1, decide ((p.2 : Int) = (S : Int)))
noncomputable def apF (D : List Int) (S : Int) (s : SME) : BBE := if (upV D S).2 = true then chunkF ((upV D S).1 ++ [s]) else ([], 0)
abbrev CRE := List Int × Int × Int × Unit
def CurOK (code : List Int) (m : Int) (c : CRE) : Prop := c.1 = code ∧ 0 ≤ c.2.1 ∧ c.2.1 ≤ m
def CodeOK (code : List Int) : Prop := code.length ≤ 1048576 ∧ ∀ x ∈ code, 0 ≤ x ∧ x ≤ 255
theorem CurOK.up {code : List Int} {m m' : Int} {c : CRE} (h : CurOK code m c) (hm : m ≤ m') : CurOK code m' c := ⟨h.1, h.2.1, Int.le_trans h.2.2 hm⟩
theorem band255 {x : Int} : ∃ z : Nat, band .u64 x 255 = (z : Int) ∧ z ≤ 255 := by
  have h : (BitVec.ofInt 64 x &&& BitVec.ofInt 64 255).toNat ≤ 255 := by
    rw [BitVec.toNat_and]
    exact Nat.le_trans Nat.and_le_right (by decide)
  refine ⟨_, ?_, h⟩
  show IntKind.wrap .u64 ((BitVec.ofInt 64 x &&& BitVec.ofInt 64 255).toNat : Int) = _
  exact wrapu_nat (by omega)
theorem wrap_range {x : Int} : -9223372036854775808 ≤ IntKind.wrap .i64 x ∧ IntKind.wrap .i64 x ≤ 9223372036854775807 := by
  have e : IntKind.wrap .i64 x = (if (true && decide (x % 18446744073709551616 ≥ 9223372036854775808)) = true then x % 18446744073709551616 - 18446744073709551616 else x % 18446744073709551616) := rfl
  rw [e]
  split <;> rename_i h <;> simp only [Bool.true_and, decide_eq_true_eq, Bool.not_eq_true] at h <;> omega
def PickOK (code : List Int) (m k : Int) (r : Int × CRE) : Prop := 0 ≤ r.1 ∧ r.1 ≤ 65535 ∧ (1 ≤ k → r.1 < k) ∧ CurOK code m r.2
/-- any int64 -/
def InR (x : Int) : Prop := -9223372036854775808 ≤ x ∧ x ≤ 9223372036854775807
def VR (l : List SME) : Prop := ∀ x ∈ l, InR x.2.1
theorem VR.app {l m : List SME} (h : VR l) (h' : VR m) : VR (l ++ m) := fun x hx => by
  rcases List.mem_append.1 hx with hx | hx
  · exact h x hx
  · exact h' x hx
theorem VR.one {x : SME} (h : InR x.2.1) : VR [x] := fun y hy => by rw [List.mem_singleton.1 hy]; exact h
theorem VR.set {l : List SME} {i : Nat} {x : SME} (h : VR l) (hx : InR x.2.1) : VR (l.set i x) := fun y hy => by
  rcases List.mem_or_eq_of_mem_set hy with hy | rfl
  · exact h y hy
  · exact hx
theorem VR.at {l : List SME} (h : VR l) (i : Nat) : InR (l.getD i default).2.1 := by
  rcases Nat.lt_or_ge i l.length with hi | hi
  · exact h _ (getD_mem hi)
  · rw [List.getD_eq_getElem?_getD, List.getElem?_eq_none hi]; exact ⟨by decide, by decide⟩
theorem wrapR {x : Int} : InR (IntKind.wrap .i64 x) := wrap_range
def stL (s v : Int) (n : Nat) : List SME := (List.range n).map fun (i : Nat) => ((i : Int) * s, (v, ()))
abbrev SRE := List LB × List SME × Unit
abbrev SRU : U := .pair (.sl false LU) (.pair (.sl false SMU) .unit)
abbrev NDE := List MT × Int × Int × Unit
abbrev NDU : U := .pair (.sl false MU) (.pair (.int .i64) (.pair (.int .i64) .unit))
theorem cmpL_rng : ∀ a b : List Int, cmpL a b = -1 ∨ cmpL a b = 0 ∨ cmpL a b = 1
  | [], [] => by simp [cmpL]
  | [], _ :: _ => by simp [cmpL]
  | _ :: _, [] => by simp [cmpL]
  | x :: a, y :: b => by
    have := cmpL_rng a b
    simp only [cmpL]
    split
    · simp
    · split
      · simp
      · exact this
theorem cmpL_swap : ∀ a b : List Int, cmpL b a = -cmpL a b
  | [], [] => by simp [cmpL]
  | [], _ :: _ => by simp [cmpL]
  | _ :: _, [] => by simp [cmpL]
  | x :: a, y :: b => by
    have := cmpL_swap a b
    simp only [cmpL]
    by_cases h1 : x < y
    · rw [if_neg (by omega), if_pos h1, if_pos h1]; rfl
    · by_cases h2 : y < x
      · rw [if_pos h2, if_neg h1, if_pos h2]
      · rw [if_neg h2, if_neg h1, if_neg h1, if_neg h2]; exact this
theorem cmpT_three {a b : ByteArray} : (if slt a b = true then (-1 : Int) else if slt b a = true then 1 else 0) = cmpT a b := by
  have h1 : cmpT a b = -1 ∨ cmpT a b = 0 ∨ cmpT a b = 1 := cmpL_rng (octs a) (octs b)
  have h2 : cmpT b a = -cmpT a b := cmpL_swap (octs a) (octs b)
  rw [slt_cmp, slt_cmp]
  rcases h1 with h | h | h <;> simp [h2, h]
def cmpLs : List LB → List LB → Int
  | x :: a, y :: b => if cmpT x.1 y.1 ≠ 0 then cmpT x.1 y.1 else if cmpT x.2.1 y.2.1 ≠ 0 then cmpT x.2.1 y.2.1 else cmpLs a b
  | [], [] => 0 | [], _ :: _ => -1 | _ :: _, [] => 1
theorem cmpLs_end {a b : List LB} {i : Nat} (h : ¬ (i < a.length ∧ i < b.length)) (ha : i ≤ a.length) (hb : i ≤ b.length) : cmpLs (a.drop i) (b.drop i) = cmpN (a.length : Int) (b.length : Int) := by
  rcases Nat.lt_or_ge i a.length with h1 | h1
  · have h2 : i = b.length := by omega
    have e1 : b.drop i = [] := List.drop_eq_nil_of_le (by omega)
    rw [e1, drop_getD h1, cmpN, if_neg (by omega), if_pos (by omega)]; rfl
  · have e1 : a.drop i = [] := List.drop_eq_nil_of_le h1
    rw [e1]
    rcases Nat.lt_or_ge i b.length with h2 | h2
    · rw [drop_getD h2, cmpN, if_pos (by omega)]; rfl
    · have e2 : b.drop i = [] := List.drop_eq_nil_of_le h2
      rw [e2, cmpN, if_neg (by omega), if_neg (by omega)]; rfl
theorem cmpLs_next {a b : List LB} {i : Nat} (h1 : i < a.length) (h2 : i < b.length) : cmpLs (a.drop i) (b.drop i) = if cmpT (a.getD i default).1 (b.getD i default).1 ≠ 0 then cmpT (a.getD i default).1 (b.getD i default).1 else if cmpT (a.getD i default).2.1 (b.getD i default).2.1 ≠ 0 then cmpT (a.getD i default).2.1 (b.getD i default).2.1 else cmpLs (a.drop (i + 1)) (b.drop (i + 1)) := by
  rw [drop_getD h1, drop_getD h2]; rfl
def nameK : ByteArray := ⟨#[95, 110, 97, 109, 101]⟩
def namedB (l : List LB) : Bool := labelsB l && !seq (valL l nameK) ⟨#[]⟩
def serB (l : List SRE) (i : Nat) : Bool := namedB (l.getD i default).1 && samplesB (l.getD i default).2.1 && decide ((l.getD i default).2.1.length ≠ 0) && (decide (i = 0) || decide (cmpLs (l.getD (i - 1) default).1 (l.getD i default).1 < 0))
def seriesB (l : List SRE) : Bool := decide (l.length ≤ 200) && (List.range l.length).all (serB l)
theorem seriesB_at {l : List SRE} (h : seriesB l = true) {i : Nat} (hi : i < l.length) : labelsB (l.getD i default).1 = true ∧ (l.getD i default).1 ≠ [] ∧ (l.getD i default).1.length ≤ 20 ∧ (l.getD i default).2.1.length ≤ 2000 := by
  simp only [seriesB, Bool.and_eq_true, List.all_eq_true, List.mem_range] at h
  have h1 := h.2 i hi
  simp only [serB, namedB, Bool.and_eq_true] at h1
  have h2 : labelsB (l.getD i default).1 = true := h1.1.1.1.1
  have h3 := h1.1.1.2
  simp only [samplesB, Bool.and_eq_true, decide_eq_true_eq] at h3
  have h4 := h2
  simp only [labelsB, Bool.and_eq_true, decide_eq_true_eq] at h4
  refine ⟨h2, fun e => ?_, h4.1, h3.2⟩
  have h5 := h1.1.1.1.2
  rw [e] at h5
  simp [valL, seq] at h5
def rngB (nd : NDE) (x : SME) : Bool := decide (nd.2.1 ≤ x.1) && decide (x.1 ≤ nd.2.2.1)
def trimOne (needs : List NDE) (s : SRE) : List SME := s.2.1.filter fun x => needs.any fun nd => fitsB nd.1 s.1 && rngB nd x
def trimV (needs : List NDE) (l : List SRE) : List SRE := l.flatMap fun s => if (trimOne needs s).length = 0 then [] else [(s.1, (trimOne needs s, ()))]
def trimF (l : List SRE) (needs : List NDE) : List SRE := if (seriesB l && decide (needs.length ≤ 60) && (List.range needs.length).all fun i => matchersB (needs.getD i default).1) = true then trimV needs l else []
theorem filter_next {α : Type} [Inhabited α] {p : α → Bool} {l : List α} {i : Nat} (h : i < l.length) (out : List α) : out ++ (l.drop i).filter p = (if p (l.getD i default) = true then out ++ [l.getD i default] else out) ++ (l.drop (i + 1)).filter p := by
  rw [drop_getD h, List.filter_cons]
  split
  · simp
  · rfl
abbrev HDE := Int × Int × Int × List SRE × Unit
abbrev HDU : U := .pair (.int .i64) (.pair (.int .i64) (.pair (.int .i64) (.pair (.sl false SRU) .unit)))
abbrev PTE := List LB × Int × Int × Unit
abbrev PTU : U := .pair (.sl false LU) (.pair (.int .i64) (.pair (.int .i64) .unit))
def lx (p q : Int) : Int := if p ≠ 0 then p else q
theorem lx_tr {p q r p' q' r' : Int} (h1 : p < 0 → q < 0 → r < 0) (h2 : p = 0 → r = q) (h3 : q = 0 → r = p) (h4 : p' < 0 → q' < 0 → r' < 0) (hp : lx p p' < 0) (hq : lx q q' < 0) : lx r r' < 0 := by
  unfold lx at *
  by_cases a : p = 0
  · have e := h2 a
    rw [if_neg (by simpa using a)] at hp
    by_cases b : q = 0
    · rw [if_neg (by simpa using b)] at hq
      rw [if_neg (by simpa using (e.trans b))]
      exact h4 hp hq
    · rw [if_pos b] at hq
      rw [if_pos (by rw [e]; exact b), e]; exact hq
  · rw [if_pos a] at hp
    by_cases b : q = 0
    · have e := h3 b
      rw [if_pos (by rw [e]; exact a), e]; exact hp
    · rw [if_pos b] at hq
      have := h1 hp hq
      rw [if_pos (by omega)]; exact this
theorem cmpL_tr : ∀ a b c : List Int, cmpL a b < 0 → cmpL b c < 0 → cmpL a c < 0
  | [], [], _, h, _ => by simp [cmpL] at h
  | _ :: _, [], _, h, _ => by simp [cmpL] at h
  | [], _ :: _, [], _, h => by simp [cmpL] at h
  | _ :: _, _ :: _, [], _, h => by simp [cmpL] at h
  | [], _ :: _, _ :: _, _, _ => by simp [cmpL]
  | x :: a, y :: b, z :: c, h, h' => by
    have ih := cmpL_tr a b c
    simp only [cmpL] at h h' ⊢
    split at h <;> split at h' <;> (try split at h) <;> (try split at h') <;> (try omega) <;> (try (rw [if_pos (by omega)]; omega)) <;> (try (rw [if_neg (by omega), if_neg (by omega)]; exact ih h h'))
theorem cmpL_zero : ∀ a b : List Int, cmpL a b = 0 → a = b
  | [], [], _ => rfl
  | _ :: _, [], h => by simp [cmpL] at h
  | [], _ :: _, h => by simp [cmpL] at h
  | x :: a, y :: b, h => by
    simp only [cmpL] at h
    split at h
    · omega
    · split at h
      · omega
      · rw [cmpL_zero a b h, show x = y by omega]
theorem cmpT_tr {a b c : ByteArray} (h : cmpT a b < 0) (h' : cmpT b c < 0) : cmpT a c < 0 := cmpL_tr _ _ _ h h'
theorem cmpT_eqL {a b c : ByteArray} (h : cmpT a b = 0) : cmpT a c = cmpT b c := by simp only [cmpT]; rw [cmpL_zero _ _ h]
theorem cmpT_eqR {a b c : ByteArray} (h : cmpT b c = 0) : cmpT a c = cmpT a b := by simp only [cmpT]; rw [cmpL_zero _ _ h]
theorem cmpLs_tr : ∀ a b c : List LB, cmpLs a b < 0 → cmpLs b c < 0 → cmpLs a c < 0
  | [], [], _, h, _ => by simp [cmpLs] at h
  | _ :: _, [], _, h, _ => by simp [cmpLs] at h
  | [], _ :: _, [], _, h => by simp [cmpLs] at h
  | _ :: _, _ :: _, [], _, h => by simp [cmpLs] at h
  | [], _ :: _, _ :: _, _, _ => by simp [cmpLs]
  | x :: a, y :: b, z :: c, h, h' =>
    lx_tr (p := cmpT x.1 y.1) (q := cmpT y.1 z.1) (r := cmpT x.1 z.1) (p' := lx (cmpT x.2.1 y.2.1) (cmpLs a b)) (q' := lx (cmpT y.2.1 z.2.1) (cmpLs b c)) (r' := lx (cmpT x.2.1 z.2.1) (cmpLs a c)) cmpT_tr cmpT_eqL cmpT_eqR
      (lx_tr cmpT_tr cmpT_eqL cmpT_eqR (cmpLs_tr a b c)) h h'
theorem lx_neg {p q : Int} : lx (-p) (-q) = -lx p q := by
  unfold lx
  by_cases h : p = 0
  · subst h; rfl
  · rw [if_pos (by omega), if_pos h]
theorem cmpT_swap {a b : ByteArray} : cmpT b a = -cmpT a b := cmpL_swap _ _
theorem cmpLs_swap : ∀ a b : List LB, cmpLs b a = -cmpLs a b
  | [], [] => rfl
  | [], _ :: _ => rfl
  | _ :: _, [] => rfl
  | x :: a, y :: b => by
    have ih := cmpLs_swap a b
    show lx (cmpT y.1 x.1) (lx (cmpT y.2.1 x.2.1) (cmpLs b a)) = -lx (cmpT x.1 y.1) (lx (cmpT x.2.1 y.2.1) (cmpLs a b))
    rw [@cmpT_swap x.1 y.1, @cmpT_swap x.2.1 y.2.1, ih, lx_neg, lx_neg]
def plc {α : Type} (f : α → Int) : List α → Nat
  | [] => 0 | x :: l => if f x < 0 then plc f l + 1 else 0
section
variable {α : Type} [Inhabited α] {f : α → Int}
omit [Inhabited α] in
theorem plc_le : ∀ {l : List α}, plc f l ≤ l.length
  | [] => Nat.le_refl _
  | x :: l => by have := plc_le (l := l); rw [plc]; split <;> simp <;> omega
theorem plc_lt : ∀ {l : List α} {i : Nat}, i < plc f l → f (l.getD i default) < 0
  | [], i, h => absurd h (Nat.not_lt_zero _)
  | x :: l, i, h => by
    rw [plc] at h
    split at h
    · rename_i c
      match i with
      | 0 => exact c
      | i + 1 => exact plc_lt (l := l) (i := i) (by omega)
    · omega
theorem plc_at : ∀ {l : List α}, plc f l < l.length → ¬ f (l.getD (plc f l) default) < 0
  | [], h => absurd h (Nat.not_lt_zero _)
  | x :: l, h => by
    by_cases c : f x < 0
    · have e : plc f (x :: l) = plc f l + 1 := by rw [plc, if_pos c]
      rw [e] at h ⊢
      exact plc_at (l := l) (by simp at h; omega)
    · have e : plc f (x :: l) = 0 := by rw [plc, if_neg c]
      rw [e]; exact c
omit [Inhabited α] in
theorem plc_take : ∀ {l : List α} {a : α}, a ∈ l.take (plc f l) → f a < 0
  | [], a, h => by simp at h
  | x :: l, a, h => by
    rw [plc] at h
    split at h
    · rename_i c
      rw [List.take_succ_cons] at h
      rcases List.mem_cons.1 h with rfl | h
      · exact c
      · exact plc_take h
    · simp at h
/-- whether it is there -/
def fndB (f : α → Int) (l : List α) : Bool := decide (plc f l < l.length) && decide (f (l.getD (plc f l) default) = 0)
def Up (f : α → Int) (l : List α) : Prop := ∀ i j, i < j → j < l.length → f (l.getD j default) < 0 → f (l.getD i default) < 0
theorem up_lt {l : List α} (h : Up f l) {m : Nat} (hm : m < l.length) (c : f (l.getD m default) < 0) : m < plc f l := by
  rcases Nat.lt_or_ge m (plc f l) with h1 | h1
  · exact h1
  · have hp : plc f l < l.length := by omega
    have := plc_at hp
    rcases Nat.lt_or_ge (plc f l) m with h2 | h2
    · exact absurd (h _ _ h2 hm c) this
    · rw [show plc f l = m by omega] at this; exact absurd c this
theorem up_ge {l : List α} {m : Nat} (c : ¬ f (l.getD m default) < 0) : plc f l ≤ m := by
  rcases Nat.lt_or_ge m (plc f l) with h1 | h1
  · exact absurd (plc_lt h1) c
  · exact h1
def insAt (l : List α) (k : Nat) (x : α) : List α := l.take k ++ [x] ++ l.drop k
omit [Inhabited α] in
theorem insAt_len {l : List α} {k : Nat} {x : α} (h : k ≤ l.length) : (insAt l k x).length = l.length + 1 := by
  simp only [insAt, List.length_append, List.length_take, List.length_drop, List.length_cons, List.length_nil]; omega
theorem insAt_get {l : List α} {k : Nat} {x : α} (h : k ≤ l.length) : (insAt l k x).getD k default = x := by
  have e : (l.take k).length = k := by rw [List.length_take]; omega
  rw [insAt, List.append_assoc, List.getD_eq_getElem?_getD, List.getElem?_append_right (by omega), e, Nat.sub_self]; rfl
omit [Inhabited α] in
theorem insAt_mem {l : List α} {k : Nat} {x a : α} (h : a ∈ insAt l k x) : a = x ∨ a ∈ l := by
  simp only [insAt, List.mem_append, List.mem_singleton] at h
  rcases h with (h | h) | h
  · exact .inr (List.mem_of_mem_take h)
  · exact .inl h
  · exact .inr (List.mem_of_mem_drop h)
omit [Inhabited α] in
omit [Inhabited α] in
theorem shift_ins {l : List α} {k : Nat} {x z d : α} (h : k ≤ l.length) : (shiftL (l ++ [z]) k d).set k x = insAt l k x := by
  have e : (l.take k).length = k := by rw [List.length_take]; omega
  rw [shiftL, List.take_append_of_le_length h, List.drop_append_of_le_length h, List.dropLast_concat, List.set_append, if_neg (by omega), e, Nat.sub_self, List.set_cons_zero, insAt, List.append_assoc]; rfl
omit [Inhabited α] in
theorem shift_len {l : List α} {k : Nat} {z d : α} (h : k ≤ l.length) : (shiftL (l ++ [z]) k d).length = l.length + 1 := by
  have := congrArg List.length (shift_ins (x := d) (z := z) (d := d) h)
  rwa [List.length_set, insAt_len h] at this
theorem ins_pw {R : α → α → Prop} (tr : ∀ a b c, R a b → R b c → R a c) {l : List α} (h : l.Pairwise R) {x : α} {k : Nat} (hk : k ≤ l.length) (h1 : ∀ a ∈ l.take k, R a x) (h2 : k < l.length → R x (l.getD k default)) : (insAt l k x).Pairwise R := by
  have hd : ∀ b ∈ l.drop k, R x b := by
    intro b hb
    rcases Nat.lt_or_ge k l.length with c | c
    · have p : (l.drop k).Pairwise R := h.sublist (List.drop_sublist _ _)
      rw [drop_getD c] at hb p
      rcases List.mem_cons.1 hb with rfl | hb
      · exact h2 c
      · exact tr _ _ _ (h2 c) ((List.pairwise_cons.1 p).1 b hb)
    · rw [List.drop_eq_nil_of_le c] at hb; cases hb
  have h3 := h
  rw [← List.take_append_drop k l] at h3
  obtain ⟨p1, p2, p3⟩ := List.pairwise_append.1 h3
  rw [insAt, List.append_assoc]
  refine List.pairwise_append.2 ⟨p1, List.pairwise_cons.2 ⟨hd, p2⟩, fun a ha b hb => ?_⟩
  rcases List.mem_cons.1 hb with rfl | hb
  · exact h1 a ha
  · exact p3 a ha b hb
theorem pw_at {R : α → α → Prop} {l : List α} (h : l.Pairwise R) {i j : Nat} (hij : i < j) (hj : j < l.length) : R (l.getD i default) (l.getD j default) := by
  have := List.pairwise_iff_getElem.1 h i j (by omega) hj hij
  rwa [List.getD_eq_getElem?_getD, List.getD_eq_getElem?_getD, List.getElem?_eq_getElem (by omega), List.getElem?_eq_getElem hj]
theorem adj_pw {R : α → α → Prop} (tr : ∀ a b c, R a b → R b c → R a c) : ∀ {l : List α}, (∀ i, i + 1 < l.length → R (l.getD i default) (l.getD (i + 1) default)) → l.Pairwise R
  | [], _ => .nil
  | [_], _ => List.pairwise_singleton _ _
  | x :: y :: l, h => by
    have ih : (y :: l).Pairwise R := adj_pw tr fun i hi => h (i + 1) (by simp at hi ⊢; omega)
    refine List.pairwise_cons.2 ⟨fun b hb => ?_, ih⟩
    have h0 : R x y := h 0 (by simp)
    rcases List.mem_cons.1 hb with rfl | hb
    · exact h0
    · exact tr _ _ _ h0 ((List.pairwise_cons.1 ih).1 b hb)
end
def byL (t : List LB) (s : SRE) : Int := cmpLs s.1 t
def byT (t : Int) (x : SME) : Int := cmpN x.1 t
def putS (w lim nw : Int) (l : List SRE) (k : Nat) (p : PTE) : Int × HDE :=
  if fndB (byT p.2.1) (l.getD k default).2.1 = true then (if ((l.getD k default).2.1.getD (plc (byT p.2.1) (l.getD k default).2.1) default).2.1 = p.2.2.1 then 6 else 5, (w, lim, nw, l, ()))
  else if 2000 ≤ (l.getD k default).2.1.length then (7, (w, lim, nw, l, ()))
  else (0, (w, lim, max nw p.2.1, l.set k ((l.getD k default).1, insAt (l.getD k default).2.1 (plc (byT p.2.1) (l.getD k default).2.1) (p.2.1, p.2.2.1, ()), (l.getD k default).2.2), ()))
def putF (w lim nw : Int) (l : List SRE) (p : PTE) : Int × HDE :=
  if namedB p.1 = false then (1, (w, lim, nw, l, ())) else if timeB p.2.1 = false then (2, (w, lim, nw, l, ())) else if p.2.1 < IntKind.wrap .i64 (nw - w) then (3, (w, lim, nw, l, ()))
  else if fndB (byL p.1) l = true then putS w lim nw l (plc (byL p.1) l) p
  else if lim ≤ (l.length : Int) then (4, (w, lim, nw, l, ()))
  else putS w lim nw (insAt l (plc (byL p.1) l) (p.1, [], ())) (plc (byL p.1) l) p
def SerOK (s : SRE) : Prop := s.2.1.Pairwise (fun a b => a.1 < b.1) ∧ s.2.1.length ≤ 2000 ∧ s.1.length ≤ 20 ∧ Sm 1048576 (.sl false LU) s.1
def HdOK (lim : Int) (l : List SRE) : Prop := lim ≤ 200 ∧ (l.length : Int) ≤ lim ∧ l.Pairwise (fun a b => cmpLs a.1 b.1 < 0) ∧ ∀ s ∈ l, SerOK s
theorem cmpN_lt {a b : Int} : cmpN a b < 0 ↔ a < b := by unfold cmpN; split <;> (try split) <;> omega
theorem cmpN_zero {a b : Int} : cmpN a b = 0 ↔ a = b := by unfold cmpN; split <;> (try split) <;> omega
theorem byL_up {t : List LB} {l : List SRE} (h : l.Pairwise (fun a b => cmpLs a.1 b.1 < 0)) : Up (byL t) l := fun i j hij hj c => cmpLs_tr _ _ _ (pw_at (R := fun a b : SRE => cmpLs a.1 b.1 < 0) h hij hj) c
theorem byT_up {t : Int} {l : List SME} (h : l.Pairwise (fun a b => a.1 < b.1)) : Up (byT t) l := fun i j hij hj c => cmpN_lt.2 (by have := pw_at (R := fun a b : SME => a.1 < b.1) h hij hj; have := cmpN_lt.1 c; omega)
theorem getD_of_mem {α : Type} [Inhabited α] {l : List α} {s : α} (h : s ∈ l) : ∃ i, i < l.length ∧ s = l.getD i default := by
  obtain ⟨i, hi, rfl⟩ := List.getElem_of_mem h
  exact ⟨i, hi, by rw [List.getD_eq_getElem?_getD, List.getElem?_eq_getElem hi]; rfl⟩
theorem ins_time {l : List SME} {t v : Int} (h : l.Pairwise (fun a b => a.1 < b.1)) (c : fndB (byT t) l = false) : (insAt l (plc (byT t) l) (t, v, ())).Pairwise (fun a b => a.1 < b.1) := by
  refine ins_pw (R := fun a b : SME => a.1 < b.1) (fun a b c h1 h2 => by omega) h plc_le (fun a ha => cmpN_lt.1 (plc_take (f := byT t) ha)) fun hk => ?_
  have h1 := plc_at hk
  rw [byT, cmpN_lt] at h1
  simp only [fndB, decide_eq_true hk, Bool.true_and, decide_eq_false_iff_not, byT, cmpN_zero] at c
  show t < _
  omega
theorem ins_lab {l : List SRE} {t : List LB} {y : List SME × Unit} (h : l.Pairwise (fun a b => cmpLs a.1 b.1 < 0)) (c : fndB (byL t) l = false) : (insAt l (plc (byL t) l) (t, y)).Pairwise (fun a b => cmpLs a.1 b.1 < 0) := by
  refine ins_pw (R := fun a b : SRE => cmpLs a.1 b.1 < 0) (fun a b c h1 h2 => cmpLs_tr _ _ _ h1 h2) h plc_le (fun a ha => plc_take (f := byL t) ha) fun hk => ?_
  have h1 := plc_at hk
  simp only [fndB, decide_eq_true hk, Bool.true_and, decide_eq_false_iff_not] at c
  have h2 := cmpLs_swap (l.getD (plc (byL t) l) default).1 t
  simp only [byL] at h1 c h2 ⊢
  show cmpLs t _ < 0
  omega
theorem putS_ok {w lim nw : Int} {l : List SRE} {k : Nat} {p : PTE} (h : HdOK lim l) (hk : k < l.length) : (putS w lim nw l k p).2.1 = w ∧ (putS w lim nw l k p).2.2.1 = lim ∧ HdOK lim (putS w lim nw l k p).2.2.2.2.1 := by
  unfold putS
  split
  · exact ⟨rfl, rfl, h⟩
  · split
    · exact ⟨rfl, rfl, h⟩
    · rename_i c1 c2
      refine ⟨rfl, rfl, ?_⟩
      obtain ⟨a1, a2, a3, a4⟩ := h
      have hs := a4 _ (getD_mem hk (d := default))
      refine ⟨a1, by simpa using a2, ?_, ?_⟩
      · have e : (l.set k ((l.getD k default).1, insAt (l.getD k default).2.1 (plc (byT p.2.1) (l.getD k default).2.1) (p.2.1, p.2.2.1, ()), (l.getD k default).2.2)).map (·.1) = l.map (·.1) := by
          rw [List.map_set]
          refine List.ext_getElem (by simp) fun i h1 h2 => ?_
          rw [List.getElem_set]
          split
          · rename_i e; subst e
            rw [List.getElem_map, List.getD_eq_getElem?_getD, List.getElem?_eq_getElem hk]; rfl
          · rfl
        have a5 : (l.map (·.1)).Pairwise (fun a b => cmpLs a b < 0) := List.pairwise_map.2 a3
        show List.Pairwise _ _
        rw [← e] at a5
        exact List.pairwise_map.1 a5
      · intro s hs'
        rcases List.mem_or_eq_of_mem_set hs' with h1 | rfl
        · exact a4 s h1
        · exact ⟨ins_time hs.1 (by simpa using c1), by show (insAt _ _ _).length ≤ 2000; rw [insAt_len plc_le]; omega, hs.2.2.1, hs.2.2.2⟩
theorem named_le {l : List LB} (h : namedB l = true) : l.length ≤ 20 ∧ l ≠ [] := by
  simp only [namedB, labelsB, Bool.and_eq_true, decide_eq_true_eq] at h
  refine ⟨h.1.1, fun e => ?_⟩
  have h5 := h.2
  rw [e] at h5
  simp [valL, seq] at h5
theorem insSer_ok {lim : Int} {l : List SRE} {t : List LB} (h : HdOK lim l) (hn : namedB t = true) (ht : Sm 1048576 (.sl false LU) t) (c : fndB (byL t) l = false) (hl : ¬ lim ≤ (l.length : Int)) : HdOK lim (insAt l (plc (byL t) l) (t, [], ())) := by
  obtain ⟨a1, a2, a3, a4⟩ := h
  refine ⟨a1, by rw [insAt_len plc_le]; omega, ins_lab a3 c, fun s hs => ?_⟩
  rcases insAt_mem hs with rfl | hs
  · exact ⟨.nil, Nat.zero_le _, (named_le hn).1, ht⟩
  · exact a4 s hs
theorem putF_ok {w lim nw : Int} {l : List SRE} {p : PTE} (h : HdOK lim l) (ht : Sm 1048576 (.sl false LU) p.1) : (putF w lim nw l p).2.1 = w ∧ (putF w lim nw l p).2.2.1 = lim ∧ HdOK lim (putF w lim nw l p).2.2.2.2.1 := by
  unfold putF
  split
  · exact ⟨rfl, rfl, h⟩
  split
  · exact ⟨rfl, rfl, h⟩
  split
  · exact ⟨rfl, rfl, h⟩
  split
  · rename_i c
    simp only [fndB, Bool.and_eq_true, decide_eq_true_eq] at c
    exact putS_ok h c.1
  split
  · exact ⟨rfl, rfl, h⟩
  · rename_i c1 _ _ c2 c3
    exact putS_ok (insSer_ok h (by simpa using c1) ht (by simpa using c2) c3) (by rw [insAt_len plc_le]; have := plc_le (f := byL p.1) (l := l); omega)
def putN (w lim : Int) : Int → List SRE → List Int → List PTE → HDE × List Int
  | nw, l, out, [] => ((w, lim, nw, l, ()), out)
  | nw, l, out, p :: r => putN w lim (putF w lim nw l p).2.2.2.1 (putF w lim nw l p).2.2.2.2.1 (out ++ [(putF w lim nw l p).1]) r
theorem putN_ok {w lim : Int} : ∀ {r : List PTE} {nw : Int} {l : List SRE} {out : List Int}, HdOK lim l → (∀ p ∈ r, Sm 1048576 (.sl false LU) p.1) → (putN w lim nw l out r).2.length = out.length + r.length ∧ HdOK lim (putN w lim nw l out r).1.2.2.2.1
  | [], _, _, _, h, _ => ⟨rfl, h⟩
  | p :: r, nw, l, out, h, hp => by
    have h1 := putF_ok (w := w) (nw := nw) h (hp p (List.mem_cons_self ..))
    have ih := putN_ok (w := w) (r := r) (nw := (putF w lim nw l p).2.2.2.1) (out := out ++ [(putF w lim nw l p).1]) h1.2.2 fun q hq => hp q (List.mem_cons_of_mem _ hq)
    rw [putN]
    refine ⟨?_, ih.2⟩
    rw [ih.1]; simp; omega
def lastB (nw : Int) (s : SRE) : Bool := !decide (nw < (s.2.1.getD (s.2.1.length - 1) default).1)
def headB (h : HDE) : Bool := timeB h.1 && decide (0 ≤ h.2.1) && decide (h.2.1 ≤ 200) && seriesB h.2.2.2.1 && !decide (h.2.1 < (h.2.2.2.1.length : Int)) && (decide (h.2.2.1 = -1) || timeB h.2.2.1) && (List.range h.2.2.2.1.length).all (fun i => lastB h.2.2.1 (h.2.2.2.1.getD i default))
def putsV (h : HDE) (ps : List PTE) : HDE × List Int := if headB h = true ∧ ps.length ≤ 500 then putN h.1 h.2.1 h.2.2.1 h.2.2.2.1 [] ps else (default, [])
theorem series_ok {l : List SRE} (h : seriesB l = true) (hb : Sm 1048576 (.sl false SRU) l) : l.Pairwise (fun a b => cmpLs a.1 b.1 < 0) ∧ ∀ s ∈ l, SerOK s := by
  constructor
  · refine adj_pw (R := fun a b : SRE => cmpLs a.1 b.1 < 0) (fun a b c h1 h2 => cmpLs_tr _ _ _ h1 h2) fun i hi => ?_
    simp only [seriesB, Bool.and_eq_true, List.all_eq_true, List.mem_range] at h
    have h1 := h.2 (i + 1) hi
    simp only [serB, Bool.and_eq_true, Bool.or_eq_true, decide_eq_true_eq] at h1
    exact h1.2.resolve_left (by omega)
  · intro s hs
    have m := hb.2 s hs
    obtain ⟨i, hi, rfl⟩ := getD_of_mem hs
    have h2 := seriesB_at h hi
    refine ⟨?_, h2.2.2.2, h2.2.2.1, m.1⟩
    refine adj_pw (R := fun a b : SME => a.1 < b.1) (fun a b c h1 h2 => Int.lt_trans h1 h2) fun j hj => ?_
    simp only [seriesB, Bool.and_eq_true, List.all_eq_true, List.mem_range] at h
    have h1 := h.2 i hi
    simp only [serB, Bool.and_eq_true] at h1
    have h3 := h1.1.1.2
    simp only [samplesB, Bool.and_eq_true, List.all_eq_true, List.mem_range, Bool.not_eq_true', Bool.and_eq_false_iff, decide_eq_false_iff_not] at h3
    have h4 := (h3.1 (j + 1) hj).2
    have h5 := h4.resolve_left (by omega)
    simp only [Nat.add_sub_cancel] at h5
    omega
theorem headB_ser {h : HDE} (c : headB h = true) : seriesB h.2.2.2.1 = true := by
  simp only [headB, Bool.and_eq_true] at c
  exact c.1.1.1.2
theorem head_ok {h : HDE} (c : headB h = true) (hb : Sm 1048576 (.sl false SRU) h.2.2.2.1) : HdOK h.2.1 h.2.2.2.1 := by
  simp only [headB, Bool.and_eq_true, decide_eq_true_eq, Bool.not_eq_true', decide_eq_false_iff_not] at c
  obtain ⟨⟨⟨⟨⟨⟨_, _⟩, c3⟩, c4⟩, c5⟩, _⟩, _⟩ := c
  have := series_ok c4 hb
  exact ⟨c3, by omega, this.1, this.2⟩
def cutV (t : Int) (l : List SME) : List SME := l.filter fun x => decide (t ≤ x.1) && decide (x.1 ≤ t)
theorem cutV_gt {t : Int} {l : List SME} (h : ∀ x ∈ l, t < x.1) : cutV t l = [] := by
  rw [cutV, List.filter_eq_nil_iff]
  intro x hx
  have := h x hx
  simp only [Bool.and_eq_true, decide_eq_true_eq]; omega
theorem cutV_val {t : Int} : ∀ {l : List SME}, l.Pairwise (fun a b => a.1 < b.1) → cutV t l = if fndB (byT t) l = true then [l.getD (plc (byT t) l) default] else []
  | [], _ => rfl
  | x :: l, h => by
    obtain ⟨h1, h2⟩ := List.pairwise_cons.1 h
    have ih := cutV_val (t := t) h2
    by_cases c : x.1 < t
    · have e : plc (byT t) (x :: l) = plc (byT t) l + 1 := by rw [plc, if_pos (show byT t x < 0 from cmpN_lt.2 c)]
      have e2 : fndB (byT t) (x :: l) = fndB (byT t) l := by
        rw [fndB, fndB, e, List.getD_cons_succ]
        congr 1
        simp
      have e3 : cutV t (x :: l) = cutV t l := by rw [cutV, List.filter_cons, if_neg (by simp only [Bool.and_eq_true, decide_eq_true_eq]; omega)]; rfl
      rw [e2, e3, e, ih]; rfl
    · have e : plc (byT t) (x :: l) = 0 := by rw [plc, if_neg (by rw [byT, cmpN_lt]; exact c)]
      have e3 : cutV t l = [] := cutV_gt fun y hy => by have := h1 y hy; omega
      have e2 : fndB (byT t) (x :: l) = decide (x.1 = t) := by
        rw [fndB, e, List.getD_cons_zero, decide_eq_true (show 0 < (x :: l).length by simp), Bool.true_and]
        exact decide_eq_decide.2 cmpN_zero
      rw [e2, e, List.getD_cons_zero]
      by_cases c2 : x.1 = t
      · rw [decide_eq_true c2, if_pos rfl, cutV, List.filter_cons, if_pos (by simp only [Bool.and_eq_true, decide_eq_true_eq]; omega)]
        show x :: cutV t l = _
        rw [e3]
      · rw [decide_eq_false c2, if_neg (by simp)]
        exact cutV_gt fun y hy => by
          rcases List.mem_cons.1 hy with rfl | hy
          · omega
          · have := h1 y hy; omega
theorem half {a b : Nat} (h : a + b ≤ 4611686018427387904) : IntKind.wrap .i64 (shr .u64 (IntKind.wrap .u64 (IntKind.wrap .i64 ((a : Int) + (b : Int)))) (1 : Int)) = (((a + b) / 2 : Nat) : Int) := by
  have e1 : IntKind.wrap .i64 ((a : Int) + (b : Int)) = ((a + b : Nat) : Int) := by rw [i64_ok] <;> omega
  have e2 : IntKind.wrap .u64 ((a + b : Nat) : Int) = ((a + b : Nat) : Int) := wrapu_nat (by omega)
  have e3 : shr .u64 ((a + b : Nat) : Int) (1 : Int) = (((a + b) / 2 ^ 1 : Nat) : Int) := shr_nat (k := 1) (by decide)
  rw [e1, e2, e3, i64_ok] <;> omega
theorem octs_ext {a b : ByteArray} (h : octs a = octs b) : a = b := by
  obtain ⟨⟨a⟩⟩ := a
  obtain ⟨⟨b⟩⟩ := b
  simp only [octs] at h
  have e : a = b := by
    refine (List.map_inj_right (f := fun x : UInt8 => (x.toNat : Int)) (fun x y hxy => ?_)).1 h
    exact UInt8.toNat_inj.1 (by have hxy : (x.toNat : Int) = (y.toNat : Int) := hxy; omega)
  rw [e]
theorem cmpT_zero {a b : ByteArray} (h : cmpT a b = 0) : a = b := octs_ext (cmpL_zero _ _ h)
theorem cmpLs_zero : ∀ {a b : List LB}, cmpLs a b = 0 → a = b
  | [], [], _ => rfl
  | [], _ :: _, h => by simp [cmpLs] at h
  | _ :: _, [], h => by simp [cmpLs] at h
  | x :: a, y :: b, h => by
    have h : lx (cmpT x.1 y.1) (lx (cmpT x.2.1 y.2.1) (cmpLs a b)) = 0 := h
    have lx0 : ∀ {p q : Int}, lx p q = 0 → p = 0 ∧ q = 0 := fun {p q} h => by
      unfold lx at h
      by_cases c : p = 0
      · rw [if_neg (by simpa using c)] at h; exact ⟨c, h⟩
      · rw [if_pos c] at h; exact absurd h c
    obtain ⟨h1, h2⟩ := lx0 h
    obtain ⟨h2, h3⟩ := lx0 h2
    have e1 := cmpT_zero h1
    have e2 := cmpT_zero h2
    rw [cmpLs_zero h3]
    obtain ⟨x1, x2, _⟩ := x
    obtain ⟨y1, y2, _⟩ := y
    simp only at e1 e2
    rw [e1, e2]
section
variable {α : Type} [Inhabited α] {f : α → Int}
theorem plc_is {l : List α} {i : Nat} (hi : i < l.length) (h0 : f (l.getD i default) = 0) (hlt : ∀ j, j < i → f (l.getD j default) < 0) : plc f l = i := by
  rcases Nat.lt_trichotomy (plc f l) i with h | h | h
  · exact absurd (hlt _ h) (plc_at (by omega))
  · exact h
  · have := plc_lt h; omega
theorem fnd_is {l : List α} {i : Nat} (hi : i < l.length) (h0 : f (l.getD i default) = 0) (hlt : ∀ j, j < i → f (l.getD j default) < 0) : fndB f l = true ∧ l.getD (plc f l) default = l.getD i default := by
  have e := plc_is hi h0 hlt
  rw [fndB, e, decide_eq_true hi, decide_eq_true h0]; exact ⟨rfl, rfl⟩
omit [Inhabited α] in
theorem insAt_sub {l : List α} {k : Nat} {x a : α} (h : a ∈ l) : a ∈ insAt l k x := by
  rw [← List.take_append_drop k l] at h
  rcases List.mem_append.1 h with h | h
  · exact List.mem_append_left _ (List.mem_append_left _ h)
  · exact List.mem_append_right _ h
omit [Inhabited α] in
theorem insAt_new {l : List α} {k : Nat} {x : α} : x ∈ insAt l k x := by simp [insAt]
end
def total : List SRE → Nat
  | [] => 0 | s :: l => s.2.1.length + total l
theorem total_app : ∀ {a b : List SRE}, total (a ++ b) = total a + total b
  | [], b => by simp [total]
  | x :: a, b => by rw [List.cons_append, total, total, total_app]; omega
theorem total_ins {l : List SRE} {k : Nat} {x : SRE} : total (insAt l k x) = total l + x.2.1.length := by
  have e : total l = total (l.take k) + total (l.drop k) := by rw [← total_app, List.take_append_drop]
  rw [insAt, total_app, total_app, e]
  simp only [total]; omega
theorem total_set : ∀ {l : List SRE} {k : Nat} {x : SRE}, k < l.length → total (l.set k x) + (l.getD k default).2.1.length = total l + x.2.1.length
  | [], _, _, h => absurd h (Nat.not_lt_zero _)
  | s :: l, 0, x, _ => by simp only [List.set_cons_zero, total, List.getD_cons_zero]; omega
  | s :: l, k + 1, x, h => by
    have := total_set (l := l) (k := k) (x := x) (by simpa using h)
    simp only [List.set_cons_succ, total, List.getD_cons_succ]; omega
theorem putS_total {w lim nw : Int} {l : List SRE} {k : Nat} {p : PTE} (hk : k < l.length) : total (putS w lim nw l k p).2.2.2.2.1 = total l + if (putS w lim nw l k p).1 = 0 then 1 else 0 := by
  unfold putS
  split
  · split <;> simp
  · split
    · simp
    · have := total_set (l := l) (k := k) (x := ((l.getD k default).1, insAt (l.getD k default).2.1 (plc (byT p.2.1) (l.getD k default).2.1) (p.2.1, p.2.2.1, ()), (l.getD k default).2.2)) hk
      simp only at this
      rw [insAt_len plc_le] at this
      simp only [if_true]
      omega
theorem putF_total {w lim nw : Int} {l : List SRE} {p : PTE} : total (putF w lim nw l p).2.2.2.2.1 = total l + if (putF w lim nw l p).1 = 0 then 1 else 0 := by
  unfold putF
  split
  · simp
  split
  · simp
  split
  · simp
  split
  · rename_i c
    simp only [fndB, Bool.and_eq_true, decide_eq_true_eq] at c
    exact putS_total c.1
  split
  · simp
  · rw [putS_total (by rw [insAt_len plc_le]; have := plc_le (f := byL p.1) (l := l); omega), total_ins]; rfl
/-- what was put in is there -/
def Has (l : List SRE) (ls : List LB) (t v : Int) : Prop := ∃ s ∈ l, s.1 = ls ∧ (t, v, ()) ∈ s.2.1
theorem Has.ins {l : List SRE} {ls : List LB} {t v : Int} {k : Nat} {x : SRE} (h : Has l ls t v) : Has (insAt l k x) ls t v := by
  obtain ⟨s, hs, h1, h2⟩ := h
  exact ⟨s, insAt_sub hs, h1, h2⟩
theorem Has.putS {l : List SRE} {ls : List LB} {t v w lim nw : Int} {k : Nat} {p : PTE} (hk : k < l.length) (h : Has l ls t v) : Has (putS w lim nw l k p).2.2.2.2.1 ls t v := by
  unfold Go.FP.putS
  split
  · exact h
  split
  · exact h
  · obtain ⟨s, hs, h1, h2⟩ := h
    obtain ⟨i, hi, rfl⟩ := getD_of_mem hs
    by_cases e : i = k
    · subst e
      exact ⟨_, List.mem_of_getElem? (List.getElem?_set_self hk), h1, insAt_sub h2⟩
    · refine ⟨l.getD i default, List.mem_of_getElem? (i := i) ?_, h1, h2⟩
      rw [List.getElem?_set_ne (fun h => e h.symm), List.getD_eq_getElem?_getD, List.getElem?_eq_getElem hi]; rfl
theorem Has.putF {l : List SRE} {ls : List LB} {t v w lim nw : Int} {p : PTE} (h : Has l ls t v) : Has (putF w lim nw l p).2.2.2.2.1 ls t v := by
  unfold Go.FP.putF
  split
  · exact h
  split
  · exact h
  split
  · exact h
  split
  · rename_i c
    simp only [fndB, Bool.and_eq_true, decide_eq_true_eq] at c
    exact Has.putS c.1 h
  split
  · exact h
  · exact Has.putS (by rw [insAt_len plc_le]; have := plc_le (f := byL p.1) (l := l); omega) h.ins
theorem putS_has {l : List SRE} {w lim nw : Int} {k : Nat} {p : PTE} (hk : k < l.length) (hp : (l.getD k default).1 = p.1) (h0 : (putS w lim nw l k p).1 = 0) : Has (putS w lim nw l k p).2.2.2.2.1 p.1 p.2.1 p.2.2.1 := by
  unfold putS at h0 ⊢
  split
  · rename_i c
    rw [if_pos c] at h0
    split at h0 <;> simp at h0
  · rename_i c
    rw [if_neg c] at h0
    split
    · rename_i c2
      rw [if_pos c2] at h0
      simp at h0
    · exact ⟨_, List.mem_of_getElem? (List.getElem?_set_self hk), hp, insAt_new⟩
theorem putF_has {l : List SRE} {w lim nw : Int} {p : PTE} (h0 : (putF w lim nw l p).1 = 0) : Has (putF w lim nw l p).2.2.2.2.1 p.1 p.2.1 p.2.2.1 := by
  have hle := plc_le (f := byL p.1) (l := l)
  unfold putF at h0 ⊢
  split
  · rename_i c; rw [if_pos c] at h0; simp at h0
  rename_i c1; rw [if_neg c1] at h0
  split
  · rename_i c; rw [if_pos c] at h0; simp at h0
  rename_i c2; rw [if_neg c2] at h0
  split
  · rename_i c; rw [if_pos c] at h0; simp at h0
  rename_i c3; rw [if_neg c3] at h0
  split
  · rename_i c; rw [if_pos c] at h0
    simp only [fndB, Bool.and_eq_true, decide_eq_true_eq] at c
    exact putS_has c.1 (cmpLs_zero c.2) h0
  rename_i c4; rw [if_neg c4] at h0
  split
  · rename_i c; rw [if_pos c] at h0; simp at h0
  · rename_i c; rw [if_neg c] at h0
    refine putS_has (by rw [insAt_len plc_le]; omega) ?_ h0
    rw [insAt_get hle]
/-- and found -/
theorem has_find {l : List SRE} {ls : List LB} {t v : Int} (hl : l.Pairwise (fun a b => cmpLs a.1 b.1 < 0)) (hs : ∀ s ∈ l, s.2.1.Pairwise (fun a b => a.1 < b.1)) (h : Has l ls t v) :
    fndB (byL ls) l = true ∧ fndB (byT t) (l.getD (plc (byL ls) l) default).2.1 = true ∧ ((l.getD (plc (byL ls) l) default).2.1.getD (plc (byT t) (l.getD (plc (byL ls) l) default).2.1) default).2.1 = v := by
  obtain ⟨s, hm, rfl, hx⟩ := h
  have hsort := hs s hm
  obtain ⟨i, hi, rfl⟩ := getD_of_mem hm
  have refl0 : ∀ a : List LB, cmpLs a a = 0 := fun a => by have := cmpLs_swap a a; omega
  obtain ⟨f1, f2⟩ := fnd_is (f := byL (l.getD i default).1) (l := l) hi (refl0 _) fun j hj => pw_at (R := fun a b : SRE => cmpLs a.1 b.1 < 0) hl hj hi
  refine ⟨f1, ?_⟩
  rw [f2]
  obtain ⟨k, hk, e⟩ := getD_of_mem hx
  have e1 : ((l.getD i default).2.1.getD k default).1 = t := by rw [← e]
  obtain ⟨g1, g2⟩ := fnd_is (f := byT t) (l := (l.getD i default).2.1) hk (cmpN_zero.2 e1) fun j hj => cmpN_lt.2 (by have := pw_at (R := fun a b : SME => a.1 < b.1) hsort hj hk; omega)
  exact ⟨g1, by rw [g2, ← e]⟩
/-- the series of a good head -/
def SerG (nw : Int) (s : SRE) : Prop := namedB s.1 = true ∧ s.2.1.Pairwise (fun a b => a.1 < b.1) ∧ s.2.1.length ≤ 2000 ∧ ∀ x ∈ s.2.1, timeB x.1 = true ∧ x.1 ≤ nw
def HdG (w lim nw : Int) (l : List SRE) : Prop := timeB w = true ∧ 0 ≤ lim ∧ lim ≤ 200 ∧ (l.length : Int) ≤ lim ∧ (nw = -1 ∨ timeB nw = true) ∧ l.Pairwise (fun a b => cmpLs a.1 b.1 < 0) ∧ ∀ s ∈ l, SerG nw s
theorem SerG.up {nw nw' : Int} {s : SRE} (h : SerG nw s) (hn : nw ≤ nw') : SerG nw' s := ⟨h.1, h.2.1, h.2.2.1, fun x hx => ⟨(h.2.2.2 x hx).1, Int.le_trans (h.2.2.2 x hx).2 hn⟩⟩
theorem putS_good {w lim nw : Int} {l : List SRE} {k : Nat} {p : PTE} (h : HdG w lim nw l) (hk : k < l.length) (ht : timeB p.2.1 = true) (hne : ∀ i, i < l.length → i ≠ k → (l.getD i default).2.1 ≠ []) :
    HdG w lim (putS w lim nw l k p).2.2.2.1 (putS w lim nw l k p).2.2.2.2.1 ∧ (∀ s ∈ (putS w lim nw l k p).2.2.2.2.1, s.2.1 ≠ []) ∧ (putS w lim nw l k p).2.1 = w ∧ (putS w lim nw l k p).2.2.1 = lim := by
  have all : (l.getD k default).2.1 ≠ [] → ∀ s ∈ l, s.2.1 ≠ [] := fun h s hs => by
    obtain ⟨i, hi, rfl⟩ := getD_of_mem hs
    by_cases e : i = k
    · rw [e]; exact h
    · exact hne i hi e
  unfold putS
  split
  · rename_i c
    refine ⟨h, all fun e => ?_, rfl, rfl⟩
    rw [e] at c; simp [fndB, plc] at c
  split
  · rename_i c
    refine ⟨h, all fun e => ?_, rfl, rfl⟩
    rw [e] at c; simp at c
  · rename_i c1 c2
    obtain ⟨a1, a2, a3, a4, a5, a6, a7⟩ := h
    have hs := a7 _ (getD_mem hk (d := default))
    have hm : (max nw p.2.1 = nw ∧ p.2.1 ≤ nw) ∨ (max nw p.2.1 = p.2.1 ∧ nw ≤ p.2.1) := by omega
    have hnw : nw ≤ max nw p.2.1 := by omega
    have hp : p.2.1 ≤ max nw p.2.1 := by omega
    refine ⟨⟨a1, a2, a3, by simpa using a4, ?_, ?_, ?_⟩, ?_, rfl, rfl⟩
    · rcases hm with h | h
      · rw [h.1]; exact a5
      · rw [h.1]; exact .inr ht
    · have e : (l.set k ((l.getD k default).1, insAt (l.getD k default).2.1 (plc (byT p.2.1) (l.getD k default).2.1) (p.2.1, p.2.2.1, ()), (l.getD k default).2.2)).map (·.1) = l.map (·.1) := by
        rw [List.map_set]
        refine List.ext_getElem (by simp) fun i h1 h2 => ?_
        rw [List.getElem_set]
        split
        · rename_i e; subst e
          rw [List.getElem_map, List.getD_eq_getElem?_getD, List.getElem?_eq_getElem hk]; rfl
        · rfl
      have a8 : (l.map (·.1)).Pairwise (fun a b => cmpLs a b < 0) := List.pairwise_map.2 a6
      rw [← e] at a8
      exact List.pairwise_map.1 a8
    · intro s hs'
      rcases List.mem_or_eq_of_mem_set hs' with h1 | rfl
      · exact (a7 s h1).up hnw
      · refine ⟨hs.1, ins_time hs.2.1 (by simpa using c1), by show (insAt _ _ _).length ≤ 2000; rw [insAt_len plc_le]; omega, fun x hx => ?_⟩
        rcases insAt_mem hx with rfl | hx
        · exact ⟨ht, hp⟩
        · exact ⟨(hs.2.2.2 x hx).1, Int.le_trans (hs.2.2.2 x hx).2 hnw⟩
    · intro s hs' e
      obtain ⟨i, hi, rfl⟩ := getD_of_mem hs'
      rw [List.length_set] at hi
      by_cases e2 : i = k
      · subst e2
        rw [getD_set_same hi] at e
        have := congrArg List.length e
        simp only at this
        rw [insAt_len plc_le] at this
        simp at this
      · rw [getD_set_other e2] at e
        exact hne i hi e2 e
theorem putF_good {w lim nw : Int} {l : List SRE} {p : PTE} (h : HdG w lim nw l) (hne : ∀ s ∈ l, s.2.1 ≠ []) :
    HdG w lim (putF w lim nw l p).2.2.2.1 (putF w lim nw l p).2.2.2.2.1 ∧ (∀ s ∈ (putF w lim nw l p).2.2.2.2.1, s.2.1 ≠ []) ∧ (putF w lim nw l p).2.1 = w ∧ (putF w lim nw l p).2.2.1 = lim := by
  have hle := plc_le (f := byL p.1) (l := l)
  unfold putF
  split
  · exact ⟨h, hne, rfl, rfl⟩
  split
  · exact ⟨h, hne, rfl, rfl⟩
  split
  · exact ⟨h, hne, rfl, rfl⟩
  split
  · rename_i c1 c2 c3 c
    simp only [fndB, Bool.and_eq_true, decide_eq_true_eq] at c
    exact putS_good h c.1 (by simpa using c2) fun i hi _ => hne _ (getD_mem hi)
  split
  · exact ⟨h, hne, rfl, rfl⟩
  · rename_i c1 c2 c3 c4 c5
    obtain ⟨a1, a2, a3, a4, a5, a6, a7⟩ := h
    refine putS_good ⟨a1, a2, a3, by rw [insAt_len hle]; omega, a5, ins_lab a6 (by simpa using c4), fun s hs => ?_⟩ (by rw [insAt_len hle]; omega) (by simpa using c2) fun i hi hik e => ?_
    · rcases insAt_mem hs with rfl | hs
      · exact ⟨by simpa using c1, .nil, Nat.zero_le _, fun x hx => by cases hx⟩
      · exact a7 s hs
    · rw [insAt_len hle] at hi
      have hm : (insAt l (plc (byL p.1) l) (p.1, [], ())).getD i default ∈ l := by
        have e0 : (l.take (plc (byL p.1) l)).length = plc (byL p.1) l := by rw [List.length_take]; omega
        rw [insAt, List.getD_eq_getElem?_getD]
        rcases Nat.lt_or_ge i (plc (byL p.1) l) with h1 | h1
        · rw [List.append_assoc, List.getElem?_append_left (by omega), List.getElem?_take_of_lt h1, List.getElem?_eq_getElem (by omega)]
          exact List.getElem_mem _
        · rw [List.getElem?_append_right (by simp only [List.length_append, e0, List.length_cons, List.length_nil]; omega), List.getElem?_drop]
          simp only [List.length_append, e0, List.length_cons, List.length_nil]
          rw [List.getElem?_eq_getElem (by omega)]
          exact List.getElem_mem _
      exact hne _ hm e
theorem putN_good {w lim : Int} : ∀ {r : List PTE} {nw : Int} {l : List SRE} {out : List Int}, HdG w lim nw l → (∀ s ∈ l, s.2.1 ≠ []) →
    (∃ nw', (putN w lim nw l out r).1.2.2.1 = nw' ∧ HdG w lim nw' (putN w lim nw l out r).1.2.2.2.1) ∧ (∀ s ∈ (putN w lim nw l out r).1.2.2.2.1, s.2.1 ≠ []) ∧ (putN w lim nw l out r).1.1 = w ∧ (putN w lim nw l out r).1.2.1 = lim
  | [], nw, _, _, h, hne => ⟨⟨nw, rfl, h⟩, hne, rfl, rfl⟩
  | p :: r, nw, l, out, h, hne => by
    have h1 := putF_good (p := p) h hne
    rw [putN]
    exact putN_good h1.1 h1.2.1
theorem putN_app {w lim : Int} : ∀ {r r2 : List PTE} {nw : Int} {l : List SRE} {out : List Int}, putN w lim nw l out (r ++ r2) = putN w lim (putN w lim nw l out r).1.2.2.1 (putN w lim nw l out r).1.2.2.2.1 (putN w lim nw l out r).2 r2
  | [], _, _, _, _ => rfl
  | p :: r, r2, nw, l, out => by rw [List.cons_append, putN, putN, putN_app]
theorem putN_out {w lim : Int} : ∀ {r : List PTE} {nw : Int} {l : List SRE} {out : List Int}, (putN w lim nw l out r).1 = (putN w lim nw l [] r).1 ∧ (putN w lim nw l out r).2 = out ++ (putN w lim nw l [] r).2
  | [], _, _, out => ⟨rfl, (List.append_nil out).symm⟩
  | p :: r, nw, l, out => by
    have h1 := putN_out (r := r) (nw := (putF w lim nw l p).2.2.2.1) (l := (putF w lim nw l p).2.2.2.2.1) (out := out ++ [(putF w lim nw l p).1]) (w := w) (lim := lim)
    have h2 := putN_out (r := r) (nw := (putF w lim nw l p).2.2.2.1) (l := (putF w lim nw l p).2.2.2.2.1) (out := [] ++ [(putF w lim nw l p).1]) (w := w) (lim := lim)
    rw [putN, putN]
    exact ⟨h1.1.trans h2.1.symm, by rw [h1.2, h2.2]; simp⟩
/-- how many were taken -/
def tk : List Int → Nat
  | [] => 0 | x :: l => (if x = 0 then 1 else 0) + tk l
theorem putN_tail {w lim : Int} {nw : Int} {l : List SRE} {p : PTE} {r : List PTE} : putN w lim nw l [] (p :: r) = ((putN w lim (putF w lim nw l p).2.2.2.1 (putF w lim nw l p).2.2.2.2.1 [] r).1, (putF w lim nw l p).1 :: (putN w lim (putF w lim nw l p).2.2.2.1 (putF w lim nw l p).2.2.2.2.1 [] r).2) := by
  have h2 := putN_out (r := r) (nw := (putF w lim nw l p).2.2.2.1) (l := (putF w lim nw l p).2.2.2.2.1) (out := [] ++ [(putF w lim nw l p).1]) (w := w) (lim := lim)
  rw [putN]
  exact Prod.ext h2.1 (by rw [h2.2]; rfl)
theorem putN_total {w lim : Int} : ∀ {r : List PTE} {nw : Int} {l : List SRE}, total (putN w lim nw l [] r).1.2.2.2.1 = total l + tk (putN w lim nw l [] r).2
  | [], _, _ => rfl
  | p :: r, nw, l => by
    rw [putN_tail]
    simp only [tk]
    rw [putN_total, putF_total]; omega
theorem Has.putN {w lim : Int} {ls : List LB} {t v : Int} : ∀ {r : List PTE} {nw : Int} {l : List SRE}, Has l ls t v → Has (putN w lim nw l [] r).1.2.2.2.1 ls t v
  | [], _, _, h => h
  | p :: r, nw, l, h => by
    rw [putN_tail]
    exact Has.putN h.putF
theorem putN_has {w lim : Int} : ∀ {r : List PTE} {nw : Int} {l : List SRE} {i : Nat}, i < r.length → (putN w lim nw l [] r).2.getD i default = 0 → Has (putN w lim nw l [] r).1.2.2.2.1 (r.getD i default).1 (r.getD i default).2.1 (r.getD i default).2.2.1
  | [], _, _, _, h, _ => absurd h (Nat.not_lt_zero _)
  | p :: r, nw, l, 0, _, h0 => by
    rw [putN_tail] at h0 ⊢
    exact Has.putN (putF_has h0)
  | p :: r, nw, l, i + 1, h, h0 => by
    rw [putN_tail] at h0 ⊢
    exact putN_has (by simpa using h) h0
theorem headB_good {h : HDE} (c : headB h = true) : HdG h.1 h.2.1 h.2.2.1 h.2.2.2.1 ∧ ∀ s ∈ h.2.2.2.1, s.2.1 ≠ [] := by
  have cs := headB_ser c
  simp only [headB, Bool.and_eq_true, decide_eq_true_eq, Bool.not_eq_true', decide_eq_false_iff_not, Bool.or_eq_true, List.all_eq_true, List.mem_range] at c
  obtain ⟨⟨⟨⟨⟨⟨c1, c2⟩, c3⟩, _⟩, c5⟩, c6⟩, c7⟩ := c
  have hne : ∀ s ∈ h.2.2.2.1, s.2.1 ≠ [] := by
    intro s hs e
    obtain ⟨i, hi, rfl⟩ := getD_of_mem hs
    simp only [seriesB, Bool.and_eq_true, List.all_eq_true, List.mem_range] at cs
    have h1 := cs.2 i hi
    simp only [serB, Bool.and_eq_true, decide_eq_true_eq] at h1
    exact h1.1.2 (by rw [e]; rfl)
  have hst : h.2.2.2.1.Pairwise (fun a b => cmpLs a.1 b.1 < 0) := by
    refine adj_pw (R := fun a b : SRE => cmpLs a.1 b.1 < 0) (fun a b c h1 h2 => cmpLs_tr _ _ _ h1 h2) fun i hi => ?_
    simp only [seriesB, Bool.and_eq_true, List.all_eq_true, List.mem_range] at cs
    have h1 := cs.2 (i + 1) hi
    simp only [serB, Bool.and_eq_true, Bool.or_eq_true, decide_eq_true_eq] at h1
    exact h1.2.resolve_left (by omega)
  refine ⟨⟨c1, c2, c3, by omega, c6, hst, fun s hs => ?_⟩, hne⟩
  have hn := hne s hs
  obtain ⟨i, hi, rfl⟩ := getD_of_mem hs
  have h2 := seriesB_at cs hi
  have hl := c7 i hi
  simp only [seriesB, Bool.and_eq_true, List.all_eq_true, List.mem_range] at cs
  have h1 := cs.2 i hi
  simp only [serB, Bool.and_eq_true] at h1
  have h3 := h1.1.1.2
  simp only [samplesB, Bool.and_eq_true, List.all_eq_true, List.mem_range, Bool.not_eq_true', Bool.and_eq_false_iff, decide_eq_false_iff_not] at h3
  have pw : (h.2.2.2.1.getD i default).2.1.Pairwise (fun a b => a.1 < b.1) := by
    refine adj_pw (R := fun a b : SME => a.1 < b.1) (fun a b c h1 h2 => Int.lt_trans h1 h2) fun j hj => ?_
    have h4 := (h3.1 (j + 1) hj).2
    have h5 := h4.resolve_left (by omega)
    simp only [Nat.add_sub_cancel] at h5
    omega
  refine ⟨h1.1.1.1, pw, h2.2.2.2, fun x hx => ?_⟩
  obtain ⟨j, hj, rfl⟩ := getD_of_mem hx
  refine ⟨(h3.1 j hj).1, ?_⟩
  simp only [lastB, Bool.not_eq_true', decide_eq_false_iff_not] at hl
  rcases Nat.lt_or_ge j ((h.2.2.2.1.getD i default).2.1.length - 1) with hj2 | hj2
  · have := pw_at (R := fun a b : SME => a.1 < b.1) pw hj2 (by omega)
    omega
  · rw [show j = (h.2.2.2.1.getD i default).2.1.length - 1 by omega]; omega
theorem good_headB {h : HDE} (g : HdG h.1 h.2.1 h.2.2.1 h.2.2.2.1) (hne : ∀ s ∈ h.2.2.2.1, s.2.1 ≠ []) : headB h = true := by
  obtain ⟨c1, c2, c3, c4, c5, c6, c7⟩ := g
  simp only [headB, Bool.and_eq_true, decide_eq_true_eq, Bool.not_eq_true', decide_eq_false_iff_not, Bool.or_eq_true, List.all_eq_true, List.mem_range]
  refine ⟨⟨⟨⟨⟨⟨c1, c2⟩, c3⟩, ?_⟩, by omega⟩, c5⟩, fun i hi => ?_⟩
  · simp only [seriesB, Bool.and_eq_true, List.all_eq_true, List.mem_range, decide_eq_true_eq]
    refine ⟨by omega, fun i hi => ?_⟩
    have m := c7 _ (getD_mem hi (d := default))
    simp only [serB, Bool.and_eq_true, Bool.or_eq_true, decide_eq_true_eq]
    refine ⟨⟨⟨m.1, ?_⟩, fun e => hne _ (getD_mem hi (d := default)) (List.eq_nil_of_length_eq_zero e)⟩, ?_⟩
    · simp only [samplesB, Bool.and_eq_true, List.all_eq_true, List.mem_range, Bool.not_eq_true', Bool.and_eq_false_iff, decide_eq_false_iff_not, decide_eq_true_eq]
      refine ⟨fun j hj => ⟨(m.2.2.2 _ (getD_mem hj (d := default))).1, ?_⟩, m.2.2.1⟩
      by_cases e : 0 < j
      · right
        have := pw_at (R := fun a b : SME => a.1 < b.1) m.2.1 (show j - 1 < j by omega) hj
        omega
      · left; exact e
    · by_cases e : i = 0
      · exact .inl e
      · exact .inr (pw_at (R := fun a b : SRE => cmpLs a.1 b.1 < 0) c6 (show i - 1 < i by omega) hi)
  · have m := c7 _ (getD_mem hi (d := default))
    have hn := hne _ (getD_mem hi (d := default))
    have hl : (h.2.2.2.1.getD i default).2.1.length - 1 < (h.2.2.2.1.getD i default).2.1.length := by
      have : (h.2.2.2.1.getD i default).2.1.length ≠ 0 := fun e => hn (List.eq_nil_of_length_eq_zero e)
      omega
    have := (m.2.2.2 _ (getD_mem hl (d := default))).2
    simp only [lastB, Bool.not_eq_true', decide_eq_false_iff_not]
    omega
theorem ofOcts_len (l : List Int) : (ofOcts l).size = l.length := by simp [ofOcts, ByteArray.size]
def LbD (k : Nat) (l : List LB) : Prop := l.length ≤ k ∧ ∀ x ∈ l, x.1.size ≤ 1048576 ∧ x.2.1.size ≤ 1048576
theorem LbD.app {k : Nat} {l : List LB} {x : LB} (h : LbD k l) (hx : x.1.size ≤ 1048576 ∧ x.2.1.size ≤ 1048576) : LbD (k + 1) (l ++ [x]) := by
  refine ⟨by have := h.1; simp; omega, fun y hy => ?_⟩
  rcases List.mem_append.1 hy with hy | hy
  · exact h.2 y hy
  · rw [List.mem_singleton.1 hy]; exact hx
theorem LbD.up {k k' : Nat} {l : List LB} (h : LbD k l) (hk : k ≤ k') : LbD k' l := ⟨Nat.le_trans h.1 hk, h.2⟩
theorem LbD.set {k i : Nat} {l : List LB} {x : LB} (h : LbD k l) (hx : x.1.size ≤ 1048576 ∧ x.2.1.size ≤ 1048576) : LbD k (l.set i x) := by
  refine ⟨by simpa using h.1, fun y hy => ?_⟩
  rcases List.mem_or_eq_of_mem_set hy with hy | rfl
  · exact h.2 y hy
  · exact hx
theorem LbD.at {k : Nat} {l : List LB} (h : LbD k l) (i : Nat) : (l.getD i default).1.size ≤ 1048576 ∧ (l.getD i default).2.1.size ≤ 1048576 := by
  rcases Nat.lt_or_ge i l.length with hi | hi
  · exact h.2 _ (getD_mem hi)
  · rw [List.getD_eq_getElem?_getD, List.getElem?_eq_none hi]
    exact ⟨by decide, by decide⟩
theorem LbD.sm {k : Nat} {l : List LB} (h : LbD k l) (hk : k ≤ 1048576) : Sm 1048576 (.sl false LU) l := ⟨Nat.le_trans h.1 hk, fun x hx => ⟨(h.2 x hx).1, (h.2 x hx).2, trivial⟩⟩
theorem LbD.of_sm {k : Nat} {l : List LB} (h : Sm 1048576 (.sl false LU) l) (hk : l.length ≤ k) : LbD k l := ⟨hk, fun x hx => ⟨(h.2 x hx).1, (h.2 x hx).2.1⟩⟩
def LsD (k : Nat) (l : List (List LB)) : Prop := ∀ x ∈ l, LbD k x
def PtD (k : Nat) (l : List PTE) : Prop := l.length ≤ k ∧ ∀ p ∈ l, LbD 30 p.1
theorem PtD.app {k : Nat} {l : List PTE} {x : PTE} (h : PtD k l) (hx : LbD 30 x.1) : PtD (k + 1) (l ++ [x]) := by
  refine ⟨by have := h.1; simp; omega, fun y hy => ?_⟩
  rcases List.mem_append.1 hy with hy | hy
  · exact h.2 y hy
  · rw [List.mem_singleton.1 hy]; exact hx
theorem PtD.up {k k' : Nat} {l : List PTE} (h : PtD k l) (hk : k ≤ k') : PtD k' l := ⟨Nat.le_trans h.1 hk, h.2⟩
theorem PtD.set {k i : Nat} {l : List PTE} {x : PTE} (h : PtD k l) (hx : LbD 30 x.1) : PtD k (l.set i x) := by
  refine ⟨by simpa using h.1, fun y hy => ?_⟩
  rcases List.mem_or_eq_of_mem_set hy with hy | rfl
  · exact h.2 y hy
  · exact hx
theorem PtD.at {k : Nat} {l : List PTE} (h : PtD k l) (i : Nat) : LbD 30 (l.getD i default).1 := by
  rcases Nat.lt_or_ge i l.length with hi | hi
  · exact h.2 _ (getD_mem hi)
  · rw [List.getD_eq_getElem?_getD, List.getElem?_eq_none hi]
    exact ⟨by decide, fun x hx => by cases hx⟩
def SeD (k : Nat) (l : List SRE) : Prop := l.length ≤ 200 ∧ ∀ s ∈ l, LbD 30 s.1 ∧ s.2.1.length ≤ k
theorem SeD.sm {k : Nat} {l : List SRE} (h : SeD k l) (hk : k ≤ 1048576) : Sm 1048576 (.sl false SRU) l := ⟨by have := h.1; omega, fun s hs => ⟨(h.2 s hs).1.sm (by decide), ⟨Nat.le_trans (h.2 s hs).2 hk, fun _ _ => ⟨trivial, trivial, trivial⟩⟩, trivial⟩⟩
theorem SeD.up {k k' : Nat} {l : List SRE} (h : SeD k l) (hk : k ≤ k') : SeD k' l := ⟨h.1, fun s hs => ⟨(h.2 s hs).1, Nat.le_trans (h.2 s hs).2 hk⟩⟩
theorem SeD.set {k i : Nat} {l : List SRE} {x : SRE} (h : SeD k l) (h1 : LbD 30 x.1) (h2 : x.2.1.length ≤ k) : SeD k (l.set i x) := by
  refine ⟨by simpa using h.1, fun y hy => ?_⟩
  rcases List.mem_or_eq_of_mem_set hy with hy | rfl
  · exact h.2 y hy
  · exact ⟨h1, h2⟩
theorem SeD.at {k : Nat} {l : List SRE} (h : SeD k l) (i : Nat) : LbD 30 (l.getD i default).1 ∧ (l.getD i default).2.1.length ≤ k := by
  rcases Nat.lt_or_ge i l.length with hi | hi
  · exact h.2 _ (getD_mem hi)
  · rw [List.getD_eq_getElem?_getD, List.getElem?_eq_none hi]
    exact ⟨⟨by decide, fun x hx => by cases hx⟩, Nat.zero_le _⟩
theorem PtD.sm {k : Nat} {l : List PTE} (h : PtD k l) (hk : k ≤ 1048576) : Sm 1048576 (.sl false PTU) l := ⟨Nat.le_trans h.1 hk, fun p hp => ⟨(h.2 p hp).sm (by decide), trivial, trivial, trivial⟩⟩
theorem total_le {k : Nat} : ∀ {l : List SRE}, (∀ s ∈ l, s.2.1.length ≤ k) → total l ≤ k * l.length
  | [], _ => Nat.le_refl _
  | s :: l, h => by
    have h1 := h s (List.mem_cons_self ..)
    have h2 := total_le (l := l) fun x hx => h x (List.mem_cons_of_mem _ hx)
    rw [total, List.length_cons, Nat.mul_succ]; omega
theorem tk_app : ∀ {a b : List Int}, tk (a ++ b) = tk a + tk b
  | [], b => by simp [tk]
  | x :: a, b => by rw [List.cons_append, tk, tk, tk_app]; omega
theorem tk_take {l : List Int} {i : Nat} (h : i < l.length) : tk (l.take (i + 1)) = tk (l.take i) + if l.getD i default = 0 then 1 else 0 := by
  have e : l.take (i + 1) = l.take i ++ [l.getD i default] := by
    rw [List.take_add_one, List.getD_eq_getElem?_getD, List.getElem?_eq_getElem h]; rfl
  rw [e, tk_app]; rfl
theorem hd_big {lim : Int} {l : List SRE} (h : HdOK lim l) : Sm 1048576 (.sl false SRU) l := by
  obtain ⟨a1, a2, a3, a4⟩ := h
  refine ⟨by omega, fun s hs => ?_⟩
  have := a4 s hs
  exact ⟨this.2.2.2, ⟨Nat.le_trans this.2.1 (by decide), fun _ _ => ⟨trivial, trivial, trivial⟩⟩, trivial⟩
theorem putsV_big {h : HDE} {ps : List PTE} (hb : Sm 1048576 (.sl false SRU) h.2.2.2.1) (hp : Sm 1048576 (.sl false PTU) ps) : Sm 1048576 (.sl false SRU) (putsV h ps).1.2.2.2.1 ∧ (putsV h ps).2.length ≤ 500 := by
  rw [putsV]
  split
  · rename_i c
    have := putN_ok (w := h.1) (nw := h.2.2.1) (out := []) (head_ok c.1 hb) fun p hp' => (hp.2 p hp').1
    exact ⟨hd_big this.2, by rw [this.1]; simpa using c.2⟩
  · exact ⟨⟨Nat.zero_le _, fun _ hx => by cases hx⟩, Nat.zero_le _⟩
theorem spec_l1Cur__next.ev (code : List Int) (hc : CodeOK code) (m : Int) (hm : m ≤ 1000000) (c : CRE) (h : CurOK code m c) : EvP (fun n => spec_l1Cur__next n c) (fun (r : Int × CRE) => 0 ≤ r.1 ∧ r.1 ≤ 255 ∧ CurOK code (m + 1) r.2) := by
  obtain ⟨h1, h2, h3⟩ := h
  have p5 : ∀ y, 0 ≤ y → y ≤ 255 → EvP (fun n => goRec spec_l1Cur__next.step n (spec_l1Cur__next.Pt.p5 y c.1 c.2.1 c.2.2.1)) (fun (r : Int × CRE) => 0 ≤ r.1 ∧ r.1 ≤ 255 ∧ CurOK code (m + 1) r.2) := by
    intro y hy hy2
    have e : IntKind.wrap .i64 (c.2.1 + 1) = c.2.1 + 1 := i64_ok (by omega) (by omega)
    have cur : ∀ s : Int, CurOK code (m + 1) (c.1, c.2.1 + 1, s, ()) := fun s => ⟨h1, by show 0 ≤ c.2.1 + 1; omega, by show c.2.1 + 1 ≤ m + 1; omega⟩
    refine EvP.step ?_
    simp only [spec_l1Cur__next.step, e]
    refine EvP.cnd (fun _ => EvP.pure ⟨hy, hy2, cur _⟩) fun _ => EvP.pure ?_
    obtain ⟨z, hz, hz2⟩ := @band255 (shr .u64 (IntKind.wrap .u64 (IntKind.wrap .u64 (IntKind.wrap .u64 (6364136223846793005 * c.2.2.1) + IntKind.wrap .u64 y) + 1442695040888963407)) 40)
    refine ⟨?_, ?_, cur _⟩
    · show 0 ≤ IntKind.wrap .i64 (band .u64 _ 255)
      rw [hz, i64_id (by omega)]; omega
    · show IntKind.wrap .i64 (band .u64 _ 255) ≤ 255
      rw [hz, i64_id (by omega)]; omega
  refine EvP.step ?_
  simp only [spec_l1Cur__next.step]
  refine EvP.cnd (fun e => ?_) fun e => p5 0 (by omega) (by omega)
  have e : c.2.1 < (c.1.length : Int) := of_decide_eq_true e
  obtain ⟨i, hi⟩ : ∃ i : Nat, c.2.1 = (i : Int) := ⟨c.2.1.toNat, by omega⟩
  have hin : i < c.1.length := by omega
  refine EvP.yes (inB_of ⟨h2, e⟩) ?_
  have hx := hc.2 (c.1.getD i default) (by rw [← h1]; exact getD_mem hin)
  rw [hi, toNat_cast, ← hi, i64_ok (by omega) (by omega)]
  exact p5 _ hx.1 hx.2
theorem spec_l1Cur__pick.ev (code : List Int) (hc : CodeOK code) (m : Int) (hm : m ≤ 900000) (c : CRE) (k : Int) (h : CurOK code m c) : EvP (fun n => spec_l1Cur__pick n c k) (PickOK code (m + 2) k) := by
  refine EvP.step ?_
  simp only [spec_l1Cur__pick.step]
  refine EvP.cnd (fun e => EvP.pure ⟨Int.le_refl _, by show (0 : Int) ≤ 65535; decide, fun h1 => by show (0 : Int) < k; omega, h.up (by omega)⟩) fun e => ?_
  have e : 1 < k := by have := of_decide_eq_false e; omega
  have bnd : ∀ x : Int, 0 ≤ x → x ≤ 65535 → 0 ≤ Int.tmod x k ∧ Int.tmod x k ≤ 65535 ∧ Int.tmod x k < k := by
    intro x h0 h1
    rw [Int.tmod_eq_emod_of_nonneg h0]
    have a := Int.emod_nonneg x (show k ≠ 0 by omega)
    have b := Int.emod_lt_of_pos x (show 0 < k by omega)
    have d : x % k ≤ x := by
      obtain ⟨y, rfl⟩ := Int.eq_ofNat_of_zero_le h0
      obtain ⟨z, rfl⟩ := Int.eq_ofNat_of_zero_le (show 0 ≤ k by omega)
      have := Nat.mod_le y z
      rw [← Int.natCast_emod]
      omega
    omega
  refine EvP.bindP (spec_l1Cur__next.ev code hc m (by omega) c h) fun r5 h5 => ?_
  obtain ⟨a5, b5, c5⟩ := h5
  have a5 : (0 : Int) ≤ r5.1 := a5
  have b5 : (r5.1 : Int) ≤ 255 := b5
  refine EvP.cnd (fun _ => ?_) fun _ => ?_
  · refine EvP.bindP (spec_l1Cur__next.ev code hc (m + 1) (by omega) r5.2 c5) fun r6 h6 => EvP.no (decide_eq_false (by omega)) (EvP.pure ?_)
    obtain ⟨a6, b6, c6⟩ := h6
    have a6 : (0 : Int) ≤ r6.1 := a6
    have b6 : (r6.1 : Int) ≤ 255 := b6
    have e1 : IntKind.wrap .i64 (IntKind.wrap .i64 (r5.1 * 256) + r6.1) = r5.1 * 256 + r6.1 := by
      rw [i64_ok (x := r5.1 * 256) (by omega) (by omega), i64_ok (by omega) (by omega)]
    have hb := bnd (r5.1 * 256 + r6.1) (by omega) (by omega)
    refine ⟨?_, ?_, fun _ => ?_, c6.up (by omega)⟩
    · show 0 ≤ Int.tmod (IntKind.wrap .i64 (IntKind.wrap .i64 (r5.1 * 256) + r6.1)) k
      rw [e1]; exact hb.1
    · show Int.tmod (IntKind.wrap .i64 (IntKind.wrap .i64 (r5.1 * 256) + r6.1)) k ≤ 65535
      rw [e1]; exact hb.2.1
    · show Int.tmod (IntKind.wrap .i64 (IntKind.wrap .i64 (r5.1 * 256) + r6.1)) k < k
      rw [e1]; exact hb.2.2
  · have hb := bnd r5.1 a5 (by omega)
    exact EvP.no (decide_eq_false (by omega)) (EvP.pure ⟨hb.1, hb.2.1, fun _ => hb.2.2, c5.up (by omega)⟩)
theorem spec_l1Cur__of.ev (code : List Int) (hc : CodeOK code) (m : Int) (hm : m ≤ 900000) (c : CRE) (l : List ByteArray) (h : CurOK code m c) (hl : 1 ≤ l.length) (hs : ∀ x ∈ l, x.size ≤ 1048576) : EvP (fun n => spec_l1Cur__of n c l) (fun (r : ByteArray × CRE) => r.1.size ≤ 1048576 ∧ CurOK code (m + 2) r.2) := by
  refine EvP.step ?_
  simp only [spec_l1Cur__of.step]
  refine EvP.bindP (spec_l1Cur__pick.ev code hc m hm c _ h) fun r5 h5 => ?_
  have h6 := h5.2.2.1 (by omega)
  have h7 := h5.1
  refine EvP.yes (inB_of ⟨h7, h6⟩) (EvP.pure ⟨hs _ (getD_mem (by omega)), h5.2.2.2⟩)
theorem spec_l1Cur__one.ev (code : List Int) (hc : CodeOK code) (m : Int) (hm : m ≤ 900000) (c : CRE) (k : Int) (h : CurOK code m c) : EvP (fun n => spec_l1Cur__one n c k) (fun (r : _ × CRE) => CurOK code (m + 2) r.2) := by
  refine EvP.step ?_
  simp only [spec_l1Cur__one.step]
  exact EvP.bindP (spec_l1Cur__pick.ev code hc m hm c k h) fun r hr => EvP.pure hr.2.2.2
theorem spec_l1Cur__printed.ev (code : List Int) (hc : CodeOK code) (m : Int) (hm : m ≤ 800000) (c : CRE) (h : CurOK code m c) : EvP (fun n => spec_l1Cur__printed n c) (fun (r : ByteArray × CRE) => r.1.size ≤ 1048576 ∧ CurOK code (m + 20) r.2) := by
  have loop : ∀ (d : Nat) (m : Int) (c : CRE) (out : List Int), m + 2 * d ≤ 850000 → out.length + d ≤ 100 → CurOK code m c → EvP (fun n => goRec spec_l1Cur__printed.step n (spec_l1Cur__printed.Pt.p9 (d : Int) c.1 c.2.1 c.2.2.1 out)) (fun (r : ByteArray × CRE) => r.1.size ≤ 1048576 ∧ CurOK code (m + 2 * d) r.2) := by
    intro d
    induction d with
    | zero =>
      intro m c out hm ho h
      refine EvP.step ?_
      simp only [spec_l1Cur__printed.step]
      exact EvP.no rfl (EvP.pure ⟨by rw [ofOcts_len]; omega, h.up (by omega)⟩)
    | succ d ih =>
      intro m c out hm ho h
      refine EvP.step ?_
      simp only [spec_l1Cur__printed.step]
      rw [i64_ok (x := ((d + 1 : Nat) : Int) - 1) (by omega) (by omega), show ((d + 1 : Nat) : Int) - 1 = (d : Int) by omega]
      refine EvP.yes (decide_eq_true (by omega)) (EvP.bindP (spec_l1Cur__pick.ev code hc m (by omega) c 17 h) fun r8 h8 => EvP.yes (inB_of ⟨h8.1, h8.2.2.1 (by decide)⟩) (EvP.yes (room_ok (by simp; omega)) ?_))
      exact (ih (m + 2) r8.2 _ (by omega) (by simp; omega) h8.2.2.2).imp fun r hr => ⟨hr.1, hr.2.up (by omega)⟩
  refine EvP.step ?_
  simp only [spec_l1Cur__printed.step]
  refine EvP.bindP (spec_l1Cur__pick.ev code hc m (by omega) c 6 h) fun r4 h4 => ?_
  have h5 := h4.1
  have h6 := h4.2.2.1 (by decide)
  have e : IntKind.wrap .i64 (1 + r4.1) = ((1 + r4.1.toNat : Nat) : Int) := by rw [i64_ok] <;> omega
  rw [e]
  exact (loop _ (m + 2) r4.2 [] (by omega) (by simp; omega) h4.2.2.2).imp fun r hr => ⟨hr.1, hr.2.up (by omega)⟩
theorem spec_l1Cur__labels.ev (code : List Int) (hc : CodeOK code) (m : Int) (hm : m ≤ 700000) (c : CRE) (h : CurOK code m c) : EvP (fun n => spec_l1Cur__labels n c) (fun (r : List LB × CRE) => LbD 6 r.1 ∧ CurOK code (m + 50) r.2) := by
  have loop : ∀ (y7 : List ByteArray), y7.length ≤ 5 → (∀ x ∈ y7, x.size ≤ 1048576) → ∀ (d i : Nat) (m : Int) (c : CRE) (out : List LB), i + d = y7.length → m + 4 * d ≤ 750000 → LbD i out → CurOK code m c → EvP (fun n => goRec spec_l1Cur__labels.step n (spec_l1Cur__labels.Pt.p9 (y7.length : Int) (i : Int) c.1 c.2.1 c.2.2.1 out y7)) (fun (r : List LB × CRE) => LbD 6 r.1 ∧ CurOK code (m + 4 * d + 22) r.2) := by
    intro y7 h5 hy d
    induction d with
    | zero =>
      intro i m c out hi hm ho h
      obtain rfl : i = y7.length := by omega
      have hlen := ho.1
      refine EvP.step ?_
      simp only [spec_l1Cur__labels.step]
      refine EvP.no lt_no (EvP.bindP (spec_l1Cur__one.ev code hc m (by omega) c 12 h) fun r10 h10 => EvP.cnd (fun _ => EvP.bindP (spec_l1Cur__printed.ev code hc (m + 2) (by omega) r10.2 h10) fun r11 h11 => EvP.yes (room_ok (by simp; omega)) (EvP.pure ⟨(ho.app ⟨by show ByteArray.size (⟨#[122, 122]⟩ : ByteArray) ≤ 1048576; decide, h11.1⟩).up (by omega), h11.2.up (by omega)⟩)) fun _ => EvP.pure ⟨ho.up (by omega), h10.up (by omega)⟩)
    | succ d ih =>
      intro i m c out hi hm ho h
      have hi' : i < y7.length := by omega
      have hlen := ho.1
      refine EvP.step ?_
      simp only [spec_l1Cur__labels.step, toNat_cast, Nat.zero_add, i64_nat (show i ≤ 4611686018427387904 by omega)]
      refine EvP.yes (lt_yes hi') (EvP.yes (inB_nat hi') (EvP.cnd (fun _ => ?_) fun _ => ?_))
      · refine EvP.bindP (spec_l1Cur__of.ev code hc m (by omega) c _ h (by decide) (by decide)) fun r10 h10 => EvP.yes (room_ok (by simp; omega)) ?_
        exact (ih (i + 1) (m + 2) r10.2 _ (by omega) (by omega) (ho.app ⟨hy _ (getD_mem hi'), h10.1⟩) h10.2).imp fun r hr => ⟨hr.1, hr.2.up (by omega)⟩
      · refine EvP.bindP (spec_l1Cur__one.ev code hc m (by omega) c 2 h) fun r10 h10 => EvP.cnd (fun _ => EvP.bindP (spec_l1Cur__of.ev code hc (m + 2) (by omega) r10.2 _ h10 (by decide) (by decide)) fun r11 h11 => EvP.yes (room_ok (by simp; omega)) ?_) fun _ => ?_
        · exact (ih (i + 1) (m + 4) r11.2 _ (by omega) (by omega) (ho.app ⟨hy _ (getD_mem hi'), h11.1⟩) (h11.2.up (by omega))).imp fun r hr => ⟨hr.1, hr.2.up (by omega)⟩
        · exact (ih (i + 1) (m + 2) r10.2 _ (by omega) (by omega) (ho.up (by omega)) h10).imp fun r hr => ⟨hr.1, hr.2.up (by omega)⟩
  refine EvP.step ?_
  simp only [spec_l1Cur__labels.step]
  exact (loop _ (by decide) (by decide) 5 0 m c [] (by decide) (by omega) ⟨Nat.le_refl _, fun x hx => by cases hx⟩ h).imp fun r hr => ⟨hr.1, hr.2.up (by omega)⟩
theorem spec_l3Copy.ev (l : List LB) (hl : l.length ≤ 1048576) : Ev (fun n => spec_l3Copy n l) l := by
  refine Ev.step ?_
  simp only [spec_l3Copy.step]
  exact Ev.yes (room_ok (by simp; omega)) (Ev.pure' (List.nil_append _))
theorem spec_l1Cur__puts.ev (code : List Int) (hc : CodeOK code) (m : Int) (hm : m ≤ 100000) (c : CRE) (a k : Int) (hk1 : 1 ≤ k) (hk : k ≤ 60) (h : CurOK code m c) : EvP (fun n => spec_l1Cur__puts n c a k) (fun (r : List PTE × CRE) => PtD 60 r.1 ∧ CurOK code (m + 5000) r.2) := by
  have loop2 : ∀ (y7 : List (List LB)), 1 ≤ y7.length → y7.length ≤ 10 → LsD 6 y7 → ∀ (d : Nat) (t m : Int) (c : CRE) (out : List PTE), m + 60 * d ≤ 200000 → PtD (60 - d) out → d ≤ 60 → CurOK code m c → EvP (fun n => goRec spec_l1Cur__puts.step n (spec_l1Cur__puts.Pt.p28 t (d : Int) c.1 c.2.1 c.2.2.1 out y7)) (fun (r : List PTE × CRE) => PtD 60 r.1 ∧ CurOK code (m + 60 * d) r.2) := by
    intro y7 hy1 hy10 hy d
    induction d with
    | zero =>
      intro t m c out hm ho _ h
      refine EvP.step ?_
      simp only [spec_l1Cur__puts.step]
      exact EvP.no rfl (EvP.pure ⟨ho, h.up (by omega)⟩)
    | succ d ih =>
      intro t m c out hm ho hd h
      have hlen := ho.1
      have p42 : ∀ (m2 : Int) (c : CRE) (tt v : Int) (ls : List LB), m2 ≤ m + 58 → CurOK code m2 c → LbD 30 ls → EvP (fun n => goRec spec_l1Cur__puts.step n (spec_l1Cur__puts.Pt.p42 t ((d + 1 : Nat) : Int) c.1 c.2.1 c.2.2.1 out y7 tt v ls)) (fun (r : List PTE × CRE) => PtD 60 r.1 ∧ CurOK code (m + 60 * (d + 1 : Nat)) r.2) := by
        intro m2 c tt v ls hm2 h hls
        refine EvP.step ?_
        simp only [spec_l1Cur__puts.step]
        rw [i64_ok (x := ((d + 1 : Nat) : Int) - 1) (by omega) (by omega), show ((d + 1 : Nat) : Int) - 1 = (d : Int) by omega]
        refine EvP.bindP (spec_l1Cur__pick.ev code hc m2 (by omega) c 8 h) fun r13 h13 => EvP.yes (room_ok (by simp; omega)) ?_
        exact (ih _ (m + 60) r13.2 _ (by omega) ((ho.app hls).up (by omega)) (by omega) (h13.2.2.2.up (by omega))).imp fun r hr => ⟨hr.1, hr.2.up (by omega)⟩
      refine EvP.step ?_
      simp only [spec_l1Cur__puts.step, Nat.zero_add]
      refine EvP.yes (decide_eq_true (by omega)) (EvP.bindP (spec_l1Cur__pick.ev code hc m (by omega) c _ h) fun r10 h10 => ?_)
      have q1 := h10.1
      have q2 := h10.2.2.1 (by omega)
      have hL := hy (y7.getD r10.1.toNat default) (getD_mem (by omega))
      refine EvP.yes (inB_of ⟨q1, q2⟩) (EvP.bind (spec_l3Copy.ev _ (by have := hL.1; omega)) (EvP.bindP (spec_l1Cur__pick.ev code hc (m + 2) (by omega) r10.2 30 h10.2.2.2) fun r12 h12 => EvP.bindP (spec_l1Cur__pick.ev code hc (m + 4) (by omega) r12.2 12 (h12.2.2.2.up (by omega))) fun r13 h13 => ?_))
      have c13 := h13.2.2.2
      refine EvP.cnd (fun _ => EvP.bindP (spec_l1Cur__pick.ev code hc (m + 6) (by omega) r13.2 60 (c13.up (by omega))) fun r14 h14 => p42 (m + 8) r14.2 _ _ _ (by omega) (h14.2.2.2.up (by omega)) (hL.up (by omega))) fun _ => EvP.cnd (fun _ => p42 (m + 6) r13.2 _ _ _ (by omega) (c13.up (by omega)) (hL.up (by omega))) fun _ => EvP.cnd (fun _ => EvP.bindP (spec_l1Cur__labels.ev code hc (m + 6) (by omega) r13.2 (c13.up (by omega))) fun r14 h14 => p42 (m + 56) r14.2 _ _ _ (by omega) (h14.2.up (by omega)) (h14.1.up (by omega))) fun _ => EvP.cnd (fun _ => EvP.cnd (fun e => ?_) fun _ => p42 (m + 6) r13.2 _ _ _ (by omega) (c13.up (by omega)) (hL.up (by omega))) fun _ => p42 (m + 6) r13.2 _ _ _ (by omega) (c13.up (by omega)) (hL.up (by omega))
      have e : 0 < out.length := by have := of_decide_eq_true e; omega
      have ew : IntKind.wrap .i64 ((out.length : Int) - 1) = ((out.length - 1 : Nat) : Int) := by rw [i64_ok] <;> omega
      rw [ew, toNat_cast]
      have hO := ho.at (out.length - 1)
      exact EvP.yes (inB_nat (by omega)) (EvP.yes (inB_nat (by omega)) (EvP.bind (spec_l3Copy.ev _ (by have := hO.1; omega)) (p42 (m + 6) r13.2 _ _ _ (by omega) (c13.up (by omega)) hO)))
  have loop1 : ∀ (d : Nat) (m : Int) (c : CRE) (ls : List (List LB)), m + 50 * d ≤ 150000 → ls.length + d ≤ 10 → 1 ≤ ls.length + d → LsD 6 ls → CurOK code m c → EvP (fun n => goRec spec_l1Cur__puts.step n (spec_l1Cur__puts.Pt.p11 a k (d : Int) c.1 c.2.1 c.2.2.1 [] ls)) (fun (r : List PTE × CRE) => PtD 60 r.1 ∧ CurOK code (m + 50 * d + 3602) r.2) := by
    intro d
    induction d with
    | zero =>
      intro m c ls hm h10 h1 hl h
      refine EvP.step ?_
      simp only [spec_l1Cur__puts.step]
      refine EvP.no rfl (EvP.bindP (spec_l1Cur__pick.ev code hc m (by omega) c k h) fun r11 h11 => ?_)
      have q1 := h11.1
      have q2 := h11.2.2.1 hk1
      obtain ⟨j, hj⟩ : ∃ j : Nat, (j : Int) = r11.1 := ⟨r11.1.toNat, by omega⟩
      rw [← hj]
      exact (loop2 ls (by omega) (by omega) hl j a (m + 2) r11.2 [] (by omega) ⟨Nat.zero_le _, fun x hx => by cases hx⟩ (by omega) h11.2.2.2).imp fun r hr => ⟨hr.1, hr.2.up (by omega)⟩
    | succ d ih =>
      intro m c ls hm h10 h1 hl h
      refine EvP.step ?_
      simp only [spec_l1Cur__puts.step]
      rw [i64_ok (x := ((d + 1 : Nat) : Int) - 1) (by omega) (by omega), show ((d + 1 : Nat) : Int) - 1 = (d : Int) by omega]
      refine EvP.yes (decide_eq_true (by omega)) (EvP.bindP (spec_l1Cur__labels.ev code hc m (by omega) c h) fun r11 h11 => EvP.yes (room_ok (by simp; omega)) ?_)
      refine (ih (m + 50) r11.2 _ (by omega) (by simp; omega) (by simp; omega) (fun x hx => ?_) h11.2).imp fun r hr => ⟨hr.1, hr.2.up (by omega)⟩
      rcases List.mem_append.1 hx with hx | hx
      · exact hl x hx
      · rw [List.mem_singleton.1 hx]; exact h11.1
  refine EvP.step ?_
  simp only [spec_l1Cur__puts.step]
  refine EvP.bindP (spec_l1Cur__pick.ev code hc m (by omega) c 4 h) fun r6 h6 => ?_
  have q1 := h6.1
  have q2 := h6.2.2.1 (by decide)
  have e : IntKind.wrap .i64 (1 + r6.1) = ((1 + r6.1.toNat : Nat) : Int) := by rw [i64_ok] <;> omega
  rw [e]
  exact (loop1 _ (m + 2) r6.2 [] (by omega) (by simp only [List.length_nil]; omega) (by simp only [List.length_nil]; omega) (fun x hx => by cases hx) h6.2.2.2).imp fun r hr => ⟨hr.1, hr.2.up (by omega)⟩
theorem spec_l2Digit.ev (b : Int) : Ev (fun n => spec_l2Digit n b) (digitB b) := by
  refine Ev.step ?_
  simp only [spec_l2Digit.step]
  exact Ev.cnd (fun h => Ev.pure' (by simp [digitB, h])) fun h => Ev.pure' (by simp [digitB, h])
theorem spec_l2Letter.ev (b : Int) : Ev (fun n => spec_l2Letter n b) (letterB b) := by
  refine Ev.step ?_
  simp only [spec_l2Letter.step]
  refine Ev.cnd (fun h => Ev.cnd (fun h2 => Ev.pure' (by simp [letterB, h, h2])) fun h2 => Ev.cnd (fun h3 => Ev.pure' (by simp [letterB, h, h2, h3])) fun h3 => Ev.pure' (by simp [letterB, h, h2, h3])) fun h => Ev.cnd (fun h3 => Ev.pure' (by simp [letterB, h, h3])) fun h3 => Ev.pure' (by simp [letterB, h, h3])
theorem spec_l2Name.ev (s : ByteArray) (hs : s.size ≤ 1048576) : Ev (fun n => spec_l2Name n s) (nameB s) := by
  have go : Ev (fun n => goRec spec_l2Name.step n (spec_l2Name.Pt.p15 s 0)) (allB wordB s) := by
    refine Ev.allN (pt := fun i : Nat => spec_l2Name.Pt.p15 s (i : Int)) (fun i hi => ⟨fun hp v hv => ?_, fun hp => ?_⟩) ?_
    · refine Ev.step ?_
      simp only [spec_l2Name.step]
      have h24 : Ev (fun n => goRec spec_l2Name.step n (spec_l2Name.Pt.p24 s (i : Int) false)) v := by
        refine Ev.step ?_
        simp only [spec_l2Name.step, i64_nat (show i ≤ 4611686018427387904 by omega)]
        exact Ev.no rfl hv
      refine Ev.yes (lt_yes hi) (Ev.yes (inB_nat hi) (Ev.bind (spec_l2Letter.ev _) (Ev.cnd (fun h => Ev.yes (inB_nat hi) (Ev.bind (spec_l2Digit.ev _) (Ev.cnd (fun h2 => Ev.yes (inB_nat hi) ?_) fun h2 => h24))) fun h => h24)))
      have : (!decide (bt s i = 95)) = false := by simp [wordB] at hp h h2 ⊢; simp [h, h2] at hp; exact hp
      rw [this]; exact h24
    · refine Ev.step ?_
      simp only [spec_l2Name.step]
      simp [wordB] at hp
      refine Ev.yes (lt_yes hi) (Ev.yes (inB_nat hi) (Ev.bind (spec_l2Letter.ev _) (Ev.yes (by simp [hp]) (Ev.yes (inB_nat hi) (Ev.bind (spec_l2Digit.ev _) (Ev.yes (by simp [hp]) (Ev.yes (inB_nat hi) ?_)))))))
      refine Ev.step ?_
      simp only [spec_l2Name.step]
      exact Ev.yes (by simp [hp]) Ev.pure
    · refine Ev.step ?_
      simp only [spec_l2Name.step]
      exact Ev.no lt_no Ev.pure
  refine Ev.step ?_
  simp only [spec_l2Name.step]
  have bad : nameB s = false → Ev (fun n => goRec spec_l2Name.step n (spec_l2Name.Pt.p4 s true)) (nameB s) := fun h => by
    refine Ev.step ?_
    simp only [spec_l2Name.step]
    exact Ev.yes rfl (Ev.pure' h.symm)
  refine Ev.cnd (fun h => bad ?_) fun h => Ev.cnd (fun h2 => bad ?_) fun h2 => Ev.yes ?_ (Ev.bind (spec_l2Digit.ev _) (Ev.step ?_))
  · have : ¬ 1 ≤ s.size := by simp at h; omega
    simp [nameB, this]
  · have : ¬ s.size ≤ 40 := by simp at h2; omega
    simp [nameB, this]
  · simp at h; exact inB_zero (by omega)
  · have h1 : 1 ≤ s.size := by simp at h; omega
    have h3 : s.size ≤ 40 := by simp at h2; omega
    simp only [spec_l2Name.step]
    refine Ev.cnd (fun h4 => Ev.pure' (by simp [nameB, h4])) fun h4 => Ev.of_eq go ?_
    simp [nameB, h1, h3, h4]
theorem spec_l2Printed.ev (s : ByteArray) (hs : s.size ≤ 1048576) : Ev (fun n => spec_l2Printed n s) (printB s) := by
  refine Ev.step ?_
  simp only [spec_l2Printed.step]
  refine Ev.allN (pt := fun i : Nat => spec_l2Printed.Pt.p7 s (i : Int)) (fun i hi => ⟨fun hp v hv => ?_, fun hp => ?_⟩) ?_
  · refine Ev.step ?_
    simp only [Bool.and_eq_true, decide_eq_true_eq] at hp
    simp only [spec_l2Printed.step, i64_nat (show i ≤ 4611686018427387904 by omega)]
    exact Ev.yes (lt_yes hi) (Ev.yes (inB_nat hi) (Ev.no (by simp; omega) (Ev.yes (inB_nat hi) (Ev.no (by simp; omega) hv))))
  · refine Ev.step ?_
    simp only [spec_l2Printed.step]
    refine Ev.yes (lt_yes hi) (Ev.yes (inB_nat hi) (Ev.cnd (fun _ => Ev.pure) fun h => Ev.yes (inB_nat hi) (Ev.yes ?_ Ev.pure)))
    simp at hp h ⊢; omega
  · refine Ev.step ?_
    simp only [spec_l2Printed.step]
    exact Ev.no lt_no Ev.pure
theorem spec_l2Value.ev (s : ByteArray) (hs : s.size ≤ 1048576) : Ev (fun n => spec_l2Value n s) (valueB s) := by
  refine Ev.step ?_
  simp only [spec_l2Value.step]
  refine Ev.cnd (fun e => Ev.cnd (fun e2 => Ev.bind (spec_l2Printed.ev _ hs) (Ev.pure' ?_)) fun e2 => Ev.pure' ?_) fun e => Ev.pure' ?_
  · have a1 : 1 ≤ s.size := by simp at e; omega
    have a2 : s.size ≤ 100 := by simp at e2; omega
    simp [valueB, a1, a2]
  · have a2 : ¬ s.size ≤ 100 := by simp at e2; omega
    simp [valueB, a2]
  · have a1 : ¬ 1 ≤ s.size := by simp at e; omega
    simp [valueB, a1]
theorem spec_l2CmpNum.ev (a b : Int) : Ev (fun n => spec_l2CmpNum n a b) (cmpN a b) := by
  refine Ev.step ?_
  simp only [spec_l2CmpNum.step]
  exact Ev.cnd (fun h => Ev.pure' (by rw [cmpN, if_pos (of_decide_eq_true h)])) fun h => Ev.cnd (fun h2 => Ev.pure' (by rw [cmpN, if_neg (of_decide_eq_false h), if_pos (of_decide_eq_true h2)])) fun h2 => Ev.pure' (by rw [cmpN, if_neg (of_decide_eq_false h), if_neg (of_decide_eq_false h2)])
theorem spec_l2CmpText.loop (a b : ByteArray) (ha : a.size ≤ 1048576) (hb : b.size ≤ 1048576) : ∀ d i, i + d = a.size → i ≤ b.size → Ev (fun n => goRec spec_l2CmpText.step n (spec_l2CmpText.Pt.p7 a b (i : Int))) (cmpL ((octs a).drop i) ((octs b).drop i)) := by
  have out : ∀ i, i ≤ a.size → i ≤ b.size → (i = a.size ∨ i = b.size) → Ev (fun n => goRec spec_l2CmpText.step n (spec_l2CmpText.Pt.p9 a b (i : Int) false)) (cmpL ((octs a).drop i) ((octs b).drop i)) := by
    intro i h1 h2 h3
    refine Ev.step ?_
    simp only [spec_l2CmpText.step]
    refine Ev.no rfl (Ev.bind (spec_l2CmpNum.ev _ _) (Ev.pure' ?_))
    rcases h3 with rfl | rfl
    · rw [octs_nil]
      rcases Nat.eq_or_lt_of_le h2 with e | h2
      · rw [e, octs_nil]; simp [cmpN, cmpL]
      · rw [octs_drop h2]; simp only [cmpL, cmpN]; rw [if_pos (by omega)]
    · rw [octs_nil]
      rcases Nat.eq_or_lt_of_le h1 with e | h1
      · rw [e, octs_nil]; simp [cmpN, cmpL]
      · rw [octs_drop h1]; simp only [cmpL, cmpN]; rw [if_neg (by omega), if_pos (by omega)]
  intro d
  induction d with
  | zero =>
    intro i h hb'
    refine Ev.step ?_
    simp only [spec_l2CmpText.step]
    exact Ev.no (by simp; omega) (out i (by omega) hb' (by omega))
  | succ d ih =>
    intro i h hb'
    refine Ev.step ?_
    simp only [spec_l2CmpText.step]
    refine Ev.yes (lt_yes (by omega)) ?_
    rcases Nat.eq_or_lt_of_le hb' with e | hlt
    · rw [show decide ((i : Int) < (b.size : Int)) = false by simp; omega]
      exact out i (by omega) hb' (.inr e)
    · rw [lt_yes hlt]
      refine Ev.step ?_
      simp only [spec_l2CmpText.step, i64_bt]
      have hia : i < a.size := by omega
      refine Ev.yes rfl (Ev.yes (inB_nat hia) (Ev.yes (inB_nat hlt) ?_))
      rw [octs_drop hia, octs_drop hlt]
      simp only [cmpL]
      refine Ev.cnd (fun hc => Ev.yes (inB_nat hia) (Ev.yes (inB_nat hlt) (Ev.bind (spec_l2CmpNum.ev _ _) (Ev.pure' ?_)))) fun hc => ?_
      · simp at hc
        simp only [cmpN]
        by_cases c1 : bt a i < bt b i
        · simp [c1]
        · have c2 : bt b i < bt a i := by omega
          simp [c1, c2]
      · have hc : bt a i = bt b i := by simpa using hc
        rw [hc, if_neg (by omega), if_neg (by omega), i64_nat (by omega)]
        exact ih (i + 1) (by omega) (by omega)
theorem spec_l2CmpText.ev (a b : ByteArray) (ha : a.size ≤ 1048576) (hb : b.size ≤ 1048576) : Ev (fun n => spec_l2CmpText n a b) (cmpT a b) := by
  refine Ev.step ?_
  simp only [spec_l2CmpText.step]
  exact spec_l2CmpText.loop a b ha hb a.size 0 (by omega) (by omega)
theorem spec_GoodLabels.ev (l : List LB) (h : Sm 1048576 (.sl false LU) l) : Ev (fun n => spec_GoodLabels n l) (labelsB l) := by
  have hl : l.length ≤ 1048576 := h.1
  refine Ev.step ?_
  simp only [spec_GoodLabels.step]
  refine Ev.cnd (fun c => Ev.pure' ?_) fun c => ?_
  · have : ¬ l.length ≤ 20 := by simp at c; omega
    simp [labelsB, this]
  have h50 : l.length ≤ 20 := by simp at c; omega
  simp only [labelsB, h50, decide_true, Bool.true_and]
  have go : ∀ i v, i < l.length → (labB l i = true → Ev (fun n => goRec spec_GoodLabels.step n (spec_GoodLabels.Pt.p15 l l (l.length : Int) ((i + 1 : Nat) : Int))) v) → (labB l i = false → v = false) →
      Ev (fun n => goRec spec_GoodLabels.step n (spec_GoodLabels.Pt.p15 l l (l.length : Int) (i : Int))) v := by
    intro i v hi hv hv2
    have hx := h.2 _ (getD_mem (d := default) hi)
    have hs := (labB.eq_1 l i).symm
    have h26 : ∀ b, (b = !labB l i) → Ev (fun n => goRec spec_GoodLabels.step n (spec_GoodLabels.Pt.p26 l l (l.length : Int) (i : Int) b)) v := by
      rintro b rfl
      refine Ev.step ?_
      simp only [spec_GoodLabels.step, i64_nat (show i ≤ 4611686018427387904 by omega)]
      exact Ev.cnd (fun e => Ev.pure' (hv2 (by simpa using e)).symm) fun e => hv (by simpa using e)
    refine Ev.step ?_
    simp only [spec_GoodLabels.step, toNat_cast]
    generalize hxe : l.getD i default = x at hx hs
    have bad : labB l i = false → Ev (fun n => goRec spec_GoodLabels.step n (spec_GoodLabels.Pt.p26 l l (l.length : Int) (i : Int) true)) v := fun e => h26 _ (by rw [e]; rfl)
    refine Ev.yes (lt_yes hi) (Ev.yes (inB_nat hi) ?_)
    refine Ev.bind (spec_l2Name.ev _ hx.1) (Ev.cnd (fun e => bad (by rw [← hs]; simp at e; simp [e])) fun e1 => ?_)
    refine Ev.bind (spec_l2Value.ev _ hx.2.1) (Ev.cnd (fun e => bad (by rw [← hs]; simp at e; simp [e])) fun e2 => ?_)
    simp at e1 e2
    cases i with
    | zero => exact Ev.no (by simp) (h26 _ (by rw [← hs]; simp [e1, e2]))
    | succ k =>
      refine Ev.yes (by simp) ?_
      simp only [i64_pred (show k ≤ 4611686018427387904 by omega), toNat_cast]
      refine Ev.yes (inB_nat (by omega)) (Ev.bind (spec_l2CmpText.ev _ _ (h.2 _ (getD_mem (by omega))).1 hx.1) (h26 _ ?_))
      rw [← hs]; simp [e1, e2]
      rw [← decide_not]
      exact decide_eq_decide.2 (by omega)
  refine Ev.allN (pt := fun i : Nat => spec_GoodLabels.Pt.p15 l l (l.length : Int) (i : Int)) (fun i hi => ⟨fun hp v hv => go i v hi (fun _ => hv) (fun h => by rw [hp] at h; cases h), fun hp => go i false hi (fun h => by rw [hp] at h; cases h) (fun _ => rfl)⟩) ?_
  refine Ev.step ?_
  simp only [spec_GoodLabels.step]
  exact Ev.no lt_no Ev.pure
theorem spec_l2Of.loop (l : List LB) (k : ByteArray) (hl : l.length ≤ 1048576) : ∀ d i, i + d = l.length → Ev (fun n => goRec spec_l2Of.step n (spec_l2Of.Pt.p7 k l (l.length : Int) (i : Int))) (valL (l.drop i) k) := by
  intro d
  induction d with
  | zero =>
    intro i h
    obtain rfl : i = l.length := by omega
    refine Ev.step ?_
    simp only [spec_l2Of.step]
    exact Ev.no lt_no (Ev.pure' (by rw [List.drop_length]; rfl))
  | succ d ih =>
    intro i h
    have hi : i < l.length := by omega
    refine Ev.step ?_
    simp only [spec_l2Of.step, toNat_cast, i64_nat (show i ≤ 4611686018427387904 by omega)]
    rw [drop_getD hi]
    refine Ev.yes (lt_yes hi) (Ev.yes (inB_nat hi) (Ev.cnd (fun c => Ev.pure' ?_) fun c => Ev.of_eq (ih (i + 1) (by omega)) ?_))
    · simp only [valL, c, cond_true]
    · simp only [valL, c, cond_false]
theorem spec_l2Of.ev (l : List LB) (k : ByteArray) (hl : l.length ≤ 1048576) : Ev (fun n => spec_l2Of n l k) (valL l k) := by
  refine Ev.step ?_
  simp only [spec_l2Of.step]
  exact spec_l2Of.loop l k hl l.length 0 (by omega)
theorem spec_l7Named.ev (l : List LB) (h : Sm 1048576 (.sl false LU) l) : Ev (fun n => spec_l7Named n l) (namedB l) := by
  refine Ev.step ?_
  simp only [spec_l7Named.step]
  refine Ev.bind (spec_GoodLabels.ev l h) (Ev.cnd (fun c => Ev.bind (spec_l2Of.ev l nameK h.1) (Ev.pure' ?_)) fun c => Ev.pure' ?_)
  · rw [namedB, c]; rfl
  · rw [namedB, c]; rfl
theorem spec_l3Time.ev (b : Int) : Ev (fun n => spec_l3Time n b) (timeB b) := by
  refine Ev.step ?_
  simp only [spec_l3Time.step]
  exact Ev.cnd (fun h => Ev.pure' (by simp [timeB, h])) fun h => Ev.pure' (by simp [timeB, h])
theorem spec_l2Cmp.ev (a b : List LB) (ha : Sm 1048576 (.sl false LU) a) (hb : Sm 1048576 (.sl false LU) b) : Ev (fun n => spec_l2Cmp n a b) (cmpLs a b) := by
  have la : a.length ≤ 1048576 := ha.1
  have lb : b.length ≤ 1048576 := hb.1
  have loop : ∀ d i, i + d = min a.length b.length → Ev (fun n => goRec spec_l2Cmp.step n (spec_l2Cmp.Pt.p7 a b (i : Int))) (cmpLs (a.drop i) (b.drop i)) := by
    have p9 : ∀ i x, i ≤ a.length → i ≤ b.length → x = decide (i < a.length ∧ i < b.length) → (i < a.length → i < b.length → Ev (fun n => goRec spec_l2Cmp.step n (spec_l2Cmp.Pt.p7 a b ((i + 1 : Nat) : Int))) (cmpLs (a.drop (i + 1)) (b.drop (i + 1)))) → Ev (fun n => goRec spec_l2Cmp.step n (spec_l2Cmp.Pt.p9 a b (i : Int) x)) (cmpLs (a.drop i) (b.drop i)) := by
      rintro i x h1 h2 rfl hn
      refine Ev.step ?_
      simp only [spec_l2Cmp.step, toNat_cast, i64_nat (show i ≤ 4611686018427387904 by omega)]
      refine Ev.cnd (fun c => ?_) fun c => ?_
      · obtain ⟨c1, c2⟩ := of_decide_eq_true c
        have ma := ha.2 _ (getD_mem c1 (d := default))
        have mb := hb.2 _ (getD_mem c2 (d := default))
        rw [cmpLs_next c1 c2]
        refine Ev.yes (inB_nat c1) (Ev.yes (inB_nat c2) (Ev.bind (spec_l2CmpText.ev _ _ ma.1 mb.1) (Ev.cnd (fun e => Ev.pure' ?_) fun e => Ev.yes (inB_nat c1) (Ev.yes (inB_nat c2) (Ev.bind (spec_l2CmpText.ev _ _ ma.2.1 mb.2.1) (Ev.cnd (fun e2 => Ev.pure' ?_) fun e2 => ?_))))))
        · have e : ¬ cmpT (a.getD i default).1 (b.getD i default).1 = 0 := of_decide_eq_false (by rw [Bool.not_eq_true'] at e; exact e)
          rw [if_pos e]
        · have e : cmpT (a.getD i default).1 (b.getD i default).1 = 0 := of_decide_eq_true (by rw [Bool.not_eq_false'] at e; exact e)
          have e2 : ¬ cmpT (a.getD i default).2.1 (b.getD i default).2.1 = 0 := of_decide_eq_false (by rw [Bool.not_eq_true'] at e2; exact e2)
          rw [if_neg (by simpa using e), if_pos e2]
        · have e : cmpT (a.getD i default).1 (b.getD i default).1 = 0 := of_decide_eq_true (by rw [Bool.not_eq_false'] at e; exact e)
          have e2 : cmpT (a.getD i default).2.1 (b.getD i default).2.1 = 0 := of_decide_eq_true (by rw [Bool.not_eq_false'] at e2; exact e2)
          rw [if_neg (by simpa using e), if_neg (by simpa using e2)]
          exact hn c1 c2
      · have c := of_decide_eq_false c
        rw [cmpLs_end c h1 h2]
        exact Ev.bind (spec_l2CmpNum.ev _ _) Ev.pure
    intro d
    induction d with
    | zero =>
      intro i h
      have key := p9 i false (by omega) (by omega) (decide_eq_false (by omega)).symm (fun h1 h2 => absurd h1 (by omega))
      refine Ev.step ?_
      simp only [spec_l2Cmp.step]
      refine Ev.cnd (fun c => ?_) fun c => key
      have c : i < a.length := by have := of_decide_eq_true c; omega
      rw [decide_eq_false (show ¬ (i : Int) < (b.length : Int) by omega)]
      exact key
    | succ d ih =>
      intro i h
      have key := p9 i true (by omega) (by omega) (decide_eq_true (by omega)).symm (fun _ _ => ih (i + 1) (by omega))
      refine Ev.step ?_
      simp only [spec_l2Cmp.step]
      refine Ev.yes (lt_yes (show i < a.length by omega)) ?_
      rw [decide_eq_true (show (i : Int) < (b.length : Int) by omega)]
      exact key
  refine Ev.step ?_
  simp only [spec_l2Cmp.step]
  exact loop (min a.length b.length) 0 (by omega)
theorem spec_l7Place.ev (l : List SRE) (t : List LB) (hl : l.length ≤ 1048576) (hs : ∀ s ∈ l, Sm 1048576 (.sl false LU) s.1) (ht : Sm 1048576 (.sl false LU) t) : Ev (fun n => spec_l7Place n l t) ((plc (byL t) l : Int), fndB (byL t) l) := by
  have loop : ∀ d i, i + d = plc (byL t) l → Ev (fun n => goRec spec_l7Place.step n (.p7 l t l (l.length : Int) (i : Int))) ((plc (byL t) l : Int), fndB (byL t) l) := by
    have hp := plc_le (f := byL t) (l := l)
    intro d
    induction d with
    | zero =>
      intro i hi
      obtain rfl : i = plc (byL t) l := by omega
      refine Ev.step ?_
      simp only [spec_l7Place.step, toNat_cast]
      refine Ev.cnd (fun c => ?_) fun c => ?_
      · have c : plc (byL t) l < l.length := by have := of_decide_eq_true c; omega
        have h1 := plc_at c
        refine Ev.yes (inB_nat c) (Ev.bind (spec_l2Cmp.ev _ _ (hs _ (getD_mem c)) ht) (Ev.cnd (fun e => Ev.pure' ?_) fun e => Ev.yes ?_ (Ev.pure' ?_)))
        · rw [fndB, decide_eq_true c, Bool.true_and]; exact congrArg _ e.symm
        · have e := of_decide_eq_false e
          exact decide_eq_true (by simp only [byL] at h1; omega)
        · rw [fndB, decide_eq_true c, Bool.true_and]; exact congrArg _ e.symm
      · have c : plc (byL t) l = l.length := by have := of_decide_eq_false c; omega
        refine Ev.pure' ?_
        rw [fndB, c, decide_eq_false (Nat.lt_irrefl _)]; rfl
    | succ d ih =>
      intro i hi
      have c : i < l.length := by omega
      have h1 := plc_lt (f := byL t) (l := l) (i := i) (by omega)
      refine Ev.step ?_
      simp only [spec_l7Place.step, toNat_cast, i64_nat (show i ≤ 4611686018427387904 by omega)]
      simp only [byL] at h1
      exact Ev.yes (lt_yes c) (Ev.yes (inB_nat c) (Ev.bind (spec_l2Cmp.ev _ _ (hs _ (getD_mem c)) ht) (Ev.no (decide_eq_false (by omega)) (Ev.no (decide_eq_false (by omega)) (ih (i + 1) (by omega))))))
  refine Ev.step ?_
  simp only [spec_l7Place.step]
  exact loop (plc (byL t) l) 0 (by omega)
theorem spec_l6Cut.ev (l : List SME) (t : Int) (hl : l.length ≤ 1048576) : Ev (fun n => spec_l6Cut n l t t) (cutV t l) := by
  have loop : ∀ d i out, i + d = l.length → out.length ≤ i → Ev (fun n => goRec spec_l6Cut.step n (.p9 t t l (l.length : Int) (i : Int) out)) (out ++ cutV t (l.drop i)) := by
    intro d
    induction d with
    | zero =>
      intro i out hi ho
      obtain rfl : i = l.length := by omega
      refine Ev.step ?_
      simp only [spec_l6Cut.step]
      exact Ev.no lt_no (Ev.pure' (by simp [cutV]))
    | succ d ih =>
      intro i out hi ho
      have c : i < l.length := by omega
      refine Ev.step ?_
      simp only [spec_l6Cut.step, toNat_cast, i64_nat (show i ≤ 4611686018427387904 by omega)]
      rw [cutV, filter_next c]
      refine Ev.yes (lt_yes c) (Ev.yes (inB_nat c) (Ev.cnd (fun c1 => Ev.cnd (fun c2 => Ev.yes (room_ok (by simp; omega)) ?_) fun c2 => ?_) fun c1 => ?_))
      · rw [c1, c2, if_pos (show (true && true) = true from rfl)]; exact ih (i + 1) _ (by omega) (by simp; omega)
      · rw [c1, c2, if_neg (by simp)]; exact ih (i + 1) _ (by omega) (by omega)
      · rw [c1, if_neg (by simp)]; exact ih (i + 1) _ (by omega) (by omega)
  refine Ev.step ?_
  simp only [spec_l6Cut.step]
  exact loop l.length 0 [] (by omega) (by simp)
theorem spec_l6Merge.ev (l : List SME) (t v : Int) (hl : l.length ≤ 1048576) (hs : l.Pairwise (fun a b => a.1 < b.1)) (hf : fndB (byT t) l = false) : Ev (fun n => spec_l6Merge n l [(t, v, ())]) (insAt l (plc (byT t) l) (t, v, ())) := by
  have hp := plc_le (f := byT t) (l := l)
  have tail : ∀ d i (out : List SME), i + d = l.length → out.length ≤ i + 1 → Ev (fun n => goRec spec_l6Merge.step n (.p11 l [(t, v, ())] (i : Int) (1 : Int) out)) (out ++ l.drop i) := by
    intro d
    induction d with
    | zero =>
      intro i out hi ho
      obtain rfl : i = l.length := by omega
      refine Ev.step ?_
      simp only [spec_l6Merge.step]
      refine Ev.no lt_no (Ev.step ?_)
      simp only [spec_l6Merge.step]
      exact Ev.no rfl (Ev.pure' (by simp))
    | succ d ih =>
      intro i out hi ho
      have c : i < l.length := by omega
      refine Ev.step ?_
      simp only [spec_l6Merge.step]
      refine Ev.yes (lt_yes c) (Ev.step ?_)
      simp only [spec_l6Merge.step]
      refine Ev.yes rfl (Ev.yes rfl (Ev.step ?_))
      simp only [spec_l6Merge.step]
      refine Ev.yes rfl (Ev.no rfl (Ev.step ?_))
      simp only [spec_l6Merge.step, toNat_cast, i64_nat (show i ≤ 4611686018427387904 by omega)]
      have := ih (i + 1) (out ++ [l.getD i default]) (by omega) (by simp; omega)
      rw [drop_getD c, show out ++ l.getD i default :: l.drop (i + 1) = out ++ [l.getD i default] ++ l.drop (i + 1) by simp]
      exact Ev.no rfl (Ev.yes (inB_nat c) (Ev.yes (room_ok (by simp; omega)) this))
  have loop : ∀ d i, i + d = plc (byT t) l → Ev (fun n => goRec spec_l6Merge.step n (.p11 l [(t, v, ())] (i : Int) (0 : Int) (l.take i))) (insAt l (plc (byT t) l) (t, v, ())) := by
    intro d
    induction d with
    | zero =>
      intro i hi
      obtain rfl : i = plc (byT t) l := by omega
      have fin := tail (l.length - plc (byT t) l) (plc (byT t) l) (l.take (plc (byT t) l) ++ [(t, v, ())]) (by omega) (by simp; omega)
      have put : Ev (fun n => goRec spec_l6Merge.step n (.p19 l [(t, v, ())] ((plc (byT t) l : Nat) : Int) (0 : Int) false (l.take (plc (byT t) l)))) (insAt l (plc (byT t) l) (t, v, ())) := by
        refine Ev.step ?_
        simp only [spec_l6Merge.step]
        exact Ev.no rfl (Ev.yes rfl (Ev.yes (room_ok (by simp; omega)) fin))
      refine Ev.step ?_
      simp only [spec_l6Merge.step]
      refine Ev.cnd (fun c => ?_) fun c => ?_
      · have c' : plc (byT t) l < l.length := by have := of_decide_eq_true c; omega
        have h1 := plc_at c'
        simp only [fndB, decide_eq_true c', Bool.true_and, decide_eq_false_iff_not, byT, cmpN_zero] at hf
        simp only [byT, cmpN_lt] at h1
        refine Ev.step ?_
        simp only [spec_l6Merge.step, toNat_cast]
        refine Ev.yes rfl (Ev.no rfl (Ev.yes c (Ev.yes (inB_nat c') (Ev.yes rfl ?_))))
        rw [decide_eq_false (show ¬ (l.getD (plc (byT t) l) default).1 ≤ (List.getD [((t, v, ()) : SME)] (Int.toNat 0) default).1 from by show ¬ (_ ≤ t); omega)]
        exact put
      · refine Ev.step ?_
        simp only [spec_l6Merge.step]
        exact Ev.yes rfl (Ev.no rfl (Ev.no c put))
    | succ d ih =>
      intro i hi
      have c : i < l.length := by omega
      have h1 := plc_lt (f := byT t) (l := l) (i := i) (by omega)
      simp only [byT, cmpN_lt] at h1
      refine Ev.step ?_
      simp only [spec_l6Merge.step]
      refine Ev.yes (lt_yes c) (Ev.step ?_)
      simp only [spec_l6Merge.step, toNat_cast]
      refine Ev.yes rfl (Ev.no rfl (Ev.yes (lt_yes c) (Ev.yes (inB_nat c) (Ev.yes rfl ?_))))
      rw [decide_eq_true (show (l.getD i default).1 ≤ (List.getD [((t, v, ()) : SME)] (Int.toNat 0) default).1 from by show _ ≤ t; omega)]
      refine Ev.step ?_
      simp only [spec_l6Merge.step, toNat_cast]
      refine Ev.yes rfl (Ev.yes rfl (Ev.yes (inB_nat c) (Ev.yes rfl ?_)))
      rw [decide_eq_false (show ¬ (l.getD i default).1 = (List.getD [((t, v, ()) : SME)] (Int.toNat 0) default).1 from by show ¬ _ = t; omega)]
      refine Ev.step ?_
      simp only [spec_l6Merge.step, toNat_cast, i64_nat (show i ≤ 4611686018427387904 by omega)]
      have e : l.take (i + 1) = l.take i ++ [l.getD i default] := by
        rw [List.take_add_one, List.getD_eq_getElem?_getD, List.getElem?_eq_getElem c]; rfl
      have := ih (i + 1) (by omega)
      rw [e] at this
      exact Ev.no rfl (Ev.yes (inB_nat c) (Ev.yes (room_ok (by simp; omega)) this))
  refine Ev.step ?_
  simp only [spec_l6Merge.step]
  exact loop (plc (byT t) l) 0 (by omega)
theorem spec_l7Put.at (w lim nw : Int) (l : List SRE) (k : Nat) (ls : List LB) (t v : Int) (h : HdOK lim l) (hk : k < l.length) : Ev (fun n => goRec spec_l7Put.step n (.p31 (k : Int) w lim nw ls t v t v l)) (putS w lim nw l k (ls, t, v, ())) := by
  have hs := h.2.2.2 _ (getD_mem hk (d := default))
  refine Ev.step ?_
  simp only [spec_l7Put.step, toNat_cast, Nat.zero_add]
  refine Ev.yes (inB_nat hk) (Ev.bind (spec_l6Cut.ev _ t (by have := hs.2.1; omega)) ?_)
  rw [cutV_val hs.1, putS]
  by_cases c : fndB (byT t) (l.getD k default).2.1 = true
  · rw [if_pos c, if_pos c]
    refine Ev.yes rfl (Ev.yes rfl (Ev.cnd (fun e => Ev.pure' ?_) fun e => Ev.pure' ?_))
    · rw [if_pos]; exact of_decide_eq_true e
    · rw [if_neg]; exact of_decide_eq_false e
  · rw [if_neg c, if_neg c]
    refine Ev.no rfl (Ev.yes (inB_nat hk) (Ev.cnd (fun e => Ev.pure' ?_) fun e => Ev.yes (inB_nat hk) (Ev.bind (spec_l6Merge.ev _ t v (by have := hs.2.1; omega) hs.1 (by simpa using c)) (Ev.yes (inB_nat hk) (Ev.cnd (fun e2 => Ev.pure' ?_) fun e2 => Ev.pure' ?_)))))
    · have e := of_decide_eq_true e
      rw [if_pos (by omega)]
    · have e := of_decide_eq_false e
      have e2 := of_decide_eq_true e2
      rw [if_neg (by omega), show max nw (ls, t, v, ()).2.1 = t from by show max nw t = t; omega]
    · have e := of_decide_eq_false e
      have e2 := of_decide_eq_false e2
      rw [if_neg (by omega), show max nw (ls, t, v, ()).2.1 = nw from by show max nw t = nw; omega]
theorem spec_l7Put.ev (w lim nw : Int) (l : List SRE) (p : PTE) (h : HdOK lim l) (ht : Sm 1048576 (.sl false LU) p.1) : Ev (fun n => spec_l7Put n (w, lim, nw, l, ()) p) (putF w lim nw l p) := by
  obtain ⟨ls, t, v, _⟩ := p
  have hp := plc_le (f := byL ls) (l := l)
  obtain ⟨a1, a2, a3, a4⟩ := id h
  refine Ev.step ?_
  simp only [spec_l7Put.step]
  unfold putF
  refine Ev.bind (spec_l7Named.ev ls ht) (Ev.cnd (fun c => Ev.pure' ?_) fun c => ?_)
  · rw [Bool.not_eq_true'] at c; rw [if_pos c]
  rw [Bool.not_eq_false'] at c
  rw [if_neg (by rw [c]; simp)]
  refine Ev.bind (spec_l3Time.ev t) (Ev.cnd (fun c2 => Ev.pure' ?_) fun c2 => ?_)
  · rw [Bool.not_eq_true'] at c2; rw [if_pos c2]
  rw [Bool.not_eq_false'] at c2
  rw [if_neg (by show ¬ timeB t = false; rw [c2]; simp)]
  refine Ev.cnd (fun c3 => Ev.pure' ?_) fun c3 => ?_
  · rw [if_pos (of_decide_eq_true c3)]
  rw [if_neg (of_decide_eq_false c3)]
  refine Ev.bind (spec_l7Place.ev l ls (by omega) (fun s hs => (a4 s hs).2.2.2) ht) ?_
  by_cases c4 : fndB (byL ls) l = true
  · rw [if_pos c4]
    simp only [c4]
    refine Ev.no rfl ?_
    simp only [fndB, Bool.and_eq_true, decide_eq_true_eq] at c4
    exact spec_l7Put.at w lim nw l _ ls t v h c4.1
  · rw [if_neg c4]
    have c4 : fndB (byL ls) l = false := by simpa using c4
    simp only [c4]
    refine Ev.yes rfl (Ev.cnd (fun c5 => Ev.pure' ?_) fun c5 => ?_)
    · rw [if_pos (of_decide_eq_true c5)]
    · have c5 := of_decide_eq_false c5
      rw [if_neg c5]
      simp only [toNat_cast, Nat.zero_add, i64_nat (show plc (byL ls) l ≤ 4611686018427387904 by omega)]
      have hl1 : (l ++ [(([], [], ()) : SRE)]).length = l.length + 1 := by simp
      refine Ev.yes (room_ok (by simp; omega)) (Ev.yes (inC_nat (by rw [hl1]; omega) (Nat.le_refl _)) (Ev.yes (inC_nat (by rw [hl1]; omega) (Nat.le_refl _)) (Ev.yes ?_ (Ev.bind (spec_l3Copy.ev ls ht.1) (Ev.yes (inB_nat (by rw [shift_len hp]; omega)) (Ev.yes ?_ ?_))))))
      · simp only [Bool.and_eq_true, Nat.beq_eq, Nat.blt_eq, List.length_append, List.length_cons, List.length_nil]; exact ⟨⟨⟨trivial, by omega⟩, by omega⟩, by omega⟩
      · simp only [Nat.beq_eq]
      · rw [shift_ins hp]
        exact spec_l7Put.at w lim nw _ _ ls t v (insSer_ok h c ht c4 c5) (by rw [insAt_len hp]; omega)
theorem spec_l1Cur__head.ev (code : List Int) (hc : CodeOK code) (m : Int) (hm : m ≤ 90000) (c : CRE) (h : CurOK code m c) : EvP (fun n => spec_l1Cur__head n c 12) (fun (r : HDE × CRE) => SeD 2000 r.1.2.2.2.1 ∧ CurOK code (m + 5010) r.2) := by
  have loop : ∀ (ps : List PTE), PtD 60 ps → ∀ (w lim y6 y7 y8 : Int) (y13 : List SRE) (m : Int) (c : CRE), CurOK code m c → ∀ (d i : Nat) (nw : Int) (l : List SRE), i + d = ps.length → HdOK lim l → EvP (fun n => goRec spec_l1Cur__head.step n (spec_l1Cur__head.Pt.p9 (ps.length : Int) (i : Int) c.1 c.2.1 c.2.2.1 y6 y7 y8 w lim nw ps y13 l)) (fun (r : HDE × CRE) => SeD 2000 r.1.2.2.2.1 ∧ CurOK code m r.2) := by
    intro ps hp w lim y6 y7 y8 y13 m c h d
    induction d with
    | zero =>
      intro i nw l hi hl
      obtain rfl : i = ps.length := by omega
      refine EvP.step ?_
      simp only [spec_l1Cur__head.step]
      refine EvP.no lt_no (EvP.pure ⟨⟨?_, fun s hs => ?_⟩, h⟩)
      · have := hl.1; have := hl.2.1; show l.length ≤ 200; omega
      · have := hl.2.2.2 s hs
        exact ⟨LbD.of_sm this.2.2.2 (by have := this.2.2.1; omega), this.2.1⟩
    | succ d ih =>
      intro i nw l hi hl
      have c1 : i < ps.length := by omega
      have h60 := hp.1
      have ok := putF_ok (w := w) (nw := nw) (p := ps.getD i default) hl ((hp.at i).sm (by decide))
      refine EvP.step ?_
      simp only [spec_l1Cur__head.step, toNat_cast, Nat.zero_add, i64_nat (show i ≤ 4611686018427387904 by omega)]
      refine EvP.yes (lt_yes c1) (EvP.yes (inB_nat c1) (EvP.bind (spec_l7Put.ev w lim nw l (ps.getD i default) hl ((hp.at i).sm (by decide))) ?_))
      rw [ok.1, ok.2.1]
      exact ih (i + 1) _ _ (by omega) ok.2.2
  refine EvP.step ?_
  simp only [spec_l1Cur__head.step]
  refine EvP.bindP (spec_l1Cur__pick.ev code hc m (by omega) c 60 h) fun r5 h5 => EvP.bindP (spec_l1Cur__pick.ev code hc (m + 2) (by omega) r5.2 12 h5.2.2.2) fun r6 h6 => EvP.bindP (spec_l1Cur__pick.ev code hc (m + 4) (by omega) r6.2 60 (h6.2.2.2.up (by omega))) fun r7 h7 => EvP.bindP (spec_l1Cur__puts.ev code hc (m + 6) (by omega) r7.2 r7.1 12 (by decide) (by decide) (h7.2.2.2.up (by omega))) fun r8 h8 => ?_
  have q1 := h6.1
  have q2 := h6.2.2.1 (by decide)
  have e : IntKind.wrap .i64 (3 + r6.1) = 3 + r6.1 := i64_ok (by omega) (by omega)
  rw [e]
  exact (loop r8.1 h8.1 r5.1 (3 + r6.1) _ _ _ _ (m + 5006) r8.2 (h8.2.up (by omega)) r8.1.length 0 (-1) [] (by omega) ⟨by omega, by show (0 : Int) ≤ _; omega, .nil, fun s hs => by cases hs⟩).imp fun r hr => ⟨hr.1, hr.2.up (by omega)⟩
theorem spec_l1Many.ev (code : List Int) (hc : code.length ≤ 1048576) : EvP (fun n => spec_l1Many n code 20 40) (fun (r : Int) => 0 ≤ r ∧ r ≤ 40) := by
  have e : IntKind.wrap .i64 (Int.tdiv (code.length : Int) 20) = ((code.length / 20 : Nat) : Int) := by
    rw [Int.tdiv_eq_ediv_of_nonneg (by omega), i64_ok] <;> omega
  refine EvP.step ?_
  simp only [spec_l1Many.step, e]
  exact EvP.no (by decide) (EvP.cnd (fun _ => EvP.pure ⟨by decide, by decide⟩) fun h => EvP.pure ⟨by omega, by have : ¬ (40 : Int) < ((code.length / 20 : Nat) : Int) := of_decide_eq_false h; omega⟩)
theorem spec_l1Cur__longSamples.ev (c : CRE) (k : Int) (h0 : 0 ≤ k) (h1 : k ≤ 2000) : EvP (fun n => spec_l1Cur__longSamples n c k) (fun (r : List SME) => r.length ≤ 2000) := by
  have loop : ∀ (d i : Nat) (out : List SME), (i : Int) + d = k → out.length = i → EvP (fun n => goRec spec_l1Cur__longSamples.step n (spec_l1Cur__longSamples.Pt.p9 k (i : Int) out)) (fun (r : List SME) => r.length ≤ 2000) := by
    intro d
    induction d with
    | zero =>
      intro i out hi ho
      refine EvP.step ?_
      simp only [spec_l1Cur__longSamples.step]
      exact EvP.no (decide_eq_false (by omega)) (EvP.pure (by omega))
    | succ d ih =>
      intro i out hi ho
      refine EvP.step ?_
      simp only [spec_l1Cur__longSamples.step, i64_nat (show i ≤ 4611686018427387904 by omega)]
      exact EvP.yes (decide_eq_true (by omega)) (EvP.yes (room_ok (by simp; omega)) (ih (i + 1) _ (by omega) (by simp; omega)))
  refine EvP.step ?_
  simp only [spec_l1Cur__longSamples.step]
  exact loop k.toNat 0 [] (by omega) rfl
theorem spec_l1Cur__of2.ev (code : List Int) (hc : CodeOK code) (m : Int) (hm : m ≤ 900000) (c : CRE) (a b : Int) (h : CurOK code m c) : EvP (fun n => spec_l1Cur__of2 n c a b) (fun (r : _ × CRE) => CurOK code (m + 2) r.2) := by
  refine EvP.step ?_
  simp only [spec_l1Cur__of2.step]
  exact EvP.bindP (spec_l1Cur__one.ev code hc m hm c 2 h) fun r hr => EvP.cnd (fun _ => EvP.pure hr) fun _ => EvP.pure hr
theorem spec_l2Num.evP (v : Int) (h1 : 0 ≤ v) (h2 : v ≤ 100000) : EvP (fun n => spec_l2Num n v) (fun (r : ByteArray) => r.size ≤ 30) := by
  have loop : ∀ (k : Nat) (u : Int) (acc : ByteArray), 0 ≤ u → u < 10 ^ k → k ≤ 6 → acc.size + k ≤ 20 → EvP (fun n => goRec spec_l2Num.step n (spec_l2Num.Pt.p17 u acc false)) (fun (r : ByteArray) => r.size ≤ 30) := by
    intro k
    induction k with
    | zero =>
      intro u acc h0 h1 _ h3
      obtain rfl : u = 0 := by simp at h1; omega
      refine EvP.step ?_
      simp only [spec_l2Num.step]
      exact EvP.no rfl (EvP.no rfl (EvP.pure (by omega)))
    | succ k ih =>
      intro u acc h0 h1 h2 h3
      have hb : (10 : Int) ^ (k + 1) = 10 ^ k * 10 := Int.pow_succ ..
      have hk : (10 : Int) ^ k ≤ 10 ^ 5 := by
        have hk5 : k ≤ 5 := by omega
        exact_mod_cast Nat.pow_le_pow_right (by decide) hk5
      have hk2 : (10 : Int) ^ 5 = 100000 := by decide
      refine EvP.step ?_
      simp only [spec_l2Num.step, Int.tdiv_eq_ediv_of_nonneg h0, Int.tmod_eq_emod_of_nonneg h0]
      rw [i64_ok (x := u / 10) (by omega) (by omega)]
      refine EvP.cnd (fun c => EvP.no (decide_eq_false (by omega)) (EvP.yes (room_ok (by rw [ofOcts_len]; simp; omega)) (ih _ _ (by omega) (by omega) (by omega) (by rw [ByteArray.size_append, ofOcts_len]; simp; omega)))) fun c => EvP.no rfl (EvP.pure (by omega))
  refine EvP.step ?_
  simp only [spec_l2Num.step]
  refine EvP.cnd (fun _ => EvP.pure (by decide)) fun c => ?_
  rw [decide_eq_false (show ¬ v < 0 by omega)]
  exact loop 6 v ⟨#[]⟩ h1 (by omega) (Nat.le_refl _) (by decide)
theorem spec_l1Cur__oddLabels.ev (code : List Int) (hc : CodeOK code) (m : Int) (hm : m ≤ 100000) (c : CRE) (l : List LB) (hl : LbD 30 l) (h : CurOK code m c) : EvP (fun n => spec_l1Cur__oddLabels n c l) (fun (r : List LB × CRE) => LbD 30 r.1 ∧ CurOK code (m + 200) r.2) := by
  have p39 : ∀ (d : Nat) (i : Nat) (m2 : Int) (c : CRE) (y : List LB), 25 ≤ y.length + d → i ≤ 1000 → i + d ≤ 100 → m2 + 2 * d ≤ m + 150 → LbD 30 y → CurOK code m2 c → EvP (fun n => goRec spec_l1Cur__oddLabels.step n (spec_l1Cur__oddLabels.Pt.p39 (i : Int) c.1 c.2.1 c.2.2.1 y)) (fun (r : List LB × CRE) => LbD 30 r.1 ∧ CurOK code (m + 200) r.2) := by
    intro d
    induction d with
    | zero =>
      intro i m2 c y h1 h2 h3 h4 hy h
      refine EvP.step ?_
      simp only [spec_l1Cur__oddLabels.step]
      refine EvP.bindP (spec_l1Cur__pick.ev code hc m2 (by omega) c 3 h) fun r8 h8 => ?_
      have q1 := h8.1
      have q2 := h8.2.2.1 (by decide)
      rw [i64_ok (x := 19 + r8.1) (by omega) (by omega)]
      exact EvP.no (decide_eq_false (by omega)) (EvP.pure ⟨hy, h8.2.2.2.up (by omega)⟩)
    | succ d ih =>
      intro i m2 c y h1 h2 h3 h4 hy h
      refine EvP.step ?_
      simp only [spec_l1Cur__oddLabels.step, i64_nat (show i ≤ 4611686018427387904 by omega)]
      refine EvP.bindP (spec_l1Cur__pick.ev code hc m2 (by omega) c 3 h) fun r8 h8 => ?_
      have q1 := h8.1
      have q2 := h8.2.2.1 (by decide)
      rw [i64_ok (x := 19 + r8.1) (by omega) (by omega), i64_ok (x := 100 + (i : Int)) (by omega) (by omega)]
      refine EvP.cnd (fun e => ?_) fun _ => EvP.pure ⟨hy, h8.2.2.2.up (by omega)⟩
      have e := of_decide_eq_true e
      refine EvP.bindP (spec_l2Num.evP (100 + (i : Int)) (by omega) (by omega)) fun r9 h9 => EvP.yes (room_ok (by rw [show ByteArray.size (⟨#[122, 122, 122]⟩ : ByteArray) = 3 from rfl]; omega)) (EvP.yes (room_ok (by simp; omega)) ?_)
      refine ih (i + 1) (m2 + 2) r8.2 _ (by simp; omega) (by omega) (by omega) (by omega) ?_ h8.2.2.2
      have := hy.app (x := ((⟨#[122, 122, 122]⟩ : ByteArray) ++ r9, (⟨#[118]⟩ : ByteArray), ())) ⟨by show ((⟨#[122, 122, 122]⟩ : ByteArray) ++ r9).size ≤ _; rw [ByteArray.size_append, show ByteArray.size (⟨#[122, 122, 122]⟩ : ByteArray) = 3 from rfl]; omega, by show ByteArray.size (⟨#[118]⟩ : ByteArray) ≤ _; decide⟩
      exact ⟨by simp; omega, this.2⟩
  have p59 : ∀ (d : Nat) (i : Int) (v : ByteArray) (y : List LB) (m2 : Int) (c : CRE), 0 ≤ i → i < (y.length : Int) → v.size + d ≤ 1000 → m2 ≤ m + 150 → LbD 30 y → CurOK code m2 c → EvP (fun n => goRec spec_l1Cur__oddLabels.step n (spec_l1Cur__oddLabels.Pt.p59 i v (d : Int) c.1 c.2.1 c.2.2.1 y)) (fun (r : List LB × CRE) => LbD 30 r.1 ∧ CurOK code (m + 200) r.2) := by
    intro d
    induction d with
    | zero =>
      intro i v y m2 c h1 h2 h3 h4 hy h
      refine EvP.step ?_
      simp only [spec_l1Cur__oddLabels.step]
      exact EvP.no rfl (EvP.yes (inB_of ⟨h1, h2⟩) (EvP.pure ⟨hy.set ⟨(hy.at _).1, by show v.size ≤ _; omega⟩, h.up (by omega)⟩))
    | succ d ih =>
      intro i v y m2 c h1 h2 h3 h4 hy h
      refine EvP.step ?_
      simp only [spec_l1Cur__oddLabels.step]
      rw [i64_ok (x := ((d + 1 : Nat) : Int) - 1) (by omega) (by omega), show ((d + 1 : Nat) : Int) - 1 = (d : Int) by omega]
      refine EvP.yes (decide_eq_true (by omega)) (EvP.yes (room_ok (by rw [show ByteArray.size (⟨#[118]⟩ : ByteArray) = 1 from rfl]; omega)) (ih i _ y m2 c h1 h2 ?_ h4 hy h))
      rw [ByteArray.size_append, show ByteArray.size (⟨#[118]⟩ : ByteArray) = 1 from rfl]; omega
  refine EvP.step ?_
  simp only [spec_l1Cur__oddLabels.step, Nat.zero_add]
  refine EvP.cnd (fun _ => EvP.pure ⟨hl, h.up (by omega)⟩) fun e => ?_
  have e : l.length ≠ 0 := by have := of_decide_eq_false e; omega
  refine EvP.bindP (spec_l1Cur__pick.ev code hc m (by omega) c _ h) fun r5 h5 => ?_
  have q1 := h5.1
  have q2 := h5.2.2.1 (by omega)
  refine EvP.bindP (spec_l1Cur__pick.ev code hc (m + 2) (by omega) r5.2 20 h5.2.2.2) fun r6 h6 => ?_
  have c6 := h6.2.2.2
  refine EvP.cnd (fun _ => EvP.bindP (spec_l1Cur__of.ev code hc (m + 4) (by omega) r6.2 _ (c6.up (by omega)) (by decide) (by decide)) fun r7 h7 => EvP.yes (inB_of ⟨q1, q2⟩) (EvP.pure ⟨hl.set ⟨h7.1, (hl.at _).2⟩, h7.2.up (by omega)⟩)) fun _ => EvP.cnd (fun _ => EvP.bindP (spec_l1Cur__of.ev code hc (m + 4) (by omega) r6.2 _ (c6.up (by omega)) (by decide) (by decide)) fun r7 h7 => EvP.yes (inB_of ⟨q1, q2⟩) (EvP.pure ⟨hl.set ⟨(hl.at _).1, h7.1⟩, h7.2.up (by omega)⟩)) fun _ => EvP.cnd (fun _ => EvP.yes (inB_zero (by omega)) (EvP.yes (inB_of ⟨q1, q2⟩) (EvP.yes (inB_zero (by omega)) (EvP.yes (inB_of ⟨q1, by rw [List.length_set]; exact q2⟩) (EvP.pure ⟨(hl.set (hl.at _)).set (hl.at _), c6.up (by omega)⟩))))) fun _ => EvP.cnd (fun _ => p39 25 0 (m + 4) r6.2 l (by omega) (by omega) (by omega) (by omega) hl (c6.up (by omega))) fun _ => EvP.cnd (fun _ => EvP.bindP (spec_l1Cur__pick.ev code hc (m + 4) (by omega) r6.2 3 (c6.up (by omega))) fun r7 h7 => ?_) fun _ => EvP.pure ⟨hl, c6.up (by omega)⟩
  have q3 := h7.1
  have q4 := h7.2.2.1 (by decide)
  have e7 : IntKind.wrap .i64 (99 + r7.1) = ((99 + r7.1.toNat : Nat) : Int) := by rw [i64_ok] <;> omega
  rw [e7]
  exact p59 _ r5.1 _ l (m + 6) r7.2 q1 q2 (by rw [show ByteArray.size (⟨#[]⟩ : ByteArray) = 0 from rfl]; omega) (by omega) hl (h7.2.2.2.up (by omega))
theorem spec_l1Cur__oddSamples.ev (code : List Int) (hc : CodeOK code) (m : Int) (hm : m ≤ 100000) (c : CRE) (l : List SME) (hn : l.length ≤ 2000) (h : CurOK code m c) : EvP (fun n => spec_l1Cur__oddSamples n c l) (fun (r : List SME × CRE) => r.1.length ≤ 2001 ∧ CurOK code (m + 4) r.2) := by
  refine EvP.step ?_
  simp only [spec_l1Cur__oddSamples.step]
  refine EvP.bindP (spec_l1Cur__pick.ev code hc m (by omega) c 20 h) fun r5 h5 => ?_
  have same : EvP (fun _ => some (l, (r5.2.1, r5.2.2))) (fun (r : List SME × CRE) => r.1.length ≤ 2001 ∧ CurOK code (m + 4) r.2) := EvP.pure ⟨by show l.length ≤ 2001; omega, h5.2.2.2.up (by omega)⟩
  refine EvP.cnd (fun _ => EvP.cnd (fun e => ?_) fun _ => same) fun _ => EvP.cnd (fun _ => ?_) fun _ => EvP.cnd (fun _ => EvP.cnd (fun e => ?_) fun _ => same) fun _ => same
  · have e : 1 < l.length := by have := of_decide_eq_true e; omega
    exact EvP.yes (inB_zero (by omega)) (EvP.yes (inB_of ⟨by decide, by omega⟩) (EvP.pure ⟨by simp; omega, h5.2.2.2.up (by omega)⟩))
  · exact EvP.bindP (spec_l1Cur__of2.ev code hc (m + 2) (by omega) r5.2 _ _ h5.2.2.2) fun r6 h6 => EvP.yes (room_ok (by simp; omega)) (EvP.pure ⟨by simp; omega, h6.up (by omega)⟩)
  · have e : 0 < l.length := by have := of_decide_eq_true e; omega
    exact EvP.yes (inB_zero (by omega)) (EvP.pure ⟨by simp; omega, h5.2.2.2.up (by omega)⟩)
theorem spec_l2With.ev (l : List LB) (k : ByteArray) (hl : LbD 30 l) : EvP (fun n => spec_l2With n l k ⟨#[]⟩) (fun (r : List LB) => LbD 30 r) := by
  have loop : ∀ d i (out : List LB), i + d = l.length → LbD i out → EvP (fun n => goRec spec_l2With.step n (spec_l2With.Pt.p11 k ⟨#[]⟩ true l (l.length : Int) (i : Int) out)) (fun (r : List LB) => LbD 30 r) := by
    intro d
    induction d with
    | zero =>
      intro i out hi ho
      obtain rfl : i = l.length := by omega
      refine EvP.step ?_
      simp only [spec_l2With.step]
      exact EvP.no lt_no (EvP.no rfl (EvP.pure (ho.up hl.1)))
    | succ d ih =>
      intro i out hi ho
      have c : i < l.length := by omega
      have h30 := hl.1
      have hlen := ho.1
      refine EvP.step ?_
      simp only [spec_l2With.step, toNat_cast]
      refine EvP.yes (lt_yes c) (EvP.yes (inB_nat c) (EvP.no rfl (EvP.step ?_)))
      simp only [spec_l2With.step]
      refine EvP.no rfl (EvP.step ?_)
      simp only [spec_l2With.step, i64_nat (show i ≤ 4611686018427387904 by omega)]
      exact EvP.cnd (fun _ => EvP.yes (room_ok (by simp; omega)) (ih (i + 1) _ (by omega) (ho.app (hl.at i)))) fun _ => ih (i + 1) _ (by omega) (ho.up (by omega))
  refine EvP.step ?_
  simp only [spec_l2With.step]
  rw [show seq (⟨#[]⟩ : ByteArray) ⟨#[]⟩ = true by simp [seq]]
  exact loop l.length 0 [] (by omega) ⟨Nat.le_refl _, fun x hx => by cases hx⟩
theorem spec_l1Cur__oddSeries.ev (code : List Int) (hc : CodeOK code) (m : Int) (hm : m ≤ 90000) (c : CRE) (l : List SRE) (hl : SeD 2000 l) (h : CurOK code m c) : EvP (fun n => spec_l1Cur__oddSeries n c l) (fun (r : List SRE × CRE) => SeD 2001 r.1 ∧ CurOK code (m + 250) r.2) := by
  have hl' := hl.up (show 2000 ≤ 2001 by decide)
  refine EvP.step ?_
  simp only [spec_l1Cur__oddSeries.step, Nat.zero_add]
  refine EvP.cnd (fun _ => EvP.pure ⟨hl', h.up (by omega)⟩) fun e => ?_
  have e : l.length ≠ 0 := by have := of_decide_eq_false e; omega
  refine EvP.bindP (spec_l1Cur__pick.ev code hc m (by omega) c _ h) fun r5 h5 => ?_
  have q1 := h5.1
  have q2 := h5.2.2.1 (by omega)
  refine EvP.bindP (spec_l1Cur__pick.ev code hc (m + 2) (by omega) r5.2 16 h5.2.2.2) fun r6 h6 => ?_
  have c6 := h6.2.2.2
  have at5 := hl'.at r5.1.toNat
  refine EvP.cnd (fun _ => EvP.yes (inB_of ⟨q1, q2⟩) (EvP.bindP (spec_l1Cur__oddLabels.ev code hc (m + 4) (by omega) r6.2 _ at5.1 (c6.up (by omega))) fun r7 h7 => EvP.yes (inB_of ⟨q1, q2⟩) (EvP.yes (Nat.beq_refl _) (EvP.pure ⟨hl'.set h7.1 at5.2, h7.2.up (by omega)⟩)))) fun _ => EvP.cnd (fun _ => EvP.yes (inB_of ⟨q1, q2⟩) (EvP.bindP (spec_l1Cur__oddSamples.ev code hc (m + 4) (by omega) r6.2 _ (hl.at _).2 (c6.up (by omega))) fun r7 h7 => EvP.yes (inB_of ⟨q1, q2⟩) (EvP.yes (Nat.beq_refl _) (EvP.pure ⟨hl'.set at5.1 h7.1, h7.2.up (by omega)⟩)))) fun _ => EvP.cnd (fun _ => EvP.yes (inB_of ⟨q1, q2⟩) (EvP.pure ⟨hl'.set at5.1 (Nat.zero_le _), c6.up (by omega)⟩)) fun _ => EvP.cnd (fun _ => EvP.yes (inB_zero (by omega)) (EvP.yes (inB_of ⟨q1, q2⟩) (EvP.yes (inB_zero (by omega)) (EvP.cnd (fun z => ?_) fun z => ?_)))) fun _ => EvP.cnd (fun _ => EvP.yes (inB_of ⟨q1, q2⟩) (EvP.bindP (spec_l2With.ev _ _ at5.1) fun r7 h7 => EvP.yes (inB_of ⟨q1, q2⟩) (EvP.pure ⟨hl'.set h7 at5.2, c6.up (by omega)⟩))) fun _ => EvP.pure ⟨hl', c6.up (by omega)⟩
  · simp only [Bool.and_eq_true, Nat.beq_eq, Int.toNat_zero] at z
    refine EvP.yes (inB_of ⟨q1, q2⟩) (EvP.yes ?_ (EvP.pure ⟨hl', c6.up (by omega)⟩))
    simp only [Bool.and_eq_true, Nat.beq_eq, Int.toNat_zero]
    exact ⟨z.1.symm, z.1.symm⟩
  · have hz : r5.1.toNat ≠ 0 := fun e0 => by rw [e0] at z; simp at z
    refine EvP.yes ?_ (EvP.yes (inB_of ⟨q1, by rw [List.length_set]; exact q2⟩) (EvP.yes (Nat.beq_refl _) (EvP.pure ⟨(hl'.set at5.1 at5.2).set (hl'.at 0).1 (hl'.at 0).2, c6.up (by omega)⟩)))
    simp only [Bool.and_eq_true, Nat.beq_eq, Nat.blt_eq, Int.toNat_zero]
    exact ⟨⟨trivial, by omega⟩, trivial⟩
theorem spec_l1Cur__oddHead.ev (code : List Int) (hc : CodeOK code) (m : Int) (hm : m ≤ 80000) (c : CRE) (x : HDE) (hx : SeD 2000 x.2.2.2.1) (h : CurOK code m c) : EvP (fun n => spec_l1Cur__oddHead n c x) (fun (r : HDE × CRE) => SeD 2001 r.1.2.2.2.1 ∧ CurOK code (m + 300) r.2) := by
  refine EvP.step ?_
  simp only [spec_l1Cur__oddHead.step]
  refine EvP.bindP (spec_l1Cur__pick.ev code hc m (by omega) c 20 h) fun r5 h5 => ?_
  have c5 := h5.2.2.2
  have hx' := hx.up (show 2000 ≤ 2001 by decide)
  refine EvP.cnd (fun _ => EvP.bindP (spec_l1Cur__of2.ev code hc (m + 2) (by omega) r5.2 _ _ c5) fun r6 h6 => EvP.pure ⟨hx', h6.up (by omega)⟩) fun _ => EvP.cnd (fun _ => EvP.bindP (spec_l1Cur__pick.ev code hc (m + 2) (by omega) r5.2 2 c5) fun r6 h6 => EvP.pure ⟨hx', h6.2.2.2.up (by omega)⟩) fun _ => EvP.cnd (fun _ => EvP.bindP (spec_l1Cur__pick.ev code hc (m + 2) (by omega) r5.2 4 c5) fun r6 h6 => EvP.yes (inB_of ⟨h6.1, h6.2.2.1 (by decide)⟩) (EvP.pure ⟨hx', h6.2.2.2.up (by omega)⟩)) fun _ => EvP.cnd (fun _ => EvP.bindP (spec_l1Cur__oddSeries.ev code hc (m + 2) (by omega) r5.2 _ hx c5) fun r6 h6 => EvP.pure ⟨h6.1, h6.2.up (by omega)⟩) fun _ => EvP.pure ⟨hx', c5.up (by omega)⟩
theorem spec_l1Cur__oddPuts.ev (code : List Int) (hc : CodeOK code) (m : Int) (hm : m ≤ 90000) (c : CRE) (l : List PTE) (hl : PtD 70 l) (h : CurOK code m c) : EvP (fun n => spec_l1Cur__oddPuts n c l) (fun (r : List PTE × CRE) => PtD 600 r.1) := by
  have p33 : ∀ (d : Nat) (m2 : Int) (c : CRE) (y : List PTE), 502 ≤ y.length + d → m2 + 2 * d ≤ 99000 → PtD (600 - d) y → d ≤ 510 → CurOK code m2 c → EvP (fun n => goRec spec_l1Cur__oddPuts.step n (spec_l1Cur__oddPuts.Pt.p33 c.1 c.2.1 c.2.2.1 y)) (fun (r : List PTE × CRE) => PtD 600 r.1) := by
    intro d
    induction d with
    | zero =>
      intro m2 c y h1 h2 hy _ h
      refine EvP.step ?_
      simp only [spec_l1Cur__oddPuts.step]
      refine EvP.bindP (spec_l1Cur__pick.ev code hc m2 (by omega) c 3 h) fun r7 h7 => ?_
      have q1 := h7.1
      have q2 := h7.2.2.1 (by decide)
      rw [i64_ok (x := 499 + r7.1) (by omega) (by omega)]
      exact EvP.no (decide_eq_false (by omega)) (EvP.pure (hy.up (by omega)))
    | succ d ih =>
      intro m2 c y h1 h2 hy hd h
      have hlen := hy.1
      refine EvP.step ?_
      simp only [spec_l1Cur__oddPuts.step]
      refine EvP.bindP (spec_l1Cur__pick.ev code hc m2 (by omega) c 3 h) fun r7 h7 => ?_
      refine EvP.cnd (fun _ => EvP.yes (room_ok (by simp; omega)) (ih (m2 + 2) r7.2 _ (by simp; omega) (by omega) ((hy.app ?_).up (by omega)) (by omega) h7.2.2.2)) fun _ => EvP.pure (hy.up (by omega))
      refine ⟨by show 1 ≤ 30; decide, fun x hx => ?_⟩
      rw [List.mem_singleton.1 hx]
      exact ⟨by show ByteArray.size (⟨#[95, 110, 97, 109, 101]⟩ : ByteArray) ≤ _; decide, by show ByteArray.size (⟨#[120]⟩ : ByteArray) ≤ _; decide⟩
  refine EvP.step ?_
  simp only [spec_l1Cur__oddPuts.step, Nat.zero_add]
  refine EvP.cnd (fun _ => EvP.pure (hl.up (by omega))) fun e => ?_
  have e : l.length ≠ 0 := by have := of_decide_eq_false e; omega
  refine EvP.bindP (spec_l1Cur__pick.ev code hc m (by omega) c _ h) fun r5 h5 => ?_
  have q1 := h5.1
  have q2 := h5.2.2.1 (by omega)
  refine EvP.bindP (spec_l1Cur__pick.ev code hc (m + 2) (by omega) r5.2 12 h5.2.2.2) fun r6 h6 => ?_
  have c6 := h6.2.2.2
  have hlen := hl.1
  exact EvP.cnd (fun _ => EvP.yes (inB_of ⟨q1, q2⟩) (EvP.bindP (spec_l1Cur__oddLabels.ev code hc (m + 4) (by omega) r6.2 _ (hl.at _) (c6.up (by omega))) fun r7 h7 => EvP.yes (inB_of ⟨q1, q2⟩) (EvP.yes (Nat.beq_refl _) (EvP.pure ((hl.set h7.1).up (by omega)))))) fun _ => EvP.cnd (fun _ => EvP.bindP (spec_l1Cur__of2.ev code hc (m + 4) (by omega) r6.2 _ _ (c6.up (by omega))) fun r7 h7 => EvP.yes (inB_of ⟨q1, q2⟩) (EvP.pure (PtD.up (k := 70) (hl.set (hl.at r5.1.toNat)) (by decide)))) fun _ => EvP.cnd (fun _ => EvP.yes (inB_of ⟨q1, q2⟩) (EvP.bindP (spec_l2With.ev _ _ (hl.at _)) fun r7 h7 => EvP.yes (inB_of ⟨q1, q2⟩) (EvP.pure ((hl.set h7).up (by omega))))) fun _ => EvP.cnd (fun _ => p33 502 (m + 4) r6.2 l (by omega) (by omega) ⟨by omega, hl.2⟩ (by omega) (c6.up (by omega))) fun _ => EvP.pure (hl.up (by omega))
theorem spec_DrawPutAll.ev (code : List Int) (hc : CodeOK code) : EvP (fun n => spec_DrawPutAll n code) (fun (r : HDE × List PTE) => SeD 2001 r.1.2.2.2.1 ∧ PtD 600 r.2) := by
  refine EvP.step ?_
  simp only [spec_DrawPutAll.step]
  refine EvP.bindP (spec_l1Cur__head.ev code hc 0 (by decide) (code, default) ⟨rfl, by show (0 : Int) ≤ 0; decide, by show (0 : Int) ≤ 0; decide⟩) fun r4 h4 => EvP.bindP (spec_l1Cur__pick.ev code hc 5010 (by decide) r4.2 100 (h4.2.up (by decide))) fun r5 h5 => EvP.bindP (spec_l1Many.ev code hc.1) fun r6 h6 => ?_
  obtain ⟨q1, q2⟩ := h6
  rw [i64_ok (x := 20 + r6) (by omega) (by omega)]
  refine EvP.bindP (spec_l1Cur__puts.ev code hc 5012 (by decide) r5.2 r5.1 (20 + r6) (by omega) (by omega) h5.2.2.2) fun r7 h7 => EvP.bindP (spec_l1Cur__one.ev code hc 10012 (by decide) r7.2 20 h7.2) fun r8 h8 => EvP.cnd (fun _ => ?_) fun _ => ?_
  · refine EvP.bindP (spec_l1Cur__pick.ev code hc 10014 (by decide) r8.2 2 h8) fun r9 h9 => ?_
    have q3 := h9.1
    have q4 := h9.2.2.1 (by decide)
    have hlen := h7.1.1
    rw [i64_ok (x := 2000 - r9.1) (by omega) (by omega)]
    refine EvP.bindP (spec_l1Cur__longSamples.ev r9.2 (2000 - r9.1) (by omega) (by omega)) fun r10 h10 => EvP.yes (room_ok (by simp; omega)) (EvP.bindP (spec_l1Cur__oddHead.ev code hc 10016 (by decide) r9.2 _ ?_ h9.2.2.2) fun r11 h11 => EvP.bindP (spec_l1Cur__oddPuts.ev code hc 10316 (by decide) r11.2 _ ?_ h11.2) fun r12 h12 => EvP.pure ⟨h11.1, h12⟩)
    · refine ⟨by show 1 ≤ 200; decide, fun s hs => ?_⟩
      rw [List.mem_singleton.1 hs]
      refine ⟨⟨by show 1 ≤ 30; decide, fun x hx => ?_⟩, h10⟩
      rw [List.mem_singleton.1 hx]
      exact ⟨by show ByteArray.size (⟨#[95, 110, 97, 109, 101]⟩ : ByteArray) ≤ _; decide, by show ByteArray.size (⟨#[117, 112]⟩ : ByteArray) ≤ _; decide⟩
    · refine ⟨by simp; omega, fun p hp => ?_⟩
      rcases List.mem_append.1 hp with hp | hp
      · exact h7.1.2 p hp
      · have one : LbD 30 [((⟨#[95, 110, 97, 109, 101]⟩ : ByteArray), ((⟨#[117, 112]⟩ : ByteArray), ()))] := by
          refine ⟨by show 1 ≤ 30; decide, fun x hx => ?_⟩
          rw [List.mem_singleton.1 hx]
          exact ⟨by show ByteArray.size (⟨#[95, 110, 97, 109, 101]⟩ : ByteArray) ≤ _; decide, by show ByteArray.size (⟨#[117, 112]⟩ : ByteArray) ≤ _; decide⟩
        rcases List.mem_cons.1 hp with rfl | hp
        · exact one
        · rw [List.mem_singleton.1 hp]; exact one
  · exact EvP.bindP (spec_l1Cur__oddHead.ev code hc 10014 (by decide) r8.2 _ h4.1 h8) fun r9 h9 => EvP.bindP (spec_l1Cur__oddPuts.ev code hc 10314 (by decide) r9.2 _ (h7.1.up (by decide)) h9.2) fun r10 h10 => EvP.pure ⟨h9.1, h10⟩
theorem impl_isTime.ev (b : Int) : Ev (fun n => impl_isTime n b) (timeB b) := by
  refine Ev.step ?_
  simp only [impl_isTime.step]
  exact Ev.cnd (fun h => Ev.pure' (by simp [timeB, h])) fun h => Ev.pure' (by simp [timeB, h])
theorem impl_goodWindow.ev (w lim : Int) : Ev (fun n => impl_goodWindow n w lim) (timeB w && (decide (0 ≤ lim) && decide (lim ≤ 200))) := by
  refine Ev.step ?_
  simp only [impl_goodWindow.step]
  refine Ev.bind (impl_isTime.ev w) (Ev.cnd (fun c => Ev.cnd (fun c2 => Ev.pure' ?_) fun c2 => Ev.pure' ?_) fun c => Ev.pure' ?_)
  · rw [c, c2]; rfl
  · rw [c, c2]; rfl
  · rw [c]; rfl
theorem impl_digitByte.ev (b : Int) : Ev (fun n => impl_digitByte n b) (digitB b) := by
  refine Ev.step ?_
  simp only [impl_digitByte.step]
  exact Ev.cnd (fun h => Ev.pure' (by simp [digitB, h])) fun h => Ev.pure' (by simp [digitB, h])
theorem impl_letterByte.ev (b : Int) : Ev (fun n => impl_letterByte n b) (letterB b) := by
  refine Ev.step ?_
  simp only [impl_letterByte.step]
  refine Ev.cnd (fun h => Ev.cnd (fun h2 => Ev.pure' (by simp [letterB, h, h2])) fun h2 => Ev.cnd (fun h3 => Ev.pure' (by simp [letterB, h, h2, h3])) fun h3 => Ev.pure' (by simp [letterB, h, h2, h3])) fun h => Ev.cnd (fun h3 => Ev.pure' (by simp [letterB, h, h3])) fun h3 => Ev.pure' (by simp [letterB, h, h3])
theorem impl_wordByte.ev (b : Int) : Ev (fun n => impl_wordByte n b) (wordB b) := by
  refine Ev.step ?_
  simp only [impl_wordByte.step]
  refine Ev.bind (impl_letterByte.ev b) (Ev.cnd (fun h => Ev.pure' (by simp [wordB, h])) fun h => ?_)
  refine Ev.bind (impl_digitByte.ev b) (Ev.cnd (fun h2 => Ev.pure' (by simp [wordB, h2])) fun h2 => Ev.pure' (by simp [wordB, h, h2]))
theorem impl_isName.ev (s : ByteArray) (hs : s.size ≤ 1048576) : Ev (fun n => impl_isName n s) (nameB s) := by
  have go : Ev (fun n => goRec impl_isName.step n (impl_isName.Pt.p15 s (s.size : Int) 0)) (allB wordB s) := by
    refine Ev.allN (pt := fun i : Nat => impl_isName.Pt.p15 s (s.size : Int) (i : Int)) (fun i hi => ⟨fun hp v hv => ?_, fun hp => ?_⟩) ?_
    · refine Ev.step ?_
      simp only [impl_isName.step, i64_nat (show i ≤ 4611686018427387904 by omega)]
      exact Ev.yes (lt_yes hi) (Ev.yes (inB_nat hi) (Ev.bind (impl_wordByte.ev _) (Ev.no (by simp [hp]) hv)))
    · refine Ev.step ?_
      simp only [impl_isName.step]
      exact Ev.yes (lt_yes hi) (Ev.yes (inB_nat hi) (Ev.bind (impl_wordByte.ev _) (Ev.yes (by simp [hp]) Ev.pure)))
    · refine Ev.step ?_
      simp only [impl_isName.step]
      exact Ev.no lt_no Ev.pure
  refine Ev.step ?_
  simp only [impl_isName.step]
  have bad : nameB s = false → Ev (fun n => goRec impl_isName.step n (impl_isName.Pt.p4 s true)) (nameB s) := fun h => by
    refine Ev.step ?_
    simp only [impl_isName.step]
    exact Ev.yes rfl (Ev.pure' h.symm)
  refine Ev.cnd (fun h => bad ?_) fun h => Ev.cnd (fun h2 => bad ?_) fun h2 => Ev.yes ?_ (Ev.bind (impl_digitByte.ev _) (Ev.step ?_))
  · have : ¬ 1 ≤ s.size := by have := of_decide_eq_true (seq_empty.symm.trans h); omega
    simp [nameB, this]
  · have : ¬ s.size ≤ 40 := by simp at h2; omega
    simp [nameB, this]
  · exact inB_zero (by have := of_decide_eq_false (seq_empty.symm.trans h); omega)
  · have h1 : 1 ≤ s.size := by have := of_decide_eq_false (seq_empty.symm.trans h); omega
    have h3 : s.size ≤ 40 := by simp at h2; omega
    simp only [impl_isName.step]
    refine Ev.cnd (fun h4 => Ev.pure' (by simp [nameB, h4])) fun h4 => Ev.of_eq go ?_
    simp [nameB, h1, h3, h4]
theorem impl_printed.ev (s : ByteArray) (m : Nat) (hs : s.size ≤ 1048576) (hm : m ≤ 1000000) : Ev (fun n => impl_printed n s (m : Int)) (decide (s.size ≤ m) && printB s) := by
  refine Ev.step ?_
  simp only [impl_printed.step]
  refine Ev.cnd (fun h => Ev.pure' (by simp at h; simp; omega)) fun h => ?_
  have h2 : s.size ≤ m := by simp at h; omega
  simp only [h2, decide_true, Bool.true_and]
  refine Ev.allN (pt := fun i : Nat => impl_printed.Pt.p15 s (s.size : Int) (i : Int)) (fun i hi => ⟨fun hp v hv => ?_, fun hp => ?_⟩) ?_
  · refine Ev.step ?_
    simp only [Bool.and_eq_true, decide_eq_true_eq] at hp
    simp only [impl_printed.step, i64_nat (show i ≤ 4611686018427387904 by omega)]
    exact Ev.yes (lt_yes hi) (Ev.yes (inB_nat hi) (Ev.no (by simp; omega) (Ev.yes (inB_nat hi) (Ev.no (by simp; omega) hv))))
  · refine Ev.step ?_
    simp only [impl_printed.step]
    refine Ev.yes (lt_yes hi) (Ev.yes (inB_nat hi) (Ev.cnd (fun _ => Ev.pure) fun h => Ev.yes (inB_nat hi) (Ev.yes ?_ Ev.pure)))
    simp at hp h ⊢; omega
  · refine Ev.step ?_
    simp only [impl_printed.step]
    exact Ev.no lt_no Ev.pure
theorem impl_isValue.ev (s : ByteArray) (hs : s.size ≤ 1048576) : Ev (fun n => impl_isValue n s) (valueB s) := by
  refine Ev.step ?_
  simp only [impl_isValue.step]
  refine Ev.cnd (fun e => Ev.bind (impl_printed.ev s 100 hs (by omega)) (Ev.pure' ?_)) fun e => Ev.pure' ?_
  · rw [seq_empty] at e
    have a1 : 1 ≤ s.size := by have := of_decide_eq_false ((Bool.not_eq_true' _).mp e); omega
    simp [valueB, a1]
  · rw [seq_empty] at e
    have a1 : ¬ 1 ≤ s.size := by have := of_decide_eq_true ((Bool.not_eq_false' _).mp e); omega
    simp [valueB, a1]
theorem impl_GoodLabels.ev (l : List LB) (h : Sm 1048576 (.sl false LU) l) : Ev (fun n => impl_GoodLabels n l) (labelsB l) := by
  have hl : l.length ≤ 1048576 := h.1
  refine Ev.step ?_
  simp only [impl_GoodLabels.step]
  refine Ev.cnd (fun c => Ev.pure' ?_) fun c => ?_
  · have : ¬ l.length ≤ 20 := by simp at c; omega
    simp [labelsB, this]
  have h50 : l.length ≤ 20 := by simp at c; omega
  simp only [labelsB, h50, decide_true, Bool.true_and]
  have go : ∀ i v, i < l.length → (labB l i = true → Ev (fun n => goRec impl_GoodLabels.step n (impl_GoodLabels.Pt.p15 l l (l.length : Int) ((i + 1 : Nat) : Int))) v) → (labB l i = false → v = false) →
      Ev (fun n => goRec impl_GoodLabels.step n (impl_GoodLabels.Pt.p15 l l (l.length : Int) (i : Int))) v := by
    intro i v hi hv hv2
    have hx := h.2 _ (getD_mem (d := default) hi)
    have hs := (labB.eq_1 l i).symm
    have h26 : ∀ b, (b = !labB l i) → Ev (fun n => goRec impl_GoodLabels.step n (impl_GoodLabels.Pt.p26 l l (l.length : Int) (i : Int) b)) v := by
      rintro b rfl
      refine Ev.step ?_
      simp only [impl_GoodLabels.step, i64_nat (show i ≤ 4611686018427387904 by omega)]
      exact Ev.cnd (fun e => Ev.pure' (hv2 (by simpa using e)).symm) fun e => hv (by simpa using e)
    refine Ev.step ?_
    simp only [impl_GoodLabels.step, toNat_cast]
    generalize hxe : l.getD i default = x at hx hs
    have bad : labB l i = false → Ev (fun n => goRec impl_GoodLabels.step n (impl_GoodLabels.Pt.p26 l l (l.length : Int) (i : Int) true)) v := fun e => h26 _ (by rw [e]; rfl)
    refine Ev.yes (lt_yes hi) (Ev.yes (inB_nat hi) ?_)
    refine Ev.bind (impl_isName.ev _ hx.1) (Ev.cnd (fun e => bad (by rw [← hs]; simp at e; simp [e])) fun e1 => ?_)
    refine Ev.bind (impl_isValue.ev _ hx.2.1) (Ev.cnd (fun e => bad (by rw [← hs]; simp at e; simp [e])) fun e2 => ?_)
    simp at e1 e2
    cases i with
    | zero => exact Ev.no (by simp) (h26 _ (by rw [← hs]; simp [e1, e2]))
    | succ k =>
      refine Ev.yes (by simp) ?_
      simp only [i64_pred (show k ≤ 4611686018427387904 by omega), toNat_cast]
      refine Ev.yes (inB_nat (by omega)) (h26 _ ?_)
      rw [← hs, slt_cmp]; simp [e1, e2]
  refine Ev.allN (pt := fun i : Nat => impl_GoodLabels.Pt.p15 l l (l.length : Int) (i : Int)) (fun i hi => ⟨fun hp v hv => go i v hi (fun _ => hv) (fun h => by rw [hp] at h; cases h), fun hp => go i false hi (fun h => by rw [hp] at h; cases h) (fun _ => rfl)⟩) ?_
  refine Ev.step ?_
  simp only [impl_GoodLabels.step]
  exact Ev.no lt_no Ev.pure
theorem impl_valueOf.loop (l : List LB) (k : ByteArray) (hl : l.length ≤ 1048576) : ∀ d i, i + d = l.length → Ev (fun n => goRec impl_valueOf.step n (impl_valueOf.Pt.p7 k l (l.length : Int) (i : Int))) (valL (l.drop i) k) := by
  intro d
  induction d with
  | zero =>
    intro i h
    obtain rfl : i = l.length := by omega
    refine Ev.step ?_
    simp only [impl_valueOf.step]
    exact Ev.no lt_no (Ev.pure' (by rw [List.drop_length]; rfl))
  | succ d ih =>
    intro i h
    have hi : i < l.length := by omega
    refine Ev.step ?_
    simp only [impl_valueOf.step, toNat_cast, i64_nat (show i ≤ 4611686018427387904 by omega)]
    rw [drop_getD hi]
    refine Ev.yes (lt_yes hi) (Ev.yes (inB_nat hi) (Ev.cnd (fun c => Ev.pure' ?_) fun c => Ev.of_eq (ih (i + 1) (by omega)) ?_))
    · simp only [valL, c, cond_true]
    · simp only [valL, c, cond_false]
theorem impl_valueOf.ev (l : List LB) (k : ByteArray) (hl : l.length ≤ 1048576) : Ev (fun n => impl_valueOf n l k) (valL l k) := by
  refine Ev.step ?_
  simp only [impl_valueOf.step]
  exact impl_valueOf.loop l k hl l.length 0 (by omega)
theorem impl_GoodSamples.ev (l : List SME) (hl : l.length ≤ 1048576) : Ev (fun n => impl_GoodSamples n l) (samplesB l) := by
  refine Ev.step ?_
  simp only [impl_GoodSamples.step]
  refine Ev.cnd (fun c => Ev.pure' ?_) fun c => ?_
  · have c : ¬ l.length ≤ 2000 := by simp only [decide_eq_true_eq] at c; omega
    rw [samplesB, decide_eq_false c, Bool.and_false]
  have c : l.length ≤ 2000 := by simp only [decide_eq_false_iff_not] at c; omega
  rw [samplesB, decide_eq_true c]
  refine Ev.allK (pt := fun i : Nat => impl_GoodSamples.Pt.p15 l l (l.length : Int) (i : Int)) (fun i hi => ?_) (fun _ => ?_)
  · have fin : ∀ b, b = !(timeB (l.getD i default).1 && !(decide (0 < i) && decide ((l.getD i default).1 ≤ (l.getD (i - 1) default).1))) → ((timeB (l.getD i default).1 && !(decide (0 < i) && decide ((l.getD i default).1 ≤ (l.getD (i - 1) default).1))) = true → ∀ v, Ev (fun m => goRec impl_GoodSamples.step m (impl_GoodSamples.Pt.p15 l l (l.length : Int) ((i + 1 : Nat) : Int))) v → Ev (fun m => goRec impl_GoodSamples.step m (impl_GoodSamples.Pt.p26 l l (l.length : Int) (i : Int) b)) v) ∧
        ((timeB (l.getD i default).1 && !(decide (0 < i) && decide ((l.getD i default).1 ≤ (l.getD (i - 1) default).1))) = false → Ev (fun m => goRec impl_GoodSamples.step m (impl_GoodSamples.Pt.p26 l l (l.length : Int) (i : Int) b)) false) := by
      rintro b rfl
      refine ⟨fun h v hv => ?_, fun h => ?_⟩
      · refine Ev.step ?_
        simp only [impl_GoodSamples.step, i64_nat (show i ≤ 4611686018427387904 by omega)]
        exact Ev.no (by rw [h]; rfl) hv
      · refine Ev.step ?_
        simp only [impl_GoodSamples.step]
        exact Ev.yes (by rw [h]; rfl) Ev.pure
    have run : ∀ v, (∀ b, b = !(timeB (l.getD i default).1 && !(decide (0 < i) && decide ((l.getD i default).1 ≤ (l.getD (i - 1) default).1))) → Ev (fun m => goRec impl_GoodSamples.step m (impl_GoodSamples.Pt.p26 l l (l.length : Int) (i : Int) b)) v) → Ev (fun m => goRec impl_GoodSamples.step m (impl_GoodSamples.Pt.p15 l l (l.length : Int) (i : Int))) v := by
      intro v hv
      refine Ev.step ?_
      simp only [impl_GoodSamples.step, toNat_cast]
      refine Ev.yes (lt_yes hi) (Ev.yes (inB_nat hi) (Ev.bind (impl_isTime.ev _) (Ev.cnd (fun c => hv _ ?_) fun c => Ev.cnd (fun c2 => ?_) fun c2 => hv _ ?_)))
      · rw [Bool.not_eq_true'] at c; rw [c]; rfl
      · have c2 : 0 < i := by simp only [decide_eq_true_eq] at c2; omega
        rw [Bool.not_eq_false'] at c
        rw [pred_i64 (by omega) (by omega), toNat_cast]
        refine Ev.yes (inB_nat (by omega)) (hv _ ?_)
        rw [c, decide_eq_true c2]; simp
      · have c2 : ¬ 0 < i := by simp only [decide_eq_false_iff_not] at c2; omega
        rw [Bool.not_eq_false'] at c
        rw [c, decide_eq_false c2]; rfl
    exact ⟨fun h v hv => run v fun b hb => (fin b hb).1 h v hv, fun h => run false fun b hb => (fin b hb).2 h⟩
  · refine Ev.step ?_
    simp only [impl_GoodSamples.step]
    exact Ev.no lt_no Ev.pure
theorem cmp_isNaN_string.ev (a : ByteArray) : Ev (fun n => cmp_isNaN_string n a) false := by
  refine Ev.step ?_
  simp only [cmp_isNaN_string.step]
  exact Ev.pure' (by simp [seq])
theorem cmp_Compare_string.ev (a b : ByteArray) : Ev (fun n => cmp_Compare_string n a b) (cmpT a b) := by
  have h := @cmpT_three a b
  refine Ev.step ?_
  simp only [cmp_Compare_string.step]
  refine Ev.bind (cmp_isNaN_string.ev a) (Ev.bind (cmp_isNaN_string.ev b) (Ev.no rfl (Ev.no rfl (Ev.cnd (fun c => Ev.pure' ?_) fun c => Ev.cnd (fun c2 => Ev.pure' ?_) fun c2 => Ev.pure' ?_))))
  · rw [if_pos c] at h; exact h
  · rw [if_neg (by simp [c]), if_pos c2] at h; exact h
  · rw [if_neg (by simp [c]), if_neg (by simp [c2])] at h; exact h
theorem cmp_Or_int.ev (x y : Int) : Ev (fun n => cmp_Or_int n [x, y]) (if x ≠ 0 then x else y) := by
  refine Ev.step ?_
  simp only [cmp_Or_int.step]
  refine Ev.step ?_
  simp only [cmp_Or_int.step]
  refine Ev.yes rfl (Ev.yes rfl (Ev.cnd (fun c => Ev.pure' ?_) fun c => ?_))
  · have c : ¬ x = 0 := of_decide_eq_false (by rw [Bool.not_eq_true'] at c; exact c)
    rw [if_pos c]; rfl
  · have c : x = 0 := of_decide_eq_true (by rw [Bool.not_eq_false'] at c; exact c)
    rw [if_neg (by simpa using c)]
    refine Ev.step ?_
    simp only [cmp_Or_int.step]
    refine Ev.yes rfl (Ev.yes rfl (Ev.cnd (fun c => Ev.pure' rfl) fun c => ?_))
    have c : y = 0 := of_decide_eq_true (by rw [Bool.not_eq_false'] at c; exact c)
    refine Ev.step ?_
    simp only [cmp_Or_int.step]
    exact Ev.no rfl (Ev.pure' c.symm)
theorem cmp_isNaN_int.ev (a : Int) : Ev (fun n => cmp_isNaN_int n a) false := by
  refine Ev.step ?_
  simp only [cmp_isNaN_int.step]
  exact Ev.pure' (by simp)
theorem cmp_Compare_int.ev (a b : Int) : Ev (fun n => cmp_Compare_int n a b) (cmpN a b) := by
  refine Ev.step ?_
  simp only [cmp_Compare_int.step]
  refine Ev.bind (cmp_isNaN_int.ev a) (Ev.bind (cmp_isNaN_int.ev b) (Ev.no rfl (Ev.no rfl (Ev.cnd (fun c => Ev.pure' ?_) fun c => Ev.cnd (fun c2 => Ev.pure' ?_) fun c2 => Ev.pure' ?_))))
  · rw [cmpN, if_pos (of_decide_eq_true c)]
  · rw [cmpN, if_neg (of_decide_eq_false c), if_pos (of_decide_eq_true c2)]
  · rw [cmpN, if_neg (of_decide_eq_false c), if_neg (of_decide_eq_false c2)]
theorem impl_compare.ev (a b : List LB) (la : a.length ≤ 1048576) (lb : b.length ≤ 1048576) : Ev (fun n => impl_compare n a b) (cmpLs a b) := by
  have loop : ∀ d i, i + d = min a.length b.length → Ev (fun n => goRec impl_compare.step n (impl_compare.Pt.p7 a b ((min a.length b.length : Nat) : Int) (i : Int))) (cmpLs (a.drop i) (b.drop i)) := by
    intro d
    induction d with
    | zero =>
      intro i h
      refine Ev.step ?_
      simp only [impl_compare.step]
      rw [cmpLs_end (by omega) (by omega) (by omega)]
      exact Ev.no (decide_eq_false (by omega)) (Ev.bind (cmp_Compare_int.ev _ _) Ev.pure)
    | succ d ih =>
      intro i h
      have c1 : i < a.length := by omega
      have c2 : i < b.length := by omega
      refine Ev.step ?_
      simp only [impl_compare.step, toNat_cast, i64_nat (show i ≤ 4611686018427387904 by omega)]
      rw [cmpLs_next c1 c2]
      refine Ev.yes (decide_eq_true (by omega)) (Ev.yes (inB_nat c1) (Ev.yes (inB_nat c2) (Ev.bind (cmp_Compare_string.ev _ _) (Ev.yes (inB_nat c1) (Ev.yes (inB_nat c2) (Ev.bind (cmp_Compare_string.ev _ _) (Ev.bind (cmp_Or_int.ev _ _) ?_)))))))
      by_cases e : cmpT (a.getD i default).1 (b.getD i default).1 = 0
      · rw [if_neg (by simpa using e), if_neg (by simpa using e)]
        by_cases e2 : cmpT (a.getD i default).2.1 (b.getD i default).2.1 = 0
        · rw [if_neg (by simpa using e2)]
          exact Ev.no (by rw [decide_eq_true e2]; rfl) (ih (i + 1) (by omega))
        · rw [if_pos e2]
          exact Ev.yes (by rw [decide_eq_false e2]; rfl) Ev.pure
      · rw [if_pos e, if_pos e]
        exact Ev.yes (by rw [decide_eq_false e]; rfl) Ev.pure
  refine Ev.step ?_
  simp only [impl_compare.step]
  rw [show min (a.length : Int) (b.length : Int) = ((min a.length b.length : Nat) : Int) by omega]
  exact loop (min a.length b.length) 0 (by omega)
theorem impl_GoodSeries.ev (l : List SRE) (h : Sm 1048576 (.sl false SRU) l) : Ev (fun n => impl_GoodSeries n l) (seriesB l) := by
  have hl : l.length ≤ 1048576 := h.1
  refine Ev.step ?_
  simp only [impl_GoodSeries.step]
  refine Ev.cnd (fun c => Ev.pure' ?_) fun c => ?_
  · have c : ¬ l.length ≤ 200 := by have := of_decide_eq_true c; omega
    rw [seriesB, decide_eq_false c]; rfl
  have c : l.length ≤ 200 := by have := of_decide_eq_false c; omega
  rw [seriesB, decide_eq_true c, Bool.true_and, ← Bool.and_true ((List.range l.length).all (serB l))]
  refine Ev.allK (pt := fun i : Nat => impl_GoodSeries.Pt.p15 l l (l.length : Int) (i : Int)) (fun i hi => ?_) (fun _ => ?_)
  · have m := h.2 _ (getD_mem hi (d := default))
    have fin : ∀ b, b = !(serB l i) → (serB l i = true → ∀ v, Ev (fun m => goRec impl_GoodSeries.step m (impl_GoodSeries.Pt.p15 l l (l.length : Int) ((i + 1 : Nat) : Int))) v → Ev (fun m => goRec impl_GoodSeries.step m (impl_GoodSeries.Pt.p26 l l (l.length : Int) (i : Int) b)) v) ∧
        (serB l i = false → Ev (fun m => goRec impl_GoodSeries.step m (impl_GoodSeries.Pt.p26 l l (l.length : Int) (i : Int) b)) false) := by
      rintro b rfl
      refine ⟨fun h v hv => ?_, fun h => ?_⟩
      · refine Ev.step ?_
        simp only [impl_GoodSeries.step, i64_nat (show i ≤ 4611686018427387904 by omega)]
        exact Ev.no (by rw [h]; rfl) hv
      · refine Ev.step ?_
        simp only [impl_GoodSeries.step]
        exact Ev.yes (by rw [h]; rfl) Ev.pure
    have run : ∀ v, (∀ b, b = !(serB l i) → Ev (fun m => goRec impl_GoodSeries.step m (impl_GoodSeries.Pt.p26 l l (l.length : Int) (i : Int) b)) v) → Ev (fun m => goRec impl_GoodSeries.step m (impl_GoodSeries.Pt.p15 l l (l.length : Int) (i : Int))) v := by
      intro v hv
      refine Ev.step ?_
      simp only [impl_GoodSeries.step, toNat_cast]
      refine Ev.yes (lt_yes hi) (Ev.yes (inB_nat hi) (Ev.bind (impl_GoodLabels.ev _ m.1) (Ev.cnd (fun c => hv _ ?_) fun c => Ev.bind (impl_valueOf.ev _ nameK m.1.1) (Ev.cnd (fun cv => hv _ ?_) fun cv => Ev.cnd (fun c3 => hv _ ?_) fun c3 => Ev.bind (impl_GoodSamples.ev _ m.2.1.1) (Ev.cnd (fun c2 => hv _ ?_) fun c2 => Ev.cnd (fun c4 => ?_) fun c4 => hv _ ?_)))))
      · rw [Bool.not_eq_true'] at c; rw [serB, namedB, c]; rfl
      · rw [serB, namedB, cv]; simp
      · have c3 : (l.getD i default).2.1.length = 0 := eq_yes (k := 0) c3
        rw [serB, c3]; simp
      · rw [Bool.not_eq_true'] at c2; rw [serB, c2]; simp
      · rw [Bool.not_eq_false'] at c c2
        have c3 : ¬ (l.getD i default).2.1.length = 0 := eq_no (k := 0) c3
        have c4 : 0 < i := by have := of_decide_eq_true c4; omega
        have mp := h.2 _ (getD_mem (show i - 1 < l.length by omega) (d := default))
        rw [pred_i64 (by omega) (by omega), toNat_cast]
        refine Ev.yes (inB_nat (by omega)) (Ev.bind (impl_compare.ev _ _ mp.1.1 m.1.1) (hv _ ?_))
        rw [serB, namedB, c, cv, c2, decide_eq_true (show (l.getD i default).2.1.length ≠ 0 from c3), decide_eq_false (show ¬ i = 0 by omega)]
        simp only [Bool.true_and, Bool.false_or, Bool.not_false]
        by_cases e : cmpLs (l.getD (i - 1) default).1 (l.getD i default).1 < 0
        · rw [decide_eq_true e, decide_eq_false (by omega)]; rfl
        · rw [decide_eq_false e, decide_eq_true (by omega)]; rfl
      · rw [Bool.not_eq_false'] at c c2
        have c3 : ¬ (l.getD i default).2.1.length = 0 := eq_no (k := 0) c3
        have c4 : i = 0 := by have := of_decide_eq_false c4; omega
        rw [serB, namedB, c, cv, c2, decide_eq_true (show (l.getD i default).2.1.length ≠ 0 from c3), decide_eq_true c4]; rfl
    exact ⟨fun h v hv => run v fun b hb => (fin b hb).1 h v hv, fun h => run false fun b hb => (fin b hb).2 h⟩
  · refine Ev.step ?_
    simp only [impl_GoodSeries.step]
    exact Ev.no lt_no Ev.pure
theorem impl_GoodHead.ev (h : HDE) (hb : Sm 1048576 (.sl false SRU) h.2.2.2.1) : Ev (fun n => impl_GoodHead n h) (headB h) := by
  obtain ⟨w, lim, nw, l, _⟩ := h
  have hl : l.length ≤ 1048576 := hb.1
  refine Ev.step ?_
  simp only [impl_GoodHead.step]
  have bad : headB (w, lim, nw, l, ()) = false → Ev (fun n => goRec impl_GoodHead.step n (.p4 true w lim nw l)) (headB (w, lim, nw, l, ())) := fun e => by
    refine Ev.step ?_
    simp only [impl_GoodHead.step]
    exact Ev.yes rfl (Ev.pure' e.symm)
  refine Ev.bind (impl_goodWindow.ev w lim) (Ev.cnd (fun c => bad ?_) fun c1 => Ev.bind (impl_GoodSeries.ev l hb) (Ev.cnd (fun c => bad ?_) fun c4 => Ev.cnd (fun c => bad ?_) fun c5 => ?_))
  · rw [Bool.not_eq_true'] at c; simp only [headB]; rw [← Bool.and_assoc] at c; rw [c]; simp
  · rw [Bool.not_eq_true'] at c; simp [headB, c]
  · simp only [headB, c]; simp
  rw [Bool.not_eq_false'] at c1 c4
  have hh : headB (w, lim, nw, l, ()) = ((decide (nw = -1) || timeB nw) && (List.range l.length).all (fun i => lastB nw (l.getD i default))) := by
    rw [← Bool.and_assoc] at c1
    simp only [headB, c1, c4, c5]; simp
  have rest : ∀ b, b = !(decide (nw = -1) || timeB nw) → Ev (fun n => goRec impl_GoodHead.step n (.p4 b w lim nw l)) (headB (w, lim, nw, l, ())) := by
    intro b hb'
    refine Ev.step ?_
    simp only [impl_GoodHead.step]
    have hb2 : (decide (nw = -1) || timeB nw) = !b := by rw [hb', Bool.not_not]
    refine Ev.cnd (fun c => Ev.pure' (by rw [hh, hb2, c]; rfl)) fun c7 => ?_
    rw [hh, hb2, c7, Bool.not_false, Bool.true_and, ← Bool.and_true ((List.range l.length).all _)]
    refine Ev.allK (pt := fun i : Nat => impl_GoodHead.Pt.p15 l (l.length : Int) (i : Int) w lim nw l) (fun i hi => ?_) (fun _ => ?_)
    · have h2 := seriesB_at c4 hi
      have h3 : (l.getD i default).2.1.length ≠ 0 := by
        have c4 := c4
        simp only [seriesB, Bool.and_eq_true, List.all_eq_true, List.mem_range] at c4
        have h1 := c4.2 i hi
        simp only [serB, Bool.and_eq_true, decide_eq_true_eq] at h1
        exact h1.1.2
      have e : IntKind.wrap .i64 (((l.getD i default).2.1.length : Int) - 1) = (((l.getD i default).2.1.length - 1 : Nat) : Int) := by rw [i64_ok] <;> omega
      refine ⟨fun h v hv => ?_, fun h => ?_⟩
      · refine Ev.step ?_
        simp only [impl_GoodHead.step, toNat_cast, i64_nat (show i ≤ 4611686018427387904 by omega), e]
        refine Ev.yes (lt_yes hi) (Ev.yes (inB_nat hi) (Ev.yes (inB_nat (by omega)) (Ev.no ?_ hv)))
        rw [lastB, Bool.not_eq_true'] at h; exact h
      · refine Ev.step ?_
        simp only [impl_GoodHead.step, toNat_cast, e]
        refine Ev.yes (lt_yes hi) (Ev.yes (inB_nat hi) (Ev.yes (inB_nat (by omega)) (Ev.yes ?_ Ev.pure)))
        rw [lastB, Bool.not_eq_false'] at h; exact h
    · refine Ev.step ?_
      simp only [impl_GoodHead.step]
      exact Ev.no lt_no Ev.pure
  refine Ev.cnd (fun c => Ev.bind (impl_isTime.ev nw) (rest _ ?_)) fun c => rest _ ?_
  · rw [Bool.not_eq_true'] at c; rw [c]; simp
  · rw [Bool.not_eq_false'] at c; rw [c]; simp
theorem slices_Clone_Label.ev (l : List LB) (hl : l.length ≤ 1048576) (h : l ≠ []) : Ev (fun n => slices_Clone_Label n l) l := by
  refine Ev.step ?_
  simp only [slices_Clone_Label.step]
  exact Ev.no (by cases l with | nil => exact absurd rfl h | cons => rfl) (Ev.yes (room_ok (by simp; omega)) (Ev.pure' (List.nil_append _)))
theorem slices_Clone_Sample.ev (l : List SME) (hl : l.length ≤ 1048576) (h : l.length ≠ 0) : Ev (fun n => slices_Clone_Sample n l) l := by
  refine Ev.step ?_
  simp only [slices_Clone_Sample.step]
  exact Ev.no (by cases l with | nil => exact absurd rfl h | cons _ _ => rfl) (Ev.yes (room_ok (by simp; omega)) Ev.pure)
theorem impl_ownSeries.ev (l : List SRE) (hb : Sm 1048576 (.sl false SRU) l) (hs : seriesB l = true) : Ev (fun n => impl_ownSeries n l) l := by
  have hl : l.length ≤ 1048576 := hb.1
  have loop : ∀ d i, i + d = l.length → Ev (fun n => goRec impl_ownSeries.step n (.p9 l (l.length : Int) (i : Int) (l.take i))) l := by
    intro d
    induction d with
    | zero =>
      intro i hi
      obtain rfl : i = l.length := by omega
      refine Ev.step ?_
      simp only [impl_ownSeries.step]
      exact Ev.no lt_no (Ev.pure' (List.take_length))
    | succ d ih =>
      intro i hi
      have hi' : i < l.length := by omega
      have m := hb.2 _ (getD_mem hi' (d := default))
      have h2 := seriesB_at hs hi'
      have h3 : (l.getD i default).2.1.length ≠ 0 := by
        have c4 := hs
        simp only [seriesB, Bool.and_eq_true, List.all_eq_true, List.mem_range] at c4
        have h1 := c4.2 i hi'
        simp only [serB, Bool.and_eq_true, decide_eq_true_eq] at h1
        exact h1.1.2
      refine Ev.step ?_
      simp only [impl_ownSeries.step, toNat_cast, i64_nat (show i ≤ 4611686018427387904 by omega)]
      refine Ev.yes (lt_yes hi') (Ev.yes (inB_nat hi') (Ev.bind (slices_Clone_Label.ev _ m.1.1 h2.2.1) (Ev.bind (slices_Clone_Sample.ev _ m.2.1.1 h3) (Ev.yes (room_ok (by simp; omega)) ?_))))
      have e : l.take (i + 1) = l.take i ++ [((l.getD i default).1, (l.getD i default).2.1, ())] := by
        rw [List.take_add_one, List.getD_eq_getElem?_getD, List.getElem?_eq_getElem hi']; rfl
      rw [← e]
      exact ih (i + 1) (by omega)
  refine Ev.step ?_
  simp only [impl_ownSeries.step]
  exact loop l.length 0 (by omega)
theorem impl_findSeries_1.ev (s : SRE) (t : List LB) (ls : s.1.length ≤ 1048576) (lt : t.length ≤ 1048576) : Ev (fun n => impl_findSeries_1 n s t) (byL t s) := by
  refine Ev.step ?_
  simp only [impl_findSeries_1.step]
  exact Ev.bind (impl_compare.ev _ _ ls lt) Ev.pure
theorem slices_BinarySearchFunc_Label_impl_findSeries_1.ev (l : List SRE) (t : List LB) (hl : l.length ≤ 1048576) (hs : ∀ s ∈ l, s.1.length ≤ 1048576) (ht : t.length ≤ 1048576) (up : Up (byL t) l) : Ev (fun n => slices_BinarySearchFunc_Label_impl_findSeries_1 n l t) ((plc (byL t) l : Int), fndB (byL t) l) := by
  have hp := plc_le (f := byL t) (l := l)
  have loop : ∀ d a b, b - a ≤ d → a ≤ plc (byL t) l → plc (byL t) l ≤ b → b ≤ l.length → Ev (fun n => goRec slices_BinarySearchFunc_Label_impl_findSeries_1.step n (.p9 l t (l.length : Int) (a : Int) (b : Int))) ((plc (byL t) l : Int), fndB (byL t) l) := by
    have fin : ∀ a, a = plc (byL t) l → Ev (fun n => goRec slices_BinarySearchFunc_Label_impl_findSeries_1.step n (.p9 l t (l.length : Int) (a : Int) (a : Int))) ((plc (byL t) l : Int), fndB (byL t) l) := by
      rintro a rfl
      refine Ev.step ?_
      simp only [slices_BinarySearchFunc_Label_impl_findSeries_1.step, toNat_cast]
      refine Ev.no lt_no (Ev.cnd (fun c => ?_) fun c => Ev.pure' ?_)
      · have c' : plc (byL t) l < l.length := by have := of_decide_eq_true c; omega
        refine Ev.yes (inB_nat c') (Ev.bind (impl_findSeries_1.ev _ _ (hs _ (getD_mem c')) ht) (Ev.pure' ?_))
        rw [fndB, decide_eq_true c', Bool.true_and]
      · have c' : ¬ plc (byL t) l < l.length := by have := of_decide_eq_false c; omega
        rw [fndB, decide_eq_false c', Bool.false_and]
    intro d
    induction d with
    | zero =>
      intro a b h1 h2 h3 h4
      obtain rfl : a = b := by omega
      exact fin a (by omega)
    | succ d ih =>
      intro a b h1 h2 h3 h4
      rcases Nat.lt_or_ge a b with c | c
      · have hm : (a + b) / 2 < b := by omega
        have hm2 : a ≤ (a + b) / 2 := by omega
        refine Ev.step ?_
        simp only [slices_BinarySearchFunc_Label_impl_findSeries_1.step, half (show a + b ≤ 4611686018427387904 by omega), toNat_cast, i64_nat (show (a + b) / 2 ≤ 4611686018427387904 by omega)]
        have c' : (a + b) / 2 < l.length := by omega
        refine Ev.yes (lt_yes c) (Ev.yes (inB_nat c') (Ev.bind (impl_findSeries_1.ev _ _ (hs _ (getD_mem c')) ht) (Ev.cnd (fun e => ?_) fun e => ?_)))
        · have := up_lt up c' (of_decide_eq_true e)
          exact ih _ _ (by omega) (by omega) h3 h4
        · have := up_ge (f := byL t) (l := l) (m := (a + b) / 2) (of_decide_eq_false e)
          exact ih _ _ (by omega) h2 this (by omega)
      · obtain rfl : a = b := by omega
        exact fin a (by omega)
  refine Ev.step ?_
  simp only [slices_BinarySearchFunc_Label_impl_findSeries_1.step]
  exact loop l.length 0 l.length (by omega) (Nat.zero_le _) hp (Nat.le_refl _)
theorem impl_findSeries.ev (l : List SRE) (t : List LB) (hl : l.length ≤ 1048576) (hs : ∀ s ∈ l, s.1.length ≤ 1048576) (ht : t.length ≤ 1048576) (up : Up (byL t) l) : Ev (fun n => impl_findSeries n l t) ((plc (byL t) l : Int), fndB (byL t) l) := by
  refine Ev.step ?_
  simp only [impl_findSeries.step]
  exact Ev.bind (slices_BinarySearchFunc_Label_impl_findSeries_1.ev l t hl hs ht up) Ev.pure
theorem slices_Insert_Series.ev (l : List SRE) (k : Nat) (x : SRE) (hk : k ≤ l.length) (hl : l.length ≤ 1000000) : Ev (fun n => slices_Insert_Series n l (k : Int) [x]) (insAt l k x) := by
  refine Ev.held ?_
  rw [decide_eq_true (show (0 : Int) ≤ (k : Int) by omega), decide_eq_true (show (k : Int) ≤ (l.length : Int) by omega), decide_eq_true hl, toNat_cast]
  rfl
theorem impl_findSample_1.ev (s : SME) (t : Int) : Ev (fun n => impl_findSample_1 n s t) (byT t s) := by
  refine Ev.step ?_
  simp only [impl_findSample_1.step]
  exact Ev.bind (cmp_Compare_int.ev _ _) Ev.pure
theorem slices_BinarySearchFunc_int_impl_findSample_1.ev (l : List SME) (t : Int) (hl : l.length ≤ 1048576) (up : Up (byT t) l) : Ev (fun n => slices_BinarySearchFunc_int_impl_findSample_1 n l t) ((plc (byT t) l : Int), fndB (byT t) l) := by
  have hp := plc_le (f := byT t) (l := l)
  have loop : ∀ d a b, b - a ≤ d → a ≤ plc (byT t) l → plc (byT t) l ≤ b → b ≤ l.length → Ev (fun n => goRec slices_BinarySearchFunc_int_impl_findSample_1.step n (.p9 l t (l.length : Int) (a : Int) (b : Int))) ((plc (byT t) l : Int), fndB (byT t) l) := by
    have fin : ∀ a, a = plc (byT t) l → Ev (fun n => goRec slices_BinarySearchFunc_int_impl_findSample_1.step n (.p9 l t (l.length : Int) (a : Int) (a : Int))) ((plc (byT t) l : Int), fndB (byT t) l) := by
      rintro a rfl
      refine Ev.step ?_
      simp only [slices_BinarySearchFunc_int_impl_findSample_1.step, toNat_cast]
      refine Ev.no lt_no (Ev.cnd (fun c => ?_) fun c => Ev.pure' ?_)
      · have c' : plc (byT t) l < l.length := by have := of_decide_eq_true c; omega
        refine Ev.yes (inB_nat c') (Ev.bind (impl_findSample_1.ev _ _) (Ev.pure' ?_))
        rw [fndB, decide_eq_true c', Bool.true_and]
      · have c' : ¬ plc (byT t) l < l.length := by have := of_decide_eq_false c; omega
        rw [fndB, decide_eq_false c', Bool.false_and]
    intro d
    induction d with
    | zero =>
      intro a b h1 h2 h3 h4
      obtain rfl : a = b := by omega
      exact fin a (by omega)
    | succ d ih =>
      intro a b h1 h2 h3 h4
      rcases Nat.lt_or_ge a b with c | c
      · have hm : (a + b) / 2 < b := by omega
        have hm2 : a ≤ (a + b) / 2 := by omega
        refine Ev.step ?_
        simp only [slices_BinarySearchFunc_int_impl_findSample_1.step, half (show a + b ≤ 4611686018427387904 by omega), toNat_cast, i64_nat (show (a + b) / 2 ≤ 4611686018427387904 by omega)]
        have c' : (a + b) / 2 < l.length := by omega
        refine Ev.yes (lt_yes c) (Ev.yes (inB_nat c') (Ev.bind (impl_findSample_1.ev _ _) (Ev.cnd (fun e => ?_) fun e => ?_)))
        · have := up_lt up c' (of_decide_eq_true e)
          exact ih _ _ (by omega) (by omega) h3 h4
        · have := up_ge (f := byT t) (l := l) (m := (a + b) / 2) (of_decide_eq_false e)
          exact ih _ _ (by omega) h2 this (by omega)
      · obtain rfl : a = b := by omega
        exact fin a (by omega)
  refine Ev.step ?_
  simp only [slices_BinarySearchFunc_int_impl_findSample_1.step]
  exact loop l.length 0 l.length (by omega) (Nat.zero_le _) hp (Nat.le_refl _)
theorem impl_findSample.ev (l : List SME) (t : Int) (hl : l.length ≤ 1048576) (up : Up (byT t) l) : Ev (fun n => impl_findSample n l t) ((plc (byT t) l : Int), fndB (byT t) l) := by
  refine Ev.step ?_
  simp only [impl_findSample.step]
  exact Ev.bind (slices_BinarySearchFunc_int_impl_findSample_1.ev l t hl up) Ev.pure
theorem slices_Insert_Sample.ev (l : List SME) (k : Nat) (x : SME) (hk : k ≤ l.length) (hl : l.length ≤ 1000000) : Ev (fun n => slices_Insert_Sample n l (k : Int) [x]) (insAt l k x) := by
  refine Ev.held ?_
  rw [decide_eq_true (show (0 : Int) ≤ (k : Int) by omega), decide_eq_true (show (k : Int) ≤ (l.length : Int) by omega), decide_eq_true hl, toNat_cast]
  rfl
theorem impl_put.at (w lim nw : Int) (l : List SRE) (k : Nat) (ls : List LB) (t v : Int) (h : HdOK lim l) (hk : k < l.length) : Ev (fun n => goRec impl_put.step n (.p29 (k : Int) w lim nw ls t v l)) (putS w lim nw l k (ls, t, v, ())) := by
  have hs := h.2.2.2 _ (getD_mem hk (d := default))
  have hp := plc_le (f := byT t) (l := (l.getD k default).2.1)
  have hs2 := hs.2.1
  refine Ev.step ?_
  simp only [impl_put.step, toNat_cast, Nat.zero_add]
  refine Ev.yes (inB_nat hk) (Ev.bind (impl_findSample.ev _ t (by omega) (byT_up hs.1)) ?_)
  rw [putS]
  by_cases c : fndB (byT t) (l.getD k default).2.1 = true
  · rw [if_pos c]
    have c' := c
    simp only [fndB, Bool.and_eq_true, decide_eq_true_eq] at c'
    simp only [c, toNat_cast]
    refine Ev.yes rfl (Ev.yes (inB_nat c'.1) (Ev.step ?_))
    simp only [impl_put.step]
    refine Ev.cnd (fun e => Ev.pure' ?_) fun e => Ev.yes rfl (Ev.pure' ?_)
    · rw [if_pos (of_decide_eq_true e)]
    · rw [if_neg (of_decide_eq_false e)]
  · have c : fndB (byT t) (l.getD k default).2.1 = false := by simpa using c
    rw [if_neg (by show ¬ fndB (byT t) _ = true; rw [c]; simp)]
    simp only [c]
    refine Ev.no rfl (Ev.step ?_)
    simp only [impl_put.step]
    refine Ev.no rfl (Ev.no rfl (Ev.cnd (fun e => Ev.pure' ?_) fun e => Ev.bind (slices_Insert_Sample.ev _ _ _ hp (by omega)) (Ev.yes (Nat.beq_refl k) (Ev.pure' ?_))))
    · have e := of_decide_eq_true e
      rw [if_pos (by omega)]
    · have e := of_decide_eq_false e
      rw [if_neg (by omega)]
theorem impl_put.ev (w lim nw : Int) (l : List SRE) (p : PTE) (h : HdOK lim l) (ht : Sm 1048576 (.sl false LU) p.1) : Ev (fun n => impl_put n (w, lim, nw, l, ()) p (0 : Int)) (putF w lim nw l p) := by
  obtain ⟨ls, t, v, _⟩ := p
  have hp := plc_le (f := byL ls) (l := l)
  obtain ⟨a1, a2, a3, a4⟩ := id h
  unfold putF
  have p4 : ∀ b, b = !namedB ls → Ev (fun n => goRec impl_put.step n (.p4 (0 : Int) b w lim nw ls t v l)) (putF w lim nw l (ls, t, v, ())) := by
    rintro b rfl
    unfold putF
    refine Ev.step ?_
    simp only [impl_put.step]
    refine Ev.cnd (fun c => Ev.pure' ?_) fun c => ?_
    · rw [Bool.not_eq_true'] at c; rw [if_pos c]
    rw [Bool.not_eq_false'] at c
    rw [if_neg (by show ¬ namedB ls = false; rw [c]; simp)]
    refine Ev.bind (impl_isTime.ev t) (Ev.cnd (fun c2 => Ev.pure' ?_) fun c2 => ?_)
    · rw [Bool.not_eq_true'] at c2; rw [if_pos c2]
    rw [Bool.not_eq_false'] at c2
    rw [if_neg (by show ¬ timeB t = false; rw [c2]; simp)]
    have c2' := c2
    simp only [timeB, Bool.and_eq_true, decide_eq_true_eq] at c2'
    refine Ev.cnd (fun c3 => ?_) fun c3 => ?_
    · rw [if_pos (of_decide_eq_true c3)]
      refine Ev.step ?_
      simp only [impl_put.step]
      exact Ev.yes rfl Ev.pure
    rw [if_neg (of_decide_eq_false c3), decide_eq_false (show ¬ t < 0 by omega)]
    refine Ev.step ?_
    simp only [impl_put.step]
    refine Ev.no rfl (Ev.bind (impl_findSeries.ev l ls (by omega) (fun s hs => (a4 s hs).2.2.2.1) ht.1 (byL_up a3)) ?_)
    by_cases c4 : fndB (byL ls) l = true
    · rw [if_pos c4]
      simp only [c4]
      refine Ev.no rfl ?_
      simp only [fndB, Bool.and_eq_true, decide_eq_true_eq] at c4
      exact impl_put.at w lim nw l _ ls t v h c4.1
    · rw [if_neg c4]
      have c4 : fndB (byL ls) l = false := by simpa using c4
      simp only [c4]
      refine Ev.yes rfl (Ev.cnd (fun c5 => Ev.pure' ?_) fun c5 => ?_)
      · rw [if_pos (of_decide_eq_true c5)]
      · have c5 := of_decide_eq_false c5
        rw [if_neg c5]
        refine Ev.bind (slices_Clone_Label.ev ls ht.1 (named_le c).2) (Ev.bind (slices_Insert_Series.ev l _ (ls, [], ()) hp (by omega)) ?_)
        exact impl_put.at w lim nw _ _ ls t v (insSer_ok h c ht c4 c5) (by rw [insAt_len hp]; omega)
  refine Ev.step ?_
  simp only [impl_put.step]
  refine Ev.bind (impl_GoodLabels.ev ls ht) (Ev.cnd (fun c => p4 _ ?_) fun c => Ev.bind (impl_valueOf.ev ls nameK ht.1) (p4 _ ?_))
  · rw [Bool.not_eq_true'] at c; rw [namedB, c]; rfl
  · rw [Bool.not_eq_false'] at c; rw [namedB, c]; simp
theorem impl_PutAll.ev (h : HDE) (ps : List PTE) (hb : Sm 1048576 (.sl false SRU) h.2.2.2.1) (hp : Sm 1048576 (.sl false PTU) ps) : Ev (fun n => impl_PutAll n h ps) (putsV h ps) := by
  obtain ⟨w, lim, nw, l, _⟩ := h
  have hl : ps.length ≤ 1048576 := hp.1
  have loop : ps.length ≤ 500 → ∀ (y7 y8 y9 : Int) y12 d i nw l out, i + d = ps.length → out.length = i → HdOK lim l → Ev (fun n => goRec impl_PutAll.step n (.p19 ps (ps.length : Int) (i : Int) w lim nw y7 y8 y9 out l y12)) (putN w lim nw l out (ps.drop i)) := by
    intro h500 y7 y8 y9 y12 d
    induction d with
    | zero =>
      intro i nw l out hi ho hh
      obtain rfl : i = ps.length := by omega
      refine Ev.step ?_
      simp only [impl_PutAll.step]
      exact Ev.no lt_no (Ev.pure' (by rw [List.drop_length, putN]))
    | succ d ih =>
      intro i nw l out hi ho hh
      have c : i < ps.length := by omega
      have m := hp.2 _ (getD_mem c (d := default))
      refine Ev.step ?_
      simp only [impl_PutAll.step, toNat_cast, i64_nat (show i ≤ 4611686018427387904 by omega)]
      rw [drop_getD c, putN]
      have ok := putF_ok (w := w) (nw := nw) (p := ps.getD i default) hh m.1
      refine Ev.yes (lt_yes c) (Ev.yes (inB_nat c) (Ev.bind (impl_put.ev w lim nw l (ps.getD i default) hh m.1) (Ev.yes (room_ok (by simp; omega)) ?_)))
      have := ih (i + 1) (putF w lim nw l (ps.getD i default)).2.2.2.1 (putF w lim nw l (ps.getD i default)).2.2.2.2.1 (out ++ [(putF w lim nw l (ps.getD i default)).1]) (by omega) (by simp; omega) ok.2.2
      rw [ok.1, ok.2.1]
      exact this
  have p4 : ∀ b, b = !(headB (w, lim, nw, l, ()) && decide (ps.length ≤ 500)) → ∀ (y7 y8 y9 : Int) y12, Ev (fun n => goRec impl_PutAll.step n (.p4 ps b w lim nw l y7 y8 y9 y12)) (putsV (w, lim, nw, l, ()) ps) := by
    rintro b rfl y7 y8 y9 y12
    refine Ev.step ?_
    simp only [impl_PutAll.step]
    refine Ev.cnd (fun c => Ev.pure' ?_) fun c => ?_
    · rw [putsV, if_neg]
      rintro ⟨h1, h2⟩
      rw [h1, decide_eq_true h2] at c; cases c
    · rw [Bool.not_eq_false', Bool.and_eq_true, decide_eq_true_eq] at c
      rw [putsV, if_pos c]
      have hh := head_ok c.1 hb
      refine Ev.bind (impl_ownSeries.ev l hb (headB_ser c.1)) ?_
      exact loop c.2 y7 y8 y9 y12 ps.length 0 nw l [] (by omega) rfl hh
  refine Ev.step ?_
  simp only [impl_PutAll.step]
  refine Ev.bind (impl_GoodHead.ev (w, lim, nw, l, ()) hb) (Ev.cnd (fun c => p4 _ ?_ _ _ _ _) fun c => p4 _ ?_ _ _ _ _)
  · rw [Bool.not_eq_true'] at c; rw [c]; rfl
  · rw [Bool.not_eq_false'] at c; rw [c, Bool.true_and]
    by_cases e : ps.length ≤ 500
    · rw [decide_eq_true e, decide_eq_false (by omega)]; rfl
    · rw [decide_eq_false e, decide_eq_true (by omega)]; rfl
theorem spec_GoodSamples.ev (l : List SME) (hl : l.length ≤ 1048576) : Ev (fun n => spec_GoodSamples n l) (samplesB l) := by
  refine Ev.step ?_
  simp only [spec_GoodSamples.step]
  refine Ev.allK (pt := fun i : Nat => spec_GoodSamples.Pt.p7 l l (l.length : Int) (i : Int)) (fun i hi => ?_) (fun _ => ?_)
  · have fin : ∀ b, b = !(timeB (l.getD i default).1 && !(decide (0 < i) && decide ((l.getD i default).1 ≤ (l.getD (i - 1) default).1))) → ((timeB (l.getD i default).1 && !(decide (0 < i) && decide ((l.getD i default).1 ≤ (l.getD (i - 1) default).1))) = true → ∀ v, Ev (fun m => goRec spec_GoodSamples.step m (spec_GoodSamples.Pt.p7 l l (l.length : Int) ((i + 1 : Nat) : Int))) v → Ev (fun m => goRec spec_GoodSamples.step m (spec_GoodSamples.Pt.p18 l l (l.length : Int) (i : Int) b)) v) ∧
        ((timeB (l.getD i default).1 && !(decide (0 < i) && decide ((l.getD i default).1 ≤ (l.getD (i - 1) default).1))) = false → Ev (fun m => goRec spec_GoodSamples.step m (spec_GoodSamples.Pt.p18 l l (l.length : Int) (i : Int) b)) false) := by
      rintro b rfl
      refine ⟨fun h v hv => ?_, fun h => ?_⟩
      · refine Ev.step ?_
        simp only [spec_GoodSamples.step, i64_nat (show i ≤ 4611686018427387904 by omega)]
        exact Ev.no (by rw [h]; rfl) hv
      · refine Ev.step ?_
        simp only [spec_GoodSamples.step]
        exact Ev.yes (by rw [h]; rfl) Ev.pure
    have run : ∀ v, (∀ b, b = !(timeB (l.getD i default).1 && !(decide (0 < i) && decide ((l.getD i default).1 ≤ (l.getD (i - 1) default).1))) → Ev (fun m => goRec spec_GoodSamples.step m (spec_GoodSamples.Pt.p18 l l (l.length : Int) (i : Int) b)) v) → Ev (fun m => goRec spec_GoodSamples.step m (spec_GoodSamples.Pt.p7 l l (l.length : Int) (i : Int))) v := by
      intro v hv
      refine Ev.step ?_
      simp only [spec_GoodSamples.step, toNat_cast]
      refine Ev.yes (lt_yes hi) (Ev.yes (inB_nat hi) (Ev.bind (spec_l3Time.ev _) (Ev.cnd (fun c => hv _ ?_) fun c => Ev.cnd (fun c2 => ?_) fun c2 => hv _ ?_)))
      · rw [Bool.not_eq_true'] at c; rw [c]; rfl
      · have c2 : 0 < i := by simp only [decide_eq_true_eq] at c2; omega
        rw [Bool.not_eq_false'] at c
        rw [pred_i64 (by omega) (by omega), toNat_cast]
        refine Ev.yes (inB_nat (by omega)) (hv _ ?_)
        rw [c, decide_eq_true c2]; simp
      · have c2 : ¬ 0 < i := by simp only [decide_eq_false_iff_not] at c2; omega
        rw [Bool.not_eq_false'] at c
        rw [c, decide_eq_false c2]; rfl
    exact ⟨fun h v hv => run v fun b hb => (fin b hb).1 h v hv, fun h => run false fun b hb => (fin b hb).2 h⟩
  · refine Ev.step ?_
    simp only [spec_GoodSamples.step]
    exact Ev.no lt_no (Ev.pure' (by
      by_cases h : l.length ≤ 2000
      · rw [decide_eq_true h, decide_eq_true (show (l.length : Int) ≤ 2000 by omega)]
      · rw [decide_eq_false h, decide_eq_false (show ¬ (l.length : Int) ≤ 2000 by omega)]))
theorem spec_GoodSeries.ev (l : List SRE) (h : Sm 1048576 (.sl false SRU) l) : Ev (fun n => spec_GoodSeries n l) (seriesB l) := by
  have hl : l.length ≤ 1048576 := h.1
  refine Ev.step ?_
  simp only [spec_GoodSeries.step]
  refine Ev.cnd (fun c => Ev.pure' ?_) fun c => ?_
  · have c : ¬ l.length ≤ 200 := by have := of_decide_eq_true c; omega
    rw [seriesB, decide_eq_false c]; rfl
  have c : l.length ≤ 200 := by have := of_decide_eq_false c; omega
  rw [seriesB, decide_eq_true c, Bool.true_and, ← Bool.and_true ((List.range l.length).all (serB l))]
  refine Ev.allK (pt := fun i : Nat => spec_GoodSeries.Pt.p15 l l (l.length : Int) (i : Int)) (fun i hi => ?_) (fun _ => ?_)
  · have m := h.2 _ (getD_mem hi (d := default))
    have fin : ∀ b, b = !(serB l i) → (serB l i = true → ∀ v, Ev (fun m => goRec spec_GoodSeries.step m (spec_GoodSeries.Pt.p15 l l (l.length : Int) ((i + 1 : Nat) : Int))) v → Ev (fun m => goRec spec_GoodSeries.step m (spec_GoodSeries.Pt.p26 l l (l.length : Int) (i : Int) b)) v) ∧
        (serB l i = false → Ev (fun m => goRec spec_GoodSeries.step m (spec_GoodSeries.Pt.p26 l l (l.length : Int) (i : Int) b)) false) := by
      rintro b rfl
      refine ⟨fun h v hv => ?_, fun h => ?_⟩
      · refine Ev.step ?_
        simp only [spec_GoodSeries.step, i64_nat (show i ≤ 4611686018427387904 by omega)]
        exact Ev.no (by rw [h]; rfl) hv
      · refine Ev.step ?_
        simp only [spec_GoodSeries.step]
        exact Ev.yes (by rw [h]; rfl) Ev.pure
    have run : ∀ v, (∀ b, b = !(serB l i) → Ev (fun m => goRec spec_GoodSeries.step m (spec_GoodSeries.Pt.p26 l l (l.length : Int) (i : Int) b)) v) → Ev (fun m => goRec spec_GoodSeries.step m (spec_GoodSeries.Pt.p15 l l (l.length : Int) (i : Int))) v := by
      intro v hv
      refine Ev.step ?_
      simp only [spec_GoodSeries.step, toNat_cast]
      refine Ev.yes (lt_yes hi) (Ev.yes (inB_nat hi) (Ev.bind (spec_l7Named.ev _ m.1) (Ev.cnd (fun c => hv _ ?_) fun c => Ev.bind (spec_GoodSamples.ev _ m.2.1.1) (Ev.cnd (fun c2 => hv _ ?_) fun c2 => Ev.cnd (fun c3 => hv _ ?_) fun c3 => Ev.cnd (fun c4 => ?_) fun c4 => hv _ ?_))))
      · rw [Bool.not_eq_true'] at c; rw [serB, c]; rfl
      · rw [Bool.not_eq_true'] at c2; rw [serB, c2]; simp
      · have c3 : (l.getD i default).2.1.length = 0 := eq_yes (k := 0) c3
        rw [serB, c3]; simp
      · rw [Bool.not_eq_false'] at c c2
        have c3 : ¬ (l.getD i default).2.1.length = 0 := eq_no (k := 0) c3
        have c4 : 0 < i := by have := of_decide_eq_true c4; omega
        have mp := h.2 _ (getD_mem (show i - 1 < l.length by omega) (d := default))
        rw [pred_i64 (by omega) (by omega), toNat_cast]
        refine Ev.yes (inB_nat (by omega)) (Ev.bind (spec_l2Cmp.ev _ _ mp.1 m.1) (hv _ ?_))
        rw [serB, c, c2, decide_eq_true (show (l.getD i default).2.1.length ≠ 0 from c3), decide_eq_false (show ¬ i = 0 by omega)]
        simp only [Bool.true_and, Bool.false_or]
        by_cases e : cmpLs (l.getD (i - 1) default).1 (l.getD i default).1 < 0
        · rw [decide_eq_true e, decide_eq_false (by omega)]; rfl
        · rw [decide_eq_false e, decide_eq_true (by omega)]; rfl
      · rw [Bool.not_eq_false'] at c c2
        have c3 : ¬ (l.getD i default).2.1.length = 0 := eq_no (k := 0) c3
        have c4 : i = 0 := by have := of_decide_eq_false c4; omega
        rw [serB, c, c2, decide_eq_true (show (l.getD i default).2.1.length ≠ 0 from c3), decide_eq_true c4]; rfl
    exact ⟨fun h v hv => run v fun b hb => (fin b hb).1 h v hv, fun h => run false fun b hb => (fin b hb).2 h⟩
  · refine Ev.step ?_
    simp only [spec_GoodSeries.step]
    exact Ev.no lt_no Ev.pure
theorem spec_GoodHead.ev (h : HDE) (hb : Sm 1048576 (.sl false SRU) h.2.2.2.1) : Ev (fun n => spec_GoodHead n h) (headB h) := by
  obtain ⟨w, lim, nw, l, _⟩ := h
  have hl : l.length ≤ 1048576 := hb.1
  refine Ev.step ?_
  simp only [spec_GoodHead.step]
  have bad : headB (w, lim, nw, l, ()) = false → Ev (fun n => goRec spec_GoodHead.step n (.p4 true w lim nw l)) (headB (w, lim, nw, l, ())) := fun e => by
    refine Ev.step ?_
    simp only [spec_GoodHead.step]
    exact Ev.yes rfl (Ev.pure' e.symm)
  refine Ev.bind (spec_l3Time.ev w) (Ev.cnd (fun c => bad ?_) fun c1 => Ev.cnd (fun c => bad ?_) fun c2 => Ev.cnd (fun c => bad ?_) fun c3 => Ev.bind (spec_GoodSeries.ev l hb) (Ev.cnd (fun c => bad ?_) fun c4 => Ev.cnd (fun c => bad ?_) fun c5 => Ev.cnd (fun c => bad ?_) fun c6 => ?_))
  · rw [Bool.not_eq_true'] at c; simp [headB, c]
  · have := of_decide_eq_true c; simp only [headB]; rw [decide_eq_false (show ¬ (0 ≤ lim) by omega)]; simp
  · have := of_decide_eq_true c; simp only [headB]; rw [decide_eq_false (show ¬ (lim ≤ 200) by omega)]; simp
  · rw [Bool.not_eq_true'] at c; simp [headB, c]
  · simp only [headB, c]; simp
  · have := of_decide_eq_true c
    simp only [headB, timeB]; rw [decide_eq_false (show ¬ nw = -1 by omega), decide_eq_false (show ¬ 0 ≤ nw by omega)]; simp
  rw [Bool.not_eq_false'] at c1 c4
  have c2 := of_decide_eq_false c2
  have c3 := of_decide_eq_false c3
  have c6 := of_decide_eq_false c6
  have ht : (decide (nw = -1) || timeB nw) = !decide ((1000000000000 : Int) < nw) := by
    by_cases a : nw = -1
    · subst a; rfl
    · rw [decide_eq_false a, Bool.false_or, timeB, decide_eq_true (show 0 ≤ nw by omega), Bool.true_and]
      by_cases b : (1000000000000 : Int) < nw
      · rw [decide_eq_true b, decide_eq_false (by omega)]; rfl
      · rw [decide_eq_false b, decide_eq_true (by omega)]; rfl
  have hh : headB (w, lim, nw, l, ()) = (!decide ((1000000000000 : Int) < nw) && (List.range l.length).all (fun i => lastB nw (l.getD i default))) := by
    simp only [headB, c1, c4, c5, ht]; rw [decide_eq_true (show 0 ≤ lim by omega), decide_eq_true (show lim ≤ 200 by omega)]; simp
  refine Ev.step ?_
  simp only [spec_GoodHead.step]
  refine Ev.cnd (fun c => Ev.pure' (by rw [hh, c]; rfl)) fun c7 => ?_
  rw [hh, c7, Bool.not_false, Bool.true_and, ← Bool.and_true ((List.range l.length).all _)]
  refine Ev.allK (pt := fun i : Nat => spec_GoodHead.Pt.p15 l (l.length : Int) (i : Int) w lim nw l) (fun i hi => ?_) (fun _ => ?_)
  · have h2 := seriesB_at c4 hi
    have h3 : (l.getD i default).2.1.length ≠ 0 := by
      have c4 := c4
      simp only [seriesB, Bool.and_eq_true, List.all_eq_true, List.mem_range] at c4
      have h1 := c4.2 i hi
      simp only [serB, Bool.and_eq_true, decide_eq_true_eq] at h1
      exact h1.1.2
    have e : IntKind.wrap .i64 (((l.getD i default).2.1.length : Int) - 1) = (((l.getD i default).2.1.length - 1 : Nat) : Int) := by rw [i64_ok] <;> omega
    refine ⟨fun h v hv => ?_, fun h => ?_⟩
    · refine Ev.step ?_
      simp only [spec_GoodHead.step, toNat_cast, i64_nat (show i ≤ 4611686018427387904 by omega), e]
      refine Ev.yes (lt_yes hi) (Ev.yes (inB_nat hi) (Ev.yes (inB_nat (by omega)) (Ev.no ?_ hv)))
      rw [lastB, Bool.not_eq_true'] at h; exact h
    · refine Ev.step ?_
      simp only [spec_GoodHead.step, toNat_cast, e]
      refine Ev.yes (lt_yes hi) (Ev.yes (inB_nat hi) (Ev.yes (inB_nat (by omega)) (Ev.yes ?_ Ev.pure)))
      rw [lastB, Bool.not_eq_false'] at h; exact h
  · refine Ev.step ?_
    simp only [spec_GoodHead.step]
    exact Ev.no lt_no Ev.pure
theorem spec_l7CopySamples.ev (l : List SME) (hl : l.length ≤ 1048576) : Ev (fun n => spec_l7CopySamples n l) l := by
  refine Ev.step ?_
  simp only [spec_l7CopySamples.step]
  exact Ev.yes (room_ok (by simp; omega)) Ev.pure
theorem spec_l7Copy.ev (l : List SRE) (hb : Sm 1048576 (.sl false SRU) l) : Ev (fun n => spec_l7Copy n l) l := by
  have hl : l.length ≤ 1048576 := hb.1
  have loop : ∀ d i, i + d = l.length → Ev (fun n => goRec spec_l7Copy.step n (.p9 l (l.length : Int) (i : Int) (l.take i))) l := by
    intro d
    induction d with
    | zero =>
      intro i hi
      obtain rfl : i = l.length := by omega
      refine Ev.step ?_
      simp only [spec_l7Copy.step]
      exact Ev.no lt_no (Ev.pure' (List.take_length))
    | succ d ih =>
      intro i hi
      have hi' : i < l.length := by omega
      have m := hb.2 _ (getD_mem hi' (d := default))
      refine Ev.step ?_
      simp only [spec_l7Copy.step, toNat_cast, i64_nat (show i ≤ 4611686018427387904 by omega)]
      refine Ev.yes (lt_yes hi') (Ev.yes (inB_nat hi') (Ev.bind (spec_l3Copy.ev _ m.1.1) (Ev.bind (spec_l7CopySamples.ev _ m.2.1.1) (Ev.yes (room_ok (by simp; omega)) ?_))))
      have e : l.take (i + 1) = l.take i ++ [((l.getD i default).1, (l.getD i default).2.1, ())] := by
        rw [List.take_add_one, List.getD_eq_getElem?_getD, List.getElem?_eq_getElem hi']; rfl
      rw [← e]
      exact ih (i + 1) (by omega)
  refine Ev.step ?_
  simp only [spec_l7Copy.step]
  exact loop l.length 0 (by omega)
theorem spec_PutAll.ev (h : HDE) (ps : List PTE) (hb : Sm 1048576 (.sl false SRU) h.2.2.2.1) (hp : Sm 1048576 (.sl false PTU) ps) : Ev (fun n => spec_PutAll n h ps) (putsV h ps) := by
  obtain ⟨w, lim, nw, l, _⟩ := h
  have hl : ps.length ≤ 1048576 := hp.1
  have loop : ps.length ≤ 500 → ∀ (y7 y8 y9 : Int) y12 d i nw l out, i + d = ps.length → out.length = i → HdOK lim l → Ev (fun n => goRec spec_PutAll.step n (.p19 ps (ps.length : Int) (i : Int) w lim nw y7 y8 y9 out l y12)) (putN w lim nw l out (ps.drop i)) := by
    intro h500 y7 y8 y9 y12 d
    induction d with
    | zero =>
      intro i nw l out hi ho hh
      obtain rfl : i = ps.length := by omega
      refine Ev.step ?_
      simp only [spec_PutAll.step]
      exact Ev.no lt_no (Ev.pure' (by rw [List.drop_length, putN]))
    | succ d ih =>
      intro i nw l out hi ho hh
      have c : i < ps.length := by omega
      have m := hp.2 _ (getD_mem c (d := default))
      refine Ev.step ?_
      simp only [spec_PutAll.step, toNat_cast, i64_nat (show i ≤ 4611686018427387904 by omega)]
      rw [drop_getD c, putN]
      have ok := putF_ok (w := w) (nw := nw) (p := ps.getD i default) hh m.1
      refine Ev.yes (lt_yes c) (Ev.yes (inB_nat c) (Ev.bind (spec_l7Put.ev w lim nw l (ps.getD i default) hh m.1) (Ev.yes (room_ok (by simp; omega)) ?_)))
      have := ih (i + 1) (putF w lim nw l (ps.getD i default)).2.2.2.1 (putF w lim nw l (ps.getD i default)).2.2.2.2.1 (out ++ [(putF w lim nw l (ps.getD i default)).1]) (by omega) (by simp; omega) ok.2.2
      rw [ok.1, ok.2.1]
      exact this
  have p4 : ∀ b, b = !(headB (w, lim, nw, l, ()) && decide (ps.length ≤ 500)) → ∀ (y7 y8 y9 : Int) y12, Ev (fun n => goRec spec_PutAll.step n (.p4 ps b w lim nw l y7 y8 y9 y12)) (putsV (w, lim, nw, l, ()) ps) := by
    rintro b rfl y7 y8 y9 y12
    refine Ev.step ?_
    simp only [spec_PutAll.step]
    refine Ev.cnd (fun c => Ev.pure' ?_) fun c => ?_
    · rw [putsV, if_neg]
      rintro ⟨h1, h2⟩
      rw [h1, decide_eq_true h2] at c; cases c
    · rw [Bool.not_eq_false', Bool.and_eq_true, decide_eq_true_eq] at c
      rw [putsV, if_pos c]
      have hh := head_ok c.1 hb
      refine Ev.bind (spec_l7Copy.ev l hb) ?_
      exact loop c.2 y7 y8 y9 y12 ps.length 0 nw l [] (by omega) rfl hh
  refine Ev.step ?_
  simp only [spec_PutAll.step]
  refine Ev.bind (spec_GoodHead.ev (w, lim, nw, l, ()) hb) (Ev.cnd (fun c => p4 _ ?_ _ _ _ _) fun c => p4 _ ?_ _ _ _ _)
  · rw [Bool.not_eq_true'] at c; rw [c]; rfl
  · rw [Bool.not_eq_false'] at c; rw [c, Bool.true_and]
    by_cases e : ps.length ≤ 500
    · rw [decide_eq_true e, decide_eq_false (by omega)]; rfl
    · rw [decide_eq_false e, decide_eq_true (by omega)]; rfl
theorem laws_zInts.ev (l : List Int) (hl : l.length ≤ 1048576) : Ev (fun n => laws_zInts n l l) true := by
  have loop : ∀ d i, i + d = l.length → Ev (fun n => goRec laws_zInts.step n (laws_zInts.Pt.p15 l l (l.length : Int) (i : Int))) true := by
    intro d
    induction d with
    | zero =>
      intro i h
      obtain rfl : i = l.length := by omega
      refine Ev.step ?_
      simp only [laws_zInts.step]
      exact Ev.no lt_no Ev.pure
    | succ d ih =>
      intro i h
      refine Ev.step ?_
      simp only [laws_zInts.step, i64_nat (show i ≤ 4611686018427387904 by omega)]
      exact Ev.yes (lt_yes (by omega)) (Ev.yes (inB_nat (by omega)) (Ev.yes (inB_nat (by omega)) (Ev.no (by simp) (ih (i + 1) (by omega)))))
  refine Ev.step ?_
  simp only [laws_zInts.step]
  exact Ev.no (by simp) (loop l.length 0 (by omega))
theorem laws_zLabels.ev (l : List LB) (hl : l.length ≤ 1048576) : Ev (fun n => laws_zLabels n l l) true := by
  have loop : ∀ d i, i + d = l.length → Ev (fun n => goRec laws_zLabels.step n (laws_zLabels.Pt.p15 l l (l.length : Int) (i : Int))) true := by
    intro d
    induction d with
    | zero =>
      intro i h
      obtain rfl : i = l.length := by omega
      refine Ev.step ?_
      simp only [laws_zLabels.step]
      exact Ev.no lt_no Ev.pure
    | succ d ih =>
      intro i h
      refine Ev.step ?_
      simp only [laws_zLabels.step, i64_nat (show i ≤ 4611686018427387904 by omega)]
      exact Ev.yes (lt_yes (by omega)) (Ev.yes (inB_nat (by omega)) (Ev.yes (inB_nat (by omega)) (Ev.no (by simp [seq]) (ih (i + 1) (by omega)))))
  refine Ev.step ?_
  simp only [laws_zLabels.step]
  exact Ev.no (by simp) (loop l.length 0 (by omega))
theorem laws_zSamples.ev (l : List SME) (hl : l.length ≤ 1048576) : Ev (fun n => laws_zSamples n l l) true := by
  have loop : ∀ d i, i + d = l.length → Ev (fun n => goRec laws_zSamples.step n (laws_zSamples.Pt.p15 l l (l.length : Int) (i : Int))) true := by
    intro d
    induction d with
    | zero =>
      intro i h
      obtain rfl : i = l.length := by omega
      refine Ev.step ?_
      simp only [laws_zSamples.step]
      exact Ev.no lt_no Ev.pure
    | succ d ih =>
      intro i h
      refine Ev.step ?_
      simp only [laws_zSamples.step, i64_nat (show i ≤ 4611686018427387904 by omega)]
      exact Ev.yes (lt_yes (by omega)) (Ev.yes (inB_nat (by omega)) (Ev.yes (inB_nat (by omega)) (Ev.no (by simp) (ih (i + 1) (by omega)))))
  refine Ev.step ?_
  simp only [laws_zSamples.step]
  exact Ev.no (by simp) (loop l.length 0 (by omega))
theorem laws_zSeries.ev (l : List SRE) (h : Sm 1048576 (.sl false SRU) l) : Ev (fun n => laws_zSeries n l l) true := by
  have hl : l.length ≤ 1048576 := h.1
  have loop : ∀ d i, i + d = l.length → Ev (fun n => goRec laws_zSeries.step n (laws_zSeries.Pt.p15 l l (l.length : Int) (i : Int))) true := by
    intro d
    induction d with
    | zero =>
      intro i h
      obtain rfl : i = l.length := by omega
      refine Ev.step ?_
      simp only [laws_zSeries.step]
      exact Ev.no lt_no Ev.pure
    | succ d ih =>
      intro i hi
      have c : i < l.length := by omega
      have m := h.2 _ (getD_mem c (d := default))
      refine Ev.step ?_
      simp only [laws_zSeries.step, toNat_cast, i64_nat (show i ≤ 4611686018427387904 by omega)]
      exact Ev.yes (lt_yes c) (Ev.yes (inB_nat c) (Ev.yes (inB_nat c) (Ev.bind (laws_zLabels.ev _ m.1.1) (Ev.no rfl (Ev.yes (inB_nat c) (Ev.yes (inB_nat c) (Ev.bind (laws_zSamples.ev _ m.2.1.1) (Ev.no rfl (ih (i + 1) (by omega))))))))))
  refine Ev.step ?_
  simp only [laws_zSeries.step]
  exact Ev.no (by simp) (loop l.length 0 (by omega))
theorem laws_zHead.ev (h : HDE) (hb : Sm 1048576 (.sl false SRU) h.2.2.2.1) : Ev (fun n => laws_zHead n h h) true := by
  refine Ev.step ?_
  simp only [laws_zHead.step]
  exact Ev.yes (by simp) (Ev.yes (by simp) (Ev.yes (by simp) (Ev.bind (laws_zSeries.ev _ hb) Ev.pure)))
theorem laws_zByte.ev (l : List Int) (hl : CodeOK l) (i : Int) (hi : 0 ≤ i) : EvP (fun n => laws_zByte n l i) (fun (r : Int) => 0 ≤ r ∧ r ≤ 255) := by
  refine EvP.step ?_
  simp only [laws_zByte.step]
  refine EvP.cnd (fun e => ?_) fun _ => EvP.pure ⟨by decide, by decide⟩
  have e : i < (l.length : Int) := of_decide_eq_true e
  obtain ⟨j, rfl⟩ := Int.eq_ofNat_of_zero_le hi
  have hx := hl.2 (l.getD j default) (getD_mem (by omega))
  refine EvP.yes (inB_nat (by omega)) (EvP.pure ?_)
  rw [Int.toNat_natCast, i64_ok (by omega) (by omega)]
  exact hx
theorem laws_zInt.ev (l : List Int) (hl : CodeOK l) (i : Int) (hi : 0 ≤ i) (hi2 : i ≤ 100) : EvP (fun n => laws_zInt n l i) (fun (r : Int) => InR r) := by
  have loop : ∀ (d j : Nat) (y : Int), j + d = 8 → InR y → EvP (fun n => goRec laws_zInt.step n (laws_zInt.Pt.p9 l i y (j : Int))) (fun (r : Int) => InR r) := by
    intro d
    induction d with
    | zero =>
      intro j y hj hy
      refine EvP.step ?_
      simp only [laws_zInt.step]
      exact EvP.no (decide_eq_false (by omega)) (EvP.pure hy)
    | succ d ih =>
      intro j y hj hy
      refine EvP.step ?_
      simp only [laws_zInt.step, i64_nat (show j ≤ 4611686018427387904 by omega), i64_ok (x := i + (j : Int)) (by omega) (by omega)]
      exact EvP.yes (decide_eq_true (by omega)) (EvP.bindP (laws_zByte.ev l hl (i + (j : Int)) (by omega)) fun r hr => ih (j + 1) _ (by omega) wrapR)
  refine EvP.step ?_
  simp only [laws_zInt.step]
  exact loop 8 0 0 (by omega) ⟨by decide, by decide⟩
theorem laws_zCutOf.ev (l : List Int) (hl : CodeOK l) (k : Nat) (hk : k ≤ 1000) : EvP (fun n => laws_zCutOf n l (k : Int)) (fun (r : Int) => 0 ≤ r ∧ r ≤ (k : Int)) := by
  refine EvP.step ?_
  simp only [laws_zCutOf.step, i64_nat (show k ≤ 4611686018427387904 by omega)]
  refine EvP.bindP (laws_zInt.ev l hl 0 (by omega) (by omega)) fun r5 h5 => EvP.no (decide_eq_false (by omega)) ?_
  have a : -((k : Int) + 1) < Int.tmod r5 ((k + 1 : Nat) : Int) ∧ Int.tmod r5 ((k + 1 : Nat) : Int) < (k : Int) + 1 := by
    rcases Int.le_total 0 r5 with h | h
    · rw [Int.tmod_eq_emod_of_nonneg h]
      have := Int.emod_nonneg r5 (show ((k + 1 : Nat) : Int) ≠ 0 by omega)
      have := Int.emod_lt_of_pos r5 (show (0 : Int) < ((k + 1 : Nat) : Int) by omega)
      omega
    · have e : Int.tmod r5 ((k + 1 : Nat) : Int) = -Int.tmod (-r5) ((k + 1 : Nat) : Int) := by rw [Int.neg_tmod, Int.neg_neg]
      have h' : (0 : Int) ≤ -r5 := Int.neg_nonneg_of_nonpos h
      rw [e, Int.tmod_eq_emod_of_nonneg h']
      have := Int.emod_nonneg (-r5) (show ((k + 1 : Nat) : Int) ≠ 0 by omega)
      have := Int.emod_lt_of_pos (-r5) (show (0 : Int) < ((k + 1 : Nat) : Int) by omega)
      omega
  refine EvP.cnd (fun c => EvP.pure ?_) fun c => EvP.pure ?_
  · have c := of_decide_eq_true c
    show 0 ≤ IntKind.wrap .i64 (0 - Int.tmod r5 ((k + 1 : Nat) : Int)) ∧ IntKind.wrap .i64 (0 - Int.tmod r5 ((k + 1 : Nat) : Int)) ≤ _
    rw [i64_ok (by omega) (by omega)]; omega
  · have c := of_decide_eq_false c
    show 0 ≤ Int.tmod r5 ((k + 1 : Nat) : Int) ∧ Int.tmod r5 ((k + 1 : Nat) : Int) ≤ _
    omega
theorem spec_SampleOf.ev {lim : Int} (l : List SRE) (ls : List LB) (t v : Int) (hl : HdOK lim l) (ht : Sm 1048576 (.sl false LU) ls) (h : Has l ls t v) : Ev (fun n => spec_SampleOf n l ls t) (v, true) := by
  obtain ⟨f1, f2, f3⟩ := has_find hl.2.2.1 (fun s hs => (hl.2.2.2 s hs).1) h
  have hlen := hl.2.1
  have h200 := hl.1
  have f1' := f1
  simp only [fndB, Bool.and_eq_true, decide_eq_true_eq] at f1'
  have hs := hl.2.2.2 _ (getD_mem f1'.1 (d := default))
  refine Ev.step ?_
  simp only [spec_SampleOf.step]
  refine Ev.bind (spec_l7Place.ev l ls (by omega) (fun s hs => (hl.2.2.2 s hs).2.2.2) ht) ?_
  simp only [f1, toNat_cast]
  refine Ev.no rfl (Ev.yes (inB_nat f1'.1) (Ev.bind (spec_l6Cut.ev _ t (by have := hs.2.1; omega)) ?_))
  rw [cutV_val hs.1, if_pos f2]
  exact Ev.no rfl (Ev.yes rfl (Ev.pure' (by rw [← f3]; rfl)))
theorem laws_zFlat.ev (l : List SRE) (h1 : l.length ≤ 200) (h2 : ∀ s ∈ l, s.2.1.length ≤ 2000) : EvP (fun n => laws_zFlat n l) (fun r => List.length r = total l) := by
  have bt : ∀ i, total (l.take i) ≤ 400000 := fun i => by
    have := total_le (k := 2000) (l := l.take i) fun s hs => h2 s (List.mem_of_mem_take hs)
    have h3 : (l.take i).length ≤ 200 := by rw [List.length_take]; omega
    omega
  have tt : ∀ i, i < l.length → total (l.take (i + 1)) = total (l.take i) + (l.getD i default).2.1.length := fun i hi => by
    have e : l.take (i + 1) = l.take i ++ [l.getD i default] := by
      rw [List.take_add_one, List.getD_eq_getElem?_getD, List.getElem?_eq_getElem hi]; rfl
    rw [e, total_app]; rfl
  have loop : ∀ d i (out : List (Unit × Int × Int × Unit)), i + d = l.length → out.length = total (l.take i) → EvP (fun n => goRec laws_zFlat.step n (.p9 l (l.length : Int) (i : Int) out)) (fun r => List.length r = total l) := by
    intro d
    induction d with
    | zero =>
      intro i out hi ho
      obtain rfl : i = l.length := by omega
      refine EvP.step ?_
      simp only [laws_zFlat.step]
      rw [List.take_length] at ho
      exact EvP.no lt_no (EvP.pure ho)
    | succ d ih =>
      intro i out hi ho
      have c : i < l.length := by omega
      have b := bt i
      have hs := h2 _ (getD_mem c (d := default))
      have inner : ∀ (z : List SME) y8 y9, z = (l.getD i default).2.1 → ∀ d2 k (out : List (Unit × Int × Int × Unit)), k + d2 = z.length → out.length = total (l.take i) + k → EvP (fun n => goRec laws_zFlat.step n (.p23 l (l.length : Int) (i : Int) z (z.length : Int) (k : Int) out y8 y9)) (fun r => List.length r = total l) := by
        rintro z y8 y9 rfl d2
        induction d2 with
        | zero =>
          intro k out hk ho
          obtain rfl : k = (l.getD i default).2.1.length := by omega
          refine EvP.step ?_
          simp only [laws_zFlat.step, i64_nat (show i ≤ 4611686018427387904 by omega)]
          exact EvP.no lt_no (ih (i + 1) out (by omega) (by rw [tt i c]; exact ho))
        | succ d2 ih2 =>
          intro k out hk ho
          have ck : k < (l.getD i default).2.1.length := by omega
          refine EvP.step ?_
          simp only [laws_zFlat.step, toNat_cast, i64_nat (show k ≤ 4611686018427387904 by omega)]
          exact EvP.yes (lt_yes ck) (EvP.yes (inB_nat ck) (EvP.yes (room_ok (by simp; omega)) (ih2 (k + 1) _ (by omega) (by simp; omega))))
      refine EvP.step ?_
      simp only [laws_zFlat.step, toNat_cast]
      exact EvP.yes (lt_yes c) (EvP.yes (inB_nat c) (inner _ _ _ rfl (l.getD i default).2.1.length 0 out (by omega) (by omega)))
  refine EvP.step ?_
  simp only [laws_zFlat.step]
  exact loop l.length 0 [] (by omega) rfl
theorem codeOf {l : List Int} (h : ∀ x ∈ l, Wf (.int .u8) x) (hl : l.length ≤ 1048576) : CodeOK l := ⟨hl, fun x hx => by
    have h2 : decide (IntKind.u8.min ≤ x) && decide (x ≤ IntKind.u8.max) := h x hx
    rw [Bool.and_eq_true] at h2
    have a : IntKind.u8.min ≤ x := of_decide_eq_true h2.1
    have b : x ≤ IntKind.u8.max := of_decide_eq_true h2.2
    have ea : IntKind.u8.min = 0 := by decide
    have eb : IntKind.u8.max = 255 := by decide
    omega⟩
theorem laws_FnPuts.fin (w lim nw a1 a2 a3 : Int) (l : List SRE) (ps : List PTE) (hg : HdG w lim nw l) (hne : ∀ s ∈ l, s.2.1 ≠ []) (hb : HdOK lim l) (hp : PtD 600 ps) (h500 : ps.length ≤ 500) :
    Ev (fun n => goRec laws_FnPuts.step n (.p53 (0 : Int) (ps.length : Int) (0 : Int) w lim nw a1 a2 a3 (putN w lim nw l [] ps).2 ps l (putN w lim nw l [] ps).1.2.2.2.1)) true := by
  have ok := putN_ok (w := w) (nw := nw) (out := []) hb fun p hp' => (hp.2 p hp').sm (by decide)
  have hlen : (putN w lim nw l [] ps).2.length = ps.length := by rw [ok.1]; simp
  have tot := putN_total (w := w) (lim := lim) (r := ps) (nw := nw) (l := l)
  have bt : total l ≤ 2000 * l.length := total_le fun s hs => (hb.2.2.2 s hs).2.1
  have b1 := hb.1
  have b2 := hb.2.1
  have tkle : ∀ i, tk ((putN w lim nw l [] ps).2.take i) ≤ i := by
    intro i
    have : ∀ (z : List Int), tk z ≤ z.length := fun z => by
      induction z with
      | nil => exact Nat.le_refl _
      | cons x z ih => rw [tk, List.length_cons]; split <;> omega
    exact Nat.le_trans (this _) (by rw [List.length_take]; omega)
  have loop : ∀ d i, i + d = ps.length → Ev (fun n => goRec laws_FnPuts.step n (.p53 ((tk ((putN w lim nw l [] ps).2.take i) : Nat) : Int) (ps.length : Int) (i : Int) w lim nw a1 a2 a3 (putN w lim nw l [] ps).2 ps l (putN w lim nw l [] ps).1.2.2.2.1)) true := by
    intro d
    induction d with
    | zero =>
      intro i hi
      obtain rfl : i = ps.length := by omega
      have e : (putN w lim nw l [] ps).2.take ps.length = (putN w lim nw l [] ps).2 := List.take_of_length_le (by omega)
      have le := tkle ps.length
      refine Ev.step ?_
      simp only [laws_FnPuts.step]
      obtain ⟨r1, g1, q1⟩ := laws_zFlat.ev (putN w lim nw l [] ps).1.2.2.2.1 (by have := ok.2.1; have := ok.2.2.1; omega) fun s hs => (ok.2.2.2.2 s hs).2.1
      obtain ⟨r2, g2, q2⟩ := laws_zFlat.ev l (by omega) fun s hs => (hb.2.2.2 s hs).2.1
      refine Ev.no lt_no (Ev.bind g1 (Ev.bind g2 (Ev.pure' ?_)))
      rw [e] at le ⊢
      rw [i64_ok (by omega) (by omega)]
      exact decide_eq_true (by omega)
    | succ d ih =>
      intro i hi
      have c : i < ps.length := by omega
      have c2 : i < (putN w lim nw l [] ps).2.length := by omega
      have le := tkle i
      have nx := ih (i + 1) (by omega)
      rw [tk_take c2] at nx
      refine Ev.step ?_
      simp only [laws_FnPuts.step, toNat_cast, Nat.zero_add, i64_nat (show i ≤ 4611686018427387904 by omega), i64_nat (show tk ((putN w lim nw l [] ps).2.take i) ≤ 4611686018427387904 by omega)]
      refine Ev.yes (lt_yes c) (Ev.yes (inB_nat c) (Ev.yes (inB_nat c2) (Ev.cnd (fun e => ?_) fun e => ?_)))
      · have e := of_decide_eq_true e
        have has := putN_has (w := w) (lim := lim) (nw := nw) (l := l) c e
        refine Ev.bind (spec_SampleOf.ev _ _ _ _ ok.2 ((hp.at i).sm (by decide)) has) (Ev.no rfl (Ev.no (by simp) ?_))
        rw [if_pos e] at nx
        exact nx
      · have e := of_decide_eq_false e
        rw [if_neg e] at nx
        exact nx
  exact loop ps.length 0 (by omega)
theorem laws_FnPuts.ev (code more : List Int) (hw : Wf (.bs (.int .u8)) code) (hm : Wf (.sl false (.int .u8)) more) : Ev (fun n => laws_FnPuts n code more) true := by
  have p4 : ∀ b, b = decide ((1048576 : Int) < (more.length : Int)) → code.length ≤ 1048576 → Ev (fun n => goRec laws_FnPuts.step n (.p4 code more b)) true := by
    rintro b rfl hl
    refine Ev.step ?_
    simp only [laws_FnPuts.step]
    refine Ev.cnd (fun _ => Ev.pure) fun c => ?_
    have c : more.length ≤ 1048576 := by have := of_decide_eq_false c; omega
    have hc : CodeOK code := codeOf hw.2 hl
    have hm' : CodeOK more := codeOf hm.2 c
    obtain ⟨⟨h, ps⟩, g, hse, hpt⟩ := spec_DrawPutAll.ev code hc
    obtain ⟨w, lim, nw, l, _⟩ := h
    have hb := hse.sm (by decide)
    have hp := hpt.sm (by decide)
    have sp := spec_PutAll.ev (w, lim, nw, l, ()) ps hb hp
    have im := impl_PutAll.ev (w, lim, nw, l, ()) ps hb hp
    have sm := putsV_big (h := (w, lim, nw, l, ())) (ps := ps) hb hp
    refine Ev.bind g (Ev.bind im (Ev.bind sp (Ev.bind (laws_zInts.ev _ (by omega)) (Ev.no rfl (Ev.bind (laws_zHead.ev _ sm.1) (Ev.step ?_))))))
    simp only [laws_FnPuts.step]
    refine Ev.no rfl (Ev.bind (spec_GoodHead.ev (w, lim, nw, l, ()) hb) ?_)
    have stop : ∀ z1 z2 z3 z4 z5 z6 z7 z8 z9 z10 z11 z12, Ev (fun n => goRec laws_FnPuts.step n (.p26 z1 true z2 z3 z4 z5 z6 z7 z8 z9 z10 z11 z12)) true := by
      intros
      refine Ev.step ?_
      simp only [laws_FnPuts.step]
      exact Ev.yes rfl Ev.pure
    refine Ev.cnd (fun _ => stop _ _ _ _ _ _ _ _ _ _ _ _) fun g1 => Ev.cnd (fun _ => stop _ _ _ _ _ _ _ _ _ _ _ _) fun _ => ?_
    rw [Bool.not_eq_false'] at g1
    by_cases h500 : ps.length ≤ 500
    case neg =>
      rw [decide_eq_true (show (500 : Int) < (ps.length : Int) by omega)]
      exact stop _ _ _ _ _ _ _ _ _ _ _ _
    rw [decide_eq_false (show ¬ (500 : Int) < (ps.length : Int) by omega)]
    have good := headB_good g1
    have hok := head_ok g1 hb
    have eV : putsV (w, lim, nw, l, ()) ps = putN w lim nw l [] ps := by rw [putsV, if_pos ⟨g1, h500⟩]
    rw [eV] at sm
    refine Ev.step ?_
    simp only [laws_FnPuts.step]
    obtain ⟨r, gr, r0, r1⟩ := laws_zCutOf.ev more hm' ps.length (by omega)
    obtain ⟨k, rfl⟩ : ∃ k : Nat, r = (k : Int) := ⟨r.toNat, (Int.toNat_of_nonneg r0).symm⟩
    have hk : k ≤ ps.length := by omega
    have im1 := impl_PutAll.ev (w, lim, nw, l, ()) (ps.take k) hb ⟨by rw [List.length_take]; have := hp.1; omega, fun p hp' => hp.2 p (List.mem_of_mem_take hp')⟩
    have eV1 : putsV (w, lim, nw, l, ()) (ps.take k) = putN w lim nw l [] (ps.take k) := by rw [putsV, if_pos ⟨g1, by rw [List.length_take]; omega⟩]
    rw [eV1] at im1
    have sm1 := putsV_big (h := (w, lim, nw, l, ())) (ps := ps.take k) hb ⟨by rw [List.length_take]; have := hp.1; omega, fun p hp' => hp.2 p (List.mem_of_mem_take hp')⟩
    rw [eV1] at sm1
    obtain ⟨⟨nw', e1, gd1⟩, ne1, e2, e3⟩ := putN_good (r := ps.take k) (out := []) good.1 good.2
    have hh1 : headB (putN w lim nw l [] (ps.take k)).1 = true := good_headB (by rw [e1]; show HdG _ _ _ _; rw [show (putN w lim nw l [] (ps.take k)).1.1 = w from e2, show (putN w lim nw l [] (ps.take k)).1.2.1 = lim from e3]; exact gd1) ne1
    have im2 := impl_PutAll.ev (putN w lim nw l [] (ps.take k)).1 (ps.drop k) sm1.1 ⟨by rw [List.length_drop]; have := hp.1; omega, fun p hp' => hp.2 p (List.mem_of_mem_drop hp')⟩
    have eV2 : putsV (putN w lim nw l [] (ps.take k)).1 (ps.drop k) = putN w lim (putN w lim nw l [] (ps.take k)).1.2.2.1 (putN w lim nw l [] (ps.take k)).1.2.2.2.1 [] (ps.drop k) := by
      rw [putsV, if_pos ⟨hh1, by rw [List.length_drop]; omega⟩, show (putN w lim nw l [] (ps.take k)).1.1 = w from e2, show (putN w lim nw l [] (ps.take k)).1.2.1 = lim from e3]
    have whole := putN_app (w := w) (lim := lim) (r := ps.take k) (r2 := ps.drop k) (nw := nw) (l := l) (out := [])
    rw [List.take_append_drop] at whole
    have outs := putN_out (w := w) (lim := lim) (r := ps.drop k) (nw := (putN w lim nw l [] (ps.take k)).1.2.2.1) (l := (putN w lim nw l [] (ps.take k)).1.2.2.2.1) (out := (putN w lim nw l [] (ps.take k)).2)
    rw [← whole] at outs
    rw [eV2] at im2
    have ed : List.take (ps.length - k) (ps.drop k) = ps.drop k := List.take_of_length_le (by rw [List.length_drop]; omega)
    refine Ev.no rfl (Ev.bind gr ?_)
    simp only [toNat_cast, Int.toNat_zero, Nat.zero_add, Nat.sub_zero, List.drop_zero]
    refine Ev.yes (inC_nat (i := 0) (Nat.zero_le _) hk) (Ev.bind im1 (Ev.yes (inC_nat hk (Nat.le_refl _)) ?_))
    rw [ed]
    have z2 := laws_zHead.ev _ sm.1
    refine Ev.bind im2 ?_
    have l1 := sm1.2
    have l2 := sm.2
    have l3 := congrArg List.length outs.2
    rw [List.length_append] at l3
    have eC : ([] : List Int) ++ (putN w lim nw l [] (ps.take k)).2 ++ (putN w lim (putN w lim nw l [] (ps.take k)).1.2.2.1 (putN w lim nw l [] (ps.take k)).1.2.2.2.1 [] (ps.drop k)).2 = (putN w lim nw l [] ps).2 := by rw [List.nil_append, outs.2]
    have zI := laws_zInts.ev (putN w lim nw l [] ps).2 (by omega)
    rw [← outs.1]
    simp only [eV]
    refine Ev.bind z2 (Ev.no rfl (Ev.yes (room_ok (by simp; omega)) (Ev.yes (room_ok (by simp; omega)) ?_)))
    rw [eC]
    refine Ev.bind zI (Ev.step ?_)
    simp only [laws_FnPuts.step]
    exact Ev.no rfl (laws_FnPuts.fin w lim nw _ _ _ l ps good.1 good.2 hok hpt h500)
  refine Ev.step ?_
  simp only [laws_FnPuts.step]
  refine Ev.cnd (fun _ => ?_) fun c => p4 _ rfl (by have := of_decide_eq_false c; omega)
  refine Ev.step ?_
  simp only [laws_FnPuts.step]
  exact Ev.yes rfl Ev.pure
end Go.FP
