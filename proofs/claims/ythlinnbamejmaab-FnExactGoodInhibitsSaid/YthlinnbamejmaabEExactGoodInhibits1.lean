/- What these functions come to, part 1. -/
import Derived.Test.YthlinnbamejmaabV1
import Derived.Test.YthlinnbamejmaabV2
import Derived.Test.YthlinnbamejmaabV3
import Derived.Test.YthlinnbamejmaabFExactGoodInhibits1
open Go Go.VM
namespace Go.GI
set_option linter.unusedVariables false
set_option linter.unusedSimpArgs false
abbrev MT := ByteArray × Int × ByteArray × Unit
def matcherB (x : MT) : Bool := nameB x.1 && decide (1 ≤ x.2.1) && decide (x.2.1 ≤ 4) && decide (x.2.2.1.size ≤ 100) && printB x.2.2.1 && (decide (x.2.1 < 3) || (alts x.2.2.1).isSome)
def matchersB (l : List MT) : Bool := decide (l.length ≤ 10) && (List.range l.length).all fun i => matcherB (l.getD i default)
abbrev MU : U := .pair .str (.pair (.int .i64) (.pair .str .unit))
abbrev SIL := ByteArray × List MT × Int × Int × Unit
abbrev SIU : U := .pair .str (.pair (.sl false MU) (.pair (.int .i64) (.pair (.int .i64) .unit)))
def silB (l : List SIL) (i : Nat) : Bool := nameB (l.getD i default).1 && matchersB (l.getD i default).2.1 && decide ((l.getD i default).2.1.length ≠ 0) && timeB (l.getD i default).2.2.1 && timeB (l.getD i default).2.2.2.1 &&
  decide ((l.getD i default).2.2.1 ≤ (l.getD i default).2.2.2.1) && (decide (i = 0) || decide (cmpT (l.getD (i - 1) default).1 (l.getD i default).1 < 0))
def silsB (l : List SIL) : Bool := decide (l.length ≤ 50) && (List.range l.length).all (silB l)
/-- texts that rise -/
def risingB (l : List ByteArray) : Bool := (List.range (l.length - 1)).all fun i => decide (cmpT (l.getD i default) (l.getD (i + 1) default) < 0)
def namesB (l : List ByteArray) : Bool := decide (l.length ≤ 10) && risingB l && (List.range l.length).all fun i => nameB (l.getD i default)
abbrev INH := List MT × List MT × List ByteArray × Unit
abbrev INU : U := .pair (.sl false MU) (.pair (.sl false MU) (.pair (.sl false .str) .unit))
def inhB (x : INH) : Bool := matchersB x.1 && matchersB x.2.1 && decide (x.1.length ≠ 0) && decide (x.2.1.length ≠ 0) && namesB x.2.2.1
def inhsB (l : List INH) : Bool := decide (l.length ≤ 20) && (List.range l.length).all fun i => inhB (l.getD i default)
theorem laws_szMatcher.ev (x : (ByteArray) × ((Int) × ((ByteArray) × (Unit)))) (left : Int) (h0 : 0 ≤ left) (h1 : left ≤ 1048576) (hw : Wf (.pair .str (.pair (.int .i64) (.pair .str .unit))) x) : Sz (fun n => laws_szMatcher n x left) left (Sm 1048576 (.pair .str (.pair (.int .i64) (.pair .str .unit))) x) := by
  refine Sz.step ?_
  simp only [laws_szMatcher.step]
  have b1 : ByteArray.size x.1 ≤ 9223372036854775807 := by have := hw.1; simp only [Wf, maxLen] at this; omega
  have e1 : IntKind.wrap .i64 (left - ((ByteArray.size x.1) : Int)) = left - ((ByteArray.size x.1) : Int) := i64_ok (by omega) (by omega)
  simp only [e1]
  by_cases c1 : (left - ((ByteArray.size x.1) : Int)) < 0
  · exact Sz.yes (by simpa using c1) (Sz.neg h0)
  refine Sz.no (by simpa using c1) ?_
  have b2 : ByteArray.size x.2.2.1 ≤ 9223372036854775807 := by have := hw.2.2.1; simp only [Wf, maxLen] at this; omega
  have e2 : IntKind.wrap .i64 ((left - ((ByteArray.size x.1) : Int)) - ((ByteArray.size x.2.2.1) : Int)) = (left - ((ByteArray.size x.1) : Int)) - ((ByteArray.size x.2.2.1) : Int) := i64_ok (by omega) (by omega)
  simp only [e2]
  by_cases c2 : ((left - ((ByteArray.size x.1) : Int)) - ((ByteArray.size x.2.2.1) : Int)) < 0
  · exact Sz.yes (by simpa using c2) (Sz.neg h0)
  refine Sz.no (by simpa using c2) ?_
  exact ⟨((left - ((ByteArray.size x.1) : Int)) - ((ByteArray.size x.2.2.1) : Int)), Ev.pure, by omega, fun _ => ⟨(show ByteArray.size x.1 ≤ 1048576 by omega), ⟨trivial, ⟨(show ByteArray.size x.2.2.1 ≤ 1048576 by omega), trivial⟩⟩⟩⟩
theorem laws_szMatcherS.loop (l : List ((ByteArray) × ((Int) × ((ByteArray) × (Unit))))) (hl : l.length ≤ 1048576) (hw : ∀ x ∈ l, Wf (.pair .str (.pair (.int .i64) (.pair .str .unit))) x) : ∀ d i (left : Int), i + d = l.length → 0 ≤ left → left ≤ 1048576 → Sz (fun n => goRec laws_szMatcherS.step n (.p17 l left (i : Int))) left (∀ j, i ≤ j → j < l.length → Sm 1048576 (.pair .str (.pair (.int .i64) (.pair .str .unit))) (l.getD j default)) := by
  intro d
  induction d with
  | zero =>
    intro i left h h0 h1
    rw [Nat.add_zero] at h
    subst h
    refine Sz.step ?_
    simp only [laws_szMatcherS.step]
    exact Sz.no lt_no ⟨left, Ev.pure, Int.le_refl _, fun _ j h1 h2 => by omega⟩
  | succ d ih =>
    intro i left h h0 h1
    have hi : i < l.length := by omega
    refine Sz.step ?_
    simp only [laws_szMatcherS.step, toNat_cast]
    refine Sz.yes (lt_yes hi) (Sz.yes (inB_nat hi) ?_)
    obtain ⟨r1, k1, m1, q1⟩ := laws_szMatcher.ev (l.getD i default) left h0 h1 (hw _ (getD_mem hi))
    refine Sz.bind k1 ?_
    by_cases c1 : r1 < 0
    · exact Sz.yes (by simpa using c1) (Sz.neg h0)
    refine Sz.no (by simpa using c1) ?_
    rw [i64_nat (by omega)]
    have := ih (i + 1) r1 (by omega) (by omega) (by omega)
    refine (this.le m1).imp fun hq j h2 h3 => ?_
    rcases Nat.eq_or_lt_of_le h2 with rfl | h2
    · exact q1 (by omega)
    · exact hq j h2 h3
theorem laws_szMatcherS.ev (l : List ((ByteArray) × ((Int) × ((ByteArray) × (Unit))))) (left : Int) (h0 : 0 ≤ left) (h1 : left ≤ 1048576) (hw : Wf (.sl false (.pair .str (.pair (.int .i64) (.pair .str .unit)))) l) : Sz (fun n => laws_szMatcherS n l left) left (Sm 1048576 (.sl false (.pair .str (.pair (.int .i64) (.pair .str .unit)))) l) := by
  refine Sz.step ?_
  simp only [laws_szMatcherS.step]
  have b1 : l.length ≤ 9223372036854775807 := by have := hw.1; simp only [maxLen] at this; omega
  have e1 : IntKind.wrap .i64 (left - ((List.length l) : Int)) = left - ((List.length l) : Int) := i64_ok (by omega) (by omega)
  simp only [e1]
  by_cases c1 : left - ((List.length l) : Int) < 0
  · exact Sz.yes (by simpa using c1) (Sz.neg h0)
  refine Sz.no (by simpa using c1) ?_
  refine ((laws_szMatcherS.loop l (by omega) hw.2 l.length 0 _ (by omega) (by omega) (by omega)).le (by omega)).imp fun hq => ⟨by omega, fun x hx => ?_⟩
  obtain ⟨j, hj, rfl⟩ := List.getElem_of_mem hx
  have := hq j (by omega) hj
  rwa [List.getD_eq_getElem?_getD, List.getElem?_eq_getElem hj] at this
theorem laws_szStringS.loop (l : List (ByteArray)) (hl : l.length ≤ 1048576) (hw : ∀ x ∈ l, Wf .str x) : ∀ d i (left : Int), i + d = l.length → 0 ≤ left → left ≤ 1048576 → Sz (fun n => goRec laws_szStringS.step n (.p17 l left (i : Int))) left (∀ j, i ≤ j → j < l.length → Sm 1048576 .str (l.getD j default)) := by
  intro d
  induction d with
  | zero =>
    intro i left h h0 h1
    rw [Nat.add_zero] at h
    subst h
    refine Sz.step ?_
    simp only [laws_szStringS.step]
    exact Sz.no lt_no ⟨left, Ev.pure, Int.le_refl _, fun _ j h1 h2 => by omega⟩
  | succ d ih =>
    intro i left h h0 h1
    have hi : i < l.length := by omega
    refine Sz.step ?_
    simp only [laws_szStringS.step, toNat_cast]
    refine Sz.yes (lt_yes hi) (Sz.yes (inB_nat hi) ?_)
    have b1 : ByteArray.size (l.getD i default) ≤ 9223372036854775807 := by have := hw _ (getD_mem hi (d := default)); simp only [Wf, maxLen] at this; omega
    have e1 : IntKind.wrap .i64 (left - ((ByteArray.size (l.getD i default)) : Int)) = left - ((ByteArray.size (l.getD i default)) : Int) := i64_ok (by omega) (by omega)
    simp only [e1]
    by_cases c1 : (left - ((ByteArray.size (l.getD i default)) : Int)) < 0
    · exact Sz.yes (by simpa using c1) (Sz.neg h0)
    refine Sz.no (by simpa using c1) ?_
    rw [i64_nat (by omega)]
    have := ih (i + 1) (left - ((ByteArray.size (l.getD i default)) : Int)) (by omega) (by omega) (by omega)
    refine (this.le (by omega)).imp fun hq j h2 h3 => ?_
    rcases Nat.eq_or_lt_of_le h2 with rfl | h2
    · show ByteArray.size _ ≤ 1048576
      omega
    · exact hq j h2 h3
theorem laws_szStringS.ev (l : List (ByteArray)) (left : Int) (h0 : 0 ≤ left) (h1 : left ≤ 1048576) (hw : Wf (.sl false .str) l) : Sz (fun n => laws_szStringS n l left) left (Sm 1048576 (.sl false .str) l) := by
  refine Sz.step ?_
  simp only [laws_szStringS.step]
  have b1 : l.length ≤ 9223372036854775807 := by have := hw.1; simp only [maxLen] at this; omega
  have e1 : IntKind.wrap .i64 (left - ((List.length l) : Int)) = left - ((List.length l) : Int) := i64_ok (by omega) (by omega)
  simp only [e1]
  by_cases c1 : left - ((List.length l) : Int) < 0
  · exact Sz.yes (by simpa using c1) (Sz.neg h0)
  refine Sz.no (by simpa using c1) ?_
  refine ((laws_szStringS.loop l (by omega) hw.2 l.length 0 _ (by omega) (by omega) (by omega)).le (by omega)).imp fun hq => ⟨by omega, fun x hx => ?_⟩
  obtain ⟨j, hj, rfl⟩ := List.getElem_of_mem hx
  have := hq j (by omega) hj
  rwa [List.getD_eq_getElem?_getD, List.getElem?_eq_getElem hj] at this
theorem laws_szInhibit.ev (x : (List ((ByteArray) × ((Int) × ((ByteArray) × (Unit))))) × ((List ((ByteArray) × ((Int) × ((ByteArray) × (Unit))))) × ((List (ByteArray)) × (Unit)))) (left : Int) (h0 : 0 ≤ left) (h1 : left ≤ 1048576) (hw : Wf (.pair (.sl false (.pair .str (.pair (.int .i64) (.pair .str .unit)))) (.pair (.sl false (.pair .str (.pair (.int .i64) (.pair .str .unit)))) (.pair (.sl false .str) .unit))) x) : Sz (fun n => laws_szInhibit n x left) left (Sm 1048576 (.pair (.sl false (.pair .str (.pair (.int .i64) (.pair .str .unit)))) (.pair (.sl false (.pair .str (.pair (.int .i64) (.pair .str .unit)))) (.pair (.sl false .str) .unit))) x) := by
  refine Sz.step ?_
  simp only [laws_szInhibit.step]
  obtain ⟨r1, k1, m1, q1⟩ := laws_szMatcherS.ev x.1 left (by omega) (by omega) hw.1
  refine Sz.bind k1 ?_
  by_cases c1 : r1 < 0
  · exact Sz.yes (by simpa using c1) (Sz.neg h0)
  refine Sz.no (by simpa using c1) ?_
  obtain ⟨r2, k2, m2, q2⟩ := laws_szMatcherS.ev x.2.1 r1 (by omega) (by omega) hw.2.1
  refine Sz.bind k2 ?_
  by_cases c2 : r2 < 0
  · exact Sz.yes (by simpa using c2) (Sz.neg h0)
  refine Sz.no (by simpa using c2) ?_
  obtain ⟨r3, k3, m3, q3⟩ := laws_szStringS.ev x.2.2.1 r2 (by omega) (by omega) hw.2.2.1
  refine Sz.bind k3 ?_
  by_cases c3 : r3 < 0
  · exact Sz.yes (by simpa using c3) (Sz.neg h0)
  refine Sz.no (by simpa using c3) ?_
  exact ⟨r3, Ev.pure, by omega, fun _ => ⟨(q1 (by omega)), ⟨(q2 (by omega)), ⟨(q3 (by omega)), trivial⟩⟩⟩⟩
theorem laws_szInhibitS.loop (l : List ((List ((ByteArray) × ((Int) × ((ByteArray) × (Unit))))) × ((List ((ByteArray) × ((Int) × ((ByteArray) × (Unit))))) × ((List (ByteArray)) × (Unit))))) (hl : l.length ≤ 1048576) (hw : ∀ x ∈ l, Wf (.pair (.sl false (.pair .str (.pair (.int .i64) (.pair .str .unit)))) (.pair (.sl false (.pair .str (.pair (.int .i64) (.pair .str .unit)))) (.pair (.sl false .str) .unit))) x) : ∀ d i (left : Int), i + d = l.length → 0 ≤ left → left ≤ 1048576 → Sz (fun n => goRec laws_szInhibitS.step n (.p17 l left (i : Int))) left (∀ j, i ≤ j → j < l.length → Sm 1048576 (.pair (.sl false (.pair .str (.pair (.int .i64) (.pair .str .unit)))) (.pair (.sl false (.pair .str (.pair (.int .i64) (.pair .str .unit)))) (.pair (.sl false .str) .unit))) (l.getD j default)) := by
  intro d
  induction d with
  | zero =>
    intro i left h h0 h1
    rw [Nat.add_zero] at h
    subst h
    refine Sz.step ?_
    simp only [laws_szInhibitS.step]
    exact Sz.no lt_no ⟨left, Ev.pure, Int.le_refl _, fun _ j h1 h2 => by omega⟩
  | succ d ih =>
    intro i left h h0 h1
    have hi : i < l.length := by omega
    refine Sz.step ?_
    simp only [laws_szInhibitS.step, toNat_cast]
    refine Sz.yes (lt_yes hi) (Sz.yes (inB_nat hi) ?_)
    obtain ⟨r1, k1, m1, q1⟩ := laws_szInhibit.ev (l.getD i default) left h0 h1 (hw _ (getD_mem hi))
    refine Sz.bind k1 ?_
    by_cases c1 : r1 < 0
    · exact Sz.yes (by simpa using c1) (Sz.neg h0)
    refine Sz.no (by simpa using c1) ?_
    rw [i64_nat (by omega)]
    have := ih (i + 1) r1 (by omega) (by omega) (by omega)
    refine (this.le m1).imp fun hq j h2 h3 => ?_
    rcases Nat.eq_or_lt_of_le h2 with rfl | h2
    · exact q1 (by omega)
    · exact hq j h2 h3
theorem laws_szInhibitS.ev (l : List ((List ((ByteArray) × ((Int) × ((ByteArray) × (Unit))))) × ((List ((ByteArray) × ((Int) × ((ByteArray) × (Unit))))) × ((List (ByteArray)) × (Unit))))) (left : Int) (h0 : 0 ≤ left) (h1 : left ≤ 1048576) (hw : Wf (.sl false (.pair (.sl false (.pair .str (.pair (.int .i64) (.pair .str .unit)))) (.pair (.sl false (.pair .str (.pair (.int .i64) (.pair .str .unit)))) (.pair (.sl false .str) .unit)))) l) : Sz (fun n => laws_szInhibitS n l left) left (Sm 1048576 (.sl false (.pair (.sl false (.pair .str (.pair (.int .i64) (.pair .str .unit)))) (.pair (.sl false (.pair .str (.pair (.int .i64) (.pair .str .unit)))) (.pair (.sl false .str) .unit)))) l) := by
  refine Sz.step ?_
  simp only [laws_szInhibitS.step]
  have b1 : l.length ≤ 9223372036854775807 := by have := hw.1; simp only [maxLen] at this; omega
  have e1 : IntKind.wrap .i64 (left - ((List.length l) : Int)) = left - ((List.length l) : Int) := i64_ok (by omega) (by omega)
  simp only [e1]
  by_cases c1 : left - ((List.length l) : Int) < 0
  · exact Sz.yes (by simpa using c1) (Sz.neg h0)
  refine Sz.no (by simpa using c1) ?_
  refine ((laws_szInhibitS.loop l (by omega) hw.2 l.length 0 _ (by omega) (by omega) (by omega)).le (by omega)).imp fun hq => ⟨by omega, fun x hx => ?_⟩
  obtain ⟨j, hj, rfl⟩ := List.getElem_of_mem hx
  have := hq j (by omega) hj
  rwa [List.getD_eq_getElem?_getD, List.getElem?_eq_getElem hj] at this
theorem laws_toMatcher.ev (x : (ByteArray) × ((Int) × ((ByteArray) × (Unit)))) (h : Sm 1048576 (.pair .str (.pair (.int .i64) (.pair .str .unit))) x) : Ev (fun n => laws_toMatcher n x) x := by
  refine Ev.step ?_
  simp only [laws_toMatcher.step]
  exact Ev.pure
theorem laws_toMatcherS.loop (l : List ((ByteArray) × ((Int) × ((ByteArray) × (Unit))))) (h : Sm 1048576 (.sl false (.pair .str (.pair (.int .i64) (.pair .str .unit)))) l) : ∀ d i (out : List ((ByteArray) × ((Int) × ((ByteArray) × (Unit))))), i + d = l.length → out.length = l.length → (∀ j, j < i → out.getD j default = l.getD j default) → Ev (fun n => goRec laws_toMatcherS.step n (.p9 l (i : Int) out)) l := by
  have hl : l.length ≤ 1048576 := h.1
  intro d
  induction d with
  | zero =>
    intro i out hd ho hj
    rw [Nat.add_zero] at hd
    subst hd
    refine Ev.step ?_
    simp only [laws_toMatcherS.step]
    exact Ev.no lt_no (Ev.pure' (ext_getD ho hj))
  | succ d ih =>
    intro i out hd ho hj
    have hi : i < l.length := by omega
    refine Ev.step ?_
    simp only [laws_toMatcherS.step, toNat_cast, Nat.zero_add]
    refine Ev.yes (lt_yes hi) (Ev.yes (inB_nat hi) ?_)
    refine Ev.bind (laws_toMatcher.ev (l.getD i default) (h.2 _ (getD_mem hi))) ?_
    refine Ev.yes (inB_nat (by omega)) ?_
    rw [i64_nat (by omega)]
    refine ih (i + 1) _ (by omega) (by simpa using ho) fun j hj2 => ?_
    by_cases e : j = i
    · subst e; rw [getD_set_same (by omega)]
    · rw [getD_set_other e]; exact hj j (by omega)
theorem laws_toMatcherS.ev (l : List ((ByteArray) × ((Int) × ((ByteArray) × (Unit))))) (h : Sm 1048576 (.sl false (.pair .str (.pair (.int .i64) (.pair .str .unit)))) l) : Ev (fun n => laws_toMatcherS n l) l := by
  have hl : l.length ≤ 1048576 := h.1
  refine Ev.step ?_
  simp only [laws_toMatcherS.step, toNat_cast]
  refine Ev.yes (inC_nat (Nat.le_refl _) (by omega)) ?_
  exact laws_toMatcherS.loop l h l.length 0 _ (by omega) (by simp) (by omega)
theorem laws_toStringS.loop (l : List (ByteArray)) (h : Sm 1048576 (.sl false .str) l) : ∀ d i (out : List (ByteArray)), i + d = l.length → out.length = l.length → (∀ j, j < i → out.getD j default = l.getD j default) → Ev (fun n => goRec laws_toStringS.step n (.p9 l (i : Int) out)) l := by
  have hl : l.length ≤ 1048576 := h.1
  intro d
  induction d with
  | zero =>
    intro i out hd ho hj
    rw [Nat.add_zero] at hd
    subst hd
    refine Ev.step ?_
    simp only [laws_toStringS.step]
    exact Ev.no lt_no (Ev.pure' (ext_getD ho hj))
  | succ d ih =>
    intro i out hd ho hj
    have hi : i < l.length := by omega
    refine Ev.step ?_
    simp only [laws_toStringS.step, toNat_cast, Nat.zero_add]
    refine Ev.yes (lt_yes hi) (Ev.yes (inB_nat hi) ?_)
    refine Ev.yes (inB_nat (by omega)) ?_
    rw [i64_nat (by omega)]
    refine ih (i + 1) _ (by omega) (by simpa using ho) fun j hj2 => ?_
    by_cases e : j = i
    · subst e; rw [getD_set_same (by omega)]
    · rw [getD_set_other e]; exact hj j (by omega)
theorem laws_toStringS.ev (l : List (ByteArray)) (h : Sm 1048576 (.sl false .str) l) : Ev (fun n => laws_toStringS n l) l := by
  have hl : l.length ≤ 1048576 := h.1
  refine Ev.step ?_
  simp only [laws_toStringS.step, toNat_cast]
  refine Ev.yes (inC_nat (Nat.le_refl _) (by omega)) ?_
  exact laws_toStringS.loop l h l.length 0 _ (by omega) (by simp) (by omega)
theorem laws_toInhibit.ev (x : (List ((ByteArray) × ((Int) × ((ByteArray) × (Unit))))) × ((List ((ByteArray) × ((Int) × ((ByteArray) × (Unit))))) × ((List (ByteArray)) × (Unit)))) (h : Sm 1048576 (.pair (.sl false (.pair .str (.pair (.int .i64) (.pair .str .unit)))) (.pair (.sl false (.pair .str (.pair (.int .i64) (.pair .str .unit)))) (.pair (.sl false .str) .unit))) x) : Ev (fun n => laws_toInhibit n x) x := by
  refine Ev.step ?_
  simp only [laws_toInhibit.step]
  refine Ev.bind (laws_toMatcherS.ev x.1 h.1) ?_
  refine Ev.bind (laws_toMatcherS.ev x.2.1 h.2.1) ?_
  refine Ev.bind (laws_toStringS.ev x.2.2.1 h.2.2.1) ?_
  exact Ev.pure
theorem laws_toInhibitS.loop (l : List ((List ((ByteArray) × ((Int) × ((ByteArray) × (Unit))))) × ((List ((ByteArray) × ((Int) × ((ByteArray) × (Unit))))) × ((List (ByteArray)) × (Unit))))) (h : Sm 1048576 (.sl false (.pair (.sl false (.pair .str (.pair (.int .i64) (.pair .str .unit)))) (.pair (.sl false (.pair .str (.pair (.int .i64) (.pair .str .unit)))) (.pair (.sl false .str) .unit)))) l) : ∀ d i (out : List ((List ((ByteArray) × ((Int) × ((ByteArray) × (Unit))))) × ((List ((ByteArray) × ((Int) × ((ByteArray) × (Unit))))) × ((List (ByteArray)) × (Unit))))), i + d = l.length → out.length = l.length → (∀ j, j < i → out.getD j default = l.getD j default) → Ev (fun n => goRec laws_toInhibitS.step n (.p9 l (i : Int) out)) l := by
  have hl : l.length ≤ 1048576 := h.1
  intro d
  induction d with
  | zero =>
    intro i out hd ho hj
    rw [Nat.add_zero] at hd
    subst hd
    refine Ev.step ?_
    simp only [laws_toInhibitS.step]
    exact Ev.no lt_no (Ev.pure' (ext_getD ho hj))
  | succ d ih =>
    intro i out hd ho hj
    have hi : i < l.length := by omega
    refine Ev.step ?_
    simp only [laws_toInhibitS.step, toNat_cast, Nat.zero_add]
    refine Ev.yes (lt_yes hi) (Ev.yes (inB_nat hi) ?_)
    refine Ev.bind (laws_toInhibit.ev (l.getD i default) (h.2 _ (getD_mem hi))) ?_
    refine Ev.yes (inB_nat (by omega)) ?_
    rw [i64_nat (by omega)]
    refine ih (i + 1) _ (by omega) (by simpa using ho) fun j hj2 => ?_
    by_cases e : j = i
    · subst e; rw [getD_set_same (by omega)]
    · rw [getD_set_other e]; exact hj j (by omega)
theorem laws_toInhibitS.ev (l : List ((List ((ByteArray) × ((Int) × ((ByteArray) × (Unit))))) × ((List ((ByteArray) × ((Int) × ((ByteArray) × (Unit))))) × ((List (ByteArray)) × (Unit))))) (h : Sm 1048576 (.sl false (.pair (.sl false (.pair .str (.pair (.int .i64) (.pair .str .unit)))) (.pair (.sl false (.pair .str (.pair (.int .i64) (.pair .str .unit)))) (.pair (.sl false .str) .unit)))) l) : Ev (fun n => laws_toInhibitS n l) l := by
  have hl : l.length ≤ 1048576 := h.1
  refine Ev.step ?_
  simp only [laws_toInhibitS.step, toNat_cast]
  refine Ev.yes (inC_nat (Nat.le_refl _) (by omega)) ?_
  exact laws_toInhibitS.loop l h l.length 0 _ (by omega) (by simp) (by omega)
theorem spec_l2Digit.ev (b : Int) : Ev (fun n => spec_l2Digit n b) (digitB b) := by
  refine Ev.step ?_
  simp only [spec_l2Digit.step]
  exact Ev.cnd (fun h => Ev.pure' (by simp [digitB, h])) fun h => Ev.pure' (by simp [digitB, h])
theorem spec_l2Letter.ev (b : Int) : Ev (fun n => spec_l2Letter n b) (letterB b) := by
  refine Ev.step ?_
  simp only [spec_l2Letter.step]
  refine Ev.cnd (fun h => Ev.cnd (fun h2 => Ev.pure' (by simp [letterB, h, h2])) fun h2 => Ev.cnd (fun h3 => Ev.pure' (by simp [letterB, h, h2, h3])) fun h3 => Ev.pure' (by simp [letterB, h, h2, h3])) fun h => Ev.cnd (fun h3 => Ev.pure' (by simp [letterB, h, h3])) fun h3 => Ev.pure' (by simp [letterB, h, h3])
theorem spec_l2Name.ev (s : ByteArray) (hs : s.size ≤ 1048576) : Ev (fun n => spec_l2Name n s) (nameB s) := by
  have go : Ev (fun n => goRec spec_l2Name.step n (spec_l2Name.Pt.p15 s 0)) (allB wordB s) := by
    refine Ev.allN (pt := fun i : Nat => spec_l2Name.Pt.p15 s (i : Int)) (fun i hi => ⟨fun hp v hv => ?_, fun hp => ?_⟩) ?_
    · refine Ev.step ?_
      simp only [spec_l2Name.step]
      have h24 : Ev (fun n => goRec spec_l2Name.step n (spec_l2Name.Pt.p24 s (i : Int) false)) v := by
        refine Ev.step ?_
        simp only [spec_l2Name.step, i64_nat (show i ≤ 4611686018427387904 by omega)]
        exact Ev.no rfl hv
      refine Ev.yes (lt_yes hi) (Ev.yes (inB_nat hi) (Ev.bind (spec_l2Letter.ev _) (Ev.cnd (fun h => Ev.yes (inB_nat hi) (Ev.bind (spec_l2Digit.ev _) (Ev.cnd (fun h2 => Ev.yes (inB_nat hi) ?_) fun h2 => h24))) fun h => h24)))
      have : (!decide (bt s i = 95)) = false := by simp [wordB] at hp h h2 ⊢; simp [h, h2] at hp; exact hp
      rw [this]; exact h24
    · refine Ev.step ?_
      simp only [spec_l2Name.step]
      simp [wordB] at hp
      refine Ev.yes (lt_yes hi) (Ev.yes (inB_nat hi) (Ev.bind (spec_l2Letter.ev _) (Ev.yes (by simp [hp]) (Ev.yes (inB_nat hi) (Ev.bind (spec_l2Digit.ev _) (Ev.yes (by simp [hp]) (Ev.yes (inB_nat hi) ?_)))))))
      refine Ev.step ?_
      simp only [spec_l2Name.step]
      exact Ev.yes (by simp [hp]) Ev.pure
    · refine Ev.step ?_
      simp only [spec_l2Name.step]
      exact Ev.no lt_no Ev.pure
  refine Ev.step ?_
  simp only [spec_l2Name.step]
  have bad : nameB s = false → Ev (fun n => goRec spec_l2Name.step n (spec_l2Name.Pt.p4 s true)) (nameB s) := fun h => by
    refine Ev.step ?_
    simp only [spec_l2Name.step]
    exact Ev.yes rfl (Ev.pure' h.symm)
  refine Ev.cnd (fun h => bad ?_) fun h => Ev.cnd (fun h2 => bad ?_) fun h2 => Ev.yes ?_ (Ev.bind (spec_l2Digit.ev _) (Ev.step ?_))
  · have : ¬ 1 ≤ s.size := by simp at h; omega
    simp [nameB, this]
  · have : ¬ s.size ≤ 40 := by simp at h2; omega
    simp [nameB, this]
  · simp at h; exact inB_zero (by omega)
  · have h1 : 1 ≤ s.size := by simp at h; omega
    have h3 : s.size ≤ 40 := by simp at h2; omega
    simp only [spec_l2Name.step]
    refine Ev.cnd (fun h4 => Ev.pure' (by simp [nameB, h4])) fun h4 => Ev.of_eq go ?_
    simp [nameB, h1, h3, h4]
theorem spec_l2Printed.ev (s : ByteArray) (hs : s.size ≤ 1048576) : Ev (fun n => spec_l2Printed n s) (printB s) := by
  refine Ev.step ?_
  simp only [spec_l2Printed.step]
  refine Ev.allN (pt := fun i : Nat => spec_l2Printed.Pt.p7 s (i : Int)) (fun i hi => ⟨fun hp v hv => ?_, fun hp => ?_⟩) ?_
  · refine Ev.step ?_
    simp only [Bool.and_eq_true, decide_eq_true_eq] at hp
    simp only [spec_l2Printed.step, i64_nat (show i ≤ 4611686018427387904 by omega)]
    exact Ev.yes (lt_yes hi) (Ev.yes (inB_nat hi) (Ev.no (by simp; omega) (Ev.yes (inB_nat hi) (Ev.no (by simp; omega) hv))))
  · refine Ev.step ?_
    simp only [spec_l2Printed.step]
    refine Ev.yes (lt_yes hi) (Ev.yes (inB_nat hi) (Ev.cnd (fun _ => Ev.pure) fun h => Ev.yes (inB_nat hi) (Ev.yes ?_ Ev.pure)))
    simp at hp h ⊢; omega
  · refine Ev.step ?_
    simp only [spec_l2Printed.step]
    exact Ev.no lt_no Ev.pure
theorem spec_l2Alternatives.loop (s : ByteArray) (hs : s.size ≤ 100) : ∀ d i out now, s.size ≤ i + d → i ≤ s.size → out.length ≤ i → now.length ≤ i → Ev (fun n => goRec spec_l2Alternatives.step n (spec_l2Alternatives.Pt.p19 s (i : Int) out now)) (altR (pat ((octs s).drop i) out now)) := by
  intro d
  induction d with
  | zero =>
    intro i out now h h1 h2 h3
    obtain rfl : i = s.size := by omega
    refine Ev.step ?_
    simp only [spec_l2Alternatives.step]
    refine Ev.no lt_no (Ev.yes (room_ok (by simp; omega)) (Ev.pure' ?_))
    rw [octs_nil, pat_nil]; rfl
  | succ d ih =>
    intro i out now h h1 h2 h3
    rcases Nat.eq_or_lt_of_le h1 with rfl | hi
    · refine Ev.step ?_
      simp only [spec_l2Alternatives.step]
      refine Ev.no lt_no (Ev.yes (room_ok (by simp; omega)) (Ev.pure' ?_))
      rw [octs_nil, pat_nil]; rfl
    refine Ev.step ?_
    simp only [spec_l2Alternatives.step, i64_bt, i64_nat (show i ≤ 4611686018427387904 by omega)]
    rw [octs_drop hi, pat_cons]
    refine Ev.yes (lt_yes hi) (Ev.yes (inB_nat hi) (Ev.cnd (fun c => ?_) fun c => Ev.cnd (fun c2 => ?_) fun c2 => Ev.cnd (fun c3 => ?_) fun c3 => Ev.cnd (fun c4 => ?_) fun c4 => ?_))
    · rw [if_pos (by simpa using c)]
      exact Ev.yes (room_ok (by simp; omega)) (ih (i + 1) _ _ (by omega) (by omega) (by simp; omega) (by simp))
    · rw [if_neg (by simpa using c), if_pos (by simpa using c2)]
      exact Ev.yes (room_ok (by simp; omega)) (ih (i + 1) _ _ (by omega) (by omega) (by omega) (by simp; omega))
    · rw [if_neg (by simpa using c), if_neg (by simpa using c2), if_pos (by simpa using c3)]
      exact Ev.yes (room_ok (by simp; omega)) (ih (i + 1) _ _ (by omega) (by omega) (by omega) (by simp; omega))
    · rw [if_neg (by simpa using c), if_neg (by simpa using c2), if_neg (by simpa using c3), if_pos (by simpa using c4)]
      have bad : ∀ j : Int, Ev (fun n => goRec spec_l2Alternatives.step n (spec_l2Alternatives.Pt.p51 s j true out now)) (altR none) := fun j => by
        refine Ev.step ?_
        simp only [spec_l2Alternatives.step]
        exact Ev.yes rfl Ev.pure
      refine Ev.cnd (fun e => ?_) fun e => ?_
      · have e : i + 1 = s.size := by simp at e; omega
        rw [show (octs s).drop (i + 1) = [] by rw [e, octs_nil]]
        exact bad _
      · have hi1 : i + 1 < s.size := by simp at e; omega
        rw [octs_drop hi1]
        simp only
        have hr := bt_range (s := s) (i := ((i + 1 : Nat) : Int))
        generalize hq : bt s ((i + 1 : Nat) : Int) = q at hr
        have good : (q = 42 ∨ q = 63 ∨ q = 124 ∨ q = 92) →
            Ev (fun n => goRec spec_l2Alternatives.step n (spec_l2Alternatives.Pt.p51 s ((i + 1 : Nat) : Int) false out now)) (altR (if q = 42 ∨ q = 63 ∨ q = 124 ∨ q = 92 then pat ((octs s).drop (i + 1 + 1)) out (now ++ [q]) else none)) := by
          intro hg
          rw [if_pos hg]
          refine Ev.step ?_
          simp only [spec_l2Alternatives.step, i64_bt]
          simp only [hq, i64_nat (show i + 1 ≤ 4611686018427387904 by omega)]
          exact Ev.no rfl (Ev.yes (inB_nat hi1) (Ev.yes (room_ok (by simp; omega)) (ih (i + 1 + 1) out (now ++ [q]) (by omega) (by omega) (by omega) (by simp; omega))))
        refine Ev.yes (inB_nat hi1) (Ev.cnd (fun e1 => Ev.yes (inB_nat hi1) (Ev.cnd (fun e2 => Ev.yes (inB_nat hi1) (Ev.cnd (fun e3 => Ev.yes (inB_nat hi1) ?_) fun e3 => good ?_)) fun e2 => good ?_)) fun e1 => good ?_)
        · by_cases e4 : q = 92
          · rw [show (!decide (q = 92)) = false by simp [e4]]
            exact good (.inr (.inr (.inr e4)))
          · rw [show (!decide (q = 92)) = true by simp [e4], if_neg (by simp at e1 e2 e3; simp [e1, e2, e3, e4])]
            exact bad _
        · exact .inr (.inr (.inl (by simpa using e3)))
        · exact .inr (.inl (by simpa using e2))
        · exact .inl (by simpa using e1)
    · rw [if_neg (by simpa using c), if_neg (by simpa using c2), if_neg (by simpa using c3), if_neg (by simpa using c4)]
      exact Ev.yes (inB_nat hi) (Ev.yes (room_ok (by simp; omega)) (ih (i + 1) _ _ (by omega) (by omega) (by omega) (by simp; omega)))
theorem spec_l2Alternatives.ev (s : ByteArray) (hs : s.size ≤ 1048576) : Ev (fun n => spec_l2Alternatives n s) (altR (alts s)) := by
  refine Ev.step ?_
  simp only [spec_l2Alternatives.step]
  refine Ev.cnd (fun h => ?_) fun h => Ev.bind (spec_l2Printed.ev s hs) (Ev.step ?_)
  · refine Ev.step ?_
    simp only [spec_l2Alternatives.step]
    refine Ev.yes rfl (Ev.pure' ?_)
    rw [alts, if_neg (by simp at h; omega)]; rfl
  · have h : s.size ≤ 100 := by simp at h; omega
    simp only [spec_l2Alternatives.step]
    refine Ev.cnd (fun h2 => Ev.pure' ?_) fun h2 => ?_
    · rw [alts, if_neg (by simp at h2; simp [h2])]; rfl
    · rw [alts, if_pos ⟨h, by simpa using h2⟩]
      exact spec_l2Alternatives.loop s h s.size 0 [] [] (by omega) (by omega) (by simp) (by simp)
theorem spec_GoodPattern.ev (s : ByteArray) (hs : s.size ≤ 1048576) : Ev (fun n => spec_GoodPattern n s) (alts s).isSome := by
  refine Ev.step ?_
  simp only [spec_GoodPattern.step]
  refine Ev.bind (spec_l2Alternatives.ev s hs) (Ev.pure' ?_)
  cases alts s <;> rfl
theorem spec_GoodMatchers.ev (l : List MT) (h : Sm 1048576 (.sl false MU) l) : Ev (fun n => spec_GoodMatchers n l) (matchersB l) := by
  have hl : l.length ≤ 1048576 := h.1
  refine Ev.step ?_
  simp only [spec_GoodMatchers.step]
  refine Ev.cnd (fun c => Ev.pure' ?_) fun c => ?_
  · have : ¬ l.length ≤ 10 := by simp at c; omega
    simp [matchersB, this]
  have h10 : l.length ≤ 10 := by simp at c; omega
  simp only [matchersB, h10, decide_true, Bool.true_and]
  have go : ∀ i v, i < l.length → (matcherB (l.getD i default) = true → Ev (fun n => goRec spec_GoodMatchers.step n (spec_GoodMatchers.Pt.p15 l (l.length : Int) ((i + 1 : Nat) : Int))) v) → (matcherB (l.getD i default) = false → v = false) →
      Ev (fun n => goRec spec_GoodMatchers.step n (spec_GoodMatchers.Pt.p15 l (l.length : Int) (i : Int))) v := by
    intro i v hi hv hv2
    have hx := h.2 _ (getD_mem (d := default) hi)
    generalize hxe : l.getD i default = x at hv hv2 hx
    have h26 : ∀ b, (b = !matcherB x) → Ev (fun n => goRec spec_GoodMatchers.step n (spec_GoodMatchers.Pt.p26 l (l.length : Int) (i : Int) b)) v := by
      rintro b rfl
      refine Ev.step ?_
      simp only [spec_GoodMatchers.step, i64_nat (show i ≤ 4611686018427387904 by omega)]
      refine Ev.cnd (fun e => Ev.pure' (hv2 (by simpa using e)).symm) fun e => hv (by simpa using e)
    refine Ev.step ?_
    simp only [spec_GoodMatchers.step, toNat_cast, hxe]
    refine Ev.yes (lt_yes hi) (Ev.yes (inB_nat hi) ?_)
    refine Ev.bind (spec_l2Name.ev _ hx.1) (Ev.cnd (fun e => h26 _ (by simp [matcherB]; simp at e; simp [e])) fun e1 => Ev.cnd (fun e => h26 _ (by simp [matcherB]; simp at e; omega)) fun e2 => Ev.cnd (fun e => h26 _ (by simp [matcherB]; simp at e; omega)) fun e3 => Ev.cnd (fun e => h26 _ (by simp [matcherB]; simp at e; omega)) fun e4 => ?_)
    refine Ev.bind (spec_l2Printed.ev _ hx.2.2.1) (Ev.cnd (fun e => h26 _ (by simp [matcherB]; simp at e; simp [e])) fun e5 => Ev.cnd (fun e6 => Ev.bind (spec_GoodPattern.ev _ hx.2.2.1) (h26 _ ?_)) fun e6 => h26 _ ?_)
    · simp at e1 e2 e3 e4 e5 e6
      have a1 : x.2.2.1.size ≤ 100 := by omega
      have a2 : ¬ x.2.1 < 3 := by omega
      simp [matcherB, e1, e2, e3, a1, e5, a2]
    · simp at e1 e2 e3 e4 e5 e6
      have a1 : x.2.2.1.size ≤ 100 := by omega
      simp [matcherB, e1, e2, e3, a1, e5, e6]
  refine Ev.allN (pt := fun i : Nat => spec_GoodMatchers.Pt.p15 l (l.length : Int) (i : Int)) (fun i hi => ⟨fun hp v hv => go i v hi (fun _ => hv) (fun h => by rw [hp] at h; cases h), fun hp => go i false hi (fun h => by rw [hp] at h; cases h) (fun _ => rfl)⟩) ?_
  refine Ev.step ?_
  simp only [spec_GoodMatchers.step]
  exact Ev.no lt_no Ev.pure
theorem spec_l2CmpNum.ev (a b : Int) : Ev (fun n => spec_l2CmpNum n a b) (cmpN a b) := by
  refine Ev.step ?_
  simp only [spec_l2CmpNum.step]
  exact Ev.cnd (fun h => Ev.pure' (by rw [cmpN, if_pos (of_decide_eq_true h)])) fun h => Ev.cnd (fun h2 => Ev.pure' (by rw [cmpN, if_neg (of_decide_eq_false h), if_pos (of_decide_eq_true h2)])) fun h2 => Ev.pure' (by rw [cmpN, if_neg (of_decide_eq_false h), if_neg (of_decide_eq_false h2)])
theorem spec_l2CmpText.loop (a b : ByteArray) (ha : a.size ≤ 1048576) (hb : b.size ≤ 1048576) : ∀ d i, i + d = a.size → i ≤ b.size → Ev (fun n => goRec spec_l2CmpText.step n (spec_l2CmpText.Pt.p7 a b (i : Int))) (cmpL ((octs a).drop i) ((octs b).drop i)) := by
  have out : ∀ i, i ≤ a.size → i ≤ b.size → (i = a.size ∨ i = b.size) → Ev (fun n => goRec spec_l2CmpText.step n (spec_l2CmpText.Pt.p9 a b (i : Int) false)) (cmpL ((octs a).drop i) ((octs b).drop i)) := by
    intro i h1 h2 h3
    refine Ev.step ?_
    simp only [spec_l2CmpText.step]
    refine Ev.no rfl (Ev.bind (spec_l2CmpNum.ev _ _) (Ev.pure' ?_))
    rcases h3 with rfl | rfl
    · rw [octs_nil]
      rcases Nat.eq_or_lt_of_le h2 with e | h2
      · rw [e, octs_nil]; simp [cmpN, cmpL]
      · rw [octs_drop h2]; simp only [cmpL, cmpN]; rw [if_pos (by omega)]
    · rw [octs_nil]
      rcases Nat.eq_or_lt_of_le h1 with e | h1
      · rw [e, octs_nil]; simp [cmpN, cmpL]
      · rw [octs_drop h1]; simp only [cmpL, cmpN]; rw [if_neg (by omega), if_pos (by omega)]
  intro d
  induction d with
  | zero =>
    intro i h hb'
    refine Ev.step ?_
    simp only [spec_l2CmpText.step]
    exact Ev.no (by simp; omega) (out i (by omega) hb' (by omega))
  | succ d ih =>
    intro i h hb'
    refine Ev.step ?_
    simp only [spec_l2CmpText.step]
    refine Ev.yes (lt_yes (by omega)) ?_
    rcases Nat.eq_or_lt_of_le hb' with e | hlt
    · rw [show decide ((i : Int) < (b.size : Int)) = false by simp; omega]
      exact out i (by omega) hb' (.inr e)
    · rw [lt_yes hlt]
      refine Ev.step ?_
      simp only [spec_l2CmpText.step, i64_bt]
      have hia : i < a.size := by omega
      refine Ev.yes rfl (Ev.yes (inB_nat hia) (Ev.yes (inB_nat hlt) ?_))
      rw [octs_drop hia, octs_drop hlt]
      simp only [cmpL]
      refine Ev.cnd (fun hc => Ev.yes (inB_nat hia) (Ev.yes (inB_nat hlt) (Ev.bind (spec_l2CmpNum.ev _ _) (Ev.pure' ?_)))) fun hc => ?_
      · simp at hc
        simp only [cmpN]
        by_cases c1 : bt a i < bt b i
        · simp [c1]
        · have c2 : bt b i < bt a i := by omega
          simp [c1, c2]
      · have hc : bt a i = bt b i := by simpa using hc
        rw [hc, if_neg (by omega), if_neg (by omega), i64_nat (by omega)]
        exact ih (i + 1) (by omega) (by omega)
theorem spec_l2CmpText.ev (a b : ByteArray) (ha : a.size ≤ 1048576) (hb : b.size ≤ 1048576) : Ev (fun n => spec_l2CmpText n a b) (cmpT a b) := by
  refine Ev.step ?_
  simp only [spec_l2CmpText.step]
  exact spec_l2CmpText.loop a b ha hb a.size 0 (by omega) (by omega)
theorem spec_l2Rising.ev (l : List ByteArray) (h : Sm 1048576 (.sl false .str) l) : Ev (fun n => spec_l2Rising n l) (risingB l) := by
  have hl : l.length ≤ 1048576 := h.1
  have hs : ∀ i, i < l.length → (l.getD i default).size ≤ 1048576 := fun i hi => h.2 _ (getD_mem hi)
  refine Ev.step ?_
  simp only [spec_l2Rising.step]
  refine Ev.allN (pt := fun i : Nat => spec_l2Rising.Pt.p7 l ((i + 1 : Nat) : Int)) (fun i hi => ⟨fun hp v hv => ?_, fun hp => ?_⟩) ?_
  · refine Ev.step ?_
    simp only [spec_l2Rising.step, i64_pred (show i ≤ 4611686018427387904 by omega), i64_nat (show i + 1 ≤ 4611686018427387904 by omega), toNat_cast]
    exact Ev.yes (lt_yes (by omega)) (Ev.yes (inB_nat (by omega)) (Ev.yes (inB_nat (by omega)) (Ev.bind (spec_l2CmpText.ev _ _ (hs _ (by omega)) (hs _ (by omega))) (Ev.no (by simp at hp; simp; omega) hv))))
  · refine Ev.step ?_
    simp only [spec_l2Rising.step, i64_pred (show i ≤ 4611686018427387904 by omega), toNat_cast]
    exact Ev.yes (lt_yes (by omega)) (Ev.yes (inB_nat (by omega)) (Ev.yes (inB_nat (by omega)) (Ev.bind (spec_l2CmpText.ev _ _ (hs _ (by omega)) (hs _ (by omega))) (Ev.yes (by simp at hp; simp; omega) Ev.pure))))
  · refine Ev.step ?_
    simp only [spec_l2Rising.step]
    exact Ev.no (by simp; omega) Ev.pure
theorem spec_l15Names.ev (l : List ByteArray) (h : Sm 1048576 (.sl false .str) l) : Ev (fun n => spec_l15Names n l) (namesB l) := by
  have hl : l.length ≤ 1048576 := h.1
  have hs : ∀ i, i < l.length → (l.getD i default).size ≤ 1048576 := fun i hi => h.2 _ (getD_mem hi)
  refine Ev.step ?_
  simp only [spec_l15Names.step]
  have go : ∀ d i, i + d = l.length → Ev (fun n => goRec spec_l15Names.step n (spec_l15Names.Pt.p7 l l (l.length : Int) (i : Int))) (decide (l.length ≤ 10) && risingB l && (List.range' i d).all fun i => nameB (l.getD i default)) := by
    intro d
    induction d with
    | zero =>
      intro i hi
      rw [Nat.add_zero] at hi; subst hi
      refine Ev.step ?_
      simp only [spec_l15Names.step]
      refine Ev.no lt_no (Ev.cnd (fun c => Ev.bind (spec_l2Rising.ev l h) (Ev.pure' ?_)) fun c => Ev.pure' ?_)
      · have : l.length ≤ 10 := by simp at c; omega
        simp [this]
      · have : ¬ l.length ≤ 10 := by simp at c; omega
        simp [this]
    | succ d ih =>
      intro i hi
      refine Ev.step ?_
      simp only [spec_l15Names.step, toNat_cast, i64_nat (show i ≤ 4611686018427387904 by omega)]
      refine Ev.yes (lt_yes (by omega)) (Ev.yes (inB_nat (by omega)) (Ev.bind (spec_l2Name.ev _ (hs _ (by omega))) (Ev.cnd (fun c => Ev.pure' ?_) fun c => ?_)))
      · rw [List.range'_succ, List.all_cons]; simp at c; simp [c]
      · rw [List.range'_succ, List.all_cons]; simp at c
        simp only [List.getD_eq_getElem?_getD, c, Bool.true_and]
        simpa only [List.getD_eq_getElem?_getD] using ih (i + 1) (by omega)
  have := go l.length 0 (by omega)
  rw [namesB, List.range_eq_range']
  exact this
theorem spec_GoodInhibits.ev (l : List INH) (h : Sm 1048576 (.sl false INU) l) : Ev (fun n => spec_GoodInhibits n l) (inhsB l) := by
  have hl : l.length ≤ 1048576 := h.1
  refine Ev.step ?_
  simp only [spec_GoodInhibits.step]
  have go : ∀ d i, i + d = l.length → Ev (fun n => goRec spec_GoodInhibits.step n (spec_GoodInhibits.Pt.p7 l l (l.length : Int) (i : Int))) (decide (l.length ≤ 20) && (List.range' i d).all fun i => inhB (l.getD i default)) := by
    intro d
    induction d with
    | zero =>
      intro i hi
      rw [Nat.add_zero] at hi; subst hi
      refine Ev.step ?_
      simp only [spec_GoodInhibits.step]
      exact Ev.no lt_no (Ev.pure' (by rw [List.range'_zero, List.all_nil, Bool.and_true]; exact decide_eq_decide.2 (by omega)))
    | succ d ih =>
      intro i hi
      have hx := h.2 _ (getD_mem (d := default) (show i < l.length by omega))
      rw [List.range'_succ, List.all_cons]
      generalize hv : ((List.range' (i + 1) d).all fun i => inhB (l.getD i default)) = v
      have ih' := ih (i + 1) (by omega)
      rw [hv] at ih'
      refine Ev.step ?_
      simp only [spec_GoodInhibits.step, toNat_cast]
      generalize hxe : l.getD i default = x at hx
      have hs := (inhB.eq_1 x).symm
      have h18 : ∀ b, (b = !inhB x) → Ev (fun n => goRec spec_GoodInhibits.step n (spec_GoodInhibits.Pt.p18 l l (l.length : Int) (i : Int) b)) (decide (l.length ≤ 20) && (inhB x && v)) := by
        rintro b rfl
        refine Ev.step ?_
        simp only [spec_GoodInhibits.step, i64_nat (show i ≤ 4611686018427387904 by omega)]
        refine Ev.cnd (fun e => Ev.pure' (by simp at e; simp [e])) fun e => Ev.of_eq ih' (by simp at e; simp [e])
      have bad : inhB x = false → Ev (fun n => goRec spec_GoodInhibits.step n (spec_GoodInhibits.Pt.p18 l l (l.length : Int) (i : Int) true)) (decide (l.length ≤ 20) && (inhB x && v)) := fun e => h18 _ (by rw [e]; rfl)
      refine Ev.yes (lt_yes (by omega)) (Ev.yes (inB_nat (by omega)) ?_)
      refine Ev.bind (spec_GoodMatchers.ev _ hx.1) (Ev.cnd (fun e => bad (by rw [← hs]; simp at e; simp [e])) fun e1 => ?_)
      refine Ev.bind (spec_GoodMatchers.ev _ hx.2.1) (Ev.cnd (fun e => bad (by rw [← hs]; simp at e; simp [e])) fun e2 => ?_)
      refine Ev.cnd (fun e => bad (by rw [← hs]; simp at e; simp [e])) fun e3 => Ev.cnd (fun e => bad (by rw [← hs]; simp at e; simp [e])) fun e4 => ?_
      refine Ev.bind (spec_l15Names.ev _ hx.2.2.1) (h18 _ ?_)
      simp at e1 e2 e3 e4
      rw [← hs]; simp [e1, e2, e3, e4]
  have := go l.length 0 (by omega)
  rw [inhsB, List.range_eq_range']
  exact this
theorem impl_digitByte.ev (b : Int) : Ev (fun n => impl_digitByte n b) (digitB b) := by
  refine Ev.step ?_
  simp only [impl_digitByte.step]
  exact Ev.cnd (fun h => Ev.pure' (by simp [digitB, h])) fun h => Ev.pure' (by simp [digitB, h])
theorem impl_letterByte.ev (b : Int) : Ev (fun n => impl_letterByte n b) (letterB b) := by
  refine Ev.step ?_
  simp only [impl_letterByte.step]
  refine Ev.cnd (fun h => Ev.cnd (fun h2 => Ev.pure' (by simp [letterB, h, h2])) fun h2 => Ev.cnd (fun h3 => Ev.pure' (by simp [letterB, h, h2, h3])) fun h3 => Ev.pure' (by simp [letterB, h, h2, h3])) fun h => Ev.cnd (fun h3 => Ev.pure' (by simp [letterB, h, h3])) fun h3 => Ev.pure' (by simp [letterB, h, h3])
theorem impl_wordByte.ev (b : Int) : Ev (fun n => impl_wordByte n b) (wordB b) := by
  refine Ev.step ?_
  simp only [impl_wordByte.step]
  refine Ev.bind (impl_letterByte.ev b) (Ev.cnd (fun h => Ev.pure' (by simp [wordB, h])) fun h => ?_)
  refine Ev.bind (impl_digitByte.ev b) (Ev.cnd (fun h2 => Ev.pure' (by simp [wordB, h2])) fun h2 => Ev.pure' (by simp [wordB, h, h2]))
theorem impl_isName.ev (s : ByteArray) (hs : s.size ≤ 1048576) : Ev (fun n => impl_isName n s) (nameB s) := by
  have go : Ev (fun n => goRec impl_isName.step n (impl_isName.Pt.p15 s (s.size : Int) 0)) (allB wordB s) := by
    refine Ev.allN (pt := fun i : Nat => impl_isName.Pt.p15 s (s.size : Int) (i : Int)) (fun i hi => ⟨fun hp v hv => ?_, fun hp => ?_⟩) ?_
    · refine Ev.step ?_
      simp only [impl_isName.step, i64_nat (show i ≤ 4611686018427387904 by omega)]
      exact Ev.yes (lt_yes hi) (Ev.yes (inB_nat hi) (Ev.bind (impl_wordByte.ev _) (Ev.no (by simp [hp]) hv)))
    · refine Ev.step ?_
      simp only [impl_isName.step]
      exact Ev.yes (lt_yes hi) (Ev.yes (inB_nat hi) (Ev.bind (impl_wordByte.ev _) (Ev.yes (by simp [hp]) Ev.pure)))
    · refine Ev.step ?_
      simp only [impl_isName.step]
      exact Ev.no lt_no Ev.pure
  refine Ev.step ?_
  simp only [impl_isName.step]
  have bad : nameB s = false → Ev (fun n => goRec impl_isName.step n (impl_isName.Pt.p4 s true)) (nameB s) := fun h => by
    refine Ev.step ?_
    simp only [impl_isName.step]
    exact Ev.yes rfl (Ev.pure' h.symm)
  refine Ev.cnd (fun h => bad ?_) fun h => Ev.cnd (fun h2 => bad ?_) fun h2 => Ev.yes ?_ (Ev.bind (impl_digitByte.ev _) (Ev.step ?_))
  · have : ¬ 1 ≤ s.size := by have := of_decide_eq_true (seq_empty.symm.trans h); omega
    simp [nameB, this]
  · have : ¬ s.size ≤ 40 := by simp at h2; omega
    simp [nameB, this]
  · exact inB_zero (by have := of_decide_eq_false (seq_empty.symm.trans h); omega)
  · have h1 : 1 ≤ s.size := by have := of_decide_eq_false (seq_empty.symm.trans h); omega
    have h3 : s.size ≤ 40 := by simp at h2; omega
    simp only [impl_isName.step]
    refine Ev.cnd (fun h4 => Ev.pure' (by simp [nameB, h4])) fun h4 => Ev.of_eq go ?_
    simp [nameB, h1, h3, h4]
theorem impl_printed.ev (s : ByteArray) (m : Nat) (hs : s.size ≤ 1048576) (hm : m ≤ 1000000) : Ev (fun n => impl_printed n s (m : Int)) (decide (s.size ≤ m) && printB s) := by
  refine Ev.step ?_
  simp only [impl_printed.step]
  refine Ev.cnd (fun h => Ev.pure' (by simp at h; simp; omega)) fun h => ?_
  have h2 : s.size ≤ m := by simp at h; omega
  simp only [h2, decide_true, Bool.true_and]
  refine Ev.allN (pt := fun i : Nat => impl_printed.Pt.p15 s (s.size : Int) (i : Int)) (fun i hi => ⟨fun hp v hv => ?_, fun hp => ?_⟩) ?_
  · refine Ev.step ?_
    simp only [Bool.and_eq_true, decide_eq_true_eq] at hp
    simp only [impl_printed.step, i64_nat (show i ≤ 4611686018427387904 by omega)]
    exact Ev.yes (lt_yes hi) (Ev.yes (inB_nat hi) (Ev.no (by simp; omega) (Ev.yes (inB_nat hi) (Ev.no (by simp; omega) hv))))
  · refine Ev.step ?_
    simp only [impl_printed.step]
    refine Ev.yes (lt_yes hi) (Ev.yes (inB_nat hi) (Ev.cnd (fun _ => Ev.pure) fun h => Ev.yes (inB_nat hi) (Ev.yes ?_ Ev.pure)))
    simp at hp h ⊢; omega
  · refine Ev.step ?_
    simp only [impl_printed.step]
    exact Ev.no lt_no Ev.pure
theorem strings_IndexByte.ev (s : ByteArray) (c : Int) : Ev (fun n => strings_IndexByte n s c) (Lib.indexByte s.data.toList c.toNat.toUInt8) := Ev.held rfl
theorem index_specials (c : Int) (h : 0 ≤ c ∧ c ≤ 255) : decide (Lib.indexByte (⟨#[42, 63, 124, 92]⟩ : ByteArray).data.toList c.toNat.toUInt8 < 0) = !decide (c = 42 ∨ c = 63 ∨ c = 124 ∨ c = 92) := by
  obtain ⟨k, rfl⟩ : ∃ k : Nat, c = (k : Int) := ⟨c.toNat, by omega⟩
  have hk : k < 256 := by omega
  have key : ∀ k : Fin 256, decide (Lib.indexByte (⟨#[42, 63, 124, 92]⟩ : ByteArray).data.toList (((k.val : Nat) : Int).toNat.toUInt8) < 0) = !decide (((k.val : Nat) : Int) = 42 ∨ ((k.val : Nat) : Int) = 63 ∨ ((k.val : Nat) : Int) = 124 ∨ ((k.val : Nat) : Int) = 92) := by decide +kernel
  exact key ⟨k, hk⟩
theorem impl_alternatives_1.ev (x : Int × Bool × Bool × Unit) (out : List (List (Int × Bool × Bool × Unit))) (now : List (Int × Bool × Bool × Unit)) (h1 : out.length ≤ 1000) (h2 : now.length ≤ 1000) : Ev (fun n => impl_alternatives_1 n x (out ++ [now])) (out ++ [now ++ [x]]) := by
  refine Ev.held ?_
  have hl : (out ++ [now]).length - 1 = out.length := by simp
  have hg : (out ++ [now]).getD out.length [] = now := by simp [List.getD_eq_getElem?_getD]
  rw [hl, hg, show decide (out ++ [now] ≠ [] ∧ (out ++ [now]).length ≤ 1000000 ∧ now.length ≤ 1000000) = true by simp; omega]
  simp
theorem impl_alternatives.loop (s : ByteArray) (hs : s.size ≤ 100) : ∀ d i (out : List (List Int)) (now : List Int), s.size ≤ i + d → i ≤ s.size → out.length ≤ i → now.length ≤ i →
    Ev (fun n => goRec impl_alternatives.step n (impl_alternatives.Pt.p19 s (i : Int) (out.map (List.map toP) ++ [now.map toP]))) (altP (pat ((octs s).drop i) out now)) := by
  intro d
  induction d with
  | zero =>
    intro i out now h h1 h2 h3
    obtain rfl : i = s.size := by omega
    refine Ev.step ?_
    simp only [impl_alternatives.step]
    refine Ev.no lt_no (Ev.pure' ?_)
    rw [octs_nil, pat_nil]; simp [altP]
  | succ d ih =>
    intro i out now h h1 h2 h3
    rcases Nat.eq_or_lt_of_le h1 with rfl | hi
    · refine Ev.step ?_
      simp only [impl_alternatives.step]
      refine Ev.no lt_no (Ev.pure' ?_)
      rw [octs_nil, pat_nil]; simp [altP]
    have one : ∀ (c : Int) (p : Int × Bool × Bool × Unit) (j : Nat), p = toP c → j ≤ s.size → i < j → s.size ≤ j + d → Ev (fun n => (impl_alternatives_1 n p (out.map (List.map toP) ++ [now.map toP])).bind fun r => goRec impl_alternatives.step n (impl_alternatives.Pt.p19 s (j : Int) r)) (altP (pat ((octs s).drop j) out (now ++ [c]))) := by
      rintro c p j rfl hj hij hjd
      refine Ev.bind (impl_alternatives_1.ev _ _ _ (by simp; omega) (by simp; omega)) ?_
      have := ih j out (now ++ [c]) (by omega) hj (by omega) (by simp; omega)
      rwa [List.map_append] at this
    refine Ev.step ?_
    simp only [impl_alternatives.step, i64_nat (show i ≤ 4611686018427387904 by omega)]
    rw [octs_drop hi, pat_cons]
    refine Ev.yes (lt_yes hi) (Ev.yes (inB_nat hi) (Ev.cnd (fun c => ?_) fun c => Ev.cnd (fun c2 => ?_) fun c2 => Ev.cnd (fun c3 => ?_) fun c3 => Ev.cnd (fun c4 => ?_) fun c4 => ?_))
    · rw [if_pos (by simpa using c)]
      refine Ev.yes (room_ok (by simp; omega)) ?_
      have := ih (i + 1) (out ++ [now]) [] (by omega) (by omega) (by simp; omega) (by simp)
      simpa using this
    · rw [if_neg (by simpa using c), if_pos (by simpa using c2)]
      exact one (-1) _ (i + 1) rfl (by omega) (by omega) (by omega)
    · rw [if_neg (by simpa using c), if_neg (by simpa using c2), if_pos (by simpa using c3)]
      exact one (-2) _ (i + 1) rfl (by omega) (by omega) (by omega)
    · rw [if_neg (by simpa using c), if_neg (by simpa using c2), if_neg (by simpa using c3), if_pos (by simpa using c4)]
      have bad : ∀ j : Int, Ev (fun n => goRec impl_alternatives.step n (impl_alternatives.Pt.p51 s j true (out.map (List.map toP) ++ [now.map toP]))) (altP none) := fun j => by
        refine Ev.step ?_
        simp only [impl_alternatives.step]
        exact Ev.yes rfl Ev.pure
      refine Ev.cnd (fun e => ?_) fun e => ?_
      · have e : i + 1 = s.size := by simp at e; omega
        rw [show (octs s).drop (i + 1) = [] by rw [e, octs_nil]]
        exact bad _
      · have hi1 : i + 1 < s.size := by simp at e; omega
        rw [octs_drop hi1]
        simp only
        have hr := bt_range (s := s) (i := ((i + 1 : Nat) : Int))
        generalize hq : bt s ((i + 1 : Nat) : Int) = q at hr
        refine Ev.yes (inB_nat hi1) (Ev.bind (strings_IndexByte.ev _ _) ?_)
        rw [index_specials _ hr]
        by_cases hg : q = 42 ∨ q = 63 ∨ q = 124 ∨ q = 92
        · rw [if_pos hg, show (!decide (q = 42 ∨ q = 63 ∨ q = 124 ∨ q = 92)) = false by simp [hg]]
          refine Ev.step ?_
          simp only [impl_alternatives.step, hq, i64_nat (show i + 1 ≤ 4611686018427387904 by omega)]
          refine Ev.no rfl (Ev.yes (inB_nat hi1) ?_)
          exact one q _ (i + 1 + 1) (by simp only [toP]; rw [if_neg (by omega), if_neg (by omega)]; rfl) (by omega) (by omega) (by omega)
        · rw [if_neg hg, show (!decide (q = 42 ∨ q = 63 ∨ q = 124 ∨ q = 92)) = true by simp [hg]]
          exact bad _
    · rw [if_neg (by simpa using c), if_neg (by simpa using c2), if_neg (by simpa using c3), if_neg (by simpa using c4)]
      have hr := bt_range (s := s) (i := (i : Int))
      exact one (bt s (i : Int)) _ (i + 1) (by simp only [toP]; rw [if_neg (by omega), if_neg (by omega)]; rfl) (by omega) (by omega) (by omega)
theorem impl_alternatives.ev (s : ByteArray) (hs : s.size ≤ 1048576) : Ev (fun n => impl_alternatives n s) (altP (alts s)) := by
  refine Ev.step ?_
  simp only [impl_alternatives.step]
  refine Ev.bind (impl_printed.ev s 100 hs (by omega)) (Ev.cnd (fun h => Ev.pure' ?_) fun h => ?_)
  · rw [alts, if_neg (by intro hh; simp [hh.1, hh.2] at h)]; rfl
  · have h : s.size ≤ 100 ∧ printB s = true := by simpa using h
    rw [alts, if_pos h]
    exact impl_alternatives.loop s h.1 s.size 0 [] [] (by omega) (by omega) (by simp) (by simp)
theorem impl_GoodPattern.ev (s : ByteArray) (hs : s.size ≤ 1048576) : Ev (fun n => impl_GoodPattern n s) (alts s).isSome := by
  refine Ev.step ?_
  simp only [impl_GoodPattern.step]
  refine Ev.bind (impl_alternatives.ev s hs) (Ev.pure' ?_)
  cases alts s <;> rfl
theorem impl_goodMatcher.ev (x : MT) (h : Sm 1048576 MU x) : Ev (fun n => impl_goodMatcher n x) (matcherB x) := by
  have h4 : ∀ b, b = !(nameB x.1 && decide (1 ≤ x.2.1) && decide (x.2.1 ≤ 4) && decide (x.2.2.1.size ≤ 100) && printB x.2.2.1) → Ev (fun n => goRec impl_goodMatcher.step n (impl_goodMatcher.Pt.p4 b x.1 x.2.1 x.2.2.1)) (matcherB x) := by
    rintro b rfl
    refine Ev.step ?_
    simp only [impl_goodMatcher.step]
    refine Ev.cnd (fun e => Ev.pure' ?_) fun e => Ev.cnd (fun e2 => Ev.pure' ?_) fun e2 => Ev.bind (impl_GoodPattern.ev _ h.2.2.1) (Ev.pure' ?_)
    · rw [Bool.not_eq_true'] at e
      rw [matcherB, e]; rfl
    · rw [Bool.not_eq_false'] at e
      rw [matcherB, e, e2]; rfl
    · rw [Bool.not_eq_false'] at e
      rw [matcherB, e, e2]; simp
  refine Ev.step ?_
  simp only [impl_goodMatcher.step]
  refine Ev.bind (impl_isName.ev _ h.1) (Ev.cnd (fun e => h4 _ (by simp at e; simp [e])) fun e1 => Ev.cnd (fun e => h4 _ (by simp at e; simp; omega)) fun e2 => Ev.cnd (fun e => h4 _ (by simp at e; simp; omega)) fun e3 => ?_)
  refine Ev.bind (impl_printed.ev _ 100 h.2.2.1 (by omega)) (h4 _ ?_)
  simp at e1 e2 e3
  simp [e1, e2, e3, Bool.and_assoc]
theorem impl_GoodMatchers_1.ev (x : MT) (h : Sm 1048576 MU x) : Ev (fun n => impl_GoodMatchers_1 n x) (!matcherB x) := by
  refine Ev.step ?_
  simp only [impl_GoodMatchers_1.step]
  exact Ev.bind (impl_goodMatcher.ev x h) Ev.pure
theorem slices_IndexFunc_Matcher_impl_GoodMatchers_1.ev (l : List ((ByteArray) × ((Int) × ((ByteArray) × (Unit)))))  (p : ((ByteArray) × ((Int) × ((ByteArray) × (Unit)))) → Bool) (hl : l.length ≤ 1048576) (hp : ∀ i, i < l.length → Ev (fun n => impl_GoodMatchers_1 n (l.getD i default)) (p (l.getD i default))) : Ev (fun n => slices_IndexFunc_Matcher_impl_GoodMatchers_1 n l) (match (List.range l.length).find? (fun i => p (l.getD i default)) with | some i => (i : Int) | none => -1) := by
  refine Ev.step ?_
  simp only [slices_IndexFunc_Matcher_impl_GoodMatchers_1.step]
  refine Ev.find (pt := fun i : Nat => slices_IndexFunc_Matcher_impl_GoodMatchers_1.Pt.p7 l ((List.length l) : Int) (i : Int)) (fun i hi => ⟨fun h v hv => ?_, fun h => ?_⟩) ?_
  · refine Ev.step ?_
    simp only [slices_IndexFunc_Matcher_impl_GoodMatchers_1.step, toNat_cast, i64_nat (show i ≤ 4611686018427387904 by omega)]
    exact Ev.yes (lt_yes hi) (Ev.yes (inB_nat hi) (Ev.bind (hp i hi) (Ev.no h hv)))
  · refine Ev.step ?_
    simp only [slices_IndexFunc_Matcher_impl_GoodMatchers_1.step, toNat_cast]
    exact Ev.yes (lt_yes hi) (Ev.yes (inB_nat hi) (Ev.bind (hp i hi) (Ev.yes h Ev.pure)))
  · refine Ev.step ?_
    simp only [slices_IndexFunc_Matcher_impl_GoodMatchers_1.step]
    exact Ev.no lt_no Ev.pure
theorem slices_ContainsFunc_Matcher_impl_GoodMatchers_1.ev (l : List ((ByteArray) × ((Int) × ((ByteArray) × (Unit)))))  (p : ((ByteArray) × ((Int) × ((ByteArray) × (Unit)))) → Bool) (hl : l.length ≤ 1048576) (hp : ∀ i, i < l.length → Ev (fun n => impl_GoodMatchers_1 n (l.getD i default)) (p (l.getD i default))) : Ev (fun n => slices_ContainsFunc_Matcher_impl_GoodMatchers_1 n l) ((List.range l.length).any fun i => p (l.getD i default)) := by
  refine Ev.step ?_
  simp only [slices_ContainsFunc_Matcher_impl_GoodMatchers_1.step]
  refine Ev.bind (slices_IndexFunc_Matcher_impl_GoodMatchers_1.ev l p hl hp) (Ev.pure' ?_)
  exact find_any
theorem impl_GoodMatchers.ev (l : List MT) (h : Sm 1048576 (.sl false MU) l) : Ev (fun n => impl_GoodMatchers n l) (matchersB l) := by
  refine Ev.step ?_
  simp only [impl_GoodMatchers.step]
  refine Ev.cnd (fun c => ?_) fun c => Ev.pure' (by simp at c; simp [matchersB]; omega)
  have h10 : l.length ≤ 10 := by simp at c; omega
  refine Ev.bind (slices_ContainsFunc_Matcher_impl_GoodMatchers_1.ev l (fun x => !matcherB x) (by omega) fun i hi => impl_GoodMatchers_1.ev _ (h.2 _ (getD_mem hi))) (Ev.pure' ?_)
  simp [matchersB, h10, List.all_eq_not_any_not]
theorem impl_rising_string.ev (l : List ByteArray) (h : Sm 1048576 (.sl false .str) l) : Ev (fun n => impl_rising_string n l) (risingB l) := by
  have hl : l.length ≤ 1048576 := h.1
  refine Ev.step ?_
  simp only [impl_rising_string.step]
  refine Ev.allN (pt := fun i : Nat => impl_rising_string.Pt.p7 l ((i + 1 : Nat) : Int)) (fun i hi => ⟨fun hp v hv => ?_, fun hp => ?_⟩) ?_
  · refine Ev.step ?_
    simp only [impl_rising_string.step, i64_pred (show i ≤ 4611686018427387904 by omega), i64_nat (show i + 1 ≤ 4611686018427387904 by omega), toNat_cast, slt_cmp]
    exact Ev.yes (lt_yes (by omega)) (Ev.yes (inB_nat (by omega)) (Ev.yes (inB_nat (by omega)) (Ev.no (by simp at hp; simp; omega) hv)))
  · refine Ev.step ?_
    simp only [impl_rising_string.step, i64_pred (show i ≤ 4611686018427387904 by omega), toNat_cast, slt_cmp]
    exact Ev.yes (lt_yes (by omega)) (Ev.yes (inB_nat (by omega)) (Ev.yes (inB_nat (by omega)) (Ev.yes (by simp at hp; simp; omega) Ev.pure)))
  · refine Ev.step ?_
    simp only [impl_rising_string.step]
    exact Ev.no (by simp; omega) Ev.pure
theorem impl_goodNames_1.ev (s : ByteArray) (h : s.size ≤ 1048576) : Ev (fun n => impl_goodNames_1 n s) (!nameB s) := by
  refine Ev.step ?_
  simp only [impl_goodNames_1.step]
  exact Ev.bind (impl_isName.ev s h) Ev.pure
theorem slices_IndexFunc_string_impl_goodNames_1.ev (l : List (ByteArray))  (p : (ByteArray) → Bool) (hl : l.length ≤ 1048576) (hp : ∀ i, i < l.length → Ev (fun n => impl_goodNames_1 n (l.getD i default)) (p (l.getD i default))) : Ev (fun n => slices_IndexFunc_string_impl_goodNames_1 n l) (match (List.range l.length).find? (fun i => p (l.getD i default)) with | some i => (i : Int) | none => -1) := by
  refine Ev.step ?_
  simp only [slices_IndexFunc_string_impl_goodNames_1.step]
  refine Ev.find (pt := fun i : Nat => slices_IndexFunc_string_impl_goodNames_1.Pt.p7 l ((List.length l) : Int) (i : Int)) (fun i hi => ⟨fun h v hv => ?_, fun h => ?_⟩) ?_
  · refine Ev.step ?_
    simp only [slices_IndexFunc_string_impl_goodNames_1.step, toNat_cast, i64_nat (show i ≤ 4611686018427387904 by omega)]
    exact Ev.yes (lt_yes hi) (Ev.yes (inB_nat hi) (Ev.bind (hp i hi) (Ev.no h hv)))
  · refine Ev.step ?_
    simp only [slices_IndexFunc_string_impl_goodNames_1.step, toNat_cast]
    exact Ev.yes (lt_yes hi) (Ev.yes (inB_nat hi) (Ev.bind (hp i hi) (Ev.yes h Ev.pure)))
  · refine Ev.step ?_
    simp only [slices_IndexFunc_string_impl_goodNames_1.step]
    exact Ev.no lt_no Ev.pure
theorem slices_ContainsFunc_string_impl_goodNames_1.ev (l : List (ByteArray))  (p : (ByteArray) → Bool) (hl : l.length ≤ 1048576) (hp : ∀ i, i < l.length → Ev (fun n => impl_goodNames_1 n (l.getD i default)) (p (l.getD i default))) : Ev (fun n => slices_ContainsFunc_string_impl_goodNames_1 n l) ((List.range l.length).any fun i => p (l.getD i default)) := by
  refine Ev.step ?_
  simp only [slices_ContainsFunc_string_impl_goodNames_1.step]
  refine Ev.bind (slices_IndexFunc_string_impl_goodNames_1.ev l p hl hp) (Ev.pure' ?_)
  exact find_any
theorem impl_goodNames.ev (l : List ByteArray) (h : Sm 1048576 (.sl false .str) l) : Ev (fun n => impl_goodNames n l) (namesB l) := by
  refine Ev.step ?_
  simp only [impl_goodNames.step]
  refine Ev.cnd (fun c => ?_) fun c => Ev.pure' (by have : ¬ l.length ≤ 10 := by simp at c; omega
                                                    simp [namesB, this])
  have h10 : l.length ≤ 10 := by simp at c; omega
  refine Ev.bind (impl_rising_string.ev l h) (Ev.cnd (fun c2 => ?_) fun c2 => Ev.pure' (by simp [namesB, c2]))
  refine Ev.bind (slices_ContainsFunc_string_impl_goodNames_1.ev l (fun x => !nameB x) (by omega) fun i hi => impl_goodNames_1.ev _ (h.2 _ (getD_mem hi))) (Ev.pure' ?_)
  simp [namesB, h10, c2, List.all_eq_not_any_not]
theorem impl_GoodInhibits_1.ev (x : INH) (hx : Sm 1048576 INU x) : Ev (fun n => impl_GoodInhibits_1 n x) (!inhB x) := by
  have hs := (inhB.eq_1 x).symm
  refine Ev.step ?_
  simp only [impl_GoodInhibits_1.step]
  refine Ev.cnd (fun e => Ev.pure' (by rw [← hs]; simp at e; simp [e])) fun e1 => Ev.cnd (fun e => Ev.pure' (by rw [← hs]; simp at e; simp [e])) fun e2 => ?_
  refine Ev.bind (impl_GoodMatchers.ev _ hx.1) (Ev.cnd (fun e => Ev.pure' (by rw [← hs]; simp at e; simp [e])) fun e3 => ?_)
  refine Ev.bind (impl_GoodMatchers.ev _ hx.2.1) (Ev.cnd (fun e => Ev.pure' (by rw [← hs]; simp at e; simp [e])) fun e4 => ?_)
  refine Ev.bind (impl_goodNames.ev _ hx.2.2.1) (Ev.pure' ?_)
  simp at e1 e2 e3 e4
  rw [← hs]; simp [e1, e2, e3, e4]
theorem slices_IndexFunc_Inhibit_impl_GoodInhibits_1.ev (l : List ((List ((ByteArray) × ((Int) × ((ByteArray) × (Unit))))) × ((List ((ByteArray) × ((Int) × ((ByteArray) × (Unit))))) × ((List (ByteArray)) × (Unit)))))  (p : ((List ((ByteArray) × ((Int) × ((ByteArray) × (Unit))))) × ((List ((ByteArray) × ((Int) × ((ByteArray) × (Unit))))) × ((List (ByteArray)) × (Unit)))) → Bool) (hl : l.length ≤ 1048576) (hp : ∀ i, i < l.length → Ev (fun n => impl_GoodInhibits_1 n (l.getD i default)) (p (l.getD i default))) : Ev (fun n => slices_IndexFunc_Inhibit_impl_GoodInhibits_1 n l) (match (List.range l.length).find? (fun i => p (l.getD i default)) with | some i => (i : Int) | none => -1) := by
  refine Ev.step ?_
  simp only [slices_IndexFunc_Inhibit_impl_GoodInhibits_1.step]
  refine Ev.find (pt := fun i : Nat => slices_IndexFunc_Inhibit_impl_GoodInhibits_1.Pt.p7 l ((List.length l) : Int) (i : Int)) (fun i hi => ⟨fun h v hv => ?_, fun h => ?_⟩) ?_
  · refine Ev.step ?_
    simp only [slices_IndexFunc_Inhibit_impl_GoodInhibits_1.step, toNat_cast, i64_nat (show i ≤ 4611686018427387904 by omega)]
    exact Ev.yes (lt_yes hi) (Ev.yes (inB_nat hi) (Ev.bind (hp i hi) (Ev.no h hv)))
  · refine Ev.step ?_
    simp only [slices_IndexFunc_Inhibit_impl_GoodInhibits_1.step, toNat_cast]
    exact Ev.yes (lt_yes hi) (Ev.yes (inB_nat hi) (Ev.bind (hp i hi) (Ev.yes h Ev.pure)))
  · refine Ev.step ?_
    simp only [slices_IndexFunc_Inhibit_impl_GoodInhibits_1.step]
    exact Ev.no lt_no Ev.pure
theorem slices_ContainsFunc_Inhibit_impl_GoodInhibits_1.ev (l : List ((List ((ByteArray) × ((Int) × ((ByteArray) × (Unit))))) × ((List ((ByteArray) × ((Int) × ((ByteArray) × (Unit))))) × ((List (ByteArray)) × (Unit)))))  (p : ((List ((ByteArray) × ((Int) × ((ByteArray) × (Unit))))) × ((List ((ByteArray) × ((Int) × ((ByteArray) × (Unit))))) × ((List (ByteArray)) × (Unit)))) → Bool) (hl : l.length ≤ 1048576) (hp : ∀ i, i < l.length → Ev (fun n => impl_GoodInhibits_1 n (l.getD i default)) (p (l.getD i default))) : Ev (fun n => slices_ContainsFunc_Inhibit_impl_GoodInhibits_1 n l) ((List.range l.length).any fun i => p (l.getD i default)) := by
  refine Ev.step ?_
  simp only [slices_ContainsFunc_Inhibit_impl_GoodInhibits_1.step]
  refine Ev.bind (slices_IndexFunc_Inhibit_impl_GoodInhibits_1.ev l p hl hp) (Ev.pure' ?_)
  exact find_any
theorem impl_GoodInhibits.ev (l : List INH) (h : Sm 1048576 (.sl false INU) l) : Ev (fun n => impl_GoodInhibits n l) (inhsB l) := by
  refine Ev.step ?_
  simp only [impl_GoodInhibits.step]
  refine Ev.cnd (fun c => ?_) fun c => Ev.pure' (by have : ¬ l.length ≤ 20 := by simp at c; omega
                                                    simp [inhsB, this])
  have h20 : l.length ≤ 20 := by simp at c; omega
  refine Ev.bind (slices_ContainsFunc_Inhibit_impl_GoodInhibits_1.ev l (fun x => !inhB x) (by omega) fun i hi => impl_GoodInhibits_1.ev _ (h.2 _ (getD_mem hi))) (Ev.pure' ?_)
  simp [inhsB, h20, List.all_eq_not_any_not]
theorem laws_eqMatcher.ev (x y : (ByteArray) × ((Int) × ((ByteArray) × (Unit)))) (hx : Sm 1048576 (.pair .str (.pair (.int .i64) (.pair .str .unit))) x) (hy : Sm 1048576 (.pair .str (.pair (.int .i64) (.pair .str .unit))) y) : Ev (fun n => laws_eqMatcher n x y) (eqB x y) := by
  refine Ev.step ?_
  simp only [laws_eqMatcher.step]
  refine Ev.cnd (fun h => Ev.pure' (eqB_no fun e => by subst e; simp [seq, eqB] at h).symm) fun h1 => ?_
  replace h1 : x.1 = y.1 := by simpa [seq, eqB] using h1
  refine Ev.cnd (fun h => Ev.pure' (eqB_no fun e => by subst e; simp [seq, eqB] at h).symm) fun h2 => ?_
  replace h2 : x.2.1 = y.2.1 := by simpa [seq, eqB] using h2
  refine Ev.cnd (fun h => Ev.pure' (eqB_no fun e => by subst e; simp [seq, eqB] at h).symm) fun h3 => ?_
  replace h3 : x.2.2.1 = y.2.2.1 := by simpa [seq, eqB] using h3
  exact Ev.pure' (eqB_yes (Prod.ext h1 (Prod.ext h2 (Prod.ext h3 rfl)))).symm
theorem laws_eqMatcherS.loop (l m : List ((ByteArray) × ((Int) × ((ByteArray) × (Unit))))) (hl : Sm 1048576 (.sl false (.pair .str (.pair (.int .i64) (.pair .str .unit)))) l) (hm : Sm 1048576 (.sl false (.pair .str (.pair (.int .i64) (.pair .str .unit)))) m) (hlm : l.length = m.length) : ∀ d i, i + d = l.length → (∀ j, j < i → l.getD j default = m.getD j default) → Ev (fun n => goRec laws_eqMatcherS.step n (.p15 l m (i : Int))) (eqB l m) := by
  have hk : l.length ≤ 1048576 := hl.1
  intro d
  induction d with
  | zero =>
    intro i hd hj
    rw [Nat.add_zero] at hd
    subst hd
    refine Ev.step ?_
    simp only [laws_eqMatcherS.step]
    exact Ev.no lt_no (Ev.pure' (eqB_yes (ext_getD (d := default) hlm (fun j hj2 => hj j (by omega)))).symm)
  | succ d ih =>
    intro i hd hj
    have hi : i < l.length := by omega
    refine Ev.step ?_
    simp only [laws_eqMatcherS.step, toNat_cast]
    refine Ev.yes (lt_yes hi) (Ev.yes (inB_nat hi) (Ev.yes (inB_nat (by omega)) ?_))
    refine Ev.bind (laws_eqMatcher.ev (l.getD i default) (m.getD i default) (hl.2 _ (getD_mem hi)) (hm.2 _ (getD_mem (by omega)))) ?_
    refine Ev.cnd (fun h => Ev.pure' (eqB_no fun e => by subst e; simp [seq, eqB] at h).symm) fun h => ?_
    rw [i64_nat (by omega)]
    refine ih (i + 1) (by omega) fun j hj2 => ?_
    by_cases e : j = i
    · subst e; simpa [seq, eqB] using h
    · exact hj j (by omega)
theorem laws_eqMatcherS.ev (l m : List ((ByteArray) × ((Int) × ((ByteArray) × (Unit))))) (hl : Sm 1048576 (.sl false (.pair .str (.pair (.int .i64) (.pair .str .unit)))) l) (hm : Sm 1048576 (.sl false (.pair .str (.pair (.int .i64) (.pair .str .unit)))) m) : Ev (fun n => laws_eqMatcherS n l m) (eqB l m) := by
  refine Ev.step ?_
  simp only [laws_eqMatcherS.step]
  refine Ev.cnd (fun h => Ev.pure' (eqB_no fun e => by subst e; simp at h).symm) fun h => ?_
  replace h : l.length = m.length := by simp at h; omega
  exact laws_eqMatcherS.loop l m hl hm h l.length 0 (by omega) (by omega)
theorem laws_eqStringS.loop (l m : List (ByteArray)) (hl : Sm 1048576 (.sl false .str) l) (hm : Sm 1048576 (.sl false .str) m) (hlm : l.length = m.length) : ∀ d i, i + d = l.length → (∀ j, j < i → l.getD j default = m.getD j default) → Ev (fun n => goRec laws_eqStringS.step n (.p15 l m (i : Int))) (eqB l m) := by
  have hk : l.length ≤ 1048576 := hl.1
  intro d
  induction d with
  | zero =>
    intro i hd hj
    rw [Nat.add_zero] at hd
    subst hd
    refine Ev.step ?_
    simp only [laws_eqStringS.step]
    exact Ev.no lt_no (Ev.pure' (eqB_yes (ext_getD (d := default) hlm (fun j hj2 => hj j (by omega)))).symm)
  | succ d ih =>
    intro i hd hj
    have hi : i < l.length := by omega
    refine Ev.step ?_
    simp only [laws_eqStringS.step, toNat_cast]
    refine Ev.yes (lt_yes hi) (Ev.yes (inB_nat hi) (Ev.yes (inB_nat (by omega)) ?_))
    refine Ev.cnd (fun h => Ev.pure' (eqB_no fun e => by subst e; simp [seq, eqB] at h).symm) fun h => ?_
    rw [i64_nat (by omega)]
    refine ih (i + 1) (by omega) fun j hj2 => ?_
    by_cases e : j = i
    · subst e; simpa [seq, eqB] using h
    · exact hj j (by omega)
theorem laws_eqStringS.ev (l m : List (ByteArray)) (hl : Sm 1048576 (.sl false .str) l) (hm : Sm 1048576 (.sl false .str) m) : Ev (fun n => laws_eqStringS n l m) (eqB l m) := by
  refine Ev.step ?_
  simp only [laws_eqStringS.step]
  refine Ev.cnd (fun h => Ev.pure' (eqB_no fun e => by subst e; simp at h).symm) fun h => ?_
  replace h : l.length = m.length := by simp at h; omega
  exact laws_eqStringS.loop l m hl hm h l.length 0 (by omega) (by omega)
theorem laws_eqInhibit.ev (x y : (List ((ByteArray) × ((Int) × ((ByteArray) × (Unit))))) × ((List ((ByteArray) × ((Int) × ((ByteArray) × (Unit))))) × ((List (ByteArray)) × (Unit)))) (hx : Sm 1048576 (.pair (.sl false (.pair .str (.pair (.int .i64) (.pair .str .unit)))) (.pair (.sl false (.pair .str (.pair (.int .i64) (.pair .str .unit)))) (.pair (.sl false .str) .unit))) x) (hy : Sm 1048576 (.pair (.sl false (.pair .str (.pair (.int .i64) (.pair .str .unit)))) (.pair (.sl false (.pair .str (.pair (.int .i64) (.pair .str .unit)))) (.pair (.sl false .str) .unit))) y) : Ev (fun n => laws_eqInhibit n x y) (eqB x y) := by
  refine Ev.step ?_
  simp only [laws_eqInhibit.step]
  refine Ev.bind (laws_eqMatcherS.ev x.1 y.1 hx.1 hy.1) ?_
  refine Ev.cnd (fun h => Ev.pure' (eqB_no fun e => by subst e; simp [seq, eqB] at h).symm) fun h1 => ?_
  replace h1 : x.1 = y.1 := by simpa [seq, eqB] using h1
  refine Ev.bind (laws_eqMatcherS.ev x.2.1 y.2.1 hx.2.1 hy.2.1) ?_
  refine Ev.cnd (fun h => Ev.pure' (eqB_no fun e => by subst e; simp [seq, eqB] at h).symm) fun h2 => ?_
  replace h2 : x.2.1 = y.2.1 := by simpa [seq, eqB] using h2
  refine Ev.bind (laws_eqStringS.ev x.2.2.1 y.2.2.1 hx.2.2.1 hy.2.2.1) ?_
  refine Ev.cnd (fun h => Ev.pure' (eqB_no fun e => by subst e; simp [seq, eqB] at h).symm) fun h3 => ?_
  replace h3 : x.2.2.1 = y.2.2.1 := by simpa [seq, eqB] using h3
  exact Ev.pure' (eqB_yes (Prod.ext h1 (Prod.ext h2 (Prod.ext h3 rfl)))).symm
theorem laws_eqInhibitS.loop (l m : List ((List ((ByteArray) × ((Int) × ((ByteArray) × (Unit))))) × ((List ((ByteArray) × ((Int) × ((ByteArray) × (Unit))))) × ((List (ByteArray)) × (Unit))))) (hl : Sm 1048576 (.sl false (.pair (.sl false (.pair .str (.pair (.int .i64) (.pair .str .unit)))) (.pair (.sl false (.pair .str (.pair (.int .i64) (.pair .str .unit)))) (.pair (.sl false .str) .unit)))) l) (hm : Sm 1048576 (.sl false (.pair (.sl false (.pair .str (.pair (.int .i64) (.pair .str .unit)))) (.pair (.sl false (.pair .str (.pair (.int .i64) (.pair .str .unit)))) (.pair (.sl false .str) .unit)))) m) (hlm : l.length = m.length) : ∀ d i, i + d = l.length → (∀ j, j < i → l.getD j default = m.getD j default) → Ev (fun n => goRec laws_eqInhibitS.step n (.p15 l m (i : Int))) (eqB l m) := by
  have hk : l.length ≤ 1048576 := hl.1
  intro d
  induction d with
  | zero =>
    intro i hd hj
    rw [Nat.add_zero] at hd
    subst hd
    refine Ev.step ?_
    simp only [laws_eqInhibitS.step]
    exact Ev.no lt_no (Ev.pure' (eqB_yes (ext_getD (d := default) hlm (fun j hj2 => hj j (by omega)))).symm)
  | succ d ih =>
    intro i hd hj
    have hi : i < l.length := by omega
    refine Ev.step ?_
    simp only [laws_eqInhibitS.step, toNat_cast]
    refine Ev.yes (lt_yes hi) (Ev.yes (inB_nat hi) (Ev.yes (inB_nat (by omega)) ?_))
    refine Ev.bind (laws_eqInhibit.ev (l.getD i default) (m.getD i default) (hl.2 _ (getD_mem hi)) (hm.2 _ (getD_mem (by omega)))) ?_
    refine Ev.cnd (fun h => Ev.pure' (eqB_no fun e => by subst e; simp [seq, eqB] at h).symm) fun h => ?_
    rw [i64_nat (by omega)]
    refine ih (i + 1) (by omega) fun j hj2 => ?_
    by_cases e : j = i
    · subst e; simpa [seq, eqB] using h
    · exact hj j (by omega)
theorem laws_eqInhibitS.ev (l m : List ((List ((ByteArray) × ((Int) × ((ByteArray) × (Unit))))) × ((List ((ByteArray) × ((Int) × ((ByteArray) × (Unit))))) × ((List (ByteArray)) × (Unit))))) (hl : Sm 1048576 (.sl false (.pair (.sl false (.pair .str (.pair (.int .i64) (.pair .str .unit)))) (.pair (.sl false (.pair .str (.pair (.int .i64) (.pair .str .unit)))) (.pair (.sl false .str) .unit)))) l) (hm : Sm 1048576 (.sl false (.pair (.sl false (.pair .str (.pair (.int .i64) (.pair .str .unit)))) (.pair (.sl false (.pair .str (.pair (.int .i64) (.pair .str .unit)))) (.pair (.sl false .str) .unit)))) m) : Ev (fun n => laws_eqInhibitS n l m) (eqB l m) := by
  refine Ev.step ?_
  simp only [laws_eqInhibitS.step]
  refine Ev.cnd (fun h => Ev.pure' (eqB_no fun e => by subst e; simp at h).symm) fun h => ?_
  replace h : l.length = m.length := by simp at h; omega
  exact laws_eqInhibitS.loop l m hl hm h l.length 0 (by omega) (by omega)
theorem laws_FnExactGoodInhibits.ev (l : List ((List ((ByteArray) × ((Int) × ((ByteArray) × (Unit))))) × ((List ((ByteArray) × ((Int) × ((ByteArray) × (Unit))))) × ((List (ByteArray)) × (Unit))))) (hw : Wf (.sl false (.pair (.sl false (.pair .str (.pair (.int .i64) (.pair .str .unit)))) (.pair (.sl false (.pair .str (.pair (.int .i64) (.pair .str .unit)))) (.pair (.sl false .str) .unit)))) l) : Ev (fun n => laws_FnExactGoodInhibits n l) true := by
  refine Ev.step ?_
  simp only [laws_FnExactGoodInhibits.step]
  obtain ⟨r, h1, h2, h3⟩ := laws_szInhibitS.ev l 1048576 (by omega) (by omega) hw
  refine Ev.bind h1 (Ev.cnd (fun _ => Ev.pure) fun c => ?_)
  have hs := h3 (by simpa using c)
  refine Ev.bind (laws_toInhibitS.ev l hs) (Ev.bind (spec_GoodInhibits.ev l hs) (Ev.bind (laws_toInhibitS.ev l hs) (Ev.bind (impl_GoodInhibits.ev l hs) (Ev.no (by simp) (Ev.bind (laws_toInhibitS.ev l hs) (Ev.bind (laws_eqInhibitS.ev l l hs hs) (Ev.no (by simp [eqB]) Ev.pure)))))))
end Go.GI
