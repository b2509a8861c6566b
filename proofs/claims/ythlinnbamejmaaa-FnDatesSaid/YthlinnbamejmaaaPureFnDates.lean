/- Proved: for every code of choices, the date of the drawn time is that many days behind the first one, and the next day has the next weekday. Conditions: none beyond the law's own guard. -/
import Derived.Test.YthlinnbamejmaaaPFnDatesx6
import Derived.Laws.BitsLemmas
namespace Go.Proofs.Ythlinnbamejmaaa.Pure
open Go.RowKit Go.Proofs.Ythlinnbamejmaaa.PFnDates Go.Proofs.YthlinnbamejmaaaW.PrintWords Go.Proofs.YthlinnbamejmaaaW.PrintLast

/-! ### small words -/
theorem wrap_in {n : Int} (h : -9223372036854775808 ≤ n) (h' : n < 9223372036854775808) : wrap64 n = n := by unfold wrap64; omega
theorem Ev.succ {α : Type} {g : Nat → Option α} {r : α} (h : Ev (fun k => g (k + 1)) r) : Ev g r := Ev.step (fun _ => rfl) h
theorem wf_i64 {n : Int} (h : (Lit.int .i64 n).wf = true) : -9223372036854775808 ≤ n ∧ n ≤ 9223372036854775807 := by
  have h2 : decide (IntKind.i64.min ≤ n) && decide (n ≤ IntKind.i64.max) := h
  rw [Bool.and_eq_true] at h2
  have a : IntKind.i64.min ≤ n := of_decide_eq_true h2.1
  have b : n ≤ IntKind.i64.max := of_decide_eq_true h2.2
  have ea : IntKind.i64.min = -9223372036854775808 := by decide
  have eb : IntKind.i64.max = 9223372036854775807 := by decide
  omega
theorem dropAt {α : Type} (l : List α) (d : α) (i : Nat) (h : i < l.length) : l.drop i = l.getD i d :: l.drop (i + 1) := by
  rw [List.drop_eq_getElem_cons h]; simp [h]
theorem dropEnd {α : Type} (l : List α) (i : Nat) (h : l.length ≤ i) : l.drop i = [] := List.drop_eq_nil_of_le h
theorem set_take {α : Type} (l : List α) (i : Nat) (v : α) (h : i < l.length) : (l.set i v).take (i + 1) = l.take i ++ [v] := by
  apply List.ext_getElem?
  intro j
  simp only [List.getElem?_take, List.getElem?_set, List.getElem?_append, List.length_take]
  by_cases c : j < i
  · rw [if_pos (by omega), if_neg (by omega), if_pos (by omega), if_pos c]
  · by_cases e : j = i
    · subst e
      rw [if_pos (by omega), if_pos rfl, if_pos h, if_neg (by omega)]
      simp [Nat.min_eq_left (Nat.le_of_lt h)]
    · rw [if_neg (by omega), if_neg (by omega)]
      rw [List.getElem?_eq_none]
      simp; omega
theorem rd_nat (l : List Int) (i : Nat) : rd l (i : Int) = l.getD i 0 := by unfold rd; simp

/-! ### years and months, as numbers -/
def lp (y : Int) : Int := if y % 4 = 0 ∧ (y % 100 ≠ 0 ∨ y % 400 = 0) then 1 else 0
def yl (y : Int) : Int := 365 + lp y
def dto (y : Int) : Int := (y - 1970) * 365 + ((y - 1) / 4 - (y - 1) / 100 + (y - 1) / 400) - 477
def mon (y m : Int) : Int := if m = 2 then 28 + lp y else if m = 4 ∨ m = 6 ∨ m = 9 ∨ m = 11 then 30 else 31

theorem lp_01 (y : Int) : lp y = 0 ∨ lp y = 1 := by unfold lp; split <;> simp
theorem dto_succ (y : Int) : dto (y + 1) = dto y + yl y := by unfold dto yl lp; split <;> omega
theorem dto_1970 : dto 1970 = 0 := by decide
theorem mon_bd (y m : Int) : 28 ≤ mon y m ∧ mon y m ≤ 31 := by
  have := lp_01 y
  unfold mon; split
  · omega
  · split <;> omega
theorem dto_bd (y : Int) (h : 1970 ≤ y) : 365 * (y - 1970) ≤ dto y ∧ dto y ≤ 366 * (y - 1970) := by unfold dto; omega

theorem leap_is (y : Int) (h : 0 ≤ y) : spec_l19Leap.f y = some (decide (lp y = 1)) := by
  unfold spec_l19Leap.f lp
  rw [Int.tmod_eq_emod_of_nonneg h, Int.tmod_eq_emod_of_nonneg h, Int.tmod_eq_emod_of_nonneg h]
  by_cases h4 : y % 4 = 0
  · rw [if_pos h4]
    by_cases h100 : y % 100 = 0
    · rw [if_pos h100]
      by_cases h400 : y % 400 = 0
      · simp [h4, h400]
      · simp [h100, h400]
    · rw [if_neg h100]
      simp [h4, h100]
  · rw [if_neg h4]
    simp [h4]
theorem leap_is' (y : Int) (h : 0 ≤ y) : impl_leap.f y = some (decide (lp y = 1)) := leap_is y h

theorem year_is (y : Int) (h : 0 ≤ y) : spec_l19Year.f y = some (yl y) := by
  unfold spec_l19Year.f
  rw [leap_is y h]
  simp only [Option.bind_some, decide_eq_true_eq]
  unfold yl
  rcases lp_01 y with e | e <;> simp [e]

theorem month_is (y m : Int) (h : 0 ≤ y) (h1 : 1 ≤ m) (h2 : m ≤ 12) : spec_l19Month.f y m = some (mon y m) := by
  unfold spec_l19Month.f
  rw [leap_is y h]
  have hm : m = 1 ∨ m = 2 ∨ m = 3 ∨ m = 4 ∨ m = 5 ∨ m = 6 ∨ m = 7 ∨ m = 8 ∨ m = 9 ∨ m = 10 ∨ m = 11 ∨ m = 12 := by omega
  rcases lp_01 y with e | e <;> rcases hm with rfl | rfl | rfl | rfl | rfl | rfl | rfl | rfl | rfl | rfl | rfl | rfl <;> simp [mon, e, rd]

theorem month_is' (y m : Int) (h : 0 ≤ y) (h1 : 1 ≤ m) (h2 : m ≤ 12) : impl_daysIn.f y m = some (mon y m) := by
  unfold impl_daysIn.f impl_daysIn.pick
  rw [leap_is' y h]
  have hm : m = 1 ∨ m = 2 ∨ m = 3 ∨ m = 4 ∨ m = 5 ∨ m = 6 ∨ m = 7 ∨ m = 8 ∨ m = 9 ∨ m = 10 ∨ m = 11 ∨ m = 12 := by omega
  rcases lp_01 y with e | e <;> rcases hm with rfl | rfl | rfl | rfl | rfl | rfl | rfl | rfl | rfl | rfl | rfl | rfl <;> simp [mon, e, rd, impl_daysIn.tab]

theorem daysTo_is (y : Int) (h : 1970 ≤ y) (h' : y ≤ 100000) : impl_daysTo.f y = some (dto y) := by
  unfold impl_daysTo.f dto
  have t (c : Int) (hc : 0 ≤ y - 1) : Int.tdiv (y - 1) c = (y - 1) / c := Int.tdiv_eq_ediv_of_nonneg hc
  rw [wrap_in (n := y - 1970) (by omega) (by omega), wrap_in (n := y - 1) (by omega) (by omega), t 4 (by omega), t 100 (by omega), t 400 (by omega)]
  rw [wrap_in (n := (y - 1970) * 365) (by omega) (by omega), wrap_in (n := (y - 1) / 4) (by omega) (by omega), wrap_in (n := (y - 1) / 100) (by omega) (by omega), wrap_in (n := (y - 1) / 400) (by omega) (by omega)]
  rw [wrap_in (n := (y - 1) / 4 - (y - 1) / 100) (by omega) (by omega), wrap_in (n := (y - 1) / 4 - (y - 1) / 100 + (y - 1) / 400) (by omega) (by omega), wrap_in (n := (y - 1970) * 365 + ((y - 1) / 4 - (y - 1) / 100 + (y - 1) / 400)) (by omega) (by omega), wrap_in (by omega) (by omega)]

/-! ### DayNumber -/
theorem dn_months (y m : Int) (hy : 0 ≤ y) (hm : m ≤ 12) (d : Nat) : ∀ (n i : Int), 1 ≤ i → (m - i).toNat ≤ d → 0 ≤ n → n ≤ 100000000 + 31 * i →
    ∃ r, Ev (fun k => spec_DayNumber.l1 k y m n i) r ∧ Ev (fun k => impl_DayNumber.l0 k y m n i) r := by
  induction d with
  | zero =>
    intro n i h1 hd h0 hn
    refine ⟨n, Ev.succ ?_, Ev.succ ?_⟩
    · simp only [spec_DayNumber.l1, show ¬ i < m by omega, if_false]; exact Ev.now _
    · simp only [impl_DayNumber.l0, show ¬ i < m by omega, if_false]; exact Ev.now _
  | succ d ih =>
    intro n i h1 hd h0 hn
    by_cases c : i < m
    · have hb := mon_bd y i
      obtain ⟨r, e1, e2⟩ := ih (n + mon y i) (i + 1) (by omega) (by omega) (by omega) (by omega)
      refine ⟨r, Ev.succ ?_, Ev.succ ?_⟩
      · simp only [spec_DayNumber.l1, c, if_true, month_is y i hy h1 (by omega), Option.bind_some, wrap_in (n := n + mon y i) (by omega) (by omega), wrap_in (n := i + 1) (by omega) (by omega)]; exact e1
      · simp only [impl_DayNumber.l0, c, if_true, month_is' y i hy h1 (by omega), Option.bind_some, wrap_in (n := n + mon y i) (by omega) (by omega), wrap_in (n := i + 1) (by omega) (by omega)]; exact e2
    · refine ⟨n, Ev.succ ?_, Ev.succ ?_⟩
      · simp only [spec_DayNumber.l1, c, if_false]; exact Ev.now _
      · simp only [impl_DayNumber.l0, c, if_false]; exact Ev.now _

theorem dn_years (y m : Int) (hy' : y ≤ 40000) (r : Int) (d : Nat) : ∀ (n i : Int), 1970 ≤ i → i ≤ y → (y - i).toNat ≤ d → 0 ≤ n → n ≤ 32 + 366 * (i - 1970) → Ev (fun k => spec_DayNumber.l1 k y m (n + dto y - dto i) 1) r →
    Ev (fun k => spec_DayNumber.l0 k y m n i) r := by
  induction d with
  | zero =>
    intro n i h1 hi hd h0 hn e
    have : i = y := by omega
    subst this
    refine Ev.succ ?_
    simp only [spec_DayNumber.l0, show ¬ i < i by omega, if_false]
    rw [show n + dto i - dto i = n by omega] at e; exact e
  | succ d ih =>
    intro n i h1 hi hd h0 hn e
    by_cases c : i < y
    · have hl := lp_01 i
      have hyl : yl i = 365 + lp i := rfl
      have hs := dto_succ i
      refine Ev.succ ?_
      simp only [spec_DayNumber.l0, c, if_true, year_is i (by omega), Option.bind_some, wrap_in (n := n + yl i) (by omega) (by omega), wrap_in (n := i + 1) (by omega) (by omega)]
      refine ih (n + yl i) (i + 1) (by omega) (by omega) (by omega) (by omega) (by omega) ?_
      rw [hs, show n + yl i + dto y - (dto i + yl i) = n + dto y - dto i by omega]; exact e
    · have : i = y := by omega
      subst this
      refine Ev.succ ?_
      simp only [spec_DayNumber.l0, show ¬ i < i by omega, if_false]
      rw [show n + dto i - dto i = n by omega] at e; exact e

theorem dayNumber_same (y m d : Int) : ∃ r, Ev (fun k => spec_DayNumber.f k y m d) r ∧ Ev (fun k => impl_DayNumber.f k y m d) r := by
  have no1 : Ev (fun k => spec_DayNumber.j0 k y m d true) (-1) := Ev.succ (by simp only [spec_DayNumber.j0, if_true]; exact Ev.now _)
  have no2 : Ev (fun k => impl_DayNumber.j0 k y m d true) (-1) := Ev.succ (by simp only [impl_DayNumber.j0, if_true]; exact Ev.now _)
  unfold spec_DayNumber.f impl_DayNumber.f
  by_cases c1 : y < 1970
  · simp only [c1, if_true]; exact ⟨_, no1, no2⟩
  by_cases c2 : y > 40000
  · simp only [c1, c2, if_true, if_false]; exact ⟨_, no1, no2⟩
  by_cases c3 : m < 1
  · simp only [c1, c2, c3, if_true, if_false]; exact ⟨_, no1, no2⟩
  by_cases c4 : m > 12
  · simp only [c1, c2, c3, c4, if_true, if_false]; exact ⟨_, no1, no2⟩
  by_cases c5 : d < 1
  · simp only [c1, c2, c3, c4, c5, if_true, if_false]; exact ⟨_, no1, no2⟩
  simp only [c1, c2, c3, c4, c5, if_false, month_is y m (by omega) (by omega) (by omega), month_is' y m (by omega) (by omega) (by omega), Option.bind_some]
  have hb := mon_bd y m
  by_cases c6 : d > mon y m
  · simp only [c6, decide_true]; exact ⟨_, no1, no2⟩
  · simp only [c6, decide_false]
    have hd := dto_bd y (by omega)
    obtain ⟨r, e1, e2⟩ := dn_months y m (by omega) (by omega) (m - 1).toNat (dto y + d - 1) 1 (by omega) (by omega) (by omega) (by omega)
    refine ⟨r, Ev.succ ?_, Ev.succ ?_⟩
    · simp only [spec_DayNumber.j0, Bool.false_eq_true, if_false, wrap_in (n := d - 1) (by omega) (by omega)]
      refine dn_years y m (by omega) r (y - 1970).toNat (d - 1) 1970 (by omega) (by omega) (by omega) (by omega) (by omega) ?_
      rw [dto_1970, show d - 1 + dto y - 0 = dto y + d - 1 by omega]; exact e1
    · simp only [impl_DayNumber.j0, Bool.false_eq_true, if_false, daysTo_is y (by omega) (by omega), Option.bind_some, wrap_in (n := dto y + d) (by omega) (by omega), wrap_in (n := dto y + d - 1) (by omega) (by omega)]; exact e2

/-! ### DateOf -/
/-- The year in which a day is. -/
theorem dto_mono (a : Int) (d : Nat) : dto a + 365 * d ≤ dto (a + d) := by
  induction d with
  | zero => simp
  | succ d ih =>
    have h := dto_succ (a + d)
    have hl := lp_01 (a + d)
    have hyl : yl (a + d) = 365 + lp (a + d) := rfl
    rw [show a + ((d + 1 : Nat) : Int) = a + d + 1 by omega]
    omega
theorem dto_lt (a b : Int) (h : a ≤ b) : dto a + 365 * (b - a) ≤ dto b := by
  have := dto_mono a (b - a).toNat
  rw [show a + ((b - a).toNat : Int) = b by omega] at this
  omega

theorem year_of (day : Int) (h : 0 ≤ day) : ∃ y, 1970 ≤ y ∧ dto y ≤ day ∧ day < dto (y + 1) := by
  have key : ∀ d : Nat, dto 1970 ≤ day ∧ day < dto (1970 + d) → ∃ y, 1970 ≤ y ∧ dto y ≤ day ∧ day < dto (y + 1) := by
    intro d
    induction d with
    | zero => intro ⟨h1, h2⟩; simp at h2; omega
    | succ d ih =>
      intro ⟨h1, h2⟩
      by_cases c : day < dto (1970 + d)
      · exact ih ⟨h1, c⟩
      · exact ⟨1970 + d, by omega, by omega, by rw [show (1970 : Int) + d + 1 = 1970 + ((d + 1 : Nat) : Int) by omega]; exact h2⟩
  refine key (day.toNat + 1) ⟨by rw [dto_1970]; exact h, ?_⟩
  have := dto_mono 1970 (day.toNat + 1)
  rw [dto_1970] at this
  omega

/-- The loop over the months, both ways at once: where it stops. -/
def cumd (y m : Int) : Int := if m ≤ 1 then 0 else if m = 2 then 31 else if m = 3 then 59 + lp y else if m = 4 then 90 + lp y else if m = 5 then 120 + lp y else if m = 6 then 151 + lp y else if m = 7 then 181 + lp y else if m = 8 then 212 + lp y else if m = 9 then 243 + lp y else if m = 10 then 273 + lp y else if m = 11 then 304 + lp y else if m = 12 then 334 + lp y else 365 + lp y
theorem cumd_succ (y m : Int) (h1 : 1 ≤ m) (h2 : m ≤ 12) : cumd y (m + 1) = cumd y m + mon y m := by
  have hm : m = 1 ∨ m = 2 ∨ m = 3 ∨ m = 4 ∨ m = 5 ∨ m = 6 ∨ m = 7 ∨ m = 8 ∨ m = 9 ∨ m = 10 ∨ m = 11 ∨ m = 12 := by omega
  rcases hm with rfl | rfl | rfl | rfl | rfl | rfl | rfl | rfl | rfl | rfl | rfl | rfl <;> simp [cumd, mon] <;> omega
theorem ite_nn {c : Prop} [Decidable c] {a b : Int} (ha : 0 ≤ a) (hb : 0 ≤ b) : 0 ≤ (if c then a else b) := by split <;> assumption
theorem cumd_nn (y m : Int) : 0 ≤ cumd y m := by
  have := lp_01 y
  unfold cumd
  iterate 12 (refine ite_nn (by omega) ?_)
  omega

theorem month_of (y n : Int) (h : 0 ≤ n) (h' : n < yl y) : ∃ m, 1 ≤ m ∧ m ≤ 12 ∧ cumd y m ≤ n ∧ n < cumd y m + mon y m := by
  have h13 : cumd y 13 = yl y := by simp [cumd, yl]
  have h1 : cumd y 1 = 0 := by simp [cumd]
  have key : ∀ d : Nat, d ≤ 12 → n < cumd y (1 + d) → ∃ m, 1 ≤ m ∧ m ≤ 12 ∧ cumd y m ≤ n ∧ n < cumd y m + mon y m := by
    intro d
    induction d with
    | zero => intro _ h2; simp at h2; omega
    | succ d ih =>
      intro hd h2
      by_cases c : n < cumd y (1 + d)
      · exact ih (by omega) c
      · refine ⟨1 + d, by omega, by omega, by omega, ?_⟩
        rw [← cumd_succ y (1 + d) (by omega) (by omega), show (1 : Int) + d + 1 = 1 + ((d + 1 : Nat) : Int) by omega]; exact h2
  exact key 12 (Nat.le_refl _) (by rw [show (1 : Int) + ((12 : Nat) : Int) = 13 from rfl, h13]; exact h')

theorem mon_lt (y m i n : Int) (h1 : 1 ≤ i) (hi : i < m) (h2 : m ≤ 12) (hm : cumd y m ≤ n) : mon y i ≤ n - cumd y i := by
  have key : ∀ d : Nat, i + d + 1 ≤ m → cumd y (i + 1) ≤ cumd y (i + 1 + d) := by
    intro d
    induction d with
    | zero => intro _; simp
    | succ d ih =>
      intro hd
      have := cumd_succ y (i + 1 + d) (by omega) (by omega)
      have hb := mon_bd y (i + 1 + d)
      rw [show i + 1 + ((d + 1 : Nat) : Int) = i + 1 + d + 1 by omega]
      have := ih (by omega)
      omega
  have a := key (m - i - 1).toNat (by omega)
  rw [show i + 1 + ((m - i - 1).toNat : Int) = m by omega] at a
  have b := cumd_succ y i h1 (by omega)
  omega

theorem spec_months (y m n w mi : Int) (hy : 0 ≤ y) (h1 : 1 ≤ m) (h2 : m ≤ 12) (hn : 0 ≤ n) (hn' : n < 400) (hm : cumd y m ≤ n) (hm' : n < cumd y m + mon y m) (d : Nat) : ∀ i : Int, 1 ≤ i → i ≤ m → (m - i).toNat ≤ d →
    Ev (fun k => spec_DateOf.l1 k (n - cumd y i) y i 0 0 w mi) (y, m, n - cumd y m + 1, mon y m, w, mi) := by
  induction d with
  | zero =>
    intro i hi hi' hd
    have : i = m := by omega
    subst this
    have hc := cumd_nn y i
    refine Ev.succ ?_
    simp only [spec_DateOf.l1, month_is y i hy h1 h2, Option.bind_some, show ¬ n - cumd y i ≥ mon y i by omega, if_false, wrap_in (n := n - cumd y i + 1) (by omega) (by omega)]
    exact Ev.now _
  | succ d ih =>
    intro i hi hi' hd
    by_cases c : i = m
    · subst c
      have hc := cumd_nn y i
      refine Ev.succ ?_
      simp only [spec_DateOf.l1, month_is y i hy h1 h2, Option.bind_some, show ¬ n - cumd y i ≥ mon y i by omega, if_false, wrap_in (n := n - cumd y i + 1) (by omega) (by omega)]
      exact Ev.now _
    · have hlt := mon_lt y m i n hi (by omega) h2 hm
      have hs := cumd_succ y i hi (by omega)
      have hc := cumd_nn y i
      have hb := mon_bd y i
      have e := ih (i + 1) (by omega) (by omega) (by omega)
      rw [hs, show n - (cumd y i + mon y i) = n - cumd y i - mon y i by omega] at e
      refine Ev.succ ?_
      simp only [spec_DateOf.l1, month_is y i hy hi (by omega), Option.bind_some, show n - cumd y i ≥ mon y i by omega, if_true, wrap_in (n := n - cumd y i - mon y i) (by omega) (by omega), wrap_in (n := i + 1) (by omega) (by omega)]
      exact e

theorem impl_months (t day y m n : Int) (hy : 0 ≤ y) (h1 : 1 ≤ m) (h2 : m ≤ 12) (hn : 0 ≤ n) (hn' : n < 400) (hm : cumd y m ≤ n) (hm' : n < cumd y m + mon y m) (d : Nat) : ∀ i : Int, 1 ≤ i → i ≤ m → (m - i).toNat ≤ d →
    Ev (fun k => impl_DateOf.l1 k t day y (n - cumd y i) i) (y, m, n - cumd y m + 1, mon y m, Int.tmod (wrap64 (day + 4)) 7, wrap64 (Int.tdiv (Int.tmod t 86400) 60)) := by
  induction d with
  | zero =>
    intro i hi hi' hd
    have : i = m := by omega
    subst this
    have hc := cumd_nn y i
    refine Ev.succ ?_
    simp only [impl_DateOf.l1, month_is' y i hy h1 h2, Option.bind_some, show ¬ n - cumd y i ≥ mon y i by omega, if_false, wrap_in (n := n - cumd y i + 1) (by omega) (by omega)]
    exact Ev.now _
  | succ d ih =>
    intro i hi hi' hd
    by_cases c : i = m
    · subst c
      have hc := cumd_nn y i
      refine Ev.succ ?_
      simp only [impl_DateOf.l1, month_is' y i hy h1 h2, Option.bind_some, show ¬ n - cumd y i ≥ mon y i by omega, if_false, wrap_in (n := n - cumd y i + 1) (by omega) (by omega)]
      exact Ev.now _
    · have hlt := mon_lt y m i n hi (by omega) h2 hm
      have hs := cumd_succ y i hi (by omega)
      have hc := cumd_nn y i
      have hb := mon_bd y i
      have e := ih (i + 1) (by omega) (by omega) (by omega)
      rw [hs, show n - (cumd y i + mon y i) = n - cumd y i - mon y i by omega] at e
      refine Ev.succ ?_
      simp only [impl_DateOf.l1, month_is' y i hy hi (by omega), Option.bind_some, show n - cumd y i ≥ mon y i by omega, if_true, wrap_in (n := n - cumd y i - mon y i) (by omega) (by omega), wrap_in (n := i + 1) (by omega) (by omega)]
      exact e

theorem spec_years (day y w mi : Int) (r) (hd0 : 0 ≤ day) (hd1 : day ≤ 20000000) (h1 : dto y ≤ day) (h2 : day < dto (y + 1)) (e : Ev (fun k => spec_DateOf.l1 k (day - dto y) y 1 0 0 w mi) r) (d : Nat) : ∀ i : Int, 1970 ≤ i → i ≤ y → (y - i).toNat ≤ d →
    Ev (fun k => spec_DateOf.l0 k (day - dto i) i 1 0 0 w mi) r := by
  induction d with
  | zero =>
    intro i hi hi' hd
    have : i = y := by omega
    subst this
    have hs := dto_succ i
    refine Ev.succ ?_
    simp only [spec_DateOf.l0, year_is i (by omega), Option.bind_some, show ¬ day - dto i ≥ yl i by omega, if_false]
    exact e
  | succ d ih =>
    intro i hi hi' hd
    by_cases c : i = y
    · subst c
      have hs := dto_succ i
      refine Ev.succ ?_
      simp only [spec_DateOf.l0, year_is i (by omega), Option.bind_some, show ¬ day - dto i ≥ yl i by omega, if_false]
      exact e
    · have hs := dto_succ i
      have hl := dto_lt (i + 1) y (by omega)
      have hb := dto_bd i hi
      have hly := lp_01 i
      have hyl : yl i = 365 + lp i := rfl
      have e2 := ih (i + 1) (by omega) (by omega) (by omega)
      rw [hs, show day - (dto i + yl i) = day - dto i - yl i by omega] at e2
      have hb2 := dto_bd y (by omega)
      refine Ev.succ ?_
      simp only [spec_DateOf.l0, year_is i (by omega), Option.bind_some, show day - dto i ≥ yl i by omega, if_true, wrap_in (n := day - dto i - yl i) (by omega) (by omega), wrap_in (n := i + 1) (by omega) (by omega)]
      exact e2

theorem impl_years (t day y : Int) (r) (hd0 : 0 ≤ day) (hd1 : day ≤ 20000000) (hy : 1970 ≤ y) (hy' : y ≤ 60000) (h1 : dto y ≤ day) (h2 : day < dto (y + 1)) (e : Ev (fun k => impl_DateOf.l1 k t day y (day - dto y) 1) r) (d : Nat) : ∀ i : Int, 1970 ≤ i → i ≤ y → (y - i).toNat ≤ d →
    Ev (fun k => impl_DateOf.l0 k t day i) r := by
  have hb := dto_bd y hy
  induction d with
  | zero =>
    intro i hi hi' hd
    have : i = y := by omega
    subst this
    refine Ev.succ ?_
    simp only [impl_DateOf.l0, wrap_in (n := i + 1) (by omega) (by omega), daysTo_is (i + 1) (by omega) (by omega), Option.bind_some, show ¬ dto (i + 1) ≤ day by omega, if_false, daysTo_is i hi (by omega), wrap_in (n := day - dto i) (by omega) (by omega)]
    exact e
  | succ d ih =>
    intro i hi hi' hd
    by_cases c : i = y
    · subst c
      refine Ev.succ ?_
      simp only [impl_DateOf.l0, wrap_in (n := i + 1) (by omega) (by omega), daysTo_is (i + 1) (by omega) (by omega), Option.bind_some, show ¬ dto (i + 1) ≤ day by omega, if_false, daysTo_is i hi (by omega), wrap_in (n := day - dto i) (by omega) (by omega)]
      exact e
    · have hl := dto_lt (i + 1) y (by omega)
      have e2 := ih (i + 1) (by omega) (by omega) (by omega)
      refine Ev.succ ?_
      simp only [impl_DateOf.l0, wrap_in (n := i + 1) (by omega) (by omega), daysTo_is (i + 1) (by omega) (by omega), Option.bind_some, show dto (i + 1) ≤ day by omega, if_true]
      exact e2

/-- What a date says of its time. -/
structure DateSays (t z : Int) (r : Int × Int × Int × Int × Int × Int) : Prop where
  year : 1970 ≤ r.1 ∧ r.1 ≤ 60000
  month : 1 ≤ r.2.1 ∧ r.2.1 ≤ 12
  day : 1 ≤ r.2.2.1 ∧ r.2.2.1 ≤ mon r.1 r.2.1
  last : r.2.2.2.1 = mon r.1 r.2.1
  at_ : dto r.1 + cumd r.1 r.2.1 + r.2.2.1 - 1 = (t + 60 * z) / 86400
  week : r.2.2.2.2.1 = ((t + 60 * z) / 86400 + 4) % 7
  minute : r.2.2.2.2.2 = (t + 60 * z) % 86400 / 60

def dateIn (t z : Int) : Prop := 0 ≤ t ∧ t ≤ 1000000000000 ∧ -1440 ≤ z ∧ z ≤ 1440 ∧ 0 ≤ t + 60 * z

theorem time_is (a : Int) : spec_l3Time.f a = some (decide (0 ≤ a ∧ a ≤ 1000000000000)) := by
  unfold spec_l3Time.f
  split
  · congr 1; simp; omega
  · congr 1; simp; omega
theorem time_is' (a : Int) : impl_isTime.f a = some (decide (0 ≤ a ∧ a ≤ 1000000000000)) := time_is a

theorem date_in (t z : Int) (h : dateIn t z) : ∃ r, DateSays t z r ∧ Ev (fun k => spec_DateOf.f k t z) r ∧ Ev (fun k => impl_DateOf.f k t z) r := by
  obtain ⟨h1, h2, h3, h4, h5⟩ := h
  have hmin : ((t + 60 * z) / 60 / 1440) = (t + 60 * z) / 86400 := by omega
  obtain ⟨y, hy, hy1, hy2⟩ := year_of ((t + 60 * z) / 86400) (by omega)
  have hyb := dto_bd y hy
  have hs := dto_succ y
  have hlp := lp_01 y
  have hyl : yl y = 365 + lp y := rfl
  obtain ⟨m, hm1, hm2, hm3, hm4⟩ := month_of y ((t + 60 * z) / 86400 - dto y) (by omega) (by omega)
  have hmb := mon_bd y m
  have c1 : cumd y 1 = 0 := by simp [cumd]
  have es := spec_months y m ((t + 60 * z) / 86400 - dto y) (((t + 60 * z) / 86400 + 4) % 7) ((t + 60 * z) / 60 % 1440) (by omega) hm1 hm2 (by omega) (by omega) hm3 hm4 (m - 1).toNat 1 (by omega) (by omega) (by omega)
  have ei := impl_months (t + 60 * z) ((t + 60 * z) / 86400) y m ((t + 60 * z) / 86400 - dto y) (by omega) hm1 hm2 (by omega) (by omega) hm3 hm4 (m - 1).toNat 1 (by omega) (by omega) (by omega)
  rw [c1, show (t + 60 * z) / 86400 - dto y - 0 = (t + 60 * z) / 86400 - dto y by omega] at es ei
  have ei' : Ev (fun k => impl_DateOf.l1 k (t + 60 * z) ((t + 60 * z) / 86400) y ((t + 60 * z) / 86400 - dto y) 1) (y, m, (t + 60 * z) / 86400 - dto y - cumd y m + 1, mon y m, ((t + 60 * z) / 86400 + 4) % 7, (t + 60 * z) / 60 % 1440) := by
    have a : Int.tmod (wrap64 ((t + 60 * z) / 86400 + 4)) 7 = ((t + 60 * z) / 86400 + 4) % 7 := by
      rw [wrap_in (by omega) (by omega), Int.tmod_eq_emod_of_nonneg (by omega)]
    have b : wrap64 (Int.tdiv (Int.tmod (t + 60 * z) 86400) 60) = (t + 60 * z) / 60 % 1440 := by
      rw [Int.tmod_eq_emod_of_nonneg (by omega), Int.tdiv_eq_ediv_of_nonneg (by omega), wrap_in (by omega) (by omega)]; omega
    rw [a, b] at ei
    exact ei
  have fs := spec_years ((t + 60 * z) / 86400) y _ _ _ (by omega) (by omega) hy1 hy2 es (y - 1970).toNat 1970 (by omega) hy (by omega)
  rw [dto_1970, show (t + 60 * z) / 86400 - 0 = (t + 60 * z) / 86400 by omega] at fs
  have hg : 1970 + (t + 60 * z) / 86400 / 366 ≤ y := by
    by_cases c : 1970 + (t + 60 * z) / 86400 / 366 ≤ y
    · exact c
    · have a := dto_lt (y + 1) (1970 + (t + 60 * z) / 86400 / 366) (by omega)
      have b := dto_bd (1970 + (t + 60 * z) / 86400 / 366) (by omega)
      omega
  have fi := impl_years (t + 60 * z) ((t + 60 * z) / 86400) y _ (by omega) (by omega) hy (by omega) hy1 hy2 ei' (y - (1970 + (t + 60 * z) / 86400 / 366)).toNat (1970 + (t + 60 * z) / 86400 / 366) (by omega) hg (by omega)
  have w1 : wrap64 (60 * z) = 60 * z := wrap_in (by omega) (by omega)
  have w2 : wrap64 (t + 60 * z) = t + 60 * z := wrap_in (by omega) (by omega)
  have w3 : wrap64 (Int.tdiv (t + 60 * z) 60) = (t + 60 * z) / 60 := by rw [Int.tdiv_eq_ediv_of_nonneg h5, wrap_in (by omega) (by omega)]
  have w4 : wrap64 (Int.tdiv ((t + 60 * z) / 60) 1440) = (t + 60 * z) / 86400 := by rw [Int.tdiv_eq_ediv_of_nonneg (by omega), wrap_in (by omega) (by omega)]; omega
  have w5 : wrap64 (Int.tdiv (t + 60 * z) 86400) = (t + 60 * z) / 86400 := by rw [Int.tdiv_eq_ediv_of_nonneg h5, wrap_in (by omega) (by omega)]
  have w6 : Int.tmod (wrap64 ((t + 60 * z) / 86400 + 4)) 7 = ((t + 60 * z) / 86400 + 4) % 7 := by rw [wrap_in (by omega) (by omega), Int.tmod_eq_emod_of_nonneg (by omega)]
  have w7 : Int.tmod ((t + 60 * z) / 60) 1440 = (t + 60 * z) / 60 % 1440 := Int.tmod_eq_emod_of_nonneg (by omega)
  have w8 : wrap64 (Int.tdiv ((t + 60 * z) / 86400) 366) = (t + 60 * z) / 86400 / 366 := by rw [Int.tdiv_eq_ediv_of_nonneg (by omega), wrap_in (by omega) (by omega)]
  have w9 : wrap64 (1970 + (t + 60 * z) / 86400 / 366) = 1970 + (t + 60 * z) / 86400 / 366 := wrap_in (by omega) (by omega)
  have hin : (0 ≤ t ∧ t ≤ 1000000000000) := ⟨h1, h2⟩
  refine ⟨(y, m, (t + 60 * z) / 86400 - dto y - cumd y m + 1, mon y m, ((t + 60 * z) / 86400 + 4) % 7, (t + 60 * z) / 60 % 1440), ?_, Ev.congr (f := fun k => spec_DateOf.j0 k t z false) (fun k => ?_) (Ev.succ ?_), Ev.congr (f := fun k => impl_DateOf.j0 k t z false) (fun k => ?_) (Ev.succ ?_)⟩
  · exact ⟨⟨hy, by show y ≤ 60000; omega⟩, ⟨hm1, hm2⟩, ⟨by show 1 ≤ (t + 60 * z) / 86400 - dto y - cumd y m + 1; omega, by show (t + 60 * z) / 86400 - dto y - cumd y m + 1 ≤ mon y m; omega⟩, rfl, by show dto y + cumd y m + ((t + 60 * z) / 86400 - dto y - cumd y m + 1) - 1 = _; omega, rfl, by show (t + 60 * z) / 60 % 1440 = _; omega⟩
  · unfold spec_DateOf.f
    rw [time_is, decide_eq_true hin]
    simp only [Option.bind_some, if_true, w1, w2, show ¬ z < -1440 by omega, show ¬ z > 1440 by omega, if_false, show ¬ t + 60 * z < 0 by omega, decide_false]
  · simp only [spec_DateOf.j0, Bool.false_eq_true, if_false, w1, w2, w3, w4, w6, w7]
    exact fs
  · unfold impl_DateOf.f
    rw [time_is', decide_eq_true hin]
    simp only [Option.bind_some, if_true, w1, w2, show ¬ z < -1440 by omega, show ¬ z > 1440 by omega, if_false, show ¬ t + 60 * z < 0 by omega, decide_false]
  · simp only [impl_DateOf.j0, Bool.false_eq_true, if_false, w1, w2, w5, w8, w9]
    exact fi

theorem date_out (t z : Int) (h : ¬ dateIn t z) (hz : -9223372036854775808 ≤ z ∧ z ≤ 9223372036854775807) : Ev (fun k => spec_DateOf.f k t z) (0, 0, 0, 0, 0, 0) ∧ Ev (fun k => impl_DateOf.f k t z) (0, 0, 0, 0, 0, 0) := by
  have no1 : Ev (fun k => spec_DateOf.j0 k t z true) (0, 0, 0, 0, 0, 0) := Ev.succ (by simp only [spec_DateOf.j0, if_true]; exact Ev.now _)
  have no2 : Ev (fun k => impl_DateOf.j0 k t z true) (0, 0, 0, 0, 0, 0) := Ev.succ (by simp only [impl_DateOf.j0, if_true]; exact Ev.now _)
  unfold spec_DateOf.f impl_DateOf.f
  rw [time_is, time_is']
  by_cases c1 : 0 ≤ t ∧ t ≤ 1000000000000
  · rw [decide_eq_true c1]
    simp only [Option.bind_some, if_true]
    by_cases c2 : z < -1440
    · simp only [c2, if_true]; exact ⟨no1, no2⟩
    by_cases c3 : z > 1440
    · simp only [c2, c3, if_true, if_false]; exact ⟨no1, no2⟩
    · have c4 : t + 60 * z < 0 := by
        by_cases c : t + 60 * z < 0
        · exact c
        · exact absurd ⟨c1.1, c1.2, by omega, by omega, by omega⟩ h
      simp only [c2, c3, if_false, wrap_in (n := 60 * z) (by omega) (by omega), wrap_in (n := t + 60 * z) (by omega) (by omega), c4, decide_true]
      exact ⟨no1, no2⟩
  · rw [decide_eq_false c1]
    simp only [Option.bind_some, Bool.false_eq_true, if_false]
    exact ⟨no1, no2⟩

/-! ### the reader of choices -/
theorem wrap_u64 (n : Int) : IntKind.u64.wrap n = n % 18446744073709551616 := by simp [IntKind.wrap, IntKind.bits, IntKind.signed]
theorem and255 (x : Int) (h0 : 0 ≤ x) (h1 : x < 18446744073709551616) : Go.bits .and .u64 x 255 = x % 256 :=
  Go.bits_mask .u64 64 (by decide) (fun n h0 h1 => by
    rw [wrap_u64]
    have : (2 : Int) ^ 64 = 18446744073709551616 := by decide
    omega) 8 (by decide) x h0 (by
    have : (2 : Int) ^ 64 = 18446744073709551616 := by decide
    omega)
theorem bits_range (x : Int) : 0 ≤ Go.bits .and .u64 (IntKind.u64.wrap x / 1099511627776) 255 ∧ Go.bits .and .u64 (IntKind.u64.wrap x / 1099511627776) 255 ≤ 255 := by
  rw [wrap_u64, and255 _ (by omega) (by omega)]
  omega
def Bytes (l : List Int) : Prop := l.length ≤ 140737488355328 ∧ ∀ x ∈ l, 0 ≤ x ∧ x ≤ 255
theorem bytes_wf (l : List Int) (h1 : l.length ≤ 140737488355328) (h : ∀ x ∈ l, (Lit.int .u8 x).wf = true) : Bytes l := by
  refine ⟨h1, fun x hx => ?_⟩
  have h2 : (decide (IntKind.u8.min ≤ x) && decide (x ≤ IntKind.u8.max)) = true := h x hx
  rw [Bool.and_eq_true] at h2
  have a : IntKind.u8.min ≤ x := of_decide_eq_true h2.1
  have b : x ≤ IntKind.u8.max := of_decide_eq_true h2.2
  have ea : IntKind.u8.min = 0 := by decide
  have eb : IntKind.u8.max = 255 := by decide
  omega
theorem rd_byte {l : List Int} (h : Bytes l) (a : Int) (h0 : 0 ≤ a) (h1 : a < l.length) : 0 ≤ rd l a ∧ rd l a ≤ 255 := by
  have hlt : a.toNat < l.length := by omega
  have : rd l a = l[a.toNat] := by
    unfold rd
    rw [List.getD_eq_getElem?_getD, List.getElem?_eq_getElem hlt]; rfl
  rw [this]
  exact h.2 _ (List.getElem_mem hlt)

theorem next_tell {l : List Int} (hl : Bytes l) (a s : Int) (h0 : 0 ≤ a) (ha : a ≤ 4611686018427387904) : ∃ r s', spec_l1Cur_next.f l a s = some (r, a + 1, s') ∧ 0 ≤ r ∧ r ≤ 255 := by
  unfold spec_l1Cur_next.f
  rw [wrap_in (n := a + 1) (by omega) (by omega)]
  by_cases c : a < (l.length : Int)
  · have hb := rd_byte hl a h0 c
    rw [if_pos c, if_pos h0, if_pos (by omega), wrap_in (n := rd l a) (by omega) (by omega)]
    exact ⟨_, _, rfl, hb.1, hb.2⟩
  · rw [if_neg c]
    by_cases c2 : a + 1 ≤ (l.length : Int)
    · omega
    · rw [if_neg c2]
      have hb := bits_range (IntKind.u64.wrap (IntKind.u64.wrap (s * 6364136223846793005)) + 1442695040888963407)
      rw [wrap_in (by omega) (by omega)]
      exact ⟨_, _, rfl, hb.1, hb.2⟩

theorem pick_tell {l : List Int} (hl : Bytes l) (a s n : Int) (h0 : 0 ≤ a) (ha : a ≤ 4611686018427380000) : ∃ r a' s', spec_l1Cur_pick.f l a s n = some (r, a', s') ∧ 0 ≤ r ∧ (r < n ∨ r = 0) ∧ a ≤ a' ∧ a' ≤ a + 2 := by
  unfold spec_l1Cur_pick.f
  by_cases c : n ≤ 1
  · rw [if_pos c]; exact ⟨0, a, s, rfl, by omega, Or.inr rfl, by omega, by omega⟩
  · rw [if_neg c]
    obtain ⟨r, s1, e1, r0, r1⟩ := next_tell hl a s h0 (by omega)
    rw [e1]
    simp only [Option.bind_some]
    by_cases c2 : n > 200
    · rw [if_pos c2]
      obtain ⟨q, s2, e2, q0, q1⟩ := next_tell hl (a + 1) s1 (by omega) (by omega)
      rw [e2]
      simp only [Option.bind_some]
      rw [if_neg (by omega), wrap_in (n := r * 256) (by omega) (by omega), wrap_in (n := r * 256 + q) (by omega) (by omega), Int.tmod_eq_emod_of_nonneg (by omega)]
      exact ⟨_, _, _, rfl, Int.emod_nonneg _ (by omega), Or.inl (Int.emod_lt_of_pos _ (by omega)), by omega, by omega⟩
    · rw [if_neg c2, if_neg (by omega), Int.tmod_eq_emod_of_nonneg r0]
      exact ⟨_, _, _, rfl, Int.emod_nonneg _ (by omega), Or.inl (Int.emod_lt_of_pos _ (by omega)), by omega, by omega⟩

theorem one_tell {l : List Int} (hl : Bytes l) (a s n : Int) (h0 : 0 ≤ a) (ha : a ≤ 4611686018427380000) : ∃ b a' s', spec_l1Cur_one.f l a s n = some (b, a', s') ∧ a ≤ a' ∧ a' ≤ a + 2 := by
  obtain ⟨r, a', s', e, _, _, h1, h2⟩ := pick_tell hl a s n h0 ha
  unfold spec_l1Cur_one.f
  rw [e]; exact ⟨_, _, _, rfl, h1, h2⟩
theorem rare_tell {l : List Int} (hl : Bytes l) (a s n : Int) (hn : 2 ≤ n) (hn' : n ≤ 1000000) (h0 : 0 ≤ a) (ha : a ≤ 4611686018427370000) : ∃ r a' s', spec_l1Cur_rare.f l a s n = some (r, a', s') ∧ 0 ≤ r ∧ r < n ∧ a ≤ a' ∧ a' ≤ a + 4 := by
  obtain ⟨b, a1, s1, e, h1, h2⟩ := one_tell hl a s 8 h0 (by omega)
  unfold spec_l1Cur_rare.f
  rw [e]; simp only [Option.bind_some]
  cases b with
  | false => exact ⟨0, a1, s1, rfl, by omega, by omega, by omega, by omega⟩
  | true =>
    rw [wrap_in (n := n - 1) (by omega) (by omega)]
    obtain ⟨r, a2, s2, e2, r0, r1, h3, h4⟩ := pick_tell hl a1 s1 (n - 1) (by omega) (by omega)
    rw [if_pos rfl, e2]; simp only [Option.bind_some]
    rw [wrap_in (n := 1 + r) (by omega) (by omega)]
    exact ⟨1 + r, a2, s2, rfl, by omega, by omega, by omega, by omega⟩

/-! ### a date's own day -/
theorem dn_value (y m n : Int) (hy : 0 ≤ y) (hm1 : 1 ≤ m) (hm : m ≤ 12) (hn : 0 ≤ n) (hn' : n ≤ 100000000) (d : Nat) : ∀ i : Int, 1 ≤ i → i ≤ m → (m - i).toNat ≤ d →
    Ev (fun k => impl_DayNumber.l0 k y m (n + cumd y i) i) (n + cumd y m) := by
  induction d with
  | zero =>
    intro i h1 hi hd
    have : i = m := by omega
    subst this
    refine Ev.succ ?_
    simp only [impl_DayNumber.l0, show ¬ i < i by omega, if_false]; exact Ev.now _
  | succ d ih =>
    intro i h1 hi hd
    by_cases c : i = m
    · subst c
      refine Ev.succ ?_
      simp only [impl_DayNumber.l0, show ¬ i < i by omega, if_false]; exact Ev.now _
    · have hb := mon_bd y i
      have hs := cumd_succ y i h1 (by omega)
      have hc := cumd_nn y i
      have hc2 : cumd y i ≤ 372 := by
        have hl := lp_01 y
        have hi : i = 1 ∨ i = 2 ∨ i = 3 ∨ i = 4 ∨ i = 5 ∨ i = 6 ∨ i = 7 ∨ i = 8 ∨ i = 9 ∨ i = 10 ∨ i = 11 ∨ i = 12 := by omega
        rcases hi with rfl | rfl | rfl | rfl | rfl | rfl | rfl | rfl | rfl | rfl | rfl | rfl <;> simp [cumd] <;> omega
      have e := ih (i + 1) (by omega) (by omega) (by omega)
      rw [hs] at e
      refine Ev.succ ?_
      simp only [impl_DayNumber.l0, show i < m by omega, if_true, month_is' y i hy h1 (by omega), Option.bind_some, wrap_in (n := n + cumd y i + mon y i) (by omega) (by omega), wrap_in (n := i + 1) (by omega) (by omega)]
      rw [show n + cumd y i + mon y i = n + (cumd y i + mon y i) by omega]
      exact e
theorem dayNumber_of (y m d : Int) (hy : 1970 ≤ y) (hy' : y ≤ 40000) (hm1 : 1 ≤ m) (hm : m ≤ 12) (hd1 : 1 ≤ d) (hd : d ≤ mon y m) : Ev (fun k => impl_DayNumber.f k y m d) (dto y + cumd y m + d - 1) := by
  have hb := mon_bd y m
  have hD := dto_bd y hy
  have c1 : cumd y 1 = 0 := by simp [cumd]
  have e := dn_value y m (dto y + d - 1) (by omega) hm1 hm (by omega) (by omega) (m - 1).toNat 1 (by omega) hm1 (by omega)
  rw [c1, show dto y + d - 1 + 0 = dto y + d - 1 by omega, show dto y + d - 1 + cumd y m = dto y + cumd y m + d - 1 by omega] at e
  unfold impl_DayNumber.f
  simp only [show ¬ y < 1970 by omega, show ¬ y > 40000 by omega, show ¬ m < 1 by omega, show ¬ m > 12 by omega, show ¬ d < 1 by omega, if_false, month_is' y m (by omega) hm1 hm, Option.bind_some, show ¬ d > mon y m by omega, decide_false]
  refine Ev.succ ?_
  simp only [impl_DayNumber.j0, Bool.false_eq_true, if_false, daysTo_is y hy (by omega), Option.bind_some, wrap_in (n := dto y + d) (by omega) (by omega), wrap_in (n := dto y + d - 1) (by omega) (by omega)]
  exact e

/-! ### what is drawn -/
theorem day_drawn {l : List Int} (hl : Bytes l) (a s : Int) (h0 : 0 ≤ a) (ha : a ≤ 1000) : ∃ t a' s', Ev (fun k => spec_l1Cur_day.f k l a s) (t, a', s') ∧ a ≤ a' ∧ a' ≤ a + 20 := by
  obtain ⟨p1, a1, s1, e1, _, _, g1, g1'⟩ := pick_tell hl a s 100 h0 (by omega)
  obtain ⟨p2, a2, s2, e2, _, _, g2, g2'⟩ := pick_tell hl a1 s1 366 (by omega) (by omega)
  obtain ⟨p3, a3, s3, e3, _, _, g3, g3'⟩ := pick_tell hl a2 s2 86400 (by omega) (by omega)
  obtain ⟨p4, a4, s4, e4, _, _, g4, g4'⟩ := pick_tell hl a3 s3 12 (by omega) (by omega)
  unfold spec_l1Cur_day.f
  simp only [e1, e2, e3, e4, Option.bind_some]
  by_cases c0 : p4 = 0
  · obtain ⟨p5, a5, s5, e5, _, _, g5, g5'⟩ := pick_tell hl a4 s4 200 (by omega) (by omega)
    simp only [c0, if_true, e5, Option.bind_some]
    exact ⟨_, _, _, Ev.now _, by omega, by omega⟩
  by_cases c1 : p4 = 1
  · obtain ⟨p5, a5, s5, e5, _, _, g5, g5'⟩ := pick_tell hl a4 s4 100000 (by omega) (by omega)
    simp only [c1, show ¬ (1 : Int) = 0 by omega, if_true, if_false, e5, Option.bind_some]
    exact ⟨_, _, _, Ev.now _, by omega, by omega⟩
  by_cases c2 : p4 = 2
  · obtain ⟨p5, a5, s5, e5, _, _, g5, g5'⟩ := pick_tell hl a4 s4 140 (by omega) (by omega)
    obtain ⟨p6, a6, s6, e6, _, _, g6, g6'⟩ := pick_tell hl a5 s5 345600 (by omega) (by omega)
    obtain ⟨dn, ed, _⟩ := dayNumber_same (wrap64 (1970 + p5)) 2 27
    simp only [c2, show ¬ (2 : Int) = 0 by omega, show ¬ (2 : Int) = 1 by omega, if_true, if_false, e5, Option.bind_some]
    refine ⟨wrap64 (wrap64 (dn * 86400) + p6), a6, s6, Ev.bind ed ?_, by omega, by omega⟩
    simp only [e6, Option.bind_some]; exact Ev.now _
  · simp only [c0, c1, c2, if_false]
    exact ⟨_, _, _, Ev.now _, by omega, by omega⟩

theorem date_drawn {l : List Int} (hl : Bytes l) : ∃ t z, Ev (fun k => spec_DrawDateOf.f k l) (t, z) ∧ -2000 ≤ z ∧ z ≤ 2000 := by
  obtain ⟨t, a1, s1, e1, g1, g1'⟩ := day_drawn hl 0 0 (by omega) (by omega)
  obtain ⟨r1, a2, s2, e2, r10, r11, g2, g2'⟩ := rare_tell hl a1 s1 4 (by omega) (by omega) (by omega) (by omega)
  obtain ⟨p, a3, s3, e3, p0, p1, g3, g3'⟩ := pick_tell hl a2 s2 2881 (by omega) (by omega)
  obtain ⟨r2, a4, s4, e4, r20, r21, g4, g4'⟩ := rare_tell hl a3 s3 3 (by omega) (by omega) (by omega) (by omega)
  have hz : -2000 ≤ rd [wrap64 (p - 1440), (-1441), 1441] r2 ∧ rd [wrap64 (p - 1440), (-1441), 1441] r2 ≤ 2000 := by
    rw [wrap_in (n := p - 1440) (by omega) (by omega)]
    have : r2 = 0 ∨ r2 = 1 ∨ r2 = 2 := by omega
    rcases this with rfl | rfl | rfl <;> simp [rd] <;> omega
  refine ⟨rd [t, (-1), 1000000000000, 1000000000001] r1, rd [wrap64 (p - 1440), (-1441), 1441] r2, ?_, hz.1, hz.2⟩
  unfold spec_DrawDateOf.f
  refine Ev.bind e1 ?_
  simp only [Option.bind_some, e2, e3, e4, r10, r20, if_true, List.length_cons, List.length_nil, show r1 < ((0 + 1 + 1 + 1 + 1 : Nat) : Int) by omega, show r2 < ((0 + 1 + 1 + 1 : Nat) : Int) by omega]
  exact Ev.now _

theorem FnDates : laws_FnDates.Pure := by
  intro l h1 _ h3
  have hl : Bytes l := bytes_wf l (by unfold maxLen at h1; omega) h3
  obtain ⟨t, z, ed, z0, z1⟩ := date_drawn hl
  refine Ev.rounds (r := true) ?_
  unfold laws_FnDates.f
  by_cases c : (l.length : Int) > 1048576
  · simp only [c, if_true]; exact Ev.now _
  simp only [c, if_false]
  refine Ev.bind ed ?_
  simp only []
  by_cases hin : dateIn t z
  · obtain ⟨d, hd, e1, e2⟩ := date_in t z hin
    obtain ⟨i1, i2, i3, i4, i5⟩ := hin
    refine Ev.bind e2 (Ev.bind e1 ?_)
    simp only [beq_self_eq_true, Bool.not_true, Bool.or_self, Bool.false_eq_true, if_false]
    refine Ev.bind e1 ?_
    have hy := hd.year; have hm := hd.month; have hdy := hd.day; have hat := hd.at_
    have hyb := dto_bd d.1 hy.1
    have hcn := cumd_nn d.1 d.2.1
    simp only [show ¬ d.1 = 0 by omega, if_false]
    refine Ev.bind (dayNumber_of d.1 d.2.1 d.2.2.1 hy.1 (by omega) hm.1 hm.2 hdy.1 hdy.2) ?_
    have w1 : wrap64 (60 * z) = 60 * z := wrap_in (by omega) (by omega)
    have w2 : wrap64 (t + 60 * z) = t + 60 * z := wrap_in (by omega) (by omega)
    have w3 : wrap64 (Int.tdiv (t + 60 * z) 86400) = (t + 60 * z) / 86400 := by rw [Int.tdiv_eq_ediv_of_nonneg i5, wrap_in (by omega) (by omega)]
    have w4 : wrap64 (Int.tdiv (Int.tmod (t + 60 * z) 86400) 60) = (t + 60 * z) % 86400 / 60 := by
      rw [Int.tmod_eq_emod_of_nonneg i5, Int.tdiv_eq_ediv_of_nonneg (by omega), wrap_in (by omega) (by omega)]
    simp only [w1, w2, w3, w4, hat, hd.minute, if_true, show ¬ d.2.2.1 < 1 by omega, if_false, hd.last, show ¬ d.2.2.1 > mon d.1 d.2.1 by omega, decide_false]
    refine Ev.succ ?_
    simp only [laws_FnDates.j0, Bool.false_eq_true, if_false, wrap_in (n := t + 86400) (by omega) (by omega)]
    by_cases c2 : t + 86400 > 1000000000000
    · simp only [c2, if_true]; exact Ev.now _
    · simp only [c2, if_false]
      obtain ⟨d2, hd2, _, e3⟩ := date_in (t + 86400) z ⟨by omega, by omega, i3, i4, by omega⟩
      refine Ev.bind e3 ?_
      have wk : d2.2.2.2.2.1 = Int.tmod (wrap64 (d.2.2.2.2.1 + 1)) 7 := by
        rw [hd2.week, hd.week, wrap_in (by omega) (by omega), Int.tmod_eq_emod_of_nonneg (by omega)]; omega
      have mn : d2.2.2.2.2.2 = (t + 60 * z) % 86400 / 60 := by rw [hd2.minute]; omega
      simp only [wk, mn, if_true, beq_self_eq_true]
      exact Ev.now _
  · obtain ⟨e1, e2⟩ := date_out t z hin ⟨by omega, by omega⟩
    refine Ev.bind e2 (Ev.bind e1 ?_)
    simp only [beq_self_eq_true, Bool.not_true, Bool.or_self, Bool.false_eq_true, if_false]
    refine Ev.bind e1 ?_
    simp only [if_true]
    exact Ev.now _

end Go.Proofs.Ythlinnbamejmaaa.Pure
