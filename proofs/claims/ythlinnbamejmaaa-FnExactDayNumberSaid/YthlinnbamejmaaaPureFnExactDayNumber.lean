/- Proved: for all whole numbers year, month, day, the program's DayNumber answers what the reference's answers. Conditions: none. -/
import Derived.Test.YthlinnbamejmaaaPFnExactDayNumberx1
namespace Go.Proofs.Ythlinnbamejmaaa.Pure
open Go.RowKit Go.Proofs.Ythlinnbamejmaaa.PFnExactDayNumber Go.Proofs.YthlinnbamejmaaaW.PrintWords Go.Proofs.YthlinnbamejmaaaW.PrintLast

theorem wrap_in {n : Int} (h : -9223372036854775808 ≤ n) (h' : n < 9223372036854775808) : wrap64 n = n := by unfold wrap64; omega
theorem Ev.succ {α : Type} {g : Nat → Option α} {r : α} (h : Ev (fun k => g (k + 1)) r) : Ev g r := Ev.step (fun _ => rfl) h

/-! ### years and months, as numbers -/
def lp (y : Int) : Int := if y % 4 = 0 ∧ (y % 100 ≠ 0 ∨ y % 400 = 0) then 1 else 0
def yl (y : Int) : Int := 365 + lp y
def dto (y : Int) : Int := (y - 1970) * 365 + ((y - 1) / 4 - (y - 1) / 100 + (y - 1) / 400) - 477
def mon (y m : Int) : Int := if m = 2 then 28 + lp y else if m = 4 ∨ m = 6 ∨ m = 9 ∨ m = 11 then 30 else 31

theorem lp_01 (y : Int) : lp y = 0 ∨ lp y = 1 := by unfold lp; split <;> simp
theorem dto_succ (y : Int) : dto (y + 1) = dto y + yl y := by unfold dto yl lp; split <;> omega
theorem dto_1970 : dto 1970 = 0 := by decide
theorem mon_bd (y m : Int) : 28 ≤ mon y m ∧ mon y m ≤ 31 := by
  have := lp_01 y
  unfold mon; split
  · omega
  · split <;> omega
theorem dto_bd (y : Int) (h : 1970 ≤ y) : 365 * (y - 1970) ≤ dto y ∧ dto y ≤ 366 * (y - 1970) := by unfold dto; omega

theorem leap_is (y : Int) (h : 0 ≤ y) : spec_l19Leap.f y = some (decide (lp y = 1)) := by
  unfold spec_l19Leap.f lp
  rw [Int.tmod_eq_emod_of_nonneg h, Int.tmod_eq_emod_of_nonneg h, Int.tmod_eq_emod_of_nonneg h]
  by_cases h4 : y % 4 = 0
  · rw [if_pos h4]
    by_cases h100 : y % 100 = 0
    · rw [if_pos h100]
      by_cases h400 : y % 400 = 0
      · simp [h4, h400]
      · simp [h100, h400]
    · rw [if_neg h100]
      simp [h4, h100]
  · rw [if_neg h4]
    simp [h4]
theorem leap_is' (y : Int) (h : 0 ≤ y) : impl_leap.f y = some (decide (lp y = 1)) := leap_is y h

theorem year_is (y : Int) (h : 0 ≤ y) : spec_l19Year.f y = some (yl y) := by
  unfold spec_l19Year.f
  rw [leap_is y h]
  simp only [Option.bind_some, decide_eq_true_eq]
  unfold yl
  rcases lp_01 y with e | e <;> simp [e]

theorem month_is (y m : Int) (h : 0 ≤ y) (h1 : 1 ≤ m) (h2 : m ≤ 12) : spec_l19Month.f y m = some (mon y m) := by
  unfold spec_l19Month.f
  rw [leap_is y h]
  have hm : m = 1 ∨ m = 2 ∨ m = 3 ∨ m = 4 ∨ m = 5 ∨ m = 6 ∨ m = 7 ∨ m = 8 ∨ m = 9 ∨ m = 10 ∨ m = 11 ∨ m = 12 := by omega
  rcases lp_01 y with e | e <;> rcases hm with rfl | rfl | rfl | rfl | rfl | rfl | rfl | rfl | rfl | rfl | rfl | rfl <;> simp [mon, e, rd]

theorem month_is' (y m : Int) (h : 0 ≤ y) (h1 : 1 ≤ m) (h2 : m ≤ 12) : impl_daysIn.f y m = some (mon y m) := by
  unfold impl_daysIn.f impl_daysIn.pick
  rw [leap_is' y h]
  have hm : m = 1 ∨ m = 2 ∨ m = 3 ∨ m = 4 ∨ m = 5 ∨ m = 6 ∨ m = 7 ∨ m = 8 ∨ m = 9 ∨ m = 10 ∨ m = 11 ∨ m = 12 := by omega
  rcases lp_01 y with e | e <;> rcases hm with rfl | rfl | rfl | rfl | rfl | rfl | rfl | rfl | rfl | rfl | rfl | rfl <;> simp [mon, e, rd, impl_daysIn.tab]

theorem daysTo_is (y : Int) (h : 1970 ≤ y) (h' : y ≤ 100000) : impl_daysTo.f y = some (dto y) := by
  unfold impl_daysTo.f dto
  have t (c : Int) (hc : 0 ≤ y - 1) : Int.tdiv (y - 1) c = (y - 1) / c := Int.tdiv_eq_ediv_of_nonneg hc
  rw [wrap_in (n := y - 1970) (by omega) (by omega), wrap_in (n := y - 1) (by omega) (by omega), t 4 (by omega), t 100 (by omega), t 400 (by omega)]
  rw [wrap_in (n := (y - 1970) * 365) (by omega) (by omega), wrap_in (n := (y - 1) / 4) (by omega) (by omega), wrap_in (n := (y - 1) / 100) (by omega) (by omega), wrap_in (n := (y - 1) / 400) (by omega) (by omega)]
  rw [wrap_in (n := (y - 1) / 4 - (y - 1) / 100) (by omega) (by omega), wrap_in (n := (y - 1) / 4 - (y - 1) / 100 + (y - 1) / 400) (by omega) (by omega), wrap_in (n := (y - 1970) * 365 + ((y - 1) / 4 - (y - 1) / 100 + (y - 1) / 400)) (by omega) (by omega), wrap_in (by omega) (by omega)]

/-! ### DayNumber -/
theorem dn_months (y m : Int) (hy : 0 ≤ y) (hm : m ≤ 12) (d : Nat) : ∀ (n i : Int), 1 ≤ i → (m - i).toNat ≤ d → 0 ≤ n → n ≤ 100000000 + 31 * i →
    ∃ r, Ev (fun k => spec_DayNumber.l1 k y m n i) r ∧ Ev (fun k => impl_DayNumber.l0 k y m n i) r := by
  induction d with
  | zero =>
    intro n i h1 hd h0 hn
    refine ⟨n, Ev.succ ?_, Ev.succ ?_⟩
    · simp only [spec_DayNumber.l1, show ¬ i < m by omega, if_false]; exact Ev.now _
    · simp only [impl_DayNumber.l0, show ¬ i < m by omega, if_false]; exact Ev.now _
  | succ d ih =>
    intro n i h1 hd h0 hn
    by_cases c : i < m
    · have hb := mon_bd y i
      obtain ⟨r, e1, e2⟩ := ih (n + mon y i) (i + 1) (by omega) (by omega) (by omega) (by omega)
      refine ⟨r, Ev.succ ?_, Ev.succ ?_⟩
      · simp only [spec_DayNumber.l1, c, if_true, month_is y i hy h1 (by omega), Option.bind_some, wrap_in (n := n + mon y i) (by omega) (by omega), wrap_in (n := i + 1) (by omega) (by omega)]; exact e1
      · simp only [impl_DayNumber.l0, c, if_true, month_is' y i hy h1 (by omega), Option.bind_some, wrap_in (n := n + mon y i) (by omega) (by omega), wrap_in (n := i + 1) (by omega) (by omega)]; exact e2
    · refine ⟨n, Ev.succ ?_, Ev.succ ?_⟩
      · simp only [spec_DayNumber.l1, c, if_false]; exact Ev.now _
      · simp only [impl_DayNumber.l0, c, if_false]; exact Ev.now _

theorem dn_years (y m : Int) (hy' : y ≤ 40000) (r : Int) (d : Nat) : ∀ (n i : Int), 1970 ≤ i → i ≤ y → (y - i).toNat ≤ d → 0 ≤ n → n ≤ 32 + 366 * (i - 1970) → Ev (fun k => spec_DayNumber.l1 k y m (n + dto y - dto i) 1) r →
    Ev (fun k => spec_DayNumber.l0 k y m n i) r := by
  induction d with
  | zero =>
    intro n i h1 hi hd h0 hn e
    have : i = y := by omega
    subst this
    refine Ev.succ ?_
    simp only [spec_DayNumber.l0, show ¬ i < i by omega, if_false]
    rw [show n + dto i - dto i = n by omega] at e; exact e
  | succ d ih =>
    intro n i h1 hi hd h0 hn e
    by_cases c : i < y
    · have hl := lp_01 i
      have hyl : yl i = 365 + lp i := rfl
      have hs := dto_succ i
      refine Ev.succ ?_
      simp only [spec_DayNumber.l0, c, if_true, year_is i (by omega), Option.bind_some, wrap_in (n := n + yl i) (by omega) (by omega), wrap_in (n := i + 1) (by omega) (by omega)]
      refine ih (n + yl i) (i + 1) (by omega) (by omega) (by omega) (by omega) (by omega) ?_
      rw [hs, show n + yl i + dto y - (dto i + yl i) = n + dto y - dto i by omega]; exact e
    · have : i = y := by omega
      subst this
      refine Ev.succ ?_
      simp only [spec_DayNumber.l0, show ¬ i < i by omega, if_false]
      rw [show n + dto i - dto i = n by omega] at e; exact e

theorem dayNumber_same (y m d : Int) : ∃ r, Ev (fun k => spec_DayNumber.f k y m d) r ∧ Ev (fun k => impl_DayNumber.f k y m d) r := by
  have no1 : Ev (fun k => spec_DayNumber.j0 k y m d true) (-1) := Ev.succ (by simp only [spec_DayNumber.j0, if_true]; exact Ev.now _)
  have no2 : Ev (fun k => impl_DayNumber.j0 k y m d true) (-1) := Ev.succ (by simp only [impl_DayNumber.j0, if_true]; exact Ev.now _)
  unfold spec_DayNumber.f impl_DayNumber.f
  by_cases c1 : y < 1970
  · simp only [c1, if_true]; exact ⟨_, no1, no2⟩
  by_cases c2 : y > 40000
  · simp only [c1, c2, if_true, if_false]; exact ⟨_, no1, no2⟩
  by_cases c3 : m < 1
  · simp only [c1, c2, c3, if_true, if_false]; exact ⟨_, no1, no2⟩
  by_cases c4 : m > 12
  · simp only [c1, c2, c3, c4, if_true, if_false]; exact ⟨_, no1, no2⟩
  by_cases c5 : d < 1
  · simp only [c1, c2, c3, c4, c5, if_true, if_false]; exact ⟨_, no1, no2⟩
  simp only [c1, c2, c3, c4, c5, if_false, month_is y m (by omega) (by omega) (by omega), month_is' y m (by omega) (by omega) (by omega), Option.bind_some]
  have hb := mon_bd y m
  by_cases c6 : d > mon y m
  · simp only [c6, decide_true]; exact ⟨_, no1, no2⟩
  · simp only [c6, decide_false]
    have hd := dto_bd y (by omega)
    obtain ⟨r, e1, e2⟩ := dn_months y m (by omega) (by omega) (m - 1).toNat (dto y + d - 1) 1 (by omega) (by omega) (by omega) (by omega)
    refine ⟨r, Ev.succ ?_, Ev.succ ?_⟩
    · simp only [spec_DayNumber.j0, Bool.false_eq_true, if_false, wrap_in (n := d - 1) (by omega) (by omega)]
      refine dn_years y m (by omega) r (y - 1970).toNat (d - 1) 1970 (by omega) (by omega) (by omega) (by omega) (by omega) ?_
      rw [dto_1970, show d - 1 + dto y - 0 = dto y + d - 1 by omega]; exact e1
    · simp only [impl_DayNumber.j0, Bool.false_eq_true, if_false, daysTo_is y (by omega) (by omega), Option.bind_some, wrap_in (n := dto y + d) (by omega) (by omega), wrap_in (n := dto y + d - 1) (by omega) (by omega)]; exact e2
theorem FnExactDayNumber : laws_FnExactDayNumber.Pure := by
  intro y m d _ _ _
  obtain ⟨r, e1, e2⟩ := dayNumber_same y m d
  refine Ev.rounds (r := true) ?_
  unfold laws_FnExactDayNumber.f
  refine Ev.bind e1 (Ev.bind e2 ?_)
  simp only [if_true]
  exact Ev.now _

end Go.Proofs.Ythlinnbamejmaaa.Pure
