-- Made by a program of this session (wip/myprint.py) out of Lean's print of the loaded functions. Not trusted: Lean checks it.
import Derived.Test.YtcfcnnamjfgahaaPFnQuantilesx0
import Derived.Test.YtcfcnnamjfgahaaPFnQuantilesx2
namespace Go.Proofs.Ytcfcnnamjfgahaa.PFnQuantiles
open Go.RowKit Go.Proofs.YtcfcnnamjfgahaaW.PrintWords Go.Proofs.YtcfcnnamjfgahaaW.PrintLast Go.Proofs.YtcfcnnamjfgahaaW.PrintMore
attribute [local go_sem] max2_int min2_int max_two min_two max_three min_three max_four min_four   -- for this text's walks alone
set_option linter.unusedVariables false
set_option linter.unusedSimpArgs false

/-! ### impl_Quotient: function 19 -/
def impl_Quotient.f (a0 : Int) (a1 : Int) : Option (Int) := if a1 = 0 then (some 0) else (if (Int.tmod a0 a1) = 0 then (some (wrap64 (Int.tdiv a0 a1))) else (if ((decide (a0 < 0)) != (decide (a1 < 0))) = true then (some (wrap64 ((wrap64 (Int.tdiv a0 a1)) - 1))) else (some (wrap64 (Int.tdiv a0 a1)))))
set_option maxHeartbeats 8000000 in
set_option maxRecDepth 100000 in
theorem impl_Quotient.calls (a0 : Int) (a1 : Int) (r : Int) (w : World) (h : impl_Quotient.f a0 a1 = some r) :
    Calls Try.prog 19 #[.int .i64 a0, .int .i64 a1] w fun e w' => e = .returned (.int .i64 r) ∧ Drawn0 w w' := by
  have H : (if a1 = 0 then (some 0) else (if (Int.tmod a0 a1) = 0 then (some (wrap64 (Int.tdiv a0 a1))) else (if ((decide (a0 < 0)) != (decide (a1 < 0))) = true then (some (wrap64 ((wrap64 (Int.tdiv a0 a1)) - 1))) else (some (wrap64 (Int.tdiv a0 a1)))))) = some r := h
  clear h
  by_cases c3 : a1 = 0
  · rw [if_pos c3] at H
    have c3b0 : (a1 == 0) = true := beq_iff_eq.mpr c3
    have c3b1 : (a1 != 0) = false := bne_eq_false_iff_eq.mpr c3
    clear c3
    obtain rfl := Option.some.inj H
    go_enter Try.func19, Try.ntmps19
    go_wp2
    go_ret
    exact ⟨by first | rfl | (simp; done) | (simp [*]; done), by repeat (first | exact Drawn0.refl _ | apply Drawn0.step)⟩
  · rw [if_neg c3] at H
    have c3b0 : (a1 == 0) = false := beq_eq_false_iff_ne.mpr c3
    have c3b1 : (a1 != 0) = true := bne_iff_ne.mpr c3
    by_cases c4 : (Int.tmod a0 a1) = 0
    · rw [if_pos c4] at H
      have c4b0 : ((Int.tmod a0 a1) == 0) = true := beq_iff_eq.mpr c4
      have c4b1 : ((Int.tmod a0 a1) != 0) = false := bne_eq_false_iff_eq.mpr c4
      clear c4
      obtain rfl := Option.some.inj H
      go_enter Try.func19, Try.ntmps19
      go_wp2
      go_ret
      exact ⟨by first | rfl | (simp; done) | (simp [*]; done), by repeat (first | exact Drawn0.refl _ | apply Drawn0.step)⟩
    · rw [if_neg c4] at H
      have c4b0 : ((Int.tmod a0 a1) == 0) = false := beq_eq_false_iff_ne.mpr c4
      have c4b1 : ((Int.tmod a0 a1) != 0) = true := bne_iff_ne.mpr c4
      by_cases c5 : ((decide (a0 < 0)) != (decide (a1 < 0))) = true
      · rw [if_pos c5] at H
        have c5b0 : ((decide (a0 < 0)) != (decide (a1 < 0))) = true := c5
        (try (have c5b1 : decide ((decide (a0 < 0)) = (decide (a1 < 0))) = false := by simpa using c5))
        (try (have c5b2 : ((decide (a0 < 0)) == (decide (a1 < 0))) = false := by simpa using c5))
        (try (have c5b3 : ¬ ((decide (a0 < 0)) = (decide (a1 < 0))) := by simpa using c5))
        clear c5
        obtain rfl := Option.some.inj H
        go_enter Try.func19, Try.ntmps19
        go_wp2
        go_ret
        exact ⟨by first | rfl | (simp; done) | (simp [*]; done), by repeat (first | exact Drawn0.refl _ | apply Drawn0.step)⟩
      · rw [if_neg c5] at H
        have c5b0 : ((decide (a0 < 0)) != (decide (a1 < 0))) = false := by simpa using c5
        (try (have c5b1 : decide ((decide (a0 < 0)) = (decide (a1 < 0))) = true := by simpa using c5))
        (try (have c5b2 : ((decide (a0 < 0)) == (decide (a1 < 0))) = true := by simpa using c5))
        clear c5
        obtain rfl := Option.some.inj H
        go_enter Try.func19, Try.ntmps19
        go_wp2
        go_ret
        exact ⟨by first | rfl | (simp; done) | (simp [*]; done), by repeat (first | exact Drawn0.refl _ | apply Drawn0.step)⟩

/-! ### impl_QuantileOf: function 6 -/
def impl_QuantileOf.j0 : Nat → List Int → Int → Int → Bool → Option (Int × Bool)
  | 0, _, _, _, _ => none
  | k + 1, x0, x1, x6, x17 => if x17 = true then (some (0, false)) else ((slices_Clone_int_int.f x0).bind fun t195 => ((slices_Sort_int_int.f t195).bind fun t198 => (if 0 ≤ (wrap64 (Int.tdiv (wrap64 ((mn (mx x1 0) 1000) * (wrap64 (x6 - 1)))) 1000)) then (if (wrap64 (Int.tdiv (wrap64 ((mn (mx x1 0) 1000) * (wrap64 (x6 - 1)))) 1000)) < (t195.length : Int) then (if (Int.tmod (wrap64 ((mn (mx x1 0) 1000) * (wrap64 (x6 - 1)))) 1000) = 0 then (some (rd t198 (wrap64 (Int.tdiv (wrap64 ((mn (mx x1 0) 1000) * (wrap64 (x6 - 1)))) 1000)), true)) else (if 0 ≤ (wrap64 ((wrap64 (Int.tdiv (wrap64 ((mn (mx x1 0) 1000) * (wrap64 (x6 - 1)))) 1000)) + 1)) then (if (wrap64 ((wrap64 (Int.tdiv (wrap64 ((mn (mx x1 0) 1000) * (wrap64 (x6 - 1)))) 1000)) + 1)) < (t195.length : Int) then ((impl_Quotient.f (wrap64 ((wrap64 ((rd t198 (wrap64 ((wrap64 (Int.tdiv (wrap64 ((mn (mx x1 0) 1000) * (wrap64 (x6 - 1)))) 1000)) + 1))) - (rd t198 (wrap64 (Int.tdiv (wrap64 ((mn (mx x1 0) 1000) * (wrap64 (x6 - 1)))) 1000))))) * (Int.tmod (wrap64 ((mn (mx x1 0) 1000) * (wrap64 (x6 - 1)))) 1000))) 1000).bind fun t201 => (some (wrap64 ((rd t198 (wrap64 (Int.tdiv (wrap64 ((mn (mx x1 0) 1000) * (wrap64 (x6 - 1)))) 1000))) + t201), true))) else (none)) else (none))) else (none)) else (none))))
def impl_QuantileOf.f (k : Nat) (l0 : List Int) (a1 : Int) : Option (Int × Bool) := if (l0.length : Int) < 1 then (impl_QuantileOf.j0 k l0 a1 (l0.length : Int) true) else (impl_QuantileOf.j0 k l0 a1 (l0.length : Int) (decide ((l0.length : Int) > 2000)))
theorem impl_QuantileOf.mono_l : ∀ k, (∀ y0 y1 y2 y3, LeO (impl_QuantileOf.j0 k y0 y1 y2 y3) (impl_QuantileOf.j0 (k + 1) y0 y1 y2 y3))
  | 0 => fun _ _ _ _ r h => by simp [impl_QuantileOf.j0] at h
  | k + 1 => by
    have ih0 := impl_QuantileOf.mono_l k
    · intro y0 y1 y2 y3
      unfold impl_QuantileOf.j0
      repeat' first
      | (with_reducible exact ih0 _ _ _ _)
      | (with_reducible exact LeO.refl _)
      | (with_reducible exact LeO.none _)
      | (with_reducible refine LeO.ite ?_ ?_)
      | (with_reducible refine LeO.bind ?_ (fun _ => ?_))
      | exact ih0 _ _ _ _
      | exact LeO.none _
      | refine LeO.ite ?_ ?_
      | refine LeO.bind ?_ (fun _ => ?_)
theorem impl_QuantileOf.mono : ∀ a0 a1 k, LeO (impl_QuantileOf.f k a0 a1) (impl_QuantileOf.f (k + 1) a0 a1) := by
  intro a0 a1 k
  have ih0 := impl_QuantileOf.mono_l k
  unfold impl_QuantileOf.f
  repeat' first
      | (with_reducible exact ih0 _ _ _ _)
      | (with_reducible exact LeO.refl _)
      | (with_reducible exact LeO.none _)
      | (with_reducible refine LeO.ite ?_ ?_)
      | (with_reducible refine LeO.bind ?_ (fun _ => ?_))
      | exact ih0 _ _ _ _
      | exact LeO.none _
      | refine LeO.ite ?_ ?_
      | refine LeO.bind ?_ (fun _ => ?_)
set_option maxHeartbeats 8000000 in
set_option maxRecDepth 100000 in
theorem impl_QuantileOf.calls (k : Nat) (A0 : Option Addr) (c0 : Nat) (l0 : List Int) (a1 : Int) (r1 : Int) (r2 : Bool) (w : World) (hr0 : Kd.C (Kd.int .i64) w A0 l0.length l0) (hc0 : l0.length ≤ c0) (h : impl_QuantileOf.f k l0 a1 = some (r1, r2)) :
    Calls Try.prog 6 #[.slice A0 l0.length c0, .int .i64 a1] w fun e w' => e = .returned (.tuple #[.int .i64 r1, .bool r2]) ∧ Below w.heap.size w w' := by
  have HR0 := Aside0.mk hr0
  have HC0 := Aside0.mk hc0
  clear hr0 hc0
  have HB := Aside0.mk (Below.refl w.heap.size w)
  have H : (if (l0.length : Int) < 1 then (impl_QuantileOf.j0 k l0 a1 (l0.length : Int) true) else (impl_QuantileOf.j0 k l0 a1 (l0.length : Int) (decide ((l0.length : Int) > 2000)))) = some (r1, r2) := h
  clear h
  have HC3 := Aside0.mk H
  clear H
  go_enter Try.func6, Try.ntmps6
  go_upto_region 2 with (fail)
  go_cut [17] (fun v17 wc => ∃ (kq : Nat) (x17_2 : Bool), v17 = .bool x17_2 ∧ Aside0 (impl_QuantileOf.j0 kq l0 a1 (l0.length : Int) x17_2 = some (r1, r2)) ∧ Aside0 (kq ≤ k) ∧ Aside0 (Below w.heap.size w wc))
  case first =>
    have H := HC3.out
    clear HC3
    by_cases c4 : (l0.length : Int) < 1
    · rw [if_pos c4] at H
      have c4b0 : decide ((l0.length : Int) < 1) = true := decide_eq_true c4
      have c4b1 : decide (l0.length < 1) = true := decide_eq_true (by omega)
      clear c4
      (first | rw [c4b0] | (simp only [i64_w, i32_w]; rw [c4b0]) | skip)
      have H' := Aside0.mk H
      clear H
      go_wp2
      go_meet
      case rel => exact ⟨_, (true), (by first | rfl | (simp; done) | (simp [*]; done)), H', ⟨by first | omega | exact Nat.le_refl _⟩, ⟨by repeat (first | (with_reducible first | exact HB.out | apply below_alloc | apply pw_below_drewN | apply below_drew1) | exact HB.out)⟩⟩
    · rw [if_neg c4] at H
      have c4b0 : decide ((l0.length : Int) < 1) = false := decide_eq_false c4
      have c4b1 : decide (l0.length < 1) = false := decide_eq_false (by omega)
      clear c4
      (first | rw [c4b0] | (simp only [i64_w, i32_w]; rw [c4b0]) | skip)
      have H' := Aside0.mk H
      clear H
      go_wp2
      go_meet
      case rel => exact ⟨_, (decide ((l0.length : Int) > 2000)), (by first | rfl | (simp; done) | (simp [*]; done)), H', ⟨by first | omega | exact Nat.le_refl _⟩, ⟨by repeat (first | (with_reducible first | exact HB.out | apply below_alloc | apply pw_below_drewN | apply below_drew1) | exact HB.out)⟩⟩
  case rest =>
    clear HC3
    try clear p2
    try clear c4
    try clear c4b0
    try clear c4b1
    obtain ⟨kq, x17_2, rfl, HA, HJ2, HB⟩ := hcut
    cases kq with
    | zero => exact absurd HA.out (by simp [impl_QuantileOf.j0])
    | succ kj2 =>
      have H := HA.out
      clear HA
      simp only [impl_QuantileOf.j0] at H
      by_cases c5 : x17_2 = true
      · subst c5
        have H1 : (some (0, false)) = some (r1, r2) := by rw [if_pos rfl] at H; exact H
        clear H
        have H := H1
        clear H1
        simp only [Option.some.injEq, Prod.mk.injEq] at H
        obtain ⟨rfl, rfl⟩ := H
        go_wp2
        go_ret2
        exact ⟨by first | rfl | (simp [errW_none, errW_some] <;> rfl) | (simp [*, errW_none, errW_some] <;> rfl), by repeat (first | (with_reducible first | exact HB.out | apply below_alloc | apply pw_below_drewN | apply below_drew1) | exact HB.out)⟩
      · replace c5 := Bool.eq_false_iff.mpr c5
        subst c5
        have H1 : ((slices_Clone_int_int.f l0).bind fun t195 => ((slices_Sort_int_int.f t195).bind fun t198 => (if 0 ≤ (wrap64 (Int.tdiv (wrap64 ((mn (mx a1 0) 1000) * (wrap64 ((l0.length : Int) - 1)))) 1000)) then (if (wrap64 (Int.tdiv (wrap64 ((mn (mx a1 0) 1000) * (wrap64 ((l0.length : Int) - 1)))) 1000)) < (t195.length : Int) then (if (Int.tmod (wrap64 ((mn (mx a1 0) 1000) * (wrap64 ((l0.length : Int) - 1)))) 1000) = 0 then (some (rd t198 (wrap64 (Int.tdiv (wrap64 ((mn (mx a1 0) 1000) * (wrap64 ((l0.length : Int) - 1)))) 1000)), true)) else (if 0 ≤ (wrap64 ((wrap64 (Int.tdiv (wrap64 ((mn (mx a1 0) 1000) * (wrap64 ((l0.length : Int) - 1)))) 1000)) + 1)) then (if (wrap64 ((wrap64 (Int.tdiv (wrap64 ((mn (mx a1 0) 1000) * (wrap64 ((l0.length : Int) - 1)))) 1000)) + 1)) < (t195.length : Int) then ((impl_Quotient.f (wrap64 ((wrap64 ((rd t198 (wrap64 ((wrap64 (Int.tdiv (wrap64 ((mn (mx a1 0) 1000) * (wrap64 ((l0.length : Int) - 1)))) 1000)) + 1))) - (rd t198 (wrap64 (Int.tdiv (wrap64 ((mn (mx a1 0) 1000) * (wrap64 ((l0.length : Int) - 1)))) 1000))))) * (Int.tmod (wrap64 ((mn (mx a1 0) 1000) * (wrap64 ((l0.length : Int) - 1)))) 1000))) 1000).bind fun t201 => (some (wrap64 ((rd t198 (wrap64 (Int.tdiv (wrap64 ((mn (mx a1 0) 1000) * (wrap64 ((l0.length : Int) - 1)))) 1000))) + t201), true))) else (none)) else (none))) else (none)) else (none)))) = some (r1, r2) := by rw [if_neg (show ¬ (false = true) by decide)] at H; exact H
        clear H
        have H := H1
        clear H1
        replace H := Option.bind_eq_some_iff.mp H
        obtain ⟨t195, A60, H⟩ := H
        replace H : ((slices_Sort_int_int.f t195).bind fun t198 => (if 0 ≤ (wrap64 (Int.tdiv (wrap64 ((mn (mx a1 0) 1000) * (wrap64 ((l0.length : Int) - 1)))) 1000)) then (if (wrap64 (Int.tdiv (wrap64 ((mn (mx a1 0) 1000) * (wrap64 ((l0.length : Int) - 1)))) 1000)) < (t195.length : Int) then (if (Int.tmod (wrap64 ((mn (mx a1 0) 1000) * (wrap64 ((l0.length : Int) - 1)))) 1000) = 0 then (some (rd t198 (wrap64 (Int.tdiv (wrap64 ((mn (mx a1 0) 1000) * (wrap64 ((l0.length : Int) - 1)))) 1000)), true)) else (if 0 ≤ (wrap64 ((wrap64 (Int.tdiv (wrap64 ((mn (mx a1 0) 1000) * (wrap64 ((l0.length : Int) - 1)))) 1000)) + 1)) then (if (wrap64 ((wrap64 (Int.tdiv (wrap64 ((mn (mx a1 0) 1000) * (wrap64 ((l0.length : Int) - 1)))) 1000)) + 1)) < (t195.length : Int) then ((impl_Quotient.f (wrap64 ((wrap64 ((rd t198 (wrap64 ((wrap64 (Int.tdiv (wrap64 ((mn (mx a1 0) 1000) * (wrap64 ((l0.length : Int) - 1)))) 1000)) + 1))) - (rd t198 (wrap64 (Int.tdiv (wrap64 ((mn (mx a1 0) 1000) * (wrap64 ((l0.length : Int) - 1)))) 1000))))) * (Int.tmod (wrap64 ((mn (mx a1 0) 1000) * (wrap64 ((l0.length : Int) - 1)))) 1000))) 1000).bind fun t201 => (some (wrap64 ((rd t198 (wrap64 (Int.tdiv (wrap64 ((mn (mx a1 0) 1000) * (wrap64 ((l0.length : Int) - 1)))) 1000))) + t201), true))) else (none)) else (none))) else (none)) else (none))) = some (r1, r2) := H
        have A6 := Aside0.mk A60
        clear A60
        replace H := Option.bind_eq_some_iff.mp H
        obtain ⟨t198, A70, H⟩ := H
        replace H : (if 0 ≤ (wrap64 (Int.tdiv (wrap64 ((mn (mx a1 0) 1000) * (wrap64 ((l0.length : Int) - 1)))) 1000)) then (if (wrap64 (Int.tdiv (wrap64 ((mn (mx a1 0) 1000) * (wrap64 ((l0.length : Int) - 1)))) 1000)) < (t195.length : Int) then (if (Int.tmod (wrap64 ((mn (mx a1 0) 1000) * (wrap64 ((l0.length : Int) - 1)))) 1000) = 0 then (some (rd t198 (wrap64 (Int.tdiv (wrap64 ((mn (mx a1 0) 1000) * (wrap64 ((l0.length : Int) - 1)))) 1000)), true)) else (if 0 ≤ (wrap64 ((wrap64 (Int.tdiv (wrap64 ((mn (mx a1 0) 1000) * (wrap64 ((l0.length : Int) - 1)))) 1000)) + 1)) then (if (wrap64 ((wrap64 (Int.tdiv (wrap64 ((mn (mx a1 0) 1000) * (wrap64 ((l0.length : Int) - 1)))) 1000)) + 1)) < (t195.length : Int) then ((impl_Quotient.f (wrap64 ((wrap64 ((rd t198 (wrap64 ((wrap64 (Int.tdiv (wrap64 ((mn (mx a1 0) 1000) * (wrap64 ((l0.length : Int) - 1)))) 1000)) + 1))) - (rd t198 (wrap64 (Int.tdiv (wrap64 ((mn (mx a1 0) 1000) * (wrap64 ((l0.length : Int) - 1)))) 1000))))) * (Int.tmod (wrap64 ((mn (mx a1 0) 1000) * (wrap64 ((l0.length : Int) - 1)))) 1000))) 1000).bind fun t201 => (some (wrap64 ((rd t198 (wrap64 (Int.tdiv (wrap64 ((mn (mx a1 0) 1000) * (wrap64 ((l0.length : Int) - 1)))) 1000))) + t201), true))) else (none)) else (none))) else (none)) else (none)) = some (r1, r2) := H
        have A7 := Aside0.mk A70
        clear A70
        obtain ⟨ji8, hji8⟩ : ∃ j_ : Int, (mx a1 0) = j_ := ⟨_, rfl⟩
        replace H : (if 0 ≤ (wrap64 (Int.tdiv (wrap64 ((mn (ji8) 1000) * (wrap64 ((l0.length : Int) - 1)))) 1000)) then (if (wrap64 (Int.tdiv (wrap64 ((mn (ji8) 1000) * (wrap64 ((l0.length : Int) - 1)))) 1000)) < (t195.length : Int) then (if (Int.tmod (wrap64 ((mn (ji8) 1000) * (wrap64 ((l0.length : Int) - 1)))) 1000) = 0 then (some (rd t198 (wrap64 (Int.tdiv (wrap64 ((mn (ji8) 1000) * (wrap64 ((l0.length : Int) - 1)))) 1000)), true)) else (if 0 ≤ (wrap64 ((wrap64 (Int.tdiv (wrap64 ((mn (ji8) 1000) * (wrap64 ((l0.length : Int) - 1)))) 1000)) + 1)) then (if (wrap64 ((wrap64 (Int.tdiv (wrap64 ((mn (ji8) 1000) * (wrap64 ((l0.length : Int) - 1)))) 1000)) + 1)) < (t195.length : Int) then ((impl_Quotient.f (wrap64 ((wrap64 ((rd t198 (wrap64 ((wrap64 (Int.tdiv (wrap64 ((mn (ji8) 1000) * (wrap64 ((l0.length : Int) - 1)))) 1000)) + 1))) - (rd t198 (wrap64 (Int.tdiv (wrap64 ((mn (ji8) 1000) * (wrap64 ((l0.length : Int) - 1)))) 1000))))) * (Int.tmod (wrap64 ((mn (ji8) 1000) * (wrap64 ((l0.length : Int) - 1)))) 1000))) 1000).bind fun t201 => (some (wrap64 ((rd t198 (wrap64 (Int.tdiv (wrap64 ((mn (ji8) 1000) * (wrap64 ((l0.length : Int) - 1)))) 1000))) + t201), true))) else (none)) else (none))) else (none)) else (none)) = some (r1, r2) := by first | (rw [hji8] at H; exact H) | (simp only [hji8] at H ⊢; exact H)
        (try rw [hji8] at A6)
        (try rw [hji8] at A7)
        have hji8_ : (if a1 < 0 then 0 else a1) = ji8 := hji8
        obtain ⟨ji9, hji9⟩ : ∃ j_ : Int, (mn (ji8) 1000) = j_ := ⟨_, rfl⟩
        replace H : (if 0 ≤ (wrap64 (Int.tdiv (wrap64 ((ji9) * (wrap64 ((l0.length : Int) - 1)))) 1000)) then (if (wrap64 (Int.tdiv (wrap64 ((ji9) * (wrap64 ((l0.length : Int) - 1)))) 1000)) < (t195.length : Int) then (if (Int.tmod (wrap64 ((ji9) * (wrap64 ((l0.length : Int) - 1)))) 1000) = 0 then (some (rd t198 (wrap64 (Int.tdiv (wrap64 ((ji9) * (wrap64 ((l0.length : Int) - 1)))) 1000)), true)) else (if 0 ≤ (wrap64 ((wrap64 (Int.tdiv (wrap64 ((ji9) * (wrap64 ((l0.length : Int) - 1)))) 1000)) + 1)) then (if (wrap64 ((wrap64 (Int.tdiv (wrap64 ((ji9) * (wrap64 ((l0.length : Int) - 1)))) 1000)) + 1)) < (t195.length : Int) then ((impl_Quotient.f (wrap64 ((wrap64 ((rd t198 (wrap64 ((wrap64 (Int.tdiv (wrap64 ((ji9) * (wrap64 ((l0.length : Int) - 1)))) 1000)) + 1))) - (rd t198 (wrap64 (Int.tdiv (wrap64 ((ji9) * (wrap64 ((l0.length : Int) - 1)))) 1000))))) * (Int.tmod (wrap64 ((ji9) * (wrap64 ((l0.length : Int) - 1)))) 1000))) 1000).bind fun t201 => (some (wrap64 ((rd t198 (wrap64 (Int.tdiv (wrap64 ((ji9) * (wrap64 ((l0.length : Int) - 1)))) 1000))) + t201), true))) else (none)) else (none))) else (none)) else (none)) = some (r1, r2) := by first | (rw [hji9] at H; exact H) | (simp only [hji9] at H ⊢; exact H)
        (try rw [hji9] at A6)
        (try rw [hji9] at A7)
        have hji9_ : (if 1000 < (ji8) then 1000 else (ji8)) = ji9 := hji9
        obtain ⟨ji10, hji10⟩ : ∃ j_ : Int, (wrap64 (Int.tdiv (wrap64 ((ji9) * (wrap64 ((l0.length : Int) - 1)))) 1000)) = j_ := ⟨_, rfl⟩
        replace H : (if 0 ≤ (ji10) then (if (ji10) < (t195.length : Int) then (if (Int.tmod (wrap64 ((ji9) * (wrap64 ((l0.length : Int) - 1)))) 1000) = 0 then (some (rd t198 (ji10), true)) else (if 0 ≤ (wrap64 ((ji10) + 1)) then (if (wrap64 ((ji10) + 1)) < (t195.length : Int) then ((impl_Quotient.f (wrap64 ((wrap64 ((rd t198 (wrap64 ((ji10) + 1))) - (rd t198 (ji10)))) * (Int.tmod (wrap64 ((ji9) * (wrap64 ((l0.length : Int) - 1)))) 1000))) 1000).bind fun t201 => (some (wrap64 ((rd t198 (ji10)) + t201), true))) else (none)) else (none))) else (none)) else (none)) = some (r1, r2) := by first | (rw [hji10] at H; exact H) | (simp only [hji10] at H ⊢; exact H)
        (try rw [hji10] at A6)
        (try rw [hji10] at A7)
        have hji10w : (IntKind.i64.wrap (Int.tdiv (wrap64 ((ji9) * (wrap64 ((l0.length : Int) - 1)))) 1000)) = ji10 := (i64_w _).trans hji10
        by_cases c11 : 0 ≤ (ji10)
        · rw [if_pos c11] at H
          have c11b0 : decide (0 ≤ (ji10)) = true := decide_eq_true c11
          clear c11
          by_cases c12 : (ji10) < (t195.length : Int)
          · rw [if_pos c12] at H
            have c12b0 : decide ((ji10) < (t195.length : Int)) = true := decide_eq_true c12
            clear c12
            by_cases c13 : (Int.tmod (wrap64 ((ji9) * (wrap64 ((l0.length : Int) - 1)))) 1000) = 0
            · rw [if_pos c13] at H
              have c13b0 : ((Int.tmod (wrap64 ((ji9) * (wrap64 ((l0.length : Int) - 1)))) 1000) == 0) = true := beq_iff_eq.mpr c13
              have c13b1 : ((Int.tmod (wrap64 ((ji9) * (wrap64 ((l0.length : Int) - 1)))) 1000) != 0) = false := bne_eq_false_iff_eq.mpr c13
              clear c13
              simp only [Option.some.injEq, Prod.mk.injEq] at H
              obtain ⟨rfl, rfl⟩ := H
              go_wp2_with (first | ((with_reducible refine gate_callee (f := 17) rfl ?_); refine goesL_ (some 19) rfl rfl Try.func17 (by kernel_rfl) rfl #[.slice A0 l0.length c0] rfl (by (try simp only [List.map_toArray, List.map_cons, List.map_nil]); first | done | rfl | (simp only [List.length_drop, List.length_take]; rfl)) ?_; (with_reducible refine (slices_Clone_int_int.calls _ _ l0 t195 _ ?side1 ?side2 A6.out).mono ?_); (case side1 => repeat (first | exact (Kd.C_below HR0.out HB.out) | (with_reducible refine Kd.C_alloc ?_ _) | (with_reducible refine Kd.C_drewN ?_ _) | (with_reducible refine Kd.C_drew ?_))); (case side2 => exact HC0.out); rintro e w14 ⟨v196, rfl, ho0, hb⟩; refine ⟨_, rfl, ?_⟩; have n0_ := Aside0.mk (Kd.R_lower ho0 (below_size (by repeat (first | (with_reducible first | exact HB.out | apply below_alloc | apply pw_below_drewN | apply below_drew1) | exact HB.out)))); have n1_ := Aside0.mk (below_step (by repeat (first | (with_reducible first | exact HB.out | apply below_alloc | apply pw_below_drewN | apply below_drew1) | exact HB.out)) hb); clear HB; have HO197 := n0_; have HB := n1_; clear n0_ n1_; (try clear hb); (try clear hb2); (try clear hk); (try clear hi); (try clear ho0); obtain ⟨Ao15, co15, eo15⟩ := Kd.R_slice HO197.out; subst eo15) | ((with_reducible refine gate_callee (f := 18) rfl ?_); refine goesL_ (some 21) rfl rfl Try.func18 (by kernel_rfl) rfl #[.slice Ao15 t195.length co15] rfl (by (try simp only [List.map_toArray, List.map_cons, List.map_nil]); first | done | rfl | (simp only [List.length_drop, List.length_take]; rfl)) ?_; (with_reducible refine (slices_Sort_int_int.calls (fun k_ => some k_ = (.slice Ao15 t195.length co15 : Value).ownBlock) (.slice Ao15 t195.length co15) t195 t198 w _ ?side1 ?side2 A7.out).mono ?_); (case side1 => repeat (first | (with_reducible first | exact HB.out | apply below_alloc | apply pw_below_drewN | apply below_drew1) | exact HB.out)); (case side2 => exact Kd.R_tight rfl HO197.out); rintro e w16 ⟨rfl, hy0, hb, hkp⟩; refine ⟨_, rfl, ?_⟩; have n0_ := Aside0.mk (Kd.R_reok rfl hy0 (fun k_ e_ => HO197.out.1 k_ e_)); have n1_ := Aside0.mk (hb); clear HO197; clear HB; have HO197 := n0_; have HB := n1_; clear n0_ n1_; (try clear hb); (try clear hkp); (try clear hy0); have p199 : 0 ≤ ((ji10) : Int) := of_decide_eq_true (by first | (with_reducible assumption) | assumption); have q199 : (ji10) < (t198.length : Int) := (by have h_ : ((ji10) : Int) < ((t195.length : Int) : Int) := of_decide_eq_true (by first | (with_reducible assumption) | assumption); have e_ := (Kd.R_reads' HO197.out).1; omega); have ql199 : (((ji10) : Int) < ((t195.length : Int) : Int)) = True := eq_true (of_decide_eq_true (by first | (with_reducible assumption) | assumption)); obtain ⟨ad199, e199, hx199_0⟩ := Kd.at_int (Kd.R_reads' HO197.out).2.2 (ji10) p199 q199; cases e199; replace p199 := eq_true p199; replace q199 := eq_true q199))
              go_ret2
              exact ⟨by first | rfl | (simp [errW_none, errW_some] <;> rfl) | (simp only [← hji8, ← hji9, ← hji10]; first | rfl | (simp [errW_none, errW_some] <;> rfl)) | (simp [*, errW_none, errW_some] <;> rfl), by repeat (first | (with_reducible first | exact HB.out | apply below_alloc | apply pw_below_drewN | apply below_drew1) | exact HB.out)⟩
            · rw [if_neg c13] at H
              have c13b0 : ((Int.tmod (wrap64 ((ji9) * (wrap64 ((l0.length : Int) - 1)))) 1000) == 0) = false := beq_eq_false_iff_ne.mpr c13
              have c13b1 : ((Int.tmod (wrap64 ((ji9) * (wrap64 ((l0.length : Int) - 1)))) 1000) != 0) = true := bne_iff_ne.mpr c13
              obtain ⟨ji17, hji17⟩ : ∃ j_ : Int, (wrap64 ((ji10) + 1)) = j_ := ⟨_, rfl⟩
              replace H : (if 0 ≤ (ji17) then (if (ji17) < (t195.length : Int) then ((impl_Quotient.f (wrap64 ((wrap64 ((rd t198 (ji17)) - (rd t198 (ji10)))) * (Int.tmod (wrap64 ((ji9) * (wrap64 ((l0.length : Int) - 1)))) 1000))) 1000).bind fun t201 => (some (wrap64 ((rd t198 (ji10)) + t201), true))) else (none)) else (none)) = some (r1, r2) := by first | (rw [hji17] at H; exact H) | (simp only [hji17] at H ⊢; exact H)
              (try rw [hji17] at A6)
              (try rw [hji17] at A7)
              have hji17w : (IntKind.i64.wrap ((ji10) + 1)) = ji17 := (i64_w _).trans hji17
              by_cases c18 : 0 ≤ (ji17)
              · rw [if_pos c18] at H
                have c18b0 : decide (0 ≤ (ji17)) = true := decide_eq_true c18
                clear c18
                by_cases c19 : (ji17) < (t195.length : Int)
                · rw [if_pos c19] at H
                  have c19b0 : decide ((ji17) < (t195.length : Int)) = true := decide_eq_true c19
                  clear c19
                  replace H := Option.bind_eq_some_iff.mp H
                  obtain ⟨t201, A200, H⟩ := H
                  replace H : (some (wrap64 ((rd t198 (ji10)) + t201), true)) = some (r1, r2) := H
                  have A20 := Aside0.mk A200
                  clear A200
                  simp only [Option.some.injEq, Prod.mk.injEq] at H
                  obtain ⟨rfl, rfl⟩ := H
                  go_wp2_with (first | ((with_reducible refine gate_callee (f := 17) rfl ?_); refine goesL_ (some 19) rfl rfl Try.func17 (by kernel_rfl) rfl #[.slice A0 l0.length c0] rfl (by (try simp only [List.map_toArray, List.map_cons, List.map_nil]); first | done | rfl | (simp only [List.length_drop, List.length_take]; rfl)) ?_; (with_reducible refine (slices_Clone_int_int.calls _ _ l0 t195 _ ?side1 ?side2 A6.out).mono ?_); (case side1 => repeat (first | exact (Kd.C_below HR0.out HB.out) | (with_reducible refine Kd.C_alloc ?_ _) | (with_reducible refine Kd.C_drewN ?_ _) | (with_reducible refine Kd.C_drew ?_))); (case side2 => exact HC0.out); rintro e w21 ⟨v196, rfl, ho0, hb⟩; refine ⟨_, rfl, ?_⟩; have n0_ := Aside0.mk (Kd.R_lower ho0 (below_size (by repeat (first | (with_reducible first | exact HB.out | apply below_alloc | apply pw_below_drewN | apply below_drew1) | exact HB.out)))); have n1_ := Aside0.mk (below_step (by repeat (first | (with_reducible first | exact HB.out | apply below_alloc | apply pw_below_drewN | apply below_drew1) | exact HB.out)) hb); clear HB; have HO197 := n0_; have HB := n1_; clear n0_ n1_; (try clear hb); (try clear hb2); (try clear hk); (try clear hi); (try clear ho0); obtain ⟨Ao22, co22, eo22⟩ := Kd.R_slice HO197.out; subst eo22) | ((with_reducible refine gate_callee (f := 18) rfl ?_); refine goesL_ (some 21) rfl rfl Try.func18 (by kernel_rfl) rfl #[.slice Ao22 t195.length co22] rfl (by (try simp only [List.map_toArray, List.map_cons, List.map_nil]); first | done | rfl | (simp only [List.length_drop, List.length_take]; rfl)) ?_; (with_reducible refine (slices_Sort_int_int.calls (fun k_ => some k_ = (.slice Ao22 t195.length co22 : Value).ownBlock) (.slice Ao22 t195.length co22) t195 t198 w _ ?side1 ?side2 A7.out).mono ?_); (case side1 => repeat (first | (with_reducible first | exact HB.out | apply below_alloc | apply pw_below_drewN | apply below_drew1) | exact HB.out)); (case side2 => exact Kd.R_tight rfl HO197.out); rintro e w23 ⟨rfl, hy0, hb, hkp⟩; refine ⟨_, rfl, ?_⟩; have n0_ := Aside0.mk (Kd.R_reok rfl hy0 (fun k_ e_ => HO197.out.1 k_ e_)); have n1_ := Aside0.mk (hb); clear HO197; clear HB; have HO197 := n0_; have HB := n1_; clear n0_ n1_; (try clear hb); (try clear hkp); (try clear hy0); have p199 : 0 ≤ ((ji10) : Int) := of_decide_eq_true (by first | (with_reducible assumption) | assumption); have q199 : (ji10) < (t198.length : Int) := (by have h_ : ((ji10) : Int) < ((t195.length : Int) : Int) := of_decide_eq_true (by first | (with_reducible assumption) | assumption); have e_ := (Kd.R_reads' HO197.out).1; omega); have ql199 : (((ji10) : Int) < ((t195.length : Int) : Int)) = True := eq_true (of_decide_eq_true (by first | (with_reducible assumption) | assumption)); obtain ⟨ad199, e199, hx199_0⟩ := Kd.at_int (Kd.R_reads' HO197.out).2.2 (ji10) p199 q199; cases e199; replace p199 := eq_true p199; replace q199 := eq_true q199; have p200 : 0 ≤ ((ji17) : Int) := of_decide_eq_true (by first | (with_reducible assumption) | assumption); have q200 : (ji17) < (t198.length : Int) := (by have h_ : ((ji17) : Int) < ((t195.length : Int) : Int) := of_decide_eq_true (by first | (with_reducible assumption) | assumption); have e_ := (Kd.R_reads' HO197.out).1; omega); have ql200 : (((ji17) : Int) < ((t195.length : Int) : Int)) = True := eq_true (of_decide_eq_true (by first | (with_reducible assumption) | assumption)); obtain ⟨ad200, e200, hx200_0⟩ := Kd.at_int (Kd.R_reads' HO197.out).2.2 (ji17) p200 q200; obtain rfl : ad199 = ad200 := (by injection e200); replace p200 := eq_true p200; replace q200 := eq_true q200) | ((with_reducible refine gate_callee (f := 19) rfl ?_); refine goesL_ (some 48) rfl rfl Try.func19 (by kernel_rfl) rfl #[.int .i64 (wrap64 ((wrap64 ((rd t198 (ji17)) - (rd t198 (ji10)))) * (Int.tmod (wrap64 ((ji9) * (wrap64 ((l0.length : Int) - 1)))) 1000))), .int .i64 1000] rfl (by (try simp only [List.map_toArray, List.map_cons, List.map_nil]); first | done | (simp only [hji10, hji17, hji9]; rfl) | rfl | (simp only [List.length_drop, List.length_take]; rfl)) ?_; (with_reducible refine (impl_Quotient.calls (wrap64 ((wrap64 ((rd t198 (ji17)) - (rd t198 (ji10)))) * (Int.tmod (wrap64 ((ji9) * (wrap64 ((l0.length : Int) - 1)))) 1000))) 1000 t201 _ A20.out).mono ?_); rintro e w' ⟨rfl, ⟨nd, rfl⟩⟩; refine ⟨_, rfl, ?_⟩))
                  go_ret2
                  exact ⟨by first | rfl | (simp [errW_none, errW_some] <;> rfl) | (simp only [← hji8, ← hji9, ← hji10, ← hji17]; first | rfl | (simp [errW_none, errW_some] <;> rfl)) | (simp [*, errW_none, errW_some] <;> rfl), by repeat (first | (with_reducible first | exact HB.out | apply below_alloc | apply pw_below_drewN | apply below_drew1) | exact HB.out)⟩
                · rw [if_neg c19] at H
                  exact absurd H (by simp)
              · rw [if_neg c18] at H
                exact absurd H (by simp)
          · rw [if_neg c12] at H
            exact absurd H (by simp)
        · rw [if_neg c11] at H
          exact absurd H (by simp)

/-! ### laws_zByte: function 7 -/
def laws_zByte.f (l0 : List Int) (a1 : Int) : Option (Int) := if a1 < (l0.length : Int) then (if 0 ≤ a1 then (some (wrap64 (rd l0 a1))) else (none)) else (some 0)
set_option maxHeartbeats 8000000 in
set_option maxRecDepth 100000 in
theorem laws_zByte.calls (A0 : Option Addr) (c0 : Nat) (l0 : List Int) (a1 : Int) (r : Int) (w : World) (hr0 : Kd.C (Kd.int .u8) w A0 l0.length l0) (hc0 : l0.length ≤ c0) (h : laws_zByte.f l0 a1 = some r) :
    Calls Try.prog 7 #[.slice A0 l0.length c0, .int .i64 a1] w fun e w' => e = .returned (.int .i64 r) ∧ Drawn0 w w' := by
  have HR0 := Aside0.mk hr0
  have HC0 := Aside0.mk hc0
  clear hr0 hc0
  have H : (if a1 < (l0.length : Int) then (if 0 ≤ a1 then (some (wrap64 (rd l0 a1))) else (none)) else (some 0)) = some r := h
  clear h
  by_cases c3 : a1 < (l0.length : Int)
  · rw [if_pos c3] at H
    have c3b0 : decide (a1 < (l0.length : Int)) = true := decide_eq_true c3
    clear c3
    by_cases c4 : 0 ≤ a1
    · rw [if_pos c4] at H
      have c4b0 : decide (0 ≤ a1) = true := decide_eq_true c4
      clear c4
      obtain rfl := Option.some.inj H
      have p202 : 0 ≤ (a1 : Int) := of_decide_eq_true (by first | (with_reducible assumption) | assumption)
      have q202 : a1 < (l0.length : Int) := of_decide_eq_true (by first | (with_reducible assumption) | assumption)
      obtain ⟨ad202, e202, hx202_0⟩ := Kd.at_int HR0.out a1 p202 q202
      cases e202
      replace p202 := eq_true p202
      replace q202 := eq_true q202
      go_enter Try.func7, Try.ntmps7
      go_wp2
      go_ret
      exact ⟨by first | rfl | (simp; done) | (simp [*]; done), by repeat (first | exact Drawn0.refl _ | apply Drawn0.step)⟩
    · rw [if_neg c4] at H
      exact absurd H (by simp)
  · rw [if_neg c3] at H
    have c3b0 : decide (a1 < (l0.length : Int)) = false := decide_eq_false c3
    clear c3
    obtain rfl := Option.some.inj H
    go_enter Try.func7, Try.ntmps7
    go_wp2
    go_ret
    exact ⟨by first | rfl | (simp; done) | (simp [*]; done), by repeat (first | exact Drawn0.refl _ | apply Drawn0.step)⟩

end Go.Proofs.Ytcfcnnamjfgahaa.PFnQuantiles
