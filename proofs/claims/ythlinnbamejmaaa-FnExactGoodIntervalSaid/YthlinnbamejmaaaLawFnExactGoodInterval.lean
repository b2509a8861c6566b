import Derived.Test.YthlinnbamejmaaaRows
import Derived.Test.YthlinnbamejmaaaYFnExactGoodInterval
import Derived.Test.YthlinnbamejmaaaPureFnExactGoodInterval
import Derived.WalkKit
import Derived.ProofKit
import Derived.OpenShut
import Derived.ShutString
import Derived.ChangeOld
import Derived.Below
import Derived.SizedLaws
import Derived.Carry
namespace Go.Proofs.Ythlinnbamejmaaa.fnExactGoodInterval
open Go.ChangeShapes Go.WideShapes Go.ChangeAt Go.RowKit
open Go.ChangeMaps (open_string shut_string)
open Go.Proofs.YthlinnbamejmaaaO Go.Proofs.Ythlinnbamejmaaa.PFnExactGoodInterval Go.Proofs.YthlinnbamejmaaaW.PrintWords
set_option linter.unusedVariables false
theorem own : ownKnob Try.prog.godebug = none := by kernel_rfl
theorem laidOut : laidOutB Try.prog = true := by kernel_rfl
set_option maxRecDepth 100000 in
set_option maxHeartbeats 2000000 in
theorem lifted (os : Os) (started : os.Started) (H : Type) (enc : TypeId × Value → H) :
    ReturnsInHanded {} Try.checked os 8 .any (Rows.fnExactGoodIntervalSpec.pre6 enc Try.prog Try.f8 Rows.fnExactGoodIntervalRow.domain false) (Rows.fnExactGoodIntervalSpec.post enc Try.prog Try.f8 false true false false) := by
  refine returnsInHanded_of_change_sized (C := Try.checked) own started (by kernel_rfl) Try.func8
    (ChangeSpec.witness6 (enc := enc) (C := Try.checked) false ⟨#[], #[.agg #[.int .i64 0, .slice none 0 0, .slice none 0 0, .slice none 0 0, .slice none 0 0, .slice none 0 0, .slice none 0 0]], []⟩ 8 (by kernel_rfl) (by kernel_rfl) (by kernel_rfl) (by kernel_rfl)) ?_
  intro W base args ds gs before hval0 hW hcnd hsz0 _
  have hval : ∀ (j : Nat) t v, Try.f8.params[j]? = some t → args[j]? = some v → Value.okWide Try.prog W .any base t v := hval0
  have hW' := hW
  obtain ⟨p, q, hA0, hV, rfl, hfz, hnd⟩ := hW
  have hA : DataW.TrodAll enc Try.prog W 0 (fun _ => true) true Try.f8.params.toList args.toList ds p := hA0
  rw [Try.params8] at hA hval
  obtain ⟨v0, vs0, d0, ds0, p0, q0, hargs, rfl, rfl, h0, r0⟩ := trodAll_cons hA
  obtain ⟨rfl, rfl, rfl⟩ := trodAll_nil r0
  obtain rfl : args = #[v0] := by cases args; simp_all
  obtain ⟨rfl, rfl⟩ := trodVars_none hV
  have k0 := h0
  have lt0 : ∀ x ∈ p0, x.block < W.heap.size := by obtain ⟨m, hm⟩ := k0; exact DataW.trod_lt m _ _ _ hm
  obtain ⟨fuel0, hf0⟩ := h0
  obtain ⟨cs0, rfl, hsz0⟩ := okWide_struct Try.underlying42 (hval 0 42 v0 rfl rfl)
  have hf0' := hf0
  simp only [Value.cells] at hf0'
  have hlen0 : cs0.toList.length = 7 := (field_ Try.underlying42 hf0').1.trans (by kernel_rfl)
  obtain ⟨a0_0, e0_0, w0_0⟩ := part_opens Try.underlying42 hf0' 0 0 1 _ rfl rfl rfl (by kernel_rfl) (opens_int Try.underlying3)
  obtain ⟨l0_1, ⟨A0_1, c0_1, e0_1, hc0_1, hr0_1⟩, w0_1⟩ := part_opens Try.underlying42 hf0' 1 1 1 _ rfl rfl rfl (by kernel_rfl) (opens_slice Try.underlying39 (by kernel_rfl) (opens83 enc _))
  obtain ⟨l0_2, ⟨A0_2, c0_2, e0_2, hc0_2, hr0_2⟩, w0_2⟩ := part_opens Try.underlying42 hf0' 2 2 1 _ rfl rfl rfl (by kernel_rfl) (opens_slice Try.underlying39 (by kernel_rfl) (opens83 enc _))
  obtain ⟨l0_3, ⟨A0_3, c0_3, e0_3, hc0_3, hr0_3⟩, w0_3⟩ := part_opens Try.underlying42 hf0' 3 3 1 _ rfl rfl rfl (by kernel_rfl) (opens_slice Try.underlying39 (by kernel_rfl) (opens83 enc _))
  obtain ⟨l0_4, ⟨A0_4, c0_4, e0_4, hc0_4, hr0_4⟩, w0_4⟩ := part_opens Try.underlying42 hf0' 4 4 1 _ rfl rfl rfl (by kernel_rfl) (opens_slice Try.underlying39 (by kernel_rfl) (opens83 enc _))
  obtain ⟨l0_5, ⟨A0_5, c0_5, e0_5, hc0_5, hr0_5⟩, w0_5⟩ := part_opens Try.underlying42 hf0' 5 5 1 _ rfl rfl rfl (by kernel_rfl) (opens_slice Try.underlying39 (by kernel_rfl) (opens83 enc _))
  obtain ⟨l0_6, ⟨A0_6, c0_6, e0_6, hc0_6, hr0_6⟩, w0_6⟩ := part_opens Try.underlying42 hf0' 6 6 1 _ rfl rfl rfl (by kernel_rfl) (opens_slice Try.underlying40 (by kernel_rfl) (opens_int Try.underlying3))
  obtain ⟨csl0⟩ := cs0
  simp only [] at hlen0 e0_0 e0_1 e0_2 e0_3 e0_4 e0_5 e0_6
  have hcs0 : List.drop 0 csl0 = [.int .i64 a0_0, .slice A0_1 l0_1.length c0_1, .slice A0_2 l0_2.length c0_2, .slice A0_3 l0_3.length c0_3, .slice A0_4 l0_4.length c0_4, .slice A0_5 l0_5.length c0_5, .slice A0_6 l0_6.length c0_6] := by
    rw [cutAt csl0 0 1, e0_0]
    rw [cutAt csl0 1 1, e0_1]
    rw [cutAt csl0 2 1, e0_2]
    rw [cutAt csl0 3 1, e0_3]
    rw [cutAt csl0 4 1, e0_4]
    rw [cutAt csl0 5 1, e0_5]
    rw [cutAt csl0 6 1, e0_6]
    rw [List.drop_eq_nil_of_le (by omega)]
    rfl
  rw [List.drop_zero] at hcs0
  clear e0_0 e0_1 e0_2 e0_3 e0_4 e0_5 e0_6
  subst hcs0
  clear hA0 hval0 hval hA
  obtain ⟨k, hp⟩ := Pure.FnExactGoodInterval a0_0 l0_1 l0_2 l0_3 l0_4 l0_5 l0_6 w0_0 w0_1 w0_2 w0_3 w0_4 w0_5 w0_6
  refine (laws_FnExactGoodInterval.calls k a0_0 A0_1 c0_1 l0_1 A0_2 c0_2 l0_2 A0_3 c0_3 l0_3 A0_4 c0_4 l0_4 A0_5 c0_5 l0_5 A0_6 c0_6 l0_6 true W hr0_1 hc0_1 hr0_2 hc0_2 hr0_3 hc0_3 hr0_4 hc0_4 hr0_5 hc0_5 hr0_6 hc0_6 hp).mono fun e W' ⟨he, bel0⟩ => ?_
  have bel : Below W.heap.size W W' := bel0
  subst he
  exact ⟨_, rfl, _, _, _, [], _, [], hW', trodAll_mk1 (shut_bool Try.underlying4 _), (trodAll_cons_mk (Below.trod laidOut (by kernel_rfl) (of_decide_eq_true (by kernel_rfl)) k0 bel lt0) trodAll_mk0), rfl, bel.frame _, fun h => by cases h⟩
theorem over : Rows.fnExactGoodIntervalRow.holds Try.pinned (OpenSpec.ofChange Rows.fnExactGoodIntervalSpec) :=
  OpenClaim.holds_of_wide 8 Try.f8 rfl rfl rfl rfl rfl rfl rfl ⟨rfl, rfl, rfl, rfl, rfl⟩ rfl rfl rfl rfl rfl (by kernel_rfl) Try.func8 (by kernel_rfl)
    (of_decide_eq_true (by kernel_rfl)) (by unfold Func.isWrapper; first | (rw [if_pos (by decide +kernel)]; kernel_rfl) | (rw [if_neg (by decide +kernel)]; exact ⟨rfl, rfl⟩))
    (fun os started H enc _ => lifted os started H enc)
theorem proved : Rows.FnExactGoodIntervalSaid := over
end Go.Proofs.Ythlinnbamejmaaa.fnExactGoodInterval
namespace Go.Proofs.Ythlinnbamejmaaa
/-- The row, under a short name, for the claim. -/
theorem fnExactGoodInterval_holds : Rows.FnExactGoodIntervalSaid := fnExactGoodInterval.proved
#print axioms fnExactGoodInterval_holds
end Go.Proofs.Ythlinnbamejmaaa
