/- The law FnExactShardable of the given program returns true for every input that its guards let in; no conditions. -/
import Derived.Test.YtlmenmaccoljeaaGreatRows
import Derived.Test.YtlmenmaccoljeaaGreatEExactShardable1
import Derived.Test.YtlmenmaccoljeaaGreatFExactShardable1
import Derived.Test.YtlmenmaccoljeaaGreatFExactShardable2
import Derived.Test.YtlmenmaccoljeaaGreatV1
import Derived.Test.YtlmenmaccoljeaaGreatV2
import Derived.Test.YtlmenmaccoljeaaGreatV3
import Derived.Test.YtlmenmaccoljeaaGreatV4
import Derived.WalkKit
import Derived.ProofKit
import Derived.OpenShut
import Derived.ShutString
import Derived.ChangeOld
import Derived.Below
import Derived.SizedLaws
import Derived.Carry
namespace Go.Proofs.YtlmenmaccoljeaaGreat.fnExactShardable
open Go.ChangeShapes Go.WideShapes Go.ChangeAt Go.RowKit Go.VM Go.SH
set_option linter.unusedVariables false
theorem own : ownKnob Tryz.prog.godebug = none := by kernel_rfl
theorem laidOut : laidOutB Tryz.prog = true := by kernel_rfl
set_option maxRecDepth 100000 in
set_option maxHeartbeats 2000000 in
theorem lifted (os : Os) (started : os.Started) (H : Type) (enc : TypeId × Value → H) :
    ReturnsInHanded {} Tryz.checked os 3 .any (Rows.fnExactShardableSpec.pre6 enc Tryz.prog Tryz.f3 Rows.fnExactShardableRow.domain false) (Rows.fnExactShardableSpec.post enc Tryz.prog Tryz.f3 false true false false) := by
  refine returnsInHanded_of_change_sized (C := Tryz.checked) own started (by kernel_rfl) Tryz.func3
    (ChangeSpec.witness6 (enc := enc) (C := Tryz.checked) false ⟨#[], #[.slice none 0 0], []⟩ 3 (by kernel_rfl) (by kernel_rfl) (by kernel_rfl) (by kernel_rfl)) ?_
  intro W base args ds gs before hval0 hW hcnd hsz0 _
  have hval : ∀ (j : Nat) t v, Tryz.f3.params[j]? = some t → args[j]? = some v → Value.okWide Tryz.prog W .any base t v := hval0
  letI : Bor := lawBor W
  haveI : LawBor W := lawBor_law W
  have hW' := hW
  obtain ⟨p, q, hA0, hV, rfl, hfz, hnd⟩ := hW
  have hA : DataW.TrodAll enc Tryz.prog W 0 (fun _ => true) true Tryz.f3.params.toList args.toList ds p := hA0
  obtain ⟨x, S, hx, hwf⟩ := open_args (us := [(.sl false (.pair (.int .i64) (.pair (.int .i64) (.pair (.int .i64) (.pair .str (.pair (.int .i64) (.pair (.sl false (.pair .str (.pair (.int .i64) (.pair .str .unit)))) (.pair (.int .i64) (.pair .bool (.pair (.int .i64) (.pair .bool (.pair (.int .i64) (.pair (.sl false .str) (.pair (.int .i64) (.pair (.sl false .str) (.pair (.int .i64) .unit))))))))))))))))]) (by kernel_rfl) hA (fun j t v h1 h2 => hval j t v (by simpa using h1) (by simpa using h2))
  rw [Tryz.params3] at hA
  obtain ⟨v0, vs0, d0, ds0, p0, q0, hargs0, rfl, rfl, h0, r0⟩ := trodAll_cons hA
  obtain ⟨rfl, rfl, rfl⟩ := trodAll_nil r0
  obtain rfl : args = #[v0] := by cases args; simp_all
  obtain ⟨rfl, rfl⟩ := trodVars_none hV
  have k0 := h0
  have lt0 : ∀ x ∈ p0, x.block < W.heap.size := by obtain ⟨m, hm⟩ := k0; exact DataW.trod_lt m _ _ _ hm
  obtain ⟨k, hp⟩ := (laws_FnExactShardable.ev x.1 hwf.1).get
  refine (law_call (us := [(.sl false (.pair (.int .i64) (.pair (.int .i64) (.pair (.int .i64) (.pair .str (.pair (.int .i64) (.pair (.sl false (.pair .str (.pair (.int .i64) (.pair .str .unit)))) (.pair (.int .i64) (.pair .bool (.pair (.int .i64) (.pair .bool (.pair (.int .i64) (.pair (.sl false .str) (.pair (.int .i64) (.pair (.sl false .str) (.pair (.int .i64) .unit))))))))))))))))]) rfl rfl rfl rfl laws_FnExactShardable.ok hx (glob_law (fun g u x h => by cases h) (fun g u x h => by cases h)) hp rfl).mono fun e W' he => ?_
  obtain ⟨he, bel0⟩ := he
  have bel : Below W.heap.size W W' := bel0
  subst he
  exact ⟨_, rfl, _, _, _, [], _, [], hW', trodAll_mk1 (shut_bool Tryz.underlying4 _), (trodAll_cons_mk (Below.trod laidOut (by kernel_rfl) (of_decide_eq_true (by kernel_rfl)) k0 bel lt0) trodAll_mk0), rfl, bel.frame _, fun h => by cases h⟩
theorem over : Rows.fnExactShardableRow.holds Tryz.pinned (OpenSpec.ofChange Rows.fnExactShardableSpec) :=
  OpenClaim.holds_of_wide 3 Tryz.f3 rfl rfl rfl rfl rfl rfl rfl ⟨rfl, rfl, rfl, rfl, rfl⟩ rfl rfl rfl rfl rfl (by kernel_rfl) Tryz.func3 (by kernel_rfl)
    (of_decide_eq_true (by kernel_rfl)) (by unfold Func.isWrapper; first | (rw [if_pos (by decide +kernel)]; kernel_rfl) | (rw [if_neg (by decide +kernel)]; exact ⟨rfl, rfl⟩))
    (fun os started H enc _ => lifted os started H enc)
theorem proved : Rows.FnExactShardableSaid := over
end Go.Proofs.YtlmenmaccoljeaaGreat.fnExactShardable
namespace Go.Proofs.YtlmenmaccoljeaaGreat
/-- The row, under a short name, for the claim. -/
theorem fnExactShardable_holds : Rows.FnExactShardableSaid := fnExactShardable.proved
#print axioms fnExactShardable_holds
end Go.Proofs.YtlmenmaccoljeaaGreat
