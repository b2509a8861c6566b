/- The law FnExactPutAll of the given program returns true for every input that its guards let in; no conditions. -/
import Derived.Test.YtcfcnnamjfgahabGreatRows
import Derived.Test.YtcfcnnamjfgahabGreatEExactPutAll1
import Derived.Test.YtcfcnnamjfgahabGreatEExactPutAll2
import Derived.Test.YtcfcnnamjfgahabGreatFExactPutAll1
import Derived.Test.YtcfcnnamjfgahabGreatFExactPutAll2
import Derived.Test.YtcfcnnamjfgahabGreatV1
import Derived.Test.YtcfcnnamjfgahabGreatV2
import Derived.Test.YtcfcnnamjfgahabGreatV3
import Derived.Test.YtcfcnnamjfgahabGreatV4
import Derived.WalkKit
import Derived.ProofKit
import Derived.OpenShut
import Derived.ShutString
import Derived.ChangeOld
import Derived.Below
import Derived.SizedLaws
import Derived.Carry
namespace Go.Proofs.YtcfcnnamjfgahabGreat.fnExactPutAll
open Go.ChangeShapes Go.WideShapes Go.ChangeAt Go.RowKit Go.VM Go.PA
set_option linter.unusedVariables false
theorem own : ownKnob Tryz.prog.godebug = none := by kernel_rfl
theorem laidOut : laidOutB Tryz.prog = true := by kernel_rfl
set_option maxRecDepth 100000 in
set_option maxHeartbeats 2000000 in
theorem lifted (os : Os) (started : os.Started) (H : Type) (enc : TypeId × Value → H) :
    ReturnsInHanded {} Tryz.checked os 4 .any (Rows.fnExactPutAllSpec.pre6 enc Tryz.prog Tryz.f4 Rows.fnExactPutAllRow.domain false) (Rows.fnExactPutAllSpec.post enc Tryz.prog Tryz.f4 false true false false) := by
  refine returnsInHanded_of_change_sized (C := Tryz.checked) own started (by kernel_rfl) Tryz.func4
    (ChangeSpec.witness6 (enc := enc) (C := Tryz.checked) false ⟨#[], #[.agg #[.int .i64 0, .int .i64 0, .int .i64 0, .slice none 0 0], .slice none 0 0], []⟩ 4 (by kernel_rfl) (by kernel_rfl) (by kernel_rfl) (by kernel_rfl)) ?_
  intro W base args ds gs before hval0 hW hcnd hsz0 _
  have hval : ∀ (j : Nat) t v, Tryz.f4.params[j]? = some t → args[j]? = some v → Value.okWide Tryz.prog W .any base t v := hval0
  letI : Bor := lawBor W
  haveI : LawBor W := lawBor_law W
  have hW' := hW
  obtain ⟨p, q, hA0, hV, rfl, hfz, hnd⟩ := hW
  have hA : DataW.TrodAll enc Tryz.prog W 0 (fun _ => true) true Tryz.f4.params.toList args.toList ds p := hA0
  obtain ⟨x, S, hx, hwf⟩ := open_args (us := [(.pair (.int .i64) (.pair (.int .i64) (.pair (.int .i64) (.pair (.sl false (.pair (.sl false (.pair .str (.pair .str .unit))) (.pair (.sl false (.pair (.int .i64) (.pair (.int .i64) .unit))) .unit))) .unit)))), (.sl false (.pair (.sl false (.pair .str (.pair .str .unit))) (.pair (.int .i64) (.pair (.int .i64) .unit))))]) (by kernel_rfl) hA (fun j t v h1 h2 => hval j t v (by simpa using h1) (by simpa using h2))
  rw [Tryz.params4] at hA
  obtain ⟨v0, vs0, d0, ds0, p0, q0, hargs0, rfl, rfl, h0, r0⟩ := trodAll_cons hA
  obtain ⟨v1, vs1, d1, ds1, p1, q1, hargs1, rfl, rfl, h1, r1⟩ := trodAll_cons r0
  obtain ⟨rfl, rfl, rfl⟩ := trodAll_nil r1
  subst hargs1
  obtain rfl : args = #[v0, v1] := by cases args; simp_all
  obtain ⟨rfl, rfl⟩ := trodVars_none hV
  have k0 := h0
  have k1 := h1
  have lt0 : ∀ x ∈ p0, x.block < W.heap.size := by obtain ⟨m, hm⟩ := k0; exact DataW.trod_lt m _ _ _ hm
  have lt1 : ∀ x ∈ p1, x.block < W.heap.size := by obtain ⟨m, hm⟩ := k1; exact DataW.trod_lt m _ _ _ hm
  obtain ⟨k, hp⟩ := (laws_FnExactPutAll.ev x.1 x.2.1 hwf.1 hwf.2.1).get
  refine (law_call (us := [(.pair (.int .i64) (.pair (.int .i64) (.pair (.int .i64) (.pair (.sl false (.pair (.sl false (.pair .str (.pair .str .unit))) (.pair (.sl false (.pair (.int .i64) (.pair (.int .i64) .unit))) .unit))) .unit)))), (.sl false (.pair (.sl false (.pair .str (.pair .str .unit))) (.pair (.int .i64) (.pair (.int .i64) .unit))))]) rfl rfl rfl rfl laws_FnExactPutAll.ok hx (glob_law (fun g u x h => by cases h) (fun g u x h => by cases h)) hp rfl).mono fun e W' he => ?_
  obtain ⟨he, bel0⟩ := he
  have bel : Below W.heap.size W W' := bel0
  subst he
  exact ⟨_, rfl, _, _, _, [], _, [], hW', trodAll_mk1 (shut_bool Tryz.underlying4 _), (trodAll_cons_mk (Below.trod laidOut (by kernel_rfl) (of_decide_eq_true (by kernel_rfl)) k0 bel lt0) (trodAll_cons_mk (Below.trod laidOut (by kernel_rfl) (of_decide_eq_true (by kernel_rfl)) k1 bel lt1) trodAll_mk0)), rfl, bel.frame _, fun h => by cases h⟩
theorem over : Rows.fnExactPutAllRow.holds Tryz.pinned (OpenSpec.ofChange Rows.fnExactPutAllSpec) :=
  OpenClaim.holds_of_wide 4 Tryz.f4 rfl rfl rfl rfl rfl rfl rfl ⟨rfl, rfl, rfl, rfl, rfl⟩ rfl rfl rfl rfl rfl (by kernel_rfl) Tryz.func4 (by kernel_rfl)
    (of_decide_eq_true (by kernel_rfl)) (by unfold Func.isWrapper; first | (rw [if_pos (by decide +kernel)]; kernel_rfl) | (rw [if_neg (by decide +kernel)]; exact ⟨rfl, rfl⟩))
    (fun os started H enc _ => lifted os started H enc)
theorem proved : Rows.FnExactPutAllSaid := over
end Go.Proofs.YtcfcnnamjfgahabGreat.fnExactPutAll
namespace Go.Proofs.YtcfcnnamjfgahabGreat
/-- The row, under a short name, for the claim. -/
theorem fnExactPutAll_holds : Rows.FnExactPutAllSaid := fnExactPutAll.proved
#print axioms fnExactPutAll_holds
end Go.Proofs.YtcfcnnamjfgahabGreat
