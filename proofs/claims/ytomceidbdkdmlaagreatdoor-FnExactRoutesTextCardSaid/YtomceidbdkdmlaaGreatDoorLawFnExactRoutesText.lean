/- The law FnExactRoutesText of the given program returns true for every input that its guards let in; no conditions. -/
import Derived.Test.YtomceidbdkdmlaaGreatDoorRows
import Derived.Test.YtomceidbdkdmlaaGreatDoorCards
import Derived.Test.YtomceidbdkdmlaaGreatDoorTie
import Derived.LaidMore
import Derived.Stop.Joined
import Derived.Lib.LaidTab
import Derived.SevenTiedAt
import Derived.OpenVars
import Derived.Test.YtomceidbdkdmlaaGreatDoorEExactRoutesText1
import Derived.Test.YtomceidbdkdmlaaGreatDoorEExactRoutesText2
import Derived.Test.YtomceidbdkdmlaaGreatDoorFExactRoutesText1
import Derived.Test.YtomceidbdkdmlaaGreatDoorFExactRoutesText2
import Derived.Test.YtomceidbdkdmlaaGreatDoorV1
import Derived.Test.YtomceidbdkdmlaaGreatDoorV2
import Derived.Test.YtomceidbdkdmlaaGreatDoorV3
import Derived.WalkKit
import Derived.ProofKit
import Derived.OpenShut
import Derived.ShutString
import Derived.ChangeOld
import Derived.Below
import Derived.SizedLaws
import Derived.Carry
namespace Go.Proofs.YtomceidbdkdmlaaGreatDoor.fnExactRoutesText
open Go.ChangeShapes Go.WideShapes Go.ChangeAt Go.RowKit Go.VM Go.RX
set_option linter.unusedVariables false
theorem own : ownKnob Tryz.prog.godebug = none := by kernel_rfl
theorem laidOut : laidOutB Tryz.prog = true := by kernel_rfl
theorem gN0 : Tryz.prog.globalNamed "loop.example/g00039/impl.matchSigns" = some 0 := by kernel_rfl
theorem gT0 : (Tryz.prog.globals[0]?).map (·.type) = some 107 := by kernel_rfl
theorem gN1 : Tryz.prog.globalNamed "internal/strconv.uint64pow10" = some 2 := by kernel_rfl
theorem gT1 : (Tryz.prog.globals[2]?).map (·.type) = some 132 := by kernel_rfl
/-- The door's own heap meets the condition: three closed facts. -/
theorem door_met (os : Os) (args : Array Value) : laidMetH Tryz.prog Rows.fnExactRoutesTextRow.laid ((World.doorLaid Tryz.prog 400 os).forCall (fun _ _ => 0) ⟨#[], args, []⟩).memory :=
  laidMetH_of_parts3 (fuel := 8) (laidMet_of_run' 8 (by kernel_rfl) (by kernel_rfl)) (by kernel_rfl) (by kernel_rfl)
/-- The listed tables are what the functions' contracts ask of them. -/
theorem of_laid {W : World} (h : laidMetH Tryz.prog Rows.fnExactRoutesTextRow.laid W) : @GlobOK (lawBor W) gl W [] := by
  rw [MakeChecks.laidMetH_plain _ _ _ (by kernel_rfl)] at h
  refine glob_all fun e he => ?_
  simp only [gl, List.mem_cons, List.not_mem_nil, or_false] at he
  rcases he with rfl | rfl
  · exact glIs_str gN0 (strIs_of_head (ss := [⟨#[]⟩, ⟨#[61]⟩, ⟨#[33, 61]⟩, ⟨#[61, 126]⟩, ⟨#[33, 126]⟩]) gN0 gT0 (show Tryz.prog.underlying 107 = some (.array 5 9) by kernel_rfl) (show Tryz.prog.underlying 9 = some .string by kernel_rfl) (by kernel_rfl) (by kernel_rfl) (laid_tailG (laid_tailG (laid_tailG h)))) rfl
  · exact glIs_int gN1 (Lib.tabIs_of_head (zs := [1, 10, 100, 1000, 10000, 100000, 1000000, 10000000, 100000000, 1000000000, 10000000000, 100000000000, 1000000000000, 10000000000000, 100000000000000, 1000000000000000, 10000000000000000, 100000000000000000, 1000000000000000000, 10000000000000000000]) (k := .u64) gN1 gT1 (show Tryz.prog.underlying 132 = some (.array 20 97) by kernel_rfl) (show Tryz.prog.underlying 97 = some (.int .u64) by kernel_rfl) (by kernel_rfl) (by kernel_rfl) (laid_tailG (laid_tailG h))) rfl
set_option maxRecDepth 100000 in
set_option maxHeartbeats 2000000 in
theorem lifted (os : Os) (started : os.Started) (H : Type) (enc : TypeId × Value → H) :
    ReturnsInHanded {} Tryz.checked os 3 .any (fun w args => (Rows.fnExactRoutesTextSpec.pre enc Tryz.prog Tryz.f3 Rows.fnExactRoutesTextRow.domain false w args ∧ laidMetH Tryz.prog Rows.fnExactRoutesTextRow.laid w) ∧ sizedMet enc Tryz.prog Tryz.f3 (OpenSpec.ofChange Rows.fnExactRoutesTextSpec) false w args) (Rows.fnExactRoutesTextSpec.post enc Tryz.prog Tryz.f3 false true false false) := by
  refine returnsInHanded_of_change_and (C := Tryz.checked) (X := fun w _ => laidMetH Tryz.prog Rows.fnExactRoutesTextRow.laid w) (fun _ _ _ hh h => h.of_heap hh) own started (by kernel_rfl) Tryz.func3
    (ChangeSpec.witness_shaped (enc := enc) (C := Tryz.checked) (os := os) (X := fun w _ => laidMetH Tryz.prog Rows.fnExactRoutesTextRow.laid w) false (World.doorLaid Tryz.prog 400 os) #[.slice none 0 0] 8 rfl (World.shaped_of_RefB (by kernel_rfl) (by kernel_rfl)) (by kernel_rfl) (by kernel_rfl) (by kernel_rfl) (door_met os _)) ?_
  intro W base args ds gs before hval0 hW hcnd hsz0 hL _
  have hval : ∀ (j : Nat) t v, Tryz.f3.params[j]? = some t → args[j]? = some v → Value.okWide Tryz.prog W .any base t v := hval0
  letI : Bor := lawBor W
  haveI : LawBor W := lawBor_law W
  have hW' := hW
  obtain ⟨p, q, hA0, hV, rfl, hfz, hnd⟩ := hW
  have hA : DataW.TrodAll enc Tryz.prog W 0 (fun _ => true) true Tryz.f3.params.toList args.toList ds p := hA0
  obtain ⟨x, S, hx, hwf⟩ := open_args (us := [(.sl false (.pair .str (.pair (.sl false (.pair .str (.pair (.int .i64) (.pair .str .unit)))) (.pair (.sl false .str) (.pair (.int .i64) (.pair (.int .i64) (.pair (.int .i64) (.pair (.sl false (.int .i64)) (.pair .bool (.pair (.int .i64) .unit))))))))))]) (by kernel_rfl) hA (fun j t v h1 h2 => hval j t v (by simpa using h1) (by simpa using h2))
  rw [Tryz.params3] at hA
  obtain ⟨v0, vs0, d0, ds0, p0, q0, hargs0, rfl, rfl, h0, r0⟩ := trodAll_cons hA
  obtain ⟨rfl, rfl, rfl⟩ := trodAll_nil r0
  obtain rfl : args = #[v0] := by cases args; simp_all
  have hV2 : DataW.TrodVars enc Tryz.prog W (fun _ => true) Rows.fnExactRoutesTextSpec.vars gs q := hV
  obtain ⟨_, _, _, _, g0, _, rfl, _⟩ := trodVars_one hV
  have k0 := h0
  have lt0 : ∀ x ∈ p0, x.block < W.heap.size := by obtain ⟨m, hm⟩ := k0; exact DataW.trod_lt m _ _ _ hm
  obtain ⟨k, hp⟩ := (laws_FnExactRoutesText.ev x.1 hwf.1).get
  refine (law_call (us := [(.sl false (.pair .str (.pair (.sl false (.pair .str (.pair (.int .i64) (.pair .str .unit)))) (.pair (.sl false .str) (.pair (.int .i64) (.pair (.int .i64) (.pair (.int .i64) (.pair (.sl false (.int .i64)) (.pair .bool (.pair (.int .i64) .unit))))))))))]) rfl rfl rfl rfl laws_FnExactRoutesText.ok hx (of_laid hL) hp rfl).mono fun e W' he => ?_
  obtain ⟨he, bel0⟩ := he
  have bel : Below W.heap.size W W' := bel0
  subst he
  exact ⟨_, rfl, _, _, _, [], _, _, hW', trodAll_mk1 (shut_bool Tryz.underlying4 _), (trodAll_cons_mk (Below.trod laidOut (by kernel_rfl) (of_decide_eq_true (by kernel_rfl)) k0 bel lt0) trodAll_mk0), Below.trodVars laidOut bel (by kernel_rfl) hV2, bel.frame _, fun h => by cases h⟩
theorem over : Rows.fnExactRoutesTextRow.holds Tryz.pinned (OpenSpec.ofChange Rows.fnExactRoutesTextSpec) :=
  OpenClaim.holds_of_wide 3 Tryz.f3 rfl rfl rfl rfl rfl rfl rfl ⟨rfl, rfl, rfl, rfl, rfl⟩ rfl rfl rfl rfl rfl (by kernel_rfl) Tryz.func3 (by kernel_rfl)
    (of_decide_eq_true (by kernel_rfl)) (by unfold Func.isWrapper; first | (rw [if_pos (by decide +kernel)]; kernel_rfl) | (rw [if_neg (by decide +kernel)]; exact ⟨rfl, rfl⟩))
    (fun os started H enc _ => lifted os started H enc)
/-- The tied card. -/
theorem proved : Rows.FnExactRoutesTextCardSaid :=
  Claim7.holds_tied_plain_at .later [] [.data, .data, .data, .widerDeep] true (true, "7f0bff31573f2660424b02c98084e49782f692c6f80f237d8a067779f87dfa1e") false
    over (fun _ h => by cases h) (by kernel_rfl) (fun _ h => by cases h) fnExactRoutesText_row_tie rfl ⟨rfl, rfl⟩ (by kernel_rfl) rfl
    (fun f fn hf hfn => by
      obtain rfl : f = 3 := Option.some.inj ((show Tryz.prog.funcNamed "loop.example/g00039/laws.FnExactRoutesText" = some 3 by kernel_rfl).symm.trans hf) |>.symm
      obtain rfl : fn = Tryz.f3 := (Option.some.inj (Tryz.func3.symm.trans hfn)).symm
      exact ⟨by kernel_rfl, fun j t ht => by
        rw [Tryz.params3] at ht
        have hm : t ∈ [22] := by simpa using Array.mem_of_getElem? ht
        have hall : ([22].all fun u => !Tryz.prog.wantsStandIn u) = true := by kernel_rfl
        exact (show Tryz.prog.wantsStandIn t = false by simpa using List.all_eq_true.1 hall t hm)⟩)
    (by kernel_rfl)
end Go.Proofs.YtomceidbdkdmlaaGreatDoor.fnExactRoutesText
namespace Go.Proofs.YtomceidbdkdmlaaGreatDoor
/-- The card, under a short name, for the claim. -/
theorem fnExactRoutesText_holds : Rows.FnExactRoutesTextCardSaid := fnExactRoutesText.proved
#print axioms fnExactRoutesText_holds
end Go.Proofs.YtomceidbdkdmlaaGreatDoor
