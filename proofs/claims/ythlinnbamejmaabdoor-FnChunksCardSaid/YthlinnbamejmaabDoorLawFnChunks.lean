/- The law FnChunks of the given program returns true for every input that its guards let in; no conditions. -/
import Derived.Test.YthlinnbamejmaabDoorRows
import Derived.Test.YthlinnbamejmaabDoorCards
import Derived.Test.YthlinnbamejmaabDoorTie
import Derived.LaidMore
import Derived.Stop.Joined
import Derived.Lib.LaidTab
import Derived.SevenTiedAt
import Derived.Test.YthlinnbamejmaabDoorEChunks1
import Derived.Test.YthlinnbamejmaabDoorFChunks1
import Derived.Test.YthlinnbamejmaabDoorV1
import Derived.Test.YthlinnbamejmaabDoorV2
import Derived.Test.YthlinnbamejmaabDoorV3
import Derived.WalkKit
import Derived.ProofKit
import Derived.OpenShut
import Derived.ShutString
import Derived.ChangeOld
import Derived.Below
import Derived.SizedLaws
import Derived.Carry
namespace Go.Proofs.YthlinnbamejmaabDoor.fnChunks
open Go.ChangeShapes Go.WideShapes Go.ChangeAt Go.RowKit Go.VM Go.CH
set_option linter.unusedVariables false
theorem own : ownKnob Tryd.prog.godebug = none := by kernel_rfl
theorem laidOut : laidOutB Tryd.prog = true := by kernel_rfl
theorem rep_tab [Bor] {w : World} {o : Bool} {k : IntKind} : ∀ (l : List Int), RepL (Rep w o (.int k)) l (l.map (Value.int k)) []
  | [] => ⟨rfl, rfl⟩
  | x :: l => ⟨[_], _, [], [], rfl, rfl, ⟨rfl, rfl⟩, rep_tab l⟩
theorem glob_tab {P : Program} {w : World} {name : String} {k : IntKind} {zs : List Int} {g n : Nat} (hg : P.globalNamed name = some g) (h : Lib.TabIs P w name k zs) (hn : zs.length = n) : @GlobOK (lawBor w) [(g, ⟨.ar n (.int k), zs⟩)] w [] := by
  letI : Bor := lawBor w
  refine glob_law ?_
  intro g' u x hl
  unfold Lib.TabIs World.var? at h
  rw [hg, Option.bind_some] at h
  simp only [lkN] at hl
  cases hb : Nat.beq g g' with
  | false => rw [hb] at hl; cases hl
  | true =>
    rw [hb] at hl
    obtain rfl : g = g' := by simpa using hb
    simp only [sw, Option.some.injEq, TV.mk.injEq] at hl
    obtain ⟨rfl, hx⟩ := hl
    obtain rfl := eq_of_heq hx
    split at h
    · rename_i cs t fz hh
      have h := Option.some.inj h
      refine ⟨cs, t, fz, [], zs.map (Value.int k), [], [], rfl, hh, by rw [h]; simp, rfl, ?_, ⟨(Array.getElem?_eq_some_iff.1 hh).1, by simp⟩, by simp⟩
      exact ⟨_, [], [], [], by simp, rfl, ⟨hn, rep_tab zs⟩, rfl, rfl⟩
    · cases h
theorem gN : Tryd.prog.globalNamed "math/bits.deBruijn64tab" = some 0 := by kernel_rfl
theorem gT : (Tryd.prog.globals[0]?).map (·.type) = some 74 := by kernel_rfl
/-- The door's own heap meets the condition: three closed facts. -/
theorem door_met (os : Os) (args : Array Value) : laidMetH Tryd.prog Rows.fnChunksRow.laid ((World.doorLaid Tryd.prog 400 os).forCall (fun _ _ => 0) ⟨#[], args, []⟩).memory :=
  laidMetH_of_parts3 (fuel := 8) (laidMet_of_run' 8 (by kernel_rfl) (by kernel_rfl)) (by kernel_rfl) (by kernel_rfl)
/-- The listed table is what the functions' contracts ask of it. -/
theorem of_laid {W : World} (h : laidMetH Tryd.prog Rows.fnChunksRow.laid W) : @GlobOK (lawBor W) gl W [] := by
  rw [MakeChecks.laidMetH_plain _ _ _ (by kernel_rfl)] at h
  exact glob_tab gN (Lib.tabIs_of_head (zs := [0, 1, 56, 2, 57, 49, 28, 3, 61, 58, 42, 50, 38, 29, 17, 4, 62, 47, 59, 36, 45, 43, 51, 22, 53, 39, 33, 30, 24, 18, 12, 5, 63, 55, 48, 27, 60, 41, 37, 16, 46, 35, 44, 21, 52, 32, 23, 11, 54, 26, 40, 15, 34, 20, 31, 10, 25, 14, 19, 9, 13, 8, 7, 6]) (k := .u8) gN gT (show Tryd.prog.underlying 74 = some (.array 64 5) by kernel_rfl) (show Tryd.prog.underlying 5 = some (.int .u8) by kernel_rfl) (by kernel_rfl) (by kernel_rfl) h) rfl
set_option maxRecDepth 100000 in
set_option maxHeartbeats 2000000 in
theorem lifted (os : Os) (started : os.Started) (H : Type) (enc : TypeId × Value → H) :
    ReturnsInHanded {} Tryd.checked os 4 .any (fun w args => (Rows.fnChunksSpec.pre enc Tryd.prog Tryd.f4 Rows.fnChunksRow.domain false w args ∧ laidMetH Tryd.prog Rows.fnChunksRow.laid w) ∧ sizedMet enc Tryd.prog Tryd.f4 (OpenSpec.ofChange Rows.fnChunksSpec) false w args) (Rows.fnChunksSpec.post enc Tryd.prog Tryd.f4 false true false false) := by
  refine returnsInHanded_of_change_and (C := Tryd.checked) (X := fun w _ => laidMetH Tryd.prog Rows.fnChunksRow.laid w) (fun _ _ _ hh h => h.of_heap hh) own started (by kernel_rfl) Tryd.func4
    (ChangeSpec.witness_shaped (enc := enc) (C := Tryd.checked) (os := os) (X := fun w _ => laidMetH Tryd.prog Rows.fnChunksRow.laid w) false (World.doorLaid Tryd.prog 400 os) #[.slice none 0 0, .slice none 0 0] 8 rfl (World.shaped_of_RefB (by kernel_rfl) (by kernel_rfl)) (by kernel_rfl) (by kernel_rfl) (by kernel_rfl) (door_met os _)) ?_
  intro W base args ds gs before hval0 hW hcnd hsz0 hL _
  have hval : ∀ (j : Nat) t v, Tryd.f4.params[j]? = some t → args[j]? = some v → Value.okWide Tryd.prog W .any base t v := hval0
  letI : Bor := lawBor W
  haveI : LawBor W := lawBor_law W
  have hW' := hW
  obtain ⟨p, q, hA0, hV, rfl, hfz, hnd⟩ := hW
  have hA : DataW.TrodAll enc Tryd.prog W 0 (fun _ => true) true Tryd.f4.params.toList args.toList ds p := hA0
  obtain ⟨x, S, hx, hwf⟩ := open_args (us := [(.bs (.int .u8)), (.sl false (.int .u8))]) (by kernel_rfl) hA (fun j t v h1 h2 => hval j t v (by simpa using h1) (by simpa using h2))
  rw [Tryd.params4] at hA
  obtain ⟨v0, vs0, d0, ds0, p0, q0, hargs0, rfl, rfl, h0, r0⟩ := trodAll_cons hA
  obtain ⟨v1, vs1, d1, ds1, p1, q1, hargs1, rfl, rfl, h1, r1⟩ := trodAll_cons r0
  obtain ⟨rfl, rfl, rfl⟩ := trodAll_nil r1
  subst hargs1
  obtain rfl : args = #[v0, v1] := by cases args; simp_all
  obtain ⟨rfl, rfl⟩ := trodVars_none hV
  have k0 := h0
  have k1 := h1
  have lt0 : ∀ x ∈ p0, x.block < W.heap.size := by obtain ⟨m, hm⟩ := k0; exact DataW.trod_lt m _ _ _ hm
  have lt1 : ∀ x ∈ p1, x.block < W.heap.size := by obtain ⟨m, hm⟩ := k1; exact DataW.trod_lt m _ _ _ hm
  obtain ⟨k, hp⟩ := (laws_FnChunks.ev x.1 x.2.1 hwf.1 hwf.2.1).get
  refine (law_call (us := [(.bs (.int .u8)), (.sl false (.int .u8))]) rfl rfl rfl rfl laws_FnChunks.ok hx (of_laid hL) hp rfl).mono fun e W' he => ?_
  obtain ⟨he, bel0⟩ := he
  have bel : Below W.heap.size W W' := bel0
  subst he
  exact ⟨_, rfl, _, _, _, [], _, [], hW', trodAll_mk1 (shut_bool Tryd.underlying4 _), (trodAll_cons_mk (Below.trod laidOut (by kernel_rfl) (of_decide_eq_true (by kernel_rfl)) k0 bel lt0) (trodAll_cons_mk (Below.trod laidOut (by kernel_rfl) (of_decide_eq_true (by kernel_rfl)) k1 bel lt1) trodAll_mk0)), rfl, bel.frame _, fun h => by cases h⟩
theorem over : Rows.fnChunksRow.holds Tryd.pinned (OpenSpec.ofChange Rows.fnChunksSpec) :=
  OpenClaim.holds_of_wide 4 Tryd.f4 rfl rfl rfl rfl rfl rfl rfl ⟨rfl, rfl, rfl, rfl, rfl⟩ rfl rfl rfl rfl rfl (by kernel_rfl) Tryd.func4 (by kernel_rfl)
    (of_decide_eq_true (by kernel_rfl)) (by unfold Func.isWrapper; first | (rw [if_pos (by decide +kernel)]; kernel_rfl) | (rw [if_neg (by decide +kernel)]; exact ⟨rfl, rfl⟩))
    (fun os started H enc _ => lifted os started H enc)
/-- The tied card. -/
theorem proved : Rows.FnChunksCardSaid :=
  Claim7.holds_tied_plain_at .later [] [.data] true (true, "ae02ecf59cf32437bed8d92d6a084de5d45d8fbe4c4bf3d3800a457241fd5bb3") true
    over (fun _ h => by cases h) (by kernel_rfl) (fun _ h => by cases h) fnChunks_row_tie rfl ⟨rfl, rfl⟩ (by kernel_rfl) rfl
    (fun f fn hf hfn => by
      obtain rfl : f = 4 := Option.some.inj ((show Tryd.prog.funcNamed "loop.example/g00039/laws.FnChunks" = some 4 by kernel_rfl).symm.trans hf) |>.symm
      obtain rfl : fn = Tryd.f4 := (Option.some.inj (Tryd.func4.symm.trans hfn)).symm
      exact ⟨by kernel_rfl, fun j t ht => by
        rw [Tryd.params4] at ht
        have hm : t ∈ [24,24] := by simpa using Array.mem_of_getElem? ht
        have hall : ([24,24].all fun u => !Tryd.prog.wantsStandIn u) = true := by kernel_rfl
        exact (show Tryd.prog.wantsStandIn t = false by simpa using List.all_eq_true.1 hall t hm)⟩)
    (by kernel_rfl)
end Go.Proofs.YthlinnbamejmaabDoor.fnChunks
namespace Go.Proofs.YthlinnbamejmaabDoor
/-- The card, under a short name, for the claim. -/
theorem fnChunks_holds : Rows.FnChunksCardSaid := fnChunks.proved
#print axioms fnChunks_holds
end Go.Proofs.YthlinnbamejmaabDoor
