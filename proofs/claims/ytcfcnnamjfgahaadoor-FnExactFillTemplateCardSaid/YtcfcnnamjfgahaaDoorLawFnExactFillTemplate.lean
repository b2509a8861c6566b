/- The law FnExactFillTemplate of the given program returns true for every input that its guards let in; no conditions. -/
import Derived.Test.YtcfcnnamjfgahaaDoorRows
import Derived.Test.YtcfcnnamjfgahaaDoorCards
import Derived.Test.YtcfcnnamjfgahaaDoorTie
import Derived.LaidMore
import Derived.Stop.Joined
import Derived.Lib.LaidTab
import Derived.SevenTiedAt
import Derived.Test.YtcfcnnamjfgahaaDoorEExactFillTemplate1
import Derived.Test.YtcfcnnamjfgahaaDoorFExactFillTemplate1
import Derived.Test.YtcfcnnamjfgahaaDoorV1
import Derived.Test.YtcfcnnamjfgahaaDoorV2
import Derived.Test.YtcfcnnamjfgahaaDoorV3
import Derived.WalkKit
import Derived.ProofKit
import Derived.OpenShut
import Derived.ShutString
import Derived.ChangeOld
import Derived.Below
import Derived.SizedLaws
import Derived.Carry
namespace Go.Proofs.YtcfcnnamjfgahaaDoor.fnExactFillTemplate
open Go.ChangeShapes Go.WideShapes Go.ChangeAt Go.RowKit Go.VM Go.FT
set_option linter.unusedVariables false
theorem own : ownKnob Tryd.prog.godebug = none := by kernel_rfl
theorem laidOut : laidOutB Tryd.prog = true := by kernel_rfl
theorem rep_tab [Bor] {w : World} {o : Bool} {k : IntKind} : ∀ (l : List Int), RepL (Rep w o (.int k)) l (l.map (Value.int k)) []
  | [] => ⟨rfl, rfl⟩
  | x :: l => ⟨[_], _, [], [], rfl, rfl, ⟨rfl, rfl⟩, rep_tab l⟩
theorem laid_tail {P : Program} {W : World} {x : String × DataW Unit} {rest : List (String × DataW Unit)} (h : laidMet P (x :: rest) W) : laidMet P rest W := by
  obtain ⟨name, d⟩ := x
  obtain ⟨ps, ⟨g', t', cs, fuel, p, q, _, _, _, _, hq, rfl⟩, hn, hc⟩ := h
  exact ⟨q, hq, (List.nodup_append.1 hn).2.1, fun b off hm => hc b off (List.mem_append_right _ hm)⟩
theorem glob_tab {P : Program} {w : World} {name : String} {k : IntKind} {zs : List Int} {g n : Nat} (hg : P.globalNamed name = some g) (h : Lib.TabIs P w name k zs) (hn : zs.length = n) : @GlobOK (lawBor w) [(g, ⟨.ar n (.int k), zs⟩)] w [] := by
  letI : Bor := lawBor w
  have hsz : GlSz [(g, ⟨.ar n (.int k), zs⟩)] w := by
    intro g' u x hl
    unfold Lib.TabIs World.var? at h
    rw [hg, Option.bind_some] at h
    simp only [lkN] at hl
    cases hb : Nat.beq g g' with
    | false => rw [hb] at hl; cases hl
    | true =>
      rw [hb] at hl
      obtain rfl : g = g' := by simpa using hb
      simp only [sw, Option.some.injEq, TV.mk.injEq] at hl
      obtain ⟨rfl, hx⟩ := hl
      split at h
      · rename_i cs t fz hh
        have h := Option.some.inj h
        exact ⟨cs, t, fz, hh, by rw [h]; simp [U.sz, hn]⟩
      · cases h
  refine glob_law ?_ hsz
  intro g' u x hl
  unfold Lib.TabIs World.var? at h
  rw [hg, Option.bind_some] at h
  simp only [lkN] at hl
  cases hb : Nat.beq g g' with
  | false => rw [hb] at hl; cases hl
  | true =>
    rw [hb] at hl
    obtain rfl : g = g' := by simpa using hb
    simp only [sw, Option.some.injEq, TV.mk.injEq] at hl
    obtain ⟨rfl, hx⟩ := hl
    obtain rfl := eq_of_heq hx
    split at h
    · rename_i cs t fz hh
      have h := Option.some.inj h
      refine ⟨cs, t, fz, [], zs.map (Value.int k), [], [], rfl, hh, by rw [h]; simp, rfl, ?_, ⟨(Array.getElem?_eq_some_iff.1 hh).1, by simp⟩, by simp⟩
      exact ⟨_, [], [], [], by simp, rfl, ⟨hn, rep_tab zs⟩, rfl, rfl⟩
    · cases h
theorem gN : Tryd.prog.globalNamed "internal/strconv.uint64pow10" = some 1 := by kernel_rfl
theorem gT : (Tryd.prog.globals[1]?).map (·.type) = some 121 := by kernel_rfl
/-- The door's own heap meets the condition: three closed facts. -/
theorem door_met (os : Os) (args : Array Value) : laidMetH Tryd.prog Rows.fnExactFillTemplateRow.laid ((World.doorLaid Tryd.prog 400 os).forCall (fun _ _ => 0) ⟨#[], args, []⟩).memory :=
  laidMetH_of_parts3 (fuel := 8) (laidMet_of_run' 8 (by kernel_rfl) (by kernel_rfl)) (by kernel_rfl) (by kernel_rfl)
/-- The listed table is what the functions' contracts ask of it. -/
theorem of_laid {W : World} (h : laidMetH Tryd.prog Rows.fnExactFillTemplateRow.laid W) : @GlobOK (lawBor W) gl W [] := by
  rw [MakeChecks.laidMetH_plain _ _ _ (by kernel_rfl)] at h
  exact glob_tab gN (Lib.tabIs_of_head (zs := [1, 10, 100, 1000, 10000, 100000, 1000000, 10000000, 100000000, 1000000000, 10000000000, 100000000000, 1000000000000, 10000000000000, 100000000000000, 1000000000000000, 10000000000000000, 100000000000000000, 1000000000000000000, 10000000000000000000]) (k := .u64) gN gT (show Tryd.prog.underlying 121 = some (.array 20 61) by kernel_rfl) (show Tryd.prog.underlying 61 = some (.int .u64) by kernel_rfl) (by kernel_rfl) (by kernel_rfl) (laid_tail (laid_tail h))) rfl
set_option maxRecDepth 100000 in
set_option maxHeartbeats 2000000 in
theorem lifted (os : Os) (started : os.Started) (H : Type) (enc : TypeId × Value → H) :
    ReturnsInHanded {} Tryd.checked os 6 .any (fun w args => (Rows.fnExactFillTemplateSpec.pre enc Tryd.prog Tryd.f6 Rows.fnExactFillTemplateRow.domain false w args ∧ laidMetH Tryd.prog Rows.fnExactFillTemplateRow.laid w) ∧ sizedMet enc Tryd.prog Tryd.f6 (OpenSpec.ofChange Rows.fnExactFillTemplateSpec) false w args) (Rows.fnExactFillTemplateSpec.post enc Tryd.prog Tryd.f6 false true false false) := by
  refine returnsInHanded_of_change_and (C := Tryd.checked) (X := fun w _ => laidMetH Tryd.prog Rows.fnExactFillTemplateRow.laid w) (fun _ _ _ hh h => h.of_heap hh) own started (by kernel_rfl) Tryd.func6
    (ChangeSpec.witness_shaped (enc := enc) (C := Tryd.checked) (os := os) (X := fun w _ => laidMetH Tryd.prog Rows.fnExactFillTemplateRow.laid w) false (World.doorLaid Tryd.prog 400 os) #[.string ByteArray.empty, .slice none 0 0, .int .i64 0] 8 rfl (World.shaped_of_RefB (by kernel_rfl) (by kernel_rfl)) (by kernel_rfl) (by kernel_rfl) (by kernel_rfl) (door_met os _)) ?_
  intro W base args ds gs before hval0 hW hcnd hsz0 hL _
  have hval : ∀ (j : Nat) t v, Tryd.f6.params[j]? = some t → args[j]? = some v → Value.okWide Tryd.prog W .any base t v := hval0
  letI : Bor := lawBor W
  haveI : LawBor W := lawBor_law W
  have hW' := hW
  obtain ⟨p, q, hA0, hV, rfl, hfz, hnd⟩ := hW
  have hA : DataW.TrodAll enc Tryd.prog W 0 (fun _ => true) true Tryd.f6.params.toList args.toList ds p := hA0
  obtain ⟨x, S, hx, hwf⟩ := open_args (us := [.str, (.sl false (.pair .str (.pair .str .unit))), (.int .i64)]) (by kernel_rfl) hA (fun j t v h1 h2 => hval j t v (by simpa using h1) (by simpa using h2))
  rw [Tryd.params6] at hA
  obtain ⟨v0, vs0, d0, ds0, p0, q0, hargs0, rfl, rfl, h0, r0⟩ := trodAll_cons hA
  obtain ⟨v1, vs1, d1, ds1, p1, q1, hargs1, rfl, rfl, h1, r1⟩ := trodAll_cons r0
  obtain ⟨v2, vs2, d2, ds2, p2, q2, hargs2, rfl, rfl, h2, r2⟩ := trodAll_cons r1
  obtain ⟨rfl, rfl, rfl⟩ := trodAll_nil r2
  subst hargs2
  subst hargs1
  obtain rfl : args = #[v0, v1, v2] := by cases args; simp_all
  obtain ⟨rfl, rfl⟩ := trodVars_none hV
  have k0 := h0
  have k1 := h1
  have k2 := h2
  have lt0 : ∀ x ∈ p0, x.block < W.heap.size := by obtain ⟨m, hm⟩ := k0; exact DataW.trod_lt m _ _ _ hm
  have lt1 : ∀ x ∈ p1, x.block < W.heap.size := by obtain ⟨m, hm⟩ := k1; exact DataW.trod_lt m _ _ _ hm
  have lt2 : ∀ x ∈ p2, x.block < W.heap.size := by obtain ⟨m, hm⟩ := k2; exact DataW.trod_lt m _ _ _ hm
  obtain ⟨k, hp⟩ := (laws_FnExactFillTemplate.ev x.1 x.2.1 x.2.2.1 hwf.1 hwf.2.1 hwf.2.2.1).get
  refine (law_call (us := [.str, (.sl false (.pair .str (.pair .str .unit))), (.int .i64)]) rfl rfl rfl rfl laws_FnExactFillTemplate.ok hx (of_laid hL) hp rfl).mono fun e W' he => ?_
  obtain ⟨he, bel0⟩ := he
  have bel : Below W.heap.size W W' := bel0
  subst he
  exact ⟨_, rfl, _, _, _, [], _, [], hW', trodAll_mk1 (shut_bool Tryd.underlying4 _), (trodAll_cons_mk (Below.trod laidOut (by kernel_rfl) (of_decide_eq_true (by kernel_rfl)) k0 bel lt0) (trodAll_cons_mk (Below.trod laidOut (by kernel_rfl) (of_decide_eq_true (by kernel_rfl)) k1 bel lt1) (trodAll_cons_mk (Below.trod laidOut (by kernel_rfl) (of_decide_eq_true (by kernel_rfl)) k2 bel lt2) trodAll_mk0))), rfl, bel.frame _, fun h => by cases h⟩
theorem over : Rows.fnExactFillTemplateRow.holds Tryd.pinned (OpenSpec.ofChange Rows.fnExactFillTemplateSpec) :=
  OpenClaim.holds_of_wide 6 Tryd.f6 rfl rfl rfl rfl rfl rfl rfl ⟨rfl, rfl, rfl, rfl, rfl⟩ rfl rfl rfl rfl rfl (by kernel_rfl) Tryd.func6 (by kernel_rfl)
    (of_decide_eq_true (by kernel_rfl)) (by unfold Func.isWrapper; first | (rw [if_pos (by decide +kernel)]; kernel_rfl) | (rw [if_neg (by decide +kernel)]; exact ⟨rfl, rfl⟩))
    (fun os started H enc _ => lifted os started H enc)
/-- The tied card. -/
theorem proved : Rows.FnExactFillTemplateCardSaid :=
  Claim7.holds_tied_plain_at .later [] [.data, .data, .data] true (true, "fd1eb37d4e3d446c65d8ea2903535243a1fa66abad73ba4c2d475e5617d3c320") true
    over (fun _ h => by cases h) (by kernel_rfl) (fun _ h => by cases h) fnExactFillTemplate_row_tie rfl ⟨rfl, rfl⟩ (by kernel_rfl) rfl
    (fun f fn hf hfn => by
      obtain rfl : f = 6 := Option.some.inj ((show Tryd.prog.funcNamed "loop.example/g00039/laws.FnExactFillTemplate" = some 6 by kernel_rfl).symm.trans hf) |>.symm
      obtain rfl : fn = Tryd.f6 := (Option.some.inj (Tryd.func6.symm.trans hfn)).symm
      exact ⟨by kernel_rfl, fun j t ht => by
        rw [Tryd.params6] at ht
        have hm : t ∈ [9,43,3] := by simpa using Array.mem_of_getElem? ht
        have hall : ([9,43,3].all fun u => !Tryd.prog.wantsStandIn u) = true := by kernel_rfl
        exact (show Tryd.prog.wantsStandIn t = false by simpa using List.all_eq_true.1 hall t hm)⟩)
    (by kernel_rfl)
end Go.Proofs.YtcfcnnamjfgahaaDoor.fnExactFillTemplate
namespace Go.Proofs.YtcfcnnamjfgahaaDoor
/-- The card, under a short name, for the claim. -/
theorem fnExactFillTemplate_holds : Rows.FnExactFillTemplateCardSaid := fnExactFillTemplate.proved
#print axioms fnExactFillTemplate_holds
end Go.Proofs.YtcfcnnamjfgahaaDoor
