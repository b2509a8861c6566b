/- The functions that the law reaches, each as a Lean function and with its contract, part 2. -/
import Derived.Test.YtcfcnnamjfgahabV1
import Derived.Test.YtcfcnnamjfgahabV2
import Derived.Test.YtcfcnnamjfgahabV3
import Derived.Lib.Bytealg
import Derived.Shelf.Lays
import Derived.Shelf.Small.Strs
import Derived.Test.YtcfcnnamjfgahabProg
import Derived.Test.YtcfcnnamjfgahabFExactSilenced1
open Go Go.VM
namespace Go.SI
set_option maxRecDepth 100000
set_option linter.unusedVariables false
set_option linter.unusedSimpArgs false
/-! loop.example/g00039/laws.heldStringS -/
def laws_heldStringS.T : List Ctr := [laws_markText.spec]
def laws_heldStringS.md : List (Nat × List Md) := []
noncomputable def laws_heldStringS.F : Fun := ⟨(Go.Proofs.Try.f19.body).getD .skip, [.v (.sl false .str), .v (.int .i64)], [(.tmp 4, (.int .i64))], [], 0, [(7, ⟨[0, 1, 5], [], []⟩)]⟩
inductive laws_heldStringS.Pt where
  | p0 (a0 : List (ByteArray)) (a1 : Int)
  | p7 (y1 : List (ByteArray)) (y2 : Int) (y3 : Int)
def laws_heldStringS.lb : laws_heldStringS.Pt → Nat
  | .p0 _ _ => 0
  | .p7 _ _ _ => 7
def laws_heldStringS.st : laws_heldStringS.Pt → St
  | .p0 a0 a1 => enter [.v (.sl false .str) a0, .v (.int .i64) a1] 0
  | .p7 y1 y2 y3 => ⟨[(0, .im (.sl false .str) y1), (1, .im (.int .i64) y2), (5, .im (.int .i64) y3)], [], 0⟩
def laws_heldStringS.step (n : Nat) (K : laws_heldStringS.Pt → Option (Tup [(.int .i64)])) : laws_heldStringS.Pt → Option (Tup [(.int .i64)])
  | .p0 a0 a1 => K (.p7 a0 a1 (0 : Int))
  | .p7 y1 y2 y3 => cond (decide (y3 < ((List.length y1) : Int))) (cond (inB y3 (List.length y1)) ((laws_markText n y2).bind fun r6 => cond (!(seq (List.getD y1 (Int.toNat y3) default) r6)) (some (-(1 : Int))) (K (.p7 y1 (IntKind.wrap .i64 (y2 + (1 : Int))) (IntKind.wrap .i64 (y3 + (1 : Int)))))) (none)) (some y2)
def laws_heldStringS (n : Nat) (a0 : List (ByteArray)) (a1 : Int) : Option (Tup [(.int .i64)]) := goRec laws_heldStringS.step n (.p0 a0 a1)
def laws_heldStringS.spec : Ctr := ⟨19, [.v (.sl false .str), .v (.int .i64)], [(.int .i64)], [], fun n x => laws_heldStringS n x.1 x.2.1⟩
theorem laws_heldStringS.seg_eq (n : Nat) (goto : Nat → St → Option (Tup [(.int .i64)])) (y : laws_heldStringS.Pt) : seg ⟨ty, gl, laws_heldStringS.md, calOf laws_heldStringS.T n⟩ laws_heldStringS.F.np laws_heldStringS.F.ks goto (laws_heldStringS.F.fin ⟨ty, gl, laws_heldStringS.md, calOf laws_heldStringS.T 0⟩ [(.int .i64)]) laws_heldStringS.F.c (laws_heldStringS.lb y) (laws_heldStringS.st y) = laws_heldStringS.step n (fun z => goto (laws_heldStringS.lb z) (laws_heldStringS.st z)) y := by
  cases y <;> kernel_rfl
theorem laws_heldStringS.text : Text Go.Proofs.Try.prog laws_heldStringS.F laws_heldStringS.spec := ⟨⟨Go.Proofs.Try.f19, by kernel_rfl, by kernel_rfl, by decide +kernel, by kernel_rfl, by kernel_rfl, of_decide_eq_true (by kernel_rfl)⟩, fun _ => rfl, fun _ => rfl, rfl⟩
theorem laws_heldStringS.ok : CtrOK Go.Proofs.Try.prog gl laws_heldStringS.spec :=
  ctr_ok (T := laws_heldStringS.T) (F := laws_heldStringS.F) (lb := laws_heldStringS.lb) (st := laws_heldStringS.st) (step := laws_heldStringS.step) (md := laws_heldStringS.md) tabs laws_heldStringS.text laws_heldStringS.seg_eq (fun n x => ⟨.p0 x.1 x.2.1, rfl, rfl, rfl⟩) (consC laws_markText.ok (nilC))

/-! loop.example/g00039/laws.FnExactSilenced -/
def laws_FnExactSilenced.T : List Ctr := [laws_szSilenceS.spec, laws_szLabelS.spec, laws_toSilenceS.spec, laws_toLabelS.spec, spec_Silenced.spec, impl_Silenced.spec, laws_eqStringS.spec, laws_eqSilenceS.spec, laws_eqLabelS.spec, laws_markSilenceS.spec, laws_markLabelS.spec, laws_markStringS.spec, laws_heldStringS.spec]
def laws_FnExactSilenced.md : List (Nat × List Md) := [(16, [.s, .v]), (17, [.s, .v]), (18, [.s, .v])]
noncomputable def laws_FnExactSilenced.F : Fun := ⟨(Go.Proofs.Try.f3.body).getD .skip, [.v (.sl false (.pair .str (.pair (.sl false (.pair .str (.pair (.int .i64) (.pair .str .unit)))) (.pair (.int .i64) (.pair (.int .i64) .unit))))), .v (.sl false (.pair .str (.pair .str .unit))), .v (.int .i64)], [(.tmp 6, .bool)], [], 0, [(64, ⟨[0, 1, 2, 8, 11, 67], [(8, .str), (11, .str)], []⟩)]⟩
inductive laws_FnExactSilenced.Pt where
  | p0 (a0 : List ((ByteArray) × ((List ((ByteArray) × ((Int) × ((ByteArray) × (Unit))))) × ((Int) × ((Int) × (Unit)))))) (a1 : List ((ByteArray) × ((ByteArray) × (Unit)))) (a2 : Int)
  | p64 (y1 : List ((ByteArray) × ((List ((ByteArray) × ((Int) × ((ByteArray) × (Unit))))) × ((Int) × ((Int) × (Unit)))))) (y2 : List ((ByteArray) × ((ByteArray) × (Unit)))) (y3 : Int) (y4 : Bool) (y5 : List (ByteArray)) (y6 : List (ByteArray))
def laws_FnExactSilenced.lb : laws_FnExactSilenced.Pt → Nat
  | .p0 _ _ _ => 0
  | .p64 _ _ _ _ _ _ => 64
def laws_FnExactSilenced.st : laws_FnExactSilenced.Pt → St
  | .p0 a0 a1 a2 => enter [.v (.sl false (.pair .str (.pair (.sl false (.pair .str (.pair (.int .i64) (.pair .str .unit)))) (.pair (.int .i64) (.pair (.int .i64) .unit))))) a0, .v (.sl false (.pair .str (.pair .str .unit))) a1, .v (.int .i64) a2] 0
  | .p64 y1 y2 y3 y4 y5 y6 => ⟨[(0, .im (.sl false (.pair .str (.pair (.sl false (.pair .str (.pair (.int .i64) (.pair .str .unit)))) (.pair (.int .i64) (.pair (.int .i64) .unit))))) y1), (1, .im (.sl false (.pair .str (.pair .str .unit))) y2), (2, .im (.int .i64) y3), (8, .hs 0 [] none 0), (11, .hs 1 [] none 0), (67, .im .bool y4)], [(0, .arr false .str y5 0), (1, .arr false .str y6 0)], 2⟩
def laws_FnExactSilenced.step (n : Nat) (K : laws_FnExactSilenced.Pt → Option (Tup [.bool])) : laws_FnExactSilenced.Pt → Option (Tup [.bool])
  | .p0 a0 a1 a2 => (laws_szSilenceS n a0 (1048576 : Int)).bind fun (r6 : Int) => cond (decide (r6 < (0 : Int))) (some true) ((laws_szLabelS n a1 r6).bind fun (r7 : Int) => cond (decide (r7 < (0 : Int))) (some true) ((laws_toSilenceS n a0).bind fun r8 => (laws_toLabelS n a1).bind fun r9 => (spec_Silenced n r8 r9 a2).bind fun r10 => (laws_toSilenceS n a0).bind fun r11 => (laws_toLabelS n a1).bind fun r12 => (impl_Silenced n r11 r12 a2).bind fun r13 => (laws_eqStringS n r13 r10).bind fun r14 => cond (!r14) (some false) ((laws_toSilenceS n a0).bind fun r15 => (laws_eqSilenceS n r11 r15).bind fun r16 => cond (!r16) (some false) ((laws_toLabelS n a1).bind fun r17 => (laws_eqLabelS n r12 r17).bind fun r18 => cond (!r18) (some false) ((laws_markSilenceS n r11 (1 : Int)).bind fun r19 => (laws_markLabelS n r12 r19.1).bind fun r20 => cond (decide (r20.1 < (0 : Int))) (K (.p64 a0 a1 a2 true r10 r13)) ((laws_eqStringS n r13 r10).bind fun r21 => K (.p64 a0 a1 a2 (!r21) r10 r13)))))))
  | .p64 y1 y2 y3 y4 y5 y6 => cond y4 (some false) ((laws_markStringS n y6 (1 : Int)).bind fun r9 => (laws_heldStringS n r9.2 (1 : Int)).bind fun (r10 : Int) => cond (decide (r10 < (0 : Int))) (some false) (cond (!(decide (r10 = r9.1))) (some false) ((laws_toSilenceS n y1).bind fun r11 => (laws_toLabelS n y2).bind fun r12 => (impl_Silenced n r11 r12 y3).bind fun r13 => (laws_eqStringS n r13 y5).bind fun r14 => cond (!r14) (some false) ((laws_heldStringS n r9.2 (1 : Int)).bind fun (r15 : Int) => cond (decide (r15 < (0 : Int))) (some false) (cond (!(decide (r15 = r9.1))) (some false) (some true))))))
def laws_FnExactSilenced (n : Nat) (a0 : List ((ByteArray) × ((List ((ByteArray) × ((Int) × ((ByteArray) × (Unit))))) × ((Int) × ((Int) × (Unit)))))) (a1 : List ((ByteArray) × ((ByteArray) × (Unit)))) (a2 : Int) : Option (Tup [.bool]) := goRec laws_FnExactSilenced.step n (.p0 a0 a1 a2)
def laws_FnExactSilenced.spec : Ctr := ⟨3, [.v (.sl false (.pair .str (.pair (.sl false (.pair .str (.pair (.int .i64) (.pair .str .unit)))) (.pair (.int .i64) (.pair (.int .i64) .unit))))), .v (.sl false (.pair .str (.pair .str .unit))), .v (.int .i64)], [.bool], [], fun n x => laws_FnExactSilenced n x.1 x.2.1 x.2.2.1⟩
theorem laws_FnExactSilenced.seg_eq (n : Nat) (goto : Nat → St → Option (Tup [.bool])) (y : laws_FnExactSilenced.Pt) : seg ⟨ty, gl, laws_FnExactSilenced.md, calOf laws_FnExactSilenced.T n⟩ laws_FnExactSilenced.F.np laws_FnExactSilenced.F.ks goto (laws_FnExactSilenced.F.fin ⟨ty, gl, laws_FnExactSilenced.md, calOf laws_FnExactSilenced.T 0⟩ [.bool]) laws_FnExactSilenced.F.c (laws_FnExactSilenced.lb y) (laws_FnExactSilenced.st y) = laws_FnExactSilenced.step n (fun z => goto (laws_FnExactSilenced.lb z) (laws_FnExactSilenced.st z)) y := by
  cases y <;> kernel_rfl
theorem laws_FnExactSilenced.text : Text Go.Proofs.Try.prog laws_FnExactSilenced.F laws_FnExactSilenced.spec := ⟨⟨Go.Proofs.Try.f3, by kernel_rfl, by kernel_rfl, by decide +kernel, by kernel_rfl, by kernel_rfl, of_decide_eq_true (by kernel_rfl)⟩, fun _ => rfl, fun _ => rfl, rfl⟩
theorem laws_FnExactSilenced.ok : CtrOK Go.Proofs.Try.prog gl laws_FnExactSilenced.spec :=
  ctr_ok (T := laws_FnExactSilenced.T) (F := laws_FnExactSilenced.F) (lb := laws_FnExactSilenced.lb) (st := laws_FnExactSilenced.st) (step := laws_FnExactSilenced.step) (md := laws_FnExactSilenced.md) tabs laws_FnExactSilenced.text laws_FnExactSilenced.seg_eq (fun n x => ⟨.p0 x.1 x.2.1 x.2.2.1, rfl, rfl, rfl⟩) (consC laws_szSilenceS.ok (consC laws_szLabelS.ok (consC laws_toSilenceS.ok (consC laws_toLabelS.ok (consC spec_Silenced.ok (consC impl_Silenced.ok (consC laws_eqStringS.ok (consC laws_eqSilenceS.ok (consC laws_eqLabelS.ok (consC laws_markSilenceS.ok (consC laws_markLabelS.ok (consC laws_markStringS.ok (consC laws_heldStringS.ok (nilC))))))))))))))
end Go.SI
