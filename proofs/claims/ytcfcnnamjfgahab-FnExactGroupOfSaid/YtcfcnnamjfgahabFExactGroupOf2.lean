/- The functions that the law reaches, each as a Lean function and with its contract, part 2. -/
import Derived.Test.YtcfcnnamjfgahabV1
import Derived.Test.YtcfcnnamjfgahabV2
import Derived.Test.YtcfcnnamjfgahabV3
import Derived.Lib.Bytealg
import Derived.Shelf.Lays
import Derived.Shelf.Small.Strs
import Derived.Test.YtcfcnnamjfgahabProg
import Derived.Test.YtcfcnnamjfgahabFExactGroupOf1
open Go Go.VM
namespace Go.GO
set_option maxRecDepth 100000
set_option linter.unusedVariables false
set_option linter.unusedSimpArgs false
/-! loop.example/g00039/laws.eqMatcher -/
def laws_eqMatcher.T : List Ctr := []
def laws_eqMatcher.md : List (Nat × List Md) := []
noncomputable def laws_eqMatcher.F : Fun := ⟨(Go.Proofs.Try.f168.body).getD .skip, [.v (.pair .str (.pair (.int .i64) (.pair .str .unit))), .v (.pair .str (.pair (.int .i64) (.pair .str .unit)))], [(.tmp 4, .bool)], [], 0, []⟩
inductive laws_eqMatcher.Pt where
  | p0 (a0 : (ByteArray) × ((Int) × ((ByteArray) × (Unit)))) (a1 : (ByteArray) × ((Int) × ((ByteArray) × (Unit))))
def laws_eqMatcher.lb : laws_eqMatcher.Pt → Nat
  | .p0 _ _ => 0
def laws_eqMatcher.st : laws_eqMatcher.Pt → St
  | .p0 a0 a1 => enter [.v (.pair .str (.pair (.int .i64) (.pair .str .unit))) a0, .v (.pair .str (.pair (.int .i64) (.pair .str .unit))) a1] 0
def laws_eqMatcher.step (n : Nat) (K : laws_eqMatcher.Pt → Option (Tup [.bool])) : laws_eqMatcher.Pt → Option (Tup [.bool])
  | .p0 a0 a1 => cond (!(seq a0.1 a1.1)) (some false) (cond (!(decide (a0.2.1 = a1.2.1))) (some false) (cond (!(seq a0.2.2.1 a1.2.2.1)) (some false) (some true)))
def laws_eqMatcher (n : Nat) (a0 : (ByteArray) × ((Int) × ((ByteArray) × (Unit)))) (a1 : (ByteArray) × ((Int) × ((ByteArray) × (Unit)))) : Option (Tup [.bool]) := goRec laws_eqMatcher.step n (.p0 a0 a1)
def laws_eqMatcher.spec : Ctr := ⟨168, [.v (.pair .str (.pair (.int .i64) (.pair .str .unit))), .v (.pair .str (.pair (.int .i64) (.pair .str .unit)))], [.bool], [], fun n x => laws_eqMatcher n x.1 x.2.1⟩
theorem laws_eqMatcher.seg_eq (n : Nat) (goto : Nat → St → Option (Tup [.bool])) (y : laws_eqMatcher.Pt) : seg ⟨ty, gl, laws_eqMatcher.md, calOf laws_eqMatcher.T n⟩ laws_eqMatcher.F.np laws_eqMatcher.F.ks goto (laws_eqMatcher.F.fin ⟨ty, gl, laws_eqMatcher.md, calOf laws_eqMatcher.T 0⟩ [.bool]) laws_eqMatcher.F.c (laws_eqMatcher.lb y) (laws_eqMatcher.st y) = laws_eqMatcher.step n (fun z => goto (laws_eqMatcher.lb z) (laws_eqMatcher.st z)) y := by
  cases y <;> kernel_rfl
theorem laws_eqMatcher.text : Text Go.Proofs.Try.prog laws_eqMatcher.F laws_eqMatcher.spec := ⟨⟨Go.Proofs.Try.f168, by kernel_rfl, by kernel_rfl, by decide +kernel, by kernel_rfl, by kernel_rfl, of_decide_eq_true (by kernel_rfl)⟩, fun _ => rfl, fun _ => rfl, rfl⟩
theorem laws_eqMatcher.ok : CtrOK Go.Proofs.Try.prog gl laws_eqMatcher.spec :=
  ctr_ok (T := laws_eqMatcher.T) (F := laws_eqMatcher.F) (lb := laws_eqMatcher.lb) (st := laws_eqMatcher.st) (step := laws_eqMatcher.step) (md := laws_eqMatcher.md) tabs laws_eqMatcher.text laws_eqMatcher.seg_eq (fun n x => ⟨.p0 x.1 x.2.1, rfl, rfl, rfl⟩) (nilC)

/-! loop.example/g00039/laws.eqMatcherS -/
def laws_eqMatcherS.T : List Ctr := [laws_eqMatcher.spec]
def laws_eqMatcherS.md : List (Nat × List Md) := []
noncomputable def laws_eqMatcherS.F : Fun := ⟨(Go.Proofs.Try.f106.body).getD .skip, [.v (.sl false (.pair .str (.pair (.int .i64) (.pair .str .unit)))), .v (.sl false (.pair .str (.pair (.int .i64) (.pair .str .unit))))], [(.tmp 4, .bool)], [], 0, [(15, ⟨[0, 1, 5], [], [], false⟩)]⟩
inductive laws_eqMatcherS.Pt where
  | p0 (a0 : List ((ByteArray) × ((Int) × ((ByteArray) × (Unit))))) (a1 : List ((ByteArray) × ((Int) × ((ByteArray) × (Unit)))))
  | p15 (y1 : List ((ByteArray) × ((Int) × ((ByteArray) × (Unit))))) (y2 : List ((ByteArray) × ((Int) × ((ByteArray) × (Unit))))) (y3 : Int)
def laws_eqMatcherS.lb : laws_eqMatcherS.Pt → Nat
  | .p0 _ _ => 0
  | .p15 _ _ _ => 15
def laws_eqMatcherS.st : laws_eqMatcherS.Pt → St
  | .p0 a0 a1 => enter [.v (.sl false (.pair .str (.pair (.int .i64) (.pair .str .unit)))) a0, .v (.sl false (.pair .str (.pair (.int .i64) (.pair .str .unit)))) a1] 0
  | .p15 y1 y2 y3 => ⟨[(0, .im (.sl false (.pair .str (.pair (.int .i64) (.pair .str .unit)))) y1), (1, .im (.sl false (.pair .str (.pair (.int .i64) (.pair .str .unit)))) y2), (5, .im (.int .i64) y3)], [], 0⟩
def laws_eqMatcherS.step (n : Nat) (K : laws_eqMatcherS.Pt → Option (Tup [.bool])) : laws_eqMatcherS.Pt → Option (Tup [.bool])
  | .p0 a0 a1 => cond (!(decide (((List.length a0) : Int) = ((List.length a1) : Int)))) (some false) (K (.p15 a0 a1 (0 : Int)))
  | .p15 y1 y2 y3 => cond (decide (y3 < ((List.length y1) : Int))) (cond (inB y3 (List.length y1)) (cond (inB y3 (List.length y2)) ((laws_eqMatcher n (List.getD y1 (Int.toNat y3) default) (List.getD y2 (Int.toNat y3) default)).bind fun r6 => cond (!r6) (some false) (K (.p15 y1 y2 (IntKind.wrap .i64 (y3 + (1 : Int)))))) (none)) (none)) (some true)
def laws_eqMatcherS (n : Nat) (a0 : List ((ByteArray) × ((Int) × ((ByteArray) × (Unit))))) (a1 : List ((ByteArray) × ((Int) × ((ByteArray) × (Unit))))) : Option (Tup [.bool]) := goRec laws_eqMatcherS.step n (.p0 a0 a1)
def laws_eqMatcherS.spec : Ctr := ⟨106, [.v (.sl false (.pair .str (.pair (.int .i64) (.pair .str .unit)))), .v (.sl false (.pair .str (.pair (.int .i64) (.pair .str .unit))))], [.bool], [], fun n x => laws_eqMatcherS n x.1 x.2.1⟩
theorem laws_eqMatcherS.seg_eq (n : Nat) (goto : Nat → St → Option (Tup [.bool])) (y : laws_eqMatcherS.Pt) : seg ⟨ty, gl, laws_eqMatcherS.md, calOf laws_eqMatcherS.T n⟩ laws_eqMatcherS.F.np laws_eqMatcherS.F.ks goto (laws_eqMatcherS.F.fin ⟨ty, gl, laws_eqMatcherS.md, calOf laws_eqMatcherS.T 0⟩ [.bool]) laws_eqMatcherS.F.c (laws_eqMatcherS.lb y) (laws_eqMatcherS.st y) = laws_eqMatcherS.step n (fun z => goto (laws_eqMatcherS.lb z) (laws_eqMatcherS.st z)) y := by
  cases y <;> kernel_rfl
theorem laws_eqMatcherS.text : Text Go.Proofs.Try.prog laws_eqMatcherS.F laws_eqMatcherS.spec := ⟨⟨Go.Proofs.Try.f106, by kernel_rfl, by kernel_rfl, by decide +kernel, by kernel_rfl, by kernel_rfl, of_decide_eq_true (by kernel_rfl)⟩, fun _ => rfl, fun _ => rfl, rfl⟩
theorem laws_eqMatcherS.ok : CtrOK Go.Proofs.Try.prog gl laws_eqMatcherS.spec :=
  ctr_ok (T := laws_eqMatcherS.T) (F := laws_eqMatcherS.F) (lb := laws_eqMatcherS.lb) (st := laws_eqMatcherS.st) (step := laws_eqMatcherS.step) (md := laws_eqMatcherS.md) tabs laws_eqMatcherS.text laws_eqMatcherS.seg_eq (fun n x => ⟨.p0 x.1 x.2.1, rfl, rfl, rfl⟩) (consC laws_eqMatcher.ok (nilC))

/-! loop.example/g00039/laws.eqStringS -/
def laws_eqStringS.T : List Ctr := []
def laws_eqStringS.md : List (Nat × List Md) := []
noncomputable def laws_eqStringS.F : Fun := ⟨(Go.Proofs.Try.f13.body).getD .skip, [.v (.sl false .str), .v (.sl false .str)], [(.tmp 4, .bool)], [], 0, [(15, ⟨[0, 1, 5], [], [], false⟩)]⟩
inductive laws_eqStringS.Pt where
  | p0 (a0 : List (ByteArray)) (a1 : List (ByteArray))
  | p15 (y1 : List (ByteArray)) (y2 : List (ByteArray)) (y3 : Int)
def laws_eqStringS.lb : laws_eqStringS.Pt → Nat
  | .p0 _ _ => 0
  | .p15 _ _ _ => 15
def laws_eqStringS.st : laws_eqStringS.Pt → St
  | .p0 a0 a1 => enter [.v (.sl false .str) a0, .v (.sl false .str) a1] 0
  | .p15 y1 y2 y3 => ⟨[(0, .im (.sl false .str) y1), (1, .im (.sl false .str) y2), (5, .im (.int .i64) y3)], [], 0⟩
def laws_eqStringS.step (n : Nat) (K : laws_eqStringS.Pt → Option (Tup [.bool])) : laws_eqStringS.Pt → Option (Tup [.bool])
  | .p0 a0 a1 => cond (!(decide (((List.length a0) : Int) = ((List.length a1) : Int)))) (some false) (K (.p15 a0 a1 (0 : Int)))
  | .p15 y1 y2 y3 => cond (decide (y3 < ((List.length y1) : Int))) (cond (inB y3 (List.length y1)) (cond (inB y3 (List.length y2)) (cond (!(seq (List.getD y1 (Int.toNat y3) default) (List.getD y2 (Int.toNat y3) default))) (some false) (K (.p15 y1 y2 (IntKind.wrap .i64 (y3 + (1 : Int)))))) (none)) (none)) (some true)
def laws_eqStringS (n : Nat) (a0 : List (ByteArray)) (a1 : List (ByteArray)) : Option (Tup [.bool]) := goRec laws_eqStringS.step n (.p0 a0 a1)
def laws_eqStringS.spec : Ctr := ⟨13, [.v (.sl false .str), .v (.sl false .str)], [.bool], [], fun n x => laws_eqStringS n x.1 x.2.1⟩
theorem laws_eqStringS.seg_eq (n : Nat) (goto : Nat → St → Option (Tup [.bool])) (y : laws_eqStringS.Pt) : seg ⟨ty, gl, laws_eqStringS.md, calOf laws_eqStringS.T n⟩ laws_eqStringS.F.np laws_eqStringS.F.ks goto (laws_eqStringS.F.fin ⟨ty, gl, laws_eqStringS.md, calOf laws_eqStringS.T 0⟩ [.bool]) laws_eqStringS.F.c (laws_eqStringS.lb y) (laws_eqStringS.st y) = laws_eqStringS.step n (fun z => goto (laws_eqStringS.lb z) (laws_eqStringS.st z)) y := by
  cases y <;> kernel_rfl
theorem laws_eqStringS.text : Text Go.Proofs.Try.prog laws_eqStringS.F laws_eqStringS.spec := ⟨⟨Go.Proofs.Try.f13, by kernel_rfl, by kernel_rfl, by decide +kernel, by kernel_rfl, by kernel_rfl, of_decide_eq_true (by kernel_rfl)⟩, fun _ => rfl, fun _ => rfl, rfl⟩
theorem laws_eqStringS.ok : CtrOK Go.Proofs.Try.prog gl laws_eqStringS.spec :=
  ctr_ok (T := laws_eqStringS.T) (F := laws_eqStringS.F) (lb := laws_eqStringS.lb) (st := laws_eqStringS.st) (step := laws_eqStringS.step) (md := laws_eqStringS.md) tabs laws_eqStringS.text laws_eqStringS.seg_eq (fun n x => ⟨.p0 x.1 x.2.1, rfl, rfl, rfl⟩) (nilC)

/-! loop.example/g00039/laws.eqIntS -/
def laws_eqIntS.T : List Ctr := []
def laws_eqIntS.md : List (Nat × List Md) := []
noncomputable def laws_eqIntS.F : Fun := ⟨(Go.Proofs.Try.f129.body).getD .skip, [.v (.sl false (.int .i64)), .v (.sl false (.int .i64))], [(.tmp 4, .bool)], [], 0, [(15, ⟨[0, 1, 5], [], [], false⟩)]⟩
inductive laws_eqIntS.Pt where
  | p0 (a0 : List (Int)) (a1 : List (Int))
  | p15 (y1 : List (Int)) (y2 : List (Int)) (y3 : Int)
def laws_eqIntS.lb : laws_eqIntS.Pt → Nat
  | .p0 _ _ => 0
  | .p15 _ _ _ => 15
def laws_eqIntS.st : laws_eqIntS.Pt → St
  | .p0 a0 a1 => enter [.v (.sl false (.int .i64)) a0, .v (.sl false (.int .i64)) a1] 0
  | .p15 y1 y2 y3 => ⟨[(0, .im (.sl false (.int .i64)) y1), (1, .im (.sl false (.int .i64)) y2), (5, .im (.int .i64) y3)], [], 0⟩
def laws_eqIntS.step (n : Nat) (K : laws_eqIntS.Pt → Option (Tup [.bool])) : laws_eqIntS.Pt → Option (Tup [.bool])
  | .p0 a0 a1 => cond (!(decide (((List.length a0) : Int) = ((List.length a1) : Int)))) (some false) (K (.p15 a0 a1 (0 : Int)))
  | .p15 y1 y2 y3 => cond (decide (y3 < ((List.length y1) : Int))) (cond (inB y3 (List.length y1)) (cond (inB y3 (List.length y2)) (cond (!(decide ((List.getD y1 (Int.toNat y3) default) = (List.getD y2 (Int.toNat y3) default)))) (some false) (K (.p15 y1 y2 (IntKind.wrap .i64 (y3 + (1 : Int)))))) (none)) (none)) (some true)
def laws_eqIntS (n : Nat) (a0 : List (Int)) (a1 : List (Int)) : Option (Tup [.bool]) := goRec laws_eqIntS.step n (.p0 a0 a1)
def laws_eqIntS.spec : Ctr := ⟨129, [.v (.sl false (.int .i64)), .v (.sl false (.int .i64))], [.bool], [], fun n x => laws_eqIntS n x.1 x.2.1⟩
theorem laws_eqIntS.seg_eq (n : Nat) (goto : Nat → St → Option (Tup [.bool])) (y : laws_eqIntS.Pt) : seg ⟨ty, gl, laws_eqIntS.md, calOf laws_eqIntS.T n⟩ laws_eqIntS.F.np laws_eqIntS.F.ks goto (laws_eqIntS.F.fin ⟨ty, gl, laws_eqIntS.md, calOf laws_eqIntS.T 0⟩ [.bool]) laws_eqIntS.F.c (laws_eqIntS.lb y) (laws_eqIntS.st y) = laws_eqIntS.step n (fun z => goto (laws_eqIntS.lb z) (laws_eqIntS.st z)) y := by
  cases y <;> kernel_rfl
theorem laws_eqIntS.text : Text Go.Proofs.Try.prog laws_eqIntS.F laws_eqIntS.spec := ⟨⟨Go.Proofs.Try.f129, by kernel_rfl, by kernel_rfl, by decide +kernel, by kernel_rfl, by kernel_rfl, of_decide_eq_true (by kernel_rfl)⟩, fun _ => rfl, fun _ => rfl, rfl⟩
theorem laws_eqIntS.ok : CtrOK Go.Proofs.Try.prog gl laws_eqIntS.spec :=
  ctr_ok (T := laws_eqIntS.T) (F := laws_eqIntS.F) (lb := laws_eqIntS.lb) (st := laws_eqIntS.st) (step := laws_eqIntS.step) (md := laws_eqIntS.md) tabs laws_eqIntS.text laws_eqIntS.seg_eq (fun n x => ⟨.p0 x.1 x.2.1, rfl, rfl, rfl⟩) (nilC)

/-! loop.example/g00039/laws.eqRoute -/
def laws_eqRoute.T : List Ctr := [laws_eqMatcherS.spec, laws_eqStringS.spec, laws_eqIntS.spec]
def laws_eqRoute.md : List (Nat × List Md) := []
noncomputable def laws_eqRoute.F : Fun := ⟨(Go.Proofs.Try.f75.body).getD .skip, [.v (.pair .str (.pair (.sl false (.pair .str (.pair (.int .i64) (.pair .str .unit)))) (.pair (.sl false .str) (.pair (.int .i64) (.pair (.int .i64) (.pair (.int .i64) (.pair (.sl false (.int .i64)) (.pair .bool (.pair (.int .i64) .unit))))))))), .v (.pair .str (.pair (.sl false (.pair .str (.pair (.int .i64) (.pair .str .unit)))) (.pair (.sl false .str) (.pair (.int .i64) (.pair (.int .i64) (.pair (.int .i64) (.pair (.sl false (.int .i64)) (.pair .bool (.pair (.int .i64) .unit)))))))))], [(.tmp 4, .bool)], [], 0, []⟩
inductive laws_eqRoute.Pt where
  | p0 (a0 : (ByteArray) × ((List ((ByteArray) × ((Int) × ((ByteArray) × (Unit))))) × ((List (ByteArray)) × ((Int) × ((Int) × ((Int) × ((List (Int)) × ((Bool) × ((Int) × (Unit)))))))))) (a1 : (ByteArray) × ((List ((ByteArray) × ((Int) × ((ByteArray) × (Unit))))) × ((List (ByteArray)) × ((Int) × ((Int) × ((Int) × ((List (Int)) × ((Bool) × ((Int) × (Unit))))))))))
def laws_eqRoute.lb : laws_eqRoute.Pt → Nat
  | .p0 _ _ => 0
def laws_eqRoute.st : laws_eqRoute.Pt → St
  | .p0 a0 a1 => enter [.v (.pair .str (.pair (.sl false (.pair .str (.pair (.int .i64) (.pair .str .unit)))) (.pair (.sl false .str) (.pair (.int .i64) (.pair (.int .i64) (.pair (.int .i64) (.pair (.sl false (.int .i64)) (.pair .bool (.pair (.int .i64) .unit))))))))) a0, .v (.pair .str (.pair (.sl false (.pair .str (.pair (.int .i64) (.pair .str .unit)))) (.pair (.sl false .str) (.pair (.int .i64) (.pair (.int .i64) (.pair (.int .i64) (.pair (.sl false (.int .i64)) (.pair .bool (.pair (.int .i64) .unit))))))))) a1] 0
def laws_eqRoute.step (n : Nat) (K : laws_eqRoute.Pt → Option (Tup [.bool])) : laws_eqRoute.Pt → Option (Tup [.bool])
  | .p0 a0 a1 => cond (!(seq a0.1 a1.1)) (some false) ((laws_eqMatcherS n a0.2.1 a1.2.1).bind fun r5 => cond (!r5) (some false) ((laws_eqStringS n a0.2.2.1 a1.2.2.1).bind fun r6 => cond (!r6) (some false) (cond (!(decide (a0.2.2.2.1 = a1.2.2.2.1))) (some false) (cond (!(decide (a0.2.2.2.2.1 = a1.2.2.2.2.1))) (some false) (cond (!(decide (a0.2.2.2.2.2.1 = a1.2.2.2.2.2.1))) (some false) ((laws_eqIntS n a0.2.2.2.2.2.2.1 a1.2.2.2.2.2.2.1).bind fun r7 => cond (!r7) (some false) (cond (a0.2.2.2.2.2.2.2.1 != a1.2.2.2.2.2.2.2.1) (some false) (cond (!(decide (a0.2.2.2.2.2.2.2.2.1 = a1.2.2.2.2.2.2.2.2.1))) (some false) (some true)))))))))
def laws_eqRoute (n : Nat) (a0 : (ByteArray) × ((List ((ByteArray) × ((Int) × ((ByteArray) × (Unit))))) × ((List (ByteArray)) × ((Int) × ((Int) × ((Int) × ((List (Int)) × ((Bool) × ((Int) × (Unit)))))))))) (a1 : (ByteArray) × ((List ((ByteArray) × ((Int) × ((ByteArray) × (Unit))))) × ((List (ByteArray)) × ((Int) × ((Int) × ((Int) × ((List (Int)) × ((Bool) × ((Int) × (Unit)))))))))) : Option (Tup [.bool]) := goRec laws_eqRoute.step n (.p0 a0 a1)
def laws_eqRoute.spec : Ctr := ⟨75, [.v (.pair .str (.pair (.sl false (.pair .str (.pair (.int .i64) (.pair .str .unit)))) (.pair (.sl false .str) (.pair (.int .i64) (.pair (.int .i64) (.pair (.int .i64) (.pair (.sl false (.int .i64)) (.pair .bool (.pair (.int .i64) .unit))))))))), .v (.pair .str (.pair (.sl false (.pair .str (.pair (.int .i64) (.pair .str .unit)))) (.pair (.sl false .str) (.pair (.int .i64) (.pair (.int .i64) (.pair (.int .i64) (.pair (.sl false (.int .i64)) (.pair .bool (.pair (.int .i64) .unit)))))))))], [.bool], [], fun n x => laws_eqRoute n x.1 x.2.1⟩
theorem laws_eqRoute.seg_eq (n : Nat) (goto : Nat → St → Option (Tup [.bool])) (y : laws_eqRoute.Pt) : seg ⟨ty, gl, laws_eqRoute.md, calOf laws_eqRoute.T n⟩ laws_eqRoute.F.np laws_eqRoute.F.ks goto (laws_eqRoute.F.fin ⟨ty, gl, laws_eqRoute.md, calOf laws_eqRoute.T 0⟩ [.bool]) laws_eqRoute.F.c (laws_eqRoute.lb y) (laws_eqRoute.st y) = laws_eqRoute.step n (fun z => goto (laws_eqRoute.lb z) (laws_eqRoute.st z)) y := by
  cases y <;> kernel_rfl
theorem laws_eqRoute.text : Text Go.Proofs.Try.prog laws_eqRoute.F laws_eqRoute.spec := ⟨⟨Go.Proofs.Try.f75, by kernel_rfl, by kernel_rfl, by decide +kernel, by kernel_rfl, by kernel_rfl, of_decide_eq_true (by kernel_rfl)⟩, fun _ => rfl, fun _ => rfl, rfl⟩
theorem laws_eqRoute.ok : CtrOK Go.Proofs.Try.prog gl laws_eqRoute.spec :=
  ctr_ok (T := laws_eqRoute.T) (F := laws_eqRoute.F) (lb := laws_eqRoute.lb) (st := laws_eqRoute.st) (step := laws_eqRoute.step) (md := laws_eqRoute.md) tabs laws_eqRoute.text laws_eqRoute.seg_eq (fun n x => ⟨.p0 x.1 x.2.1, rfl, rfl, rfl⟩) (consC laws_eqMatcherS.ok (consC laws_eqStringS.ok (consC laws_eqIntS.ok (nilC))))

/-! loop.example/g00039/laws.eqRouteS -/
def laws_eqRouteS.T : List Ctr := [laws_eqRoute.spec]
def laws_eqRouteS.md : List (Nat × List Md) := []
noncomputable def laws_eqRouteS.F : Fun := ⟨(Go.Proofs.Try.f32.body).getD .skip, [.v (.sl false (.pair .str (.pair (.sl false (.pair .str (.pair (.int .i64) (.pair .str .unit)))) (.pair (.sl false .str) (.pair (.int .i64) (.pair (.int .i64) (.pair (.int .i64) (.pair (.sl false (.int .i64)) (.pair .bool (.pair (.int .i64) .unit)))))))))), .v (.sl false (.pair .str (.pair (.sl false (.pair .str (.pair (.int .i64) (.pair .str .unit)))) (.pair (.sl false .str) (.pair (.int .i64) (.pair (.int .i64) (.pair (.int .i64) (.pair (.sl false (.int .i64)) (.pair .bool (.pair (.int .i64) .unit))))))))))], [(.tmp 4, .bool)], [], 0, [(15, ⟨[0, 1, 5], [], [], false⟩)]⟩
inductive laws_eqRouteS.Pt where
  | p0 (a0 : List ((ByteArray) × ((List ((ByteArray) × ((Int) × ((ByteArray) × (Unit))))) × ((List (ByteArray)) × ((Int) × ((Int) × ((Int) × ((List (Int)) × ((Bool) × ((Int) × (Unit))))))))))) (a1 : List ((ByteArray) × ((List ((ByteArray) × ((Int) × ((ByteArray) × (Unit))))) × ((List (ByteArray)) × ((Int) × ((Int) × ((Int) × ((List (Int)) × ((Bool) × ((Int) × (Unit)))))))))))
  | p15 (y1 : List ((ByteArray) × ((List ((ByteArray) × ((Int) × ((ByteArray) × (Unit))))) × ((List (ByteArray)) × ((Int) × ((Int) × ((Int) × ((List (Int)) × ((Bool) × ((Int) × (Unit))))))))))) (y2 : List ((ByteArray) × ((List ((ByteArray) × ((Int) × ((ByteArray) × (Unit))))) × ((List (ByteArray)) × ((Int) × ((Int) × ((Int) × ((List (Int)) × ((Bool) × ((Int) × (Unit))))))))))) (y3 : Int)
def laws_eqRouteS.lb : laws_eqRouteS.Pt → Nat
  | .p0 _ _ => 0
  | .p15 _ _ _ => 15
def laws_eqRouteS.st : laws_eqRouteS.Pt → St
  | .p0 a0 a1 => enter [.v (.sl false (.pair .str (.pair (.sl false (.pair .str (.pair (.int .i64) (.pair .str .unit)))) (.pair (.sl false .str) (.pair (.int .i64) (.pair (.int .i64) (.pair (.int .i64) (.pair (.sl false (.int .i64)) (.pair .bool (.pair (.int .i64) .unit)))))))))) a0, .v (.sl false (.pair .str (.pair (.sl false (.pair .str (.pair (.int .i64) (.pair .str .unit)))) (.pair (.sl false .str) (.pair (.int .i64) (.pair (.int .i64) (.pair (.int .i64) (.pair (.sl false (.int .i64)) (.pair .bool (.pair (.int .i64) .unit)))))))))) a1] 0
  | .p15 y1 y2 y3 => ⟨[(0, .im (.sl false (.pair .str (.pair (.sl false (.pair .str (.pair (.int .i64) (.pair .str .unit)))) (.pair (.sl false .str) (.pair (.int .i64) (.pair (.int .i64) (.pair (.int .i64) (.pair (.sl false (.int .i64)) (.pair .bool (.pair (.int .i64) .unit)))))))))) y1), (1, .im (.sl false (.pair .str (.pair (.sl false (.pair .str (.pair (.int .i64) (.pair .str .unit)))) (.pair (.sl false .str) (.pair (.int .i64) (.pair (.int .i64) (.pair (.int .i64) (.pair (.sl false (.int .i64)) (.pair .bool (.pair (.int .i64) .unit)))))))))) y2), (5, .im (.int .i64) y3)], [], 0⟩
def laws_eqRouteS.step (n : Nat) (K : laws_eqRouteS.Pt → Option (Tup [.bool])) : laws_eqRouteS.Pt → Option (Tup [.bool])
  | .p0 a0 a1 => cond (!(decide (((List.length a0) : Int) = ((List.length a1) : Int)))) (some false) (K (.p15 a0 a1 (0 : Int)))
  | .p15 y1 y2 y3 => cond (decide (y3 < ((List.length y1) : Int))) (cond (inB y3 (List.length y1)) (cond (inB y3 (List.length y2)) ((laws_eqRoute n (List.getD y1 (Int.toNat y3) default) (List.getD y2 (Int.toNat y3) default)).bind fun r6 => cond (!r6) (some false) (K (.p15 y1 y2 (IntKind.wrap .i64 (y3 + (1 : Int)))))) (none)) (none)) (some true)
def laws_eqRouteS (n : Nat) (a0 : List ((ByteArray) × ((List ((ByteArray) × ((Int) × ((ByteArray) × (Unit))))) × ((List (ByteArray)) × ((Int) × ((Int) × ((Int) × ((List (Int)) × ((Bool) × ((Int) × (Unit))))))))))) (a1 : List ((ByteArray) × ((List ((ByteArray) × ((Int) × ((ByteArray) × (Unit))))) × ((List (ByteArray)) × ((Int) × ((Int) × ((Int) × ((List (Int)) × ((Bool) × ((Int) × (Unit))))))))))) : Option (Tup [.bool]) := goRec laws_eqRouteS.step n (.p0 a0 a1)
def laws_eqRouteS.spec : Ctr := ⟨32, [.v (.sl false (.pair .str (.pair (.sl false (.pair .str (.pair (.int .i64) (.pair .str .unit)))) (.pair (.sl false .str) (.pair (.int .i64) (.pair (.int .i64) (.pair (.int .i64) (.pair (.sl false (.int .i64)) (.pair .bool (.pair (.int .i64) .unit)))))))))), .v (.sl false (.pair .str (.pair (.sl false (.pair .str (.pair (.int .i64) (.pair .str .unit)))) (.pair (.sl false .str) (.pair (.int .i64) (.pair (.int .i64) (.pair (.int .i64) (.pair (.sl false (.int .i64)) (.pair .bool (.pair (.int .i64) .unit))))))))))], [.bool], [], fun n x => laws_eqRouteS n x.1 x.2.1⟩
theorem laws_eqRouteS.seg_eq (n : Nat) (goto : Nat → St → Option (Tup [.bool])) (y : laws_eqRouteS.Pt) : seg ⟨ty, gl, laws_eqRouteS.md, calOf laws_eqRouteS.T n⟩ laws_eqRouteS.F.np laws_eqRouteS.F.ks goto (laws_eqRouteS.F.fin ⟨ty, gl, laws_eqRouteS.md, calOf laws_eqRouteS.T 0⟩ [.bool]) laws_eqRouteS.F.c (laws_eqRouteS.lb y) (laws_eqRouteS.st y) = laws_eqRouteS.step n (fun z => goto (laws_eqRouteS.lb z) (laws_eqRouteS.st z)) y := by
  cases y <;> kernel_rfl
theorem laws_eqRouteS.text : Text Go.Proofs.Try.prog laws_eqRouteS.F laws_eqRouteS.spec := ⟨⟨Go.Proofs.Try.f32, by kernel_rfl, by kernel_rfl, by decide +kernel, by kernel_rfl, by kernel_rfl, of_decide_eq_true (by kernel_rfl)⟩, fun _ => rfl, fun _ => rfl, rfl⟩
theorem laws_eqRouteS.ok : CtrOK Go.Proofs.Try.prog gl laws_eqRouteS.spec :=
  ctr_ok (T := laws_eqRouteS.T) (F := laws_eqRouteS.F) (lb := laws_eqRouteS.lb) (st := laws_eqRouteS.st) (step := laws_eqRouteS.step) (md := laws_eqRouteS.md) tabs laws_eqRouteS.text laws_eqRouteS.seg_eq (fun n x => ⟨.p0 x.1 x.2.1, rfl, rfl, rfl⟩) (consC laws_eqRoute.ok (nilC))

/-! loop.example/g00039/laws.markText -/
def laws_markText.T : List Ctr := []
def laws_markText.md : List (Nat × List Md) := []
noncomputable def laws_markText.F : Fun := ⟨(Go.Proofs.Try.f58.body).getD .skip, [.v (.int .i64)], [(.tmp 2, .str)], [], 0, [(15, ⟨[0, 3], [], [], false⟩)]⟩
inductive laws_markText.Pt where
  | p0 (a0 : Int)
  | p15 (y1 : Int) (y2 : ByteArray)
def laws_markText.lb : laws_markText.Pt → Nat
  | .p0 _ => 0
  | .p15 _ _ => 15
def laws_markText.st : laws_markText.Pt → St
  | .p0 a0 => enter [.v (.int .i64) a0] 0
  | .p15 y1 y2 => ⟨[(0, .im (.int .i64) y1), (3, .im .str y2)], [], 0⟩
def laws_markText.step (n : Nat) (K : laws_markText.Pt → Option (Tup [.str])) : laws_markText.Pt → Option (Tup [.str])
  | .p0 a0 => cond (decide (a0 ≤ (0 : Int))) (some (⟨#[109, 48]⟩ : ByteArray)) (K (.p15 a0 (⟨#[]⟩ : ByteArray)))
  | .p15 y1 y2 => cond (decide ((0 : Int) < y1)) (cond (room ((ByteArray.size (ofOcts [(IntKind.wrap .u8 (IntKind.wrap .i64 ((48 : Int) + (Int.tmod y1 (10 : Int)))))])) + (ByteArray.size y2))) (K (.p15 (IntKind.wrap .i64 (Int.tdiv y1 (10 : Int))) ((ofOcts [(IntKind.wrap .u8 (IntKind.wrap .i64 ((48 : Int) + (Int.tmod y1 (10 : Int)))))]) ++ y2))) (none)) (cond (room ((ByteArray.size (⟨#[109]⟩ : ByteArray)) + (ByteArray.size y2))) (some ((⟨#[109]⟩ : ByteArray) ++ y2)) (none))
def laws_markText (n : Nat) (a0 : Int) : Option (Tup [.str]) := goRec laws_markText.step n (.p0 a0)
def laws_markText.spec : Ctr := ⟨58, [.v (.int .i64)], [.str], [], fun n x => laws_markText n x.1⟩
theorem laws_markText.seg_eq (n : Nat) (goto : Nat → St → Option (Tup [.str])) (y : laws_markText.Pt) : seg ⟨ty, gl, laws_markText.md, calOf laws_markText.T n⟩ laws_markText.F.np laws_markText.F.ks goto (laws_markText.F.fin ⟨ty, gl, laws_markText.md, calOf laws_markText.T 0⟩ [.str]) laws_markText.F.c (laws_markText.lb y) (laws_markText.st y) = laws_markText.step n (fun z => goto (laws_markText.lb z) (laws_markText.st z)) y := by
  cases y <;> kernel_rfl
theorem laws_markText.text : Text Go.Proofs.Try.prog laws_markText.F laws_markText.spec := ⟨⟨Go.Proofs.Try.f58, by kernel_rfl, by kernel_rfl, by decide +kernel, by kernel_rfl, by kernel_rfl, of_decide_eq_true (by kernel_rfl)⟩, fun _ => rfl, fun _ => rfl, rfl⟩
theorem laws_markText.ok : CtrOK Go.Proofs.Try.prog gl laws_markText.spec :=
  ctr_ok (T := laws_markText.T) (F := laws_markText.F) (lb := laws_markText.lb) (st := laws_markText.st) (step := laws_markText.step) (md := laws_markText.md) tabs laws_markText.text laws_markText.seg_eq (fun n x => ⟨.p0 x.1, rfl, rfl, rfl⟩) (nilC)

/-! loop.example/g00039/laws.markMatcherS -/
def laws_markMatcherS.T : List Ctr := [laws_markText.spec]
def laws_markMatcherS.md : List (Nat × List Md) := []
noncomputable def laws_markMatcherS.F : Fun := ⟨(Go.Proofs.Try.f59.body).getD .skip, [.s false (.pair .str (.pair (.int .i64) (.pair .str .unit))), .v (.int .i64)], [(.tmp 4, (.int .i64))], [none], 1, [(7, ⟨[0, 1, 5], [], [], false⟩)]⟩
inductive laws_markMatcherS.Pt where
  | p0 (a0 : List ((ByteArray) × ((Int) × ((ByteArray) × (Unit))))) (a1 : Int)
  | p7 (y1 : Int) (y2 : Int) (y3 : List ((ByteArray) × ((Int) × ((ByteArray) × (Unit)))))
def laws_markMatcherS.lb : laws_markMatcherS.Pt → Nat
  | .p0 _ _ => 0
  | .p7 _ _ _ => 7
def laws_markMatcherS.st : laws_markMatcherS.Pt → St
  | .p0 a0 a1 => enter [.s false (.pair .str (.pair (.int .i64) (.pair .str .unit))) a0, .v (.int .i64) a1] 1
  | .p7 y1 y2 y3 => ⟨[(0, .hs 0 [] none 0), (1, .im (.int .i64) y1), (5, .im (.int .i64) y2)], [(0, .arr false (.pair .str (.pair (.int .i64) (.pair .str .unit))) y3 0)], 1⟩
def laws_markMatcherS.step (n : Nat) (K : laws_markMatcherS.Pt → Option (Tup [(.int .i64), (.sl false (.pair .str (.pair (.int .i64) (.pair .str .unit))))])) : laws_markMatcherS.Pt → Option (Tup [(.int .i64), (.sl false (.pair .str (.pair (.int .i64) (.pair .str .unit))))])
  | .p0 a0 a1 => K (.p7 a1 (0 : Int) a0)
  | .p7 y1 y2 y3 => cond (decide (y2 < ((List.length y3) : Int))) ((laws_markText n y1).bind fun r6 => cond (inB y2 (List.length y3)) (cond (inB y2 (List.length (List.set y3 (0 + (Int.toNat y2)) (r6, (List.getD y3 (0 + (Int.toNat y2)) default).2)))) ((laws_markText n (IntKind.wrap .i64 ((IntKind.wrap .i64 (y1 + (1 : Int))) + (1 : Int)))).bind fun r7 => let mm0 := (List.set (List.set y3 (0 + (Int.toNat y2)) (r6, (List.getD y3 (0 + (Int.toNat y2)) default).2)) (0 + (Int.toNat y2)) ((List.getD (List.set y3 (0 + (Int.toNat y2)) (r6, (List.getD y3 (0 + (Int.toNat y2)) default).2)) (0 + (Int.toNat y2)) default).1, ((IntKind.wrap .i64 (y1 + (1 : Int))), (List.getD (List.set y3 (0 + (Int.toNat y2)) (r6, (List.getD y3 (0 + (Int.toNat y2)) default).2)) (0 + (Int.toNat y2)) default).2.2))); cond (inB y2 (List.length mm0)) (K (.p7 (IntKind.wrap .i64 ((IntKind.wrap .i64 ((IntKind.wrap .i64 (y1 + (1 : Int))) + (1 : Int))) + (1 : Int))) (IntKind.wrap .i64 (y2 + (1 : Int))) (List.set mm0 (0 + (Int.toNat y2)) ((List.getD mm0 (0 + (Int.toNat y2)) default).1, ((List.getD mm0 (0 + (Int.toNat y2)) default).2.1, (r7, (List.getD mm0 (0 + (Int.toNat y2)) default).2.2.2)))))) (none)) (none)) (none)) (some (y1, y3))
def laws_markMatcherS (n : Nat) (a0 : List ((ByteArray) × ((Int) × ((ByteArray) × (Unit))))) (a1 : Int) : Option (Tup [(.int .i64), (.sl false (.pair .str (.pair (.int .i64) (.pair .str .unit))))]) := goRec laws_markMatcherS.step n (.p0 a0 a1)
def laws_markMatcherS.spec : Ctr := ⟨59, [.s false (.pair .str (.pair (.int .i64) (.pair .str .unit))), .v (.int .i64)], [(.int .i64)], [(.sl false (.pair .str (.pair (.int .i64) (.pair .str .unit))))], fun n x => laws_markMatcherS n x.1 x.2.1⟩
theorem laws_markMatcherS.seg_eq (n : Nat) (goto : Nat → St → Option (Tup [(.int .i64), (.sl false (.pair .str (.pair (.int .i64) (.pair .str .unit))))])) (y : laws_markMatcherS.Pt) : seg ⟨ty, gl, laws_markMatcherS.md, calOf laws_markMatcherS.T n⟩ laws_markMatcherS.F.np laws_markMatcherS.F.ks goto (laws_markMatcherS.F.fin ⟨ty, gl, laws_markMatcherS.md, calOf laws_markMatcherS.T 0⟩ [(.int .i64), (.sl false (.pair .str (.pair (.int .i64) (.pair .str .unit))))]) laws_markMatcherS.F.c (laws_markMatcherS.lb y) (laws_markMatcherS.st y) = laws_markMatcherS.step n (fun z => goto (laws_markMatcherS.lb z) (laws_markMatcherS.st z)) y := by
  cases y <;> kernel_rfl
theorem laws_markMatcherS.text : Text Go.Proofs.Try.prog laws_markMatcherS.F laws_markMatcherS.spec := ⟨⟨Go.Proofs.Try.f59, by kernel_rfl, by kernel_rfl, by decide +kernel, by kernel_rfl, by kernel_rfl, of_decide_eq_true (by kernel_rfl)⟩, fun _ => rfl, fun _ => rfl, rfl⟩
theorem laws_markMatcherS.ok : CtrOK Go.Proofs.Try.prog gl laws_markMatcherS.spec :=
  ctr_ok (T := laws_markMatcherS.T) (F := laws_markMatcherS.F) (lb := laws_markMatcherS.lb) (st := laws_markMatcherS.st) (step := laws_markMatcherS.step) (md := laws_markMatcherS.md) tabs laws_markMatcherS.text laws_markMatcherS.seg_eq (fun n x => ⟨.p0 x.1 x.2.1, rfl, rfl, rfl⟩) (consC laws_markText.ok (nilC))

/-! loop.example/g00039/laws.markStringS -/
def laws_markStringS.T : List Ctr := [laws_markText.spec]
def laws_markStringS.md : List (Nat × List Md) := []
noncomputable def laws_markStringS.F : Fun := ⟨(Go.Proofs.Try.f18.body).getD .skip, [.s false .str, .v (.int .i64)], [(.tmp 4, (.int .i64))], [none], 1, [(7, ⟨[0, 1, 5], [], [], false⟩)]⟩
inductive laws_markStringS.Pt where
  | p0 (a0 : List (ByteArray)) (a1 : Int)
  | p7 (y1 : Int) (y2 : Int) (y3 : List (ByteArray))
def laws_markStringS.lb : laws_markStringS.Pt → Nat
  | .p0 _ _ => 0
  | .p7 _ _ _ => 7
def laws_markStringS.st : laws_markStringS.Pt → St
  | .p0 a0 a1 => enter [.s false .str a0, .v (.int .i64) a1] 1
  | .p7 y1 y2 y3 => ⟨[(0, .hs 0 [] none 0), (1, .im (.int .i64) y1), (5, .im (.int .i64) y2)], [(0, .arr false .str y3 0)], 1⟩
def laws_markStringS.step (n : Nat) (K : laws_markStringS.Pt → Option (Tup [(.int .i64), (.sl false .str)])) : laws_markStringS.Pt → Option (Tup [(.int .i64), (.sl false .str)])
  | .p0 a0 a1 => K (.p7 a1 (0 : Int) a0)
  | .p7 y1 y2 y3 => cond (decide (y2 < ((List.length y3) : Int))) ((laws_markText n y1).bind fun r6 => cond (inB y2 (List.length y3)) (K (.p7 (IntKind.wrap .i64 (y1 + (1 : Int))) (IntKind.wrap .i64 (y2 + (1 : Int))) (List.set y3 (0 + (Int.toNat y2)) r6))) (none)) (some (y1, y3))
def laws_markStringS (n : Nat) (a0 : List (ByteArray)) (a1 : Int) : Option (Tup [(.int .i64), (.sl false .str)]) := goRec laws_markStringS.step n (.p0 a0 a1)
def laws_markStringS.spec : Ctr := ⟨18, [.s false .str, .v (.int .i64)], [(.int .i64)], [(.sl false .str)], fun n x => laws_markStringS n x.1 x.2.1⟩
theorem laws_markStringS.seg_eq (n : Nat) (goto : Nat → St → Option (Tup [(.int .i64), (.sl false .str)])) (y : laws_markStringS.Pt) : seg ⟨ty, gl, laws_markStringS.md, calOf laws_markStringS.T n⟩ laws_markStringS.F.np laws_markStringS.F.ks goto (laws_markStringS.F.fin ⟨ty, gl, laws_markStringS.md, calOf laws_markStringS.T 0⟩ [(.int .i64), (.sl false .str)]) laws_markStringS.F.c (laws_markStringS.lb y) (laws_markStringS.st y) = laws_markStringS.step n (fun z => goto (laws_markStringS.lb z) (laws_markStringS.st z)) y := by
  cases y <;> kernel_rfl
theorem laws_markStringS.text : Text Go.Proofs.Try.prog laws_markStringS.F laws_markStringS.spec := ⟨⟨Go.Proofs.Try.f18, by kernel_rfl, by kernel_rfl, by decide +kernel, by kernel_rfl, by kernel_rfl, of_decide_eq_true (by kernel_rfl)⟩, fun _ => rfl, fun _ => rfl, rfl⟩
theorem laws_markStringS.ok : CtrOK Go.Proofs.Try.prog gl laws_markStringS.spec :=
  ctr_ok (T := laws_markStringS.T) (F := laws_markStringS.F) (lb := laws_markStringS.lb) (st := laws_markStringS.st) (step := laws_markStringS.step) (md := laws_markStringS.md) tabs laws_markStringS.text laws_markStringS.seg_eq (fun n x => ⟨.p0 x.1 x.2.1, rfl, rfl, rfl⟩) (consC laws_markText.ok (nilC))

/-! loop.example/g00039/laws.markIntS -/
def laws_markIntS.T : List Ctr := []
def laws_markIntS.md : List (Nat × List Md) := []
noncomputable def laws_markIntS.F : Fun := ⟨(Go.Proofs.Try.f76.body).getD .skip, [.s false (.int .i64), .v (.int .i64)], [(.tmp 4, (.int .i64))], [none], 1, [(7, ⟨[0, 1, 5], [], [], false⟩)]⟩
inductive laws_markIntS.Pt where
  | p0 (a0 : List (Int)) (a1 : Int)
  | p7 (y1 : Int) (y2 : Int) (y3 : List (Int))
def laws_markIntS.lb : laws_markIntS.Pt → Nat
  | .p0 _ _ => 0
  | .p7 _ _ _ => 7
def laws_markIntS.st : laws_markIntS.Pt → St
  | .p0 a0 a1 => enter [.s false (.int .i64) a0, .v (.int .i64) a1] 1
  | .p7 y1 y2 y3 => ⟨[(0, .hs 0 [] none 0), (1, .im (.int .i64) y1), (5, .im (.int .i64) y2)], [(0, .arr false (.int .i64) y3 0)], 1⟩
def laws_markIntS.step (n : Nat) (K : laws_markIntS.Pt → Option (Tup [(.int .i64), (.sl false (.int .i64))])) : laws_markIntS.Pt → Option (Tup [(.int .i64), (.sl false (.int .i64))])
  | .p0 a0 a1 => K (.p7 a1 (0 : Int) a0)
  | .p7 y1 y2 y3 => cond (decide (y2 < ((List.length y3) : Int))) (cond (inB y2 (List.length y3)) (K (.p7 (IntKind.wrap .i64 (y1 + (1 : Int))) (IntKind.wrap .i64 (y2 + (1 : Int))) (List.set y3 (0 + (Int.toNat y2)) y1))) (none)) (some (y1, y3))
def laws_markIntS (n : Nat) (a0 : List (Int)) (a1 : Int) : Option (Tup [(.int .i64), (.sl false (.int .i64))]) := goRec laws_markIntS.step n (.p0 a0 a1)
def laws_markIntS.spec : Ctr := ⟨76, [.s false (.int .i64), .v (.int .i64)], [(.int .i64)], [(.sl false (.int .i64))], fun n x => laws_markIntS n x.1 x.2.1⟩
theorem laws_markIntS.seg_eq (n : Nat) (goto : Nat → St → Option (Tup [(.int .i64), (.sl false (.int .i64))])) (y : laws_markIntS.Pt) : seg ⟨ty, gl, laws_markIntS.md, calOf laws_markIntS.T n⟩ laws_markIntS.F.np laws_markIntS.F.ks goto (laws_markIntS.F.fin ⟨ty, gl, laws_markIntS.md, calOf laws_markIntS.T 0⟩ [(.int .i64), (.sl false (.int .i64))]) laws_markIntS.F.c (laws_markIntS.lb y) (laws_markIntS.st y) = laws_markIntS.step n (fun z => goto (laws_markIntS.lb z) (laws_markIntS.st z)) y := by
  cases y <;> kernel_rfl
theorem laws_markIntS.text : Text Go.Proofs.Try.prog laws_markIntS.F laws_markIntS.spec := ⟨⟨Go.Proofs.Try.f76, by kernel_rfl, by kernel_rfl, by decide +kernel, by kernel_rfl, by kernel_rfl, of_decide_eq_true (by kernel_rfl)⟩, fun _ => rfl, fun _ => rfl, rfl⟩
theorem laws_markIntS.ok : CtrOK Go.Proofs.Try.prog gl laws_markIntS.spec :=
  ctr_ok (T := laws_markIntS.T) (F := laws_markIntS.F) (lb := laws_markIntS.lb) (st := laws_markIntS.st) (step := laws_markIntS.step) (md := laws_markIntS.md) tabs laws_markIntS.text laws_markIntS.seg_eq (fun n x => ⟨.p0 x.1 x.2.1, rfl, rfl, rfl⟩) (nilC)

/-! loop.example/g00039/laws.markRouteS -/
def laws_markRouteS.T : List Ctr := [laws_markText.spec, laws_markMatcherS.spec, laws_markStringS.spec, laws_markIntS.spec]
def laws_markRouteS.md : List (Nat × List Md) := [(59, [.s, .v]), (18, [.s, .v]), (76, [.s, .v])]
noncomputable def laws_markRouteS.F : Fun := ⟨(Go.Proofs.Try.f33.body).getD .skip, [.s false (.pair .str (.pair (.sl false (.pair .str (.pair (.int .i64) (.pair .str .unit)))) (.pair (.sl false .str) (.pair (.int .i64) (.pair (.int .i64) (.pair (.int .i64) (.pair (.sl false (.int .i64)) (.pair .bool (.pair (.int .i64) .unit))))))))), .v (.int .i64)], [(.tmp 4, (.int .i64))], [none], 1, [(7, ⟨[0, 1, 5], [], [], false⟩)]⟩
inductive laws_markRouteS.Pt where
  | p0 (a0 : List ((ByteArray) × ((List ((ByteArray) × ((Int) × ((ByteArray) × (Unit))))) × ((List (ByteArray)) × ((Int) × ((Int) × ((Int) × ((List (Int)) × ((Bool) × ((Int) × (Unit))))))))))) (a1 : Int)
  | p7 (y1 : Int) (y2 : Int) (y3 : List ((ByteArray) × ((List ((ByteArray) × ((Int) × ((ByteArray) × (Unit))))) × ((List (ByteArray)) × ((Int) × ((Int) × ((Int) × ((List (Int)) × ((Bool) × ((Int) × (Unit)))))))))))
def laws_markRouteS.lb : laws_markRouteS.Pt → Nat
  | .p0 _ _ => 0
  | .p7 _ _ _ => 7
def laws_markRouteS.st : laws_markRouteS.Pt → St
  | .p0 a0 a1 => enter [.s false (.pair .str (.pair (.sl false (.pair .str (.pair (.int .i64) (.pair .str .unit)))) (.pair (.sl false .str) (.pair (.int .i64) (.pair (.int .i64) (.pair (.int .i64) (.pair (.sl false (.int .i64)) (.pair .bool (.pair (.int .i64) .unit))))))))) a0, .v (.int .i64) a1] 1
  | .p7 y1 y2 y3 => ⟨[(0, .hs 0 [] none 0), (1, .im (.int .i64) y1), (5, .im (.int .i64) y2)], [(0, .arr false (.pair .str (.pair (.sl false (.pair .str (.pair (.int .i64) (.pair .str .unit)))) (.pair (.sl false .str) (.pair (.int .i64) (.pair (.int .i64) (.pair (.int .i64) (.pair (.sl false (.int .i64)) (.pair .bool (.pair (.int .i64) .unit))))))))) y3 0)], 1⟩
def laws_markRouteS.step (n : Nat) (K : laws_markRouteS.Pt → Option (Tup [(.int .i64), (.sl false (.pair .str (.pair (.sl false (.pair .str (.pair (.int .i64) (.pair .str .unit)))) (.pair (.sl false .str) (.pair (.int .i64) (.pair (.int .i64) (.pair (.int .i64) (.pair (.sl false (.int .i64)) (.pair .bool (.pair (.int .i64) .unit))))))))))])) : laws_markRouteS.Pt → Option (Tup [(.int .i64), (.sl false (.pair .str (.pair (.sl false (.pair .str (.pair (.int .i64) (.pair .str .unit)))) (.pair (.sl false .str) (.pair (.int .i64) (.pair (.int .i64) (.pair (.int .i64) (.pair (.sl false (.int .i64)) (.pair .bool (.pair (.int .i64) .unit))))))))))])
  | .p0 a0 a1 => K (.p7 a1 (0 : Int) a0)
  | .p7 y1 y2 y3 => cond (decide (y2 < ((List.length y3) : Int))) ((laws_markText n y1).bind fun r6 => cond (inB y2 (List.length y3)) (cond (inB y2 (List.length (List.set y3 (0 + (Int.toNat y2)) (r6, (List.getD y3 (0 + (Int.toNat y2)) default).2)))) ((laws_markMatcherS n (List.getD (List.set y3 (0 + (Int.toNat y2)) (r6, (List.getD y3 (0 + (Int.toNat y2)) default).2)) (0 + (Int.toNat y2)) default).2.1 (IntKind.wrap .i64 (y1 + (1 : Int)))).bind fun r7 => cond (inB y2 (List.length (List.set (List.set y3 (0 + (Int.toNat y2)) (r6, (List.getD y3 (0 + (Int.toNat y2)) default).2)) (0 + (Int.toNat y2)) ((List.getD (List.set y3 (0 + (Int.toNat y2)) (r6, (List.getD y3 (0 + (Int.toNat y2)) default).2)) (0 + (Int.toNat y2)) default).1, (r7.2, (List.getD (List.set y3 (0 + (Int.toNat y2)) (r6, (List.getD y3 (0 + (Int.toNat y2)) default).2)) (0 + (Int.toNat y2)) default).2.2))))) ((laws_markStringS n (List.getD (List.set (List.set y3 (0 + (Int.toNat y2)) (r6, (List.getD y3 (0 + (Int.toNat y2)) default).2)) (0 + (Int.toNat y2)) ((List.getD (List.set y3 (0 + (Int.toNat y2)) (r6, (List.getD y3 (0 + (Int.toNat y2)) default).2)) (0 + (Int.toNat y2)) default).1, (r7.2, (List.getD (List.set y3 (0 + (Int.toNat y2)) (r6, (List.getD y3 (0 + (Int.toNat y2)) default).2)) (0 + (Int.toNat y2)) default).2.2))) (0 + (Int.toNat y2)) default).2.2.1 r7.1).bind fun r8 => let mm0 := (List.set (List.set (List.set y3 (0 + (Int.toNat y2)) (r6, (List.getD y3 (0 + (Int.toNat y2)) default).2)) (0 + (Int.toNat y2)) ((List.getD (List.set y3 (0 + (Int.toNat y2)) (r6, (List.getD y3 (0 + (Int.toNat y2)) default).2)) (0 + (Int.toNat y2)) default).1, (r7.2, (List.getD (List.set y3 (0 + (Int.toNat y2)) (r6, (List.getD y3 (0 + (Int.toNat y2)) default).2)) (0 + (Int.toNat y2)) default).2.2))) (0 + (Int.toNat y2)) ((List.getD (List.set (List.set y3 (0 + (Int.toNat y2)) (r6, (List.getD y3 (0 + (Int.toNat y2)) default).2)) (0 + (Int.toNat y2)) ((List.getD (List.set y3 (0 + (Int.toNat y2)) (r6, (List.getD y3 (0 + (Int.toNat y2)) default).2)) (0 + (Int.toNat y2)) default).1, (r7.2, (List.getD (List.set y3 (0 + (Int.toNat y2)) (r6, (List.getD y3 (0 + (Int.toNat y2)) default).2)) (0 + (Int.toNat y2)) default).2.2))) (0 + (Int.toNat y2)) default).1, ((List.getD (List.set (List.set y3 (0 + (Int.toNat y2)) (r6, (List.getD y3 (0 + (Int.toNat y2)) default).2)) (0 + (Int.toNat y2)) ((List.getD (List.set y3 (0 + (Int.toNat y2)) (r6, (List.getD y3 (0 + (Int.toNat y2)) default).2)) (0 + (Int.toNat y2)) default).1, (r7.2, (List.getD (List.set y3 (0 + (Int.toNat y2)) (r6, (List.getD y3 (0 + (Int.toNat y2)) default).2)) (0 + (Int.toNat y2)) default).2.2))) (0 + (Int.toNat y2)) default).2.1, (r8.2, (List.getD (List.set (List.set y3 (0 + (Int.toNat y2)) (r6, (List.getD y3 (0 + (Int.toNat y2)) default).2)) (0 + (Int.toNat y2)) ((List.getD (List.set y3 (0 + (Int.toNat y2)) (r6, (List.getD y3 (0 + (Int.toNat y2)) default).2)) (0 + (Int.toNat y2)) default).1, (r7.2, (List.getD (List.set y3 (0 + (Int.toNat y2)) (r6, (List.getD y3 (0 + (Int.toNat y2)) default).2)) (0 + (Int.toNat y2)) default).2.2))) (0 + (Int.toNat y2)) default).2.2.2)))); cond (inB y2 (List.length mm0)) (cond (inB y2 (List.length (List.set mm0 (0 + (Int.toNat y2)) ((List.getD mm0 (0 + (Int.toNat y2)) default).1, ((List.getD mm0 (0 + (Int.toNat y2)) default).2.1, ((List.getD mm0 (0 + (Int.toNat y2)) default).2.2.1, (r8.1, (List.getD mm0 (0 + (Int.toNat y2)) default).2.2.2.2))))))) (let mm1 := (List.set (List.set mm0 (0 + (Int.toNat y2)) ((List.getD mm0 (0 + (Int.toNat y2)) default).1, ((List.getD mm0 (0 + (Int.toNat y2)) default).2.1, ((List.getD mm0 (0 + (Int.toNat y2)) default).2.2.1, (r8.1, (List.getD mm0 (0 + (Int.toNat y2)) default).2.2.2.2))))) (0 + (Int.toNat y2)) ((List.getD (List.set mm0 (0 + (Int.toNat y2)) ((List.getD mm0 (0 + (Int.toNat y2)) default).1, ((List.getD mm0 (0 + (Int.toNat y2)) default).2.1, ((List.getD mm0 (0 + (Int.toNat y2)) default).2.2.1, (r8.1, (List.getD mm0 (0 + (Int.toNat y2)) default).2.2.2.2))))) (0 + (Int.toNat y2)) default).1, ((List.getD (List.set mm0 (0 + (Int.toNat y2)) ((List.getD mm0 (0 + (Int.toNat y2)) default).1, ((List.getD mm0 (0 + (Int.toNat y2)) default).2.1, ((List.getD mm0 (0 + (Int.toNat y2)) default).2.2.1, (r8.1, (List.getD mm0 (0 + (Int.toNat y2)) default).2.2.2.2))))) (0 + (Int.toNat y2)) default).2.1, ((List.getD (List.set mm0 (0 + (Int.toNat y2)) ((List.getD mm0 (0 + (Int.toNat y2)) default).1, ((List.getD mm0 (0 + (Int.toNat y2)) default).2.1, ((List.getD mm0 (0 + (Int.toNat y2)) default).2.2.1, (r8.1, (List.getD mm0 (0 + (Int.toNat y2)) default).2.2.2.2))))) (0 + (Int.toNat y2)) default).2.2.1, ((List.getD (List.set mm0 (0 + (Int.toNat y2)) ((List.getD mm0 (0 + (Int.toNat y2)) default).1, ((List.getD mm0 (0 + (Int.toNat y2)) default).2.1, ((List.getD mm0 (0 + (Int.toNat y2)) default).2.2.1, (r8.1, (List.getD mm0 (0 + (Int.toNat y2)) default).2.2.2.2))))) (0 + (Int.toNat y2)) default).2.2.2.1, ((IntKind.wrap .i64 (r8.1 + (1 : Int))), (List.getD (List.set mm0 (0 + (Int.toNat y2)) ((List.getD mm0 (0 + (Int.toNat y2)) default).1, ((List.getD mm0 (0 + (Int.toNat y2)) default).2.1, ((List.getD mm0 (0 + (Int.toNat y2)) default).2.2.1, (r8.1, (List.getD mm0 (0 + (Int.toNat y2)) default).2.2.2.2))))) (0 + (Int.toNat y2)) default).2.2.2.2.2)))))); cond (inB y2 (List.length mm1)) (let mm2 := (List.set mm1 (0 + (Int.toNat y2)) ((List.getD mm1 (0 + (Int.toNat y2)) default).1, ((List.getD mm1 (0 + (Int.toNat y2)) default).2.1, ((List.getD mm1 (0 + (Int.toNat y2)) default).2.2.1, ((List.getD mm1 (0 + (Int.toNat y2)) default).2.2.2.1, ((List.getD mm1 (0 + (Int.toNat y2)) default).2.2.2.2.1, ((IntKind.wrap .i64 ((IntKind.wrap .i64 (r8.1 + (1 : Int))) + (1 : Int))), (List.getD mm1 (0 + (Int.toNat y2)) default).2.2.2.2.2.2))))))); cond (inB y2 (List.length mm2)) ((laws_markIntS n (List.getD mm2 (0 + (Int.toNat y2)) default).2.2.2.2.2.2.1 (IntKind.wrap .i64 ((IntKind.wrap .i64 ((IntKind.wrap .i64 (r8.1 + (1 : Int))) + (1 : Int))) + (1 : Int)))).bind fun r9 => let mm3 := (List.set mm2 (0 + (Int.toNat y2)) ((List.getD mm2 (0 + (Int.toNat y2)) default).1, ((List.getD mm2 (0 + (Int.toNat y2)) default).2.1, ((List.getD mm2 (0 + (Int.toNat y2)) default).2.2.1, ((List.getD mm2 (0 + (Int.toNat y2)) default).2.2.2.1, ((List.getD mm2 (0 + (Int.toNat y2)) default).2.2.2.2.1, ((List.getD mm2 (0 + (Int.toNat y2)) default).2.2.2.2.2.1, (r9.2, (List.getD mm2 (0 + (Int.toNat y2)) default).2.2.2.2.2.2.2)))))))); cond (inB y2 (List.length mm3)) (let mm4 := (List.set mm3 (0 + (Int.toNat y2)) ((List.getD mm3 (0 + (Int.toNat y2)) default).1, ((List.getD mm3 (0 + (Int.toNat y2)) default).2.1, ((List.getD mm3 (0 + (Int.toNat y2)) default).2.2.1, ((List.getD mm3 (0 + (Int.toNat y2)) default).2.2.2.1, ((List.getD mm3 (0 + (Int.toNat y2)) default).2.2.2.2.1, ((List.getD mm3 (0 + (Int.toNat y2)) default).2.2.2.2.2.1, ((List.getD mm3 (0 + (Int.toNat y2)) default).2.2.2.2.2.2.1, ((decide ((Int.tmod r9.1 (3 : Int)) = (0 : Int))), (List.getD mm3 (0 + (Int.toNat y2)) default).2.2.2.2.2.2.2.2))))))))); cond (inB y2 (List.length mm4)) (let mm5 := (List.set mm4 (0 + (Int.toNat y2)) ((List.getD mm4 (0 + (Int.toNat y2)) default).1, ((List.getD mm4 (0 + (Int.toNat y2)) default).2.1, ((List.getD mm4 (0 + (Int.toNat y2)) default).2.2.1, ((List.getD mm4 (0 + (Int.toNat y2)) default).2.2.2.1, ((List.getD mm4 (0 + (Int.toNat y2)) default).2.2.2.2.1, ((List.getD mm4 (0 + (Int.toNat y2)) default).2.2.2.2.2.1, ((List.getD mm4 (0 + (Int.toNat y2)) default).2.2.2.2.2.2.1, ((List.getD mm4 (0 + (Int.toNat y2)) default).2.2.2.2.2.2.2.1, ((IntKind.wrap .i64 (r9.1 + (1 : Int))), (List.getD mm4 (0 + (Int.toNat y2)) default).2.2.2.2.2.2.2.2.2)))))))))); K (.p7 (IntKind.wrap .i64 ((IntKind.wrap .i64 (r9.1 + (1 : Int))) + (1 : Int))) (IntKind.wrap .i64 (y2 + (1 : Int))) mm5)) (none)) (none)) (none)) (none)) (none)) (none)) (none)) (none)) (none)) (some (y1, y3))
def laws_markRouteS (n : Nat) (a0 : List ((ByteArray) × ((List ((ByteArray) × ((Int) × ((ByteArray) × (Unit))))) × ((List (ByteArray)) × ((Int) × ((Int) × ((Int) × ((List (Int)) × ((Bool) × ((Int) × (Unit))))))))))) (a1 : Int) : Option (Tup [(.int .i64), (.sl false (.pair .str (.pair (.sl false (.pair .str (.pair (.int .i64) (.pair .str .unit)))) (.pair (.sl false .str) (.pair (.int .i64) (.pair (.int .i64) (.pair (.int .i64) (.pair (.sl false (.int .i64)) (.pair .bool (.pair (.int .i64) .unit))))))))))]) := goRec laws_markRouteS.step n (.p0 a0 a1)
def laws_markRouteS.spec : Ctr := ⟨33, [.s false (.pair .str (.pair (.sl false (.pair .str (.pair (.int .i64) (.pair .str .unit)))) (.pair (.sl false .str) (.pair (.int .i64) (.pair (.int .i64) (.pair (.int .i64) (.pair (.sl false (.int .i64)) (.pair .bool (.pair (.int .i64) .unit))))))))), .v (.int .i64)], [(.int .i64)], [(.sl false (.pair .str (.pair (.sl false (.pair .str (.pair (.int .i64) (.pair .str .unit)))) (.pair (.sl false .str) (.pair (.int .i64) (.pair (.int .i64) (.pair (.int .i64) (.pair (.sl false (.int .i64)) (.pair .bool (.pair (.int .i64) .unit))))))))))], fun n x => laws_markRouteS n x.1 x.2.1⟩
theorem laws_markRouteS.seg_eq (n : Nat) (goto : Nat → St → Option (Tup [(.int .i64), (.sl false (.pair .str (.pair (.sl false (.pair .str (.pair (.int .i64) (.pair .str .unit)))) (.pair (.sl false .str) (.pair (.int .i64) (.pair (.int .i64) (.pair (.int .i64) (.pair (.sl false (.int .i64)) (.pair .bool (.pair (.int .i64) .unit))))))))))])) (y : laws_markRouteS.Pt) : seg ⟨ty, gl, laws_markRouteS.md, calOf laws_markRouteS.T n⟩ laws_markRouteS.F.np laws_markRouteS.F.ks goto (laws_markRouteS.F.fin ⟨ty, gl, laws_markRouteS.md, calOf laws_markRouteS.T 0⟩ [(.int .i64), (.sl false (.pair .str (.pair (.sl false (.pair .str (.pair (.int .i64) (.pair .str .unit)))) (.pair (.sl false .str) (.pair (.int .i64) (.pair (.int .i64) (.pair (.int .i64) (.pair (.sl false (.int .i64)) (.pair .bool (.pair (.int .i64) .unit))))))))))]) laws_markRouteS.F.c (laws_markRouteS.lb y) (laws_markRouteS.st y) = laws_markRouteS.step n (fun z => goto (laws_markRouteS.lb z) (laws_markRouteS.st z)) y := by
  cases y <;> kernel_rfl
theorem laws_markRouteS.text : Text Go.Proofs.Try.prog laws_markRouteS.F laws_markRouteS.spec := ⟨⟨Go.Proofs.Try.f33, by kernel_rfl, by kernel_rfl, by decide +kernel, by kernel_rfl, by kernel_rfl, of_decide_eq_true (by kernel_rfl)⟩, fun _ => rfl, fun _ => rfl, rfl⟩
theorem laws_markRouteS.ok : CtrOK Go.Proofs.Try.prog gl laws_markRouteS.spec :=
  ctr_ok (T := laws_markRouteS.T) (F := laws_markRouteS.F) (lb := laws_markRouteS.lb) (st := laws_markRouteS.st) (step := laws_markRouteS.step) (md := laws_markRouteS.md) tabs laws_markRouteS.text laws_markRouteS.seg_eq (fun n x => ⟨.p0 x.1 x.2.1, rfl, rfl, rfl⟩) (consC laws_markText.ok (consC laws_markMatcherS.ok (consC laws_markStringS.ok (consC laws_markIntS.ok (nilC)))))

/-! loop.example/g00039/laws.markLabelS -/
def laws_markLabelS.T : List Ctr := [laws_markText.spec]
def laws_markLabelS.md : List (Nat × List Md) := []
noncomputable def laws_markLabelS.F : Fun := ⟨(Go.Proofs.Try.f17.body).getD .skip, [.s false (.pair .str (.pair .str .unit)), .v (.int .i64)], [(.tmp 4, (.int .i64))], [none], 1, [(7, ⟨[0, 1, 5], [], [], false⟩)]⟩
inductive laws_markLabelS.Pt where
  | p0 (a0 : List ((ByteArray) × ((ByteArray) × (Unit)))) (a1 : Int)
  | p7 (y1 : Int) (y2 : Int) (y3 : List ((ByteArray) × ((ByteArray) × (Unit))))
def laws_markLabelS.lb : laws_markLabelS.Pt → Nat
  | .p0 _ _ => 0
  | .p7 _ _ _ => 7
def laws_markLabelS.st : laws_markLabelS.Pt → St
  | .p0 a0 a1 => enter [.s false (.pair .str (.pair .str .unit)) a0, .v (.int .i64) a1] 1
  | .p7 y1 y2 y3 => ⟨[(0, .hs 0 [] none 0), (1, .im (.int .i64) y1), (5, .im (.int .i64) y2)], [(0, .arr false (.pair .str (.pair .str .unit)) y3 0)], 1⟩
def laws_markLabelS.step (n : Nat) (K : laws_markLabelS.Pt → Option (Tup [(.int .i64), (.sl false (.pair .str (.pair .str .unit)))])) : laws_markLabelS.Pt → Option (Tup [(.int .i64), (.sl false (.pair .str (.pair .str .unit)))])
  | .p0 a0 a1 => K (.p7 a1 (0 : Int) a0)
  | .p7 y1 y2 y3 => cond (decide (y2 < ((List.length y3) : Int))) ((laws_markText n y1).bind fun r6 => cond (inB y2 (List.length y3)) ((laws_markText n (IntKind.wrap .i64 (y1 + (1 : Int)))).bind fun r7 => cond (inB y2 (List.length (List.set y3 (0 + (Int.toNat y2)) (r6, (List.getD y3 (0 + (Int.toNat y2)) default).2)))) (K (.p7 (IntKind.wrap .i64 ((IntKind.wrap .i64 (y1 + (1 : Int))) + (1 : Int))) (IntKind.wrap .i64 (y2 + (1 : Int))) (List.set (List.set y3 (0 + (Int.toNat y2)) (r6, (List.getD y3 (0 + (Int.toNat y2)) default).2)) (0 + (Int.toNat y2)) ((List.getD (List.set y3 (0 + (Int.toNat y2)) (r6, (List.getD y3 (0 + (Int.toNat y2)) default).2)) (0 + (Int.toNat y2)) default).1, (r7, (List.getD (List.set y3 (0 + (Int.toNat y2)) (r6, (List.getD y3 (0 + (Int.toNat y2)) default).2)) (0 + (Int.toNat y2)) default).2.2))))) (none)) (none)) (some (y1, y3))
def laws_markLabelS (n : Nat) (a0 : List ((ByteArray) × ((ByteArray) × (Unit)))) (a1 : Int) : Option (Tup [(.int .i64), (.sl false (.pair .str (.pair .str .unit)))]) := goRec laws_markLabelS.step n (.p0 a0 a1)
def laws_markLabelS.spec : Ctr := ⟨17, [.s false (.pair .str (.pair .str .unit)), .v (.int .i64)], [(.int .i64)], [(.sl false (.pair .str (.pair .str .unit)))], fun n x => laws_markLabelS n x.1 x.2.1⟩
theorem laws_markLabelS.seg_eq (n : Nat) (goto : Nat → St → Option (Tup [(.int .i64), (.sl false (.pair .str (.pair .str .unit)))])) (y : laws_markLabelS.Pt) : seg ⟨ty, gl, laws_markLabelS.md, calOf laws_markLabelS.T n⟩ laws_markLabelS.F.np laws_markLabelS.F.ks goto (laws_markLabelS.F.fin ⟨ty, gl, laws_markLabelS.md, calOf laws_markLabelS.T 0⟩ [(.int .i64), (.sl false (.pair .str (.pair .str .unit)))]) laws_markLabelS.F.c (laws_markLabelS.lb y) (laws_markLabelS.st y) = laws_markLabelS.step n (fun z => goto (laws_markLabelS.lb z) (laws_markLabelS.st z)) y := by
  cases y <;> kernel_rfl
theorem laws_markLabelS.text : Text Go.Proofs.Try.prog laws_markLabelS.F laws_markLabelS.spec := ⟨⟨Go.Proofs.Try.f17, by kernel_rfl, by kernel_rfl, by decide +kernel, by kernel_rfl, by kernel_rfl, of_decide_eq_true (by kernel_rfl)⟩, fun _ => rfl, fun _ => rfl, rfl⟩
theorem laws_markLabelS.ok : CtrOK Go.Proofs.Try.prog gl laws_markLabelS.spec :=
  ctr_ok (T := laws_markLabelS.T) (F := laws_markLabelS.F) (lb := laws_markLabelS.lb) (st := laws_markLabelS.st) (step := laws_markLabelS.step) (md := laws_markLabelS.md) tabs laws_markLabelS.text laws_markLabelS.seg_eq (fun n x => ⟨.p0 x.1 x.2.1, rfl, rfl, rfl⟩) (consC laws_markText.ok (nilC))

/-! loop.example/g00039/laws.heldLabelS -/
def laws_heldLabelS.T : List Ctr := [laws_markText.spec]
def laws_heldLabelS.md : List (Nat × List Md) := []
noncomputable def laws_heldLabelS.F : Fun := ⟨(Go.Proofs.Try.f34.body).getD .skip, [.v (.sl false (.pair .str (.pair .str .unit))), .v (.int .i64)], [(.tmp 4, (.int .i64))], [], 0, [(7, ⟨[0, 1, 5], [], [], false⟩)]⟩
inductive laws_heldLabelS.Pt where
  | p0 (a0 : List ((ByteArray) × ((ByteArray) × (Unit)))) (a1 : Int)
  | p7 (y1 : List ((ByteArray) × ((ByteArray) × (Unit)))) (y2 : Int) (y3 : Int)
def laws_heldLabelS.lb : laws_heldLabelS.Pt → Nat
  | .p0 _ _ => 0
  | .p7 _ _ _ => 7
def laws_heldLabelS.st : laws_heldLabelS.Pt → St
  | .p0 a0 a1 => enter [.v (.sl false (.pair .str (.pair .str .unit))) a0, .v (.int .i64) a1] 0
  | .p7 y1 y2 y3 => ⟨[(0, .im (.sl false (.pair .str (.pair .str .unit))) y1), (1, .im (.int .i64) y2), (5, .im (.int .i64) y3)], [], 0⟩
def laws_heldLabelS.step (n : Nat) (K : laws_heldLabelS.Pt → Option (Tup [(.int .i64)])) : laws_heldLabelS.Pt → Option (Tup [(.int .i64)])
  | .p0 a0 a1 => K (.p7 a0 a1 (0 : Int))
  | .p7 y1 y2 y3 => cond (decide (y3 < ((List.length y1) : Int))) (cond (inB y3 (List.length y1)) ((laws_markText n y2).bind fun r6 => cond (!(seq (List.getD y1 (Int.toNat y3) default).1 r6)) (some (-(1 : Int))) (cond (inB y3 (List.length y1)) ((laws_markText n (IntKind.wrap .i64 (y2 + (1 : Int)))).bind fun r7 => cond (!(seq (List.getD y1 (Int.toNat y3) default).2.1 r7)) (some (-(1 : Int))) (K (.p7 y1 (IntKind.wrap .i64 ((IntKind.wrap .i64 (y2 + (1 : Int))) + (1 : Int))) (IntKind.wrap .i64 (y3 + (1 : Int)))))) (none))) (none)) (some y2)
def laws_heldLabelS (n : Nat) (a0 : List ((ByteArray) × ((ByteArray) × (Unit)))) (a1 : Int) : Option (Tup [(.int .i64)]) := goRec laws_heldLabelS.step n (.p0 a0 a1)
def laws_heldLabelS.spec : Ctr := ⟨34, [.v (.sl false (.pair .str (.pair .str .unit))), .v (.int .i64)], [(.int .i64)], [], fun n x => laws_heldLabelS n x.1 x.2.1⟩
theorem laws_heldLabelS.seg_eq (n : Nat) (goto : Nat → St → Option (Tup [(.int .i64)])) (y : laws_heldLabelS.Pt) : seg ⟨ty, gl, laws_heldLabelS.md, calOf laws_heldLabelS.T n⟩ laws_heldLabelS.F.np laws_heldLabelS.F.ks goto (laws_heldLabelS.F.fin ⟨ty, gl, laws_heldLabelS.md, calOf laws_heldLabelS.T 0⟩ [(.int .i64)]) laws_heldLabelS.F.c (laws_heldLabelS.lb y) (laws_heldLabelS.st y) = laws_heldLabelS.step n (fun z => goto (laws_heldLabelS.lb z) (laws_heldLabelS.st z)) y := by
  cases y <;> kernel_rfl
theorem laws_heldLabelS.text : Text Go.Proofs.Try.prog laws_heldLabelS.F laws_heldLabelS.spec := ⟨⟨Go.Proofs.Try.f34, by kernel_rfl, by kernel_rfl, by decide +kernel, by kernel_rfl, by kernel_rfl, of_decide_eq_true (by kernel_rfl)⟩, fun _ => rfl, fun _ => rfl, rfl⟩
theorem laws_heldLabelS.ok : CtrOK Go.Proofs.Try.prog gl laws_heldLabelS.spec :=
  ctr_ok (T := laws_heldLabelS.T) (F := laws_heldLabelS.F) (lb := laws_heldLabelS.lb) (st := laws_heldLabelS.st) (step := laws_heldLabelS.step) (md := laws_heldLabelS.md) tabs laws_heldLabelS.text laws_heldLabelS.seg_eq (fun n x => ⟨.p0 x.1 x.2.1, rfl, rfl, rfl⟩) (consC laws_markText.ok (nilC))

/-! loop.example/g00039/laws.FnExactGroupOf -/
def laws_FnExactGroupOf.T : List Ctr := [laws_szRouteS.spec, laws_szLabelS.spec, laws_toRouteS.spec, laws_toLabelS.spec, spec_GroupOf.spec, impl_GroupOf.spec, laws_eqLabelS.spec, laws_eqRouteS.spec, laws_markRouteS.spec, laws_markLabelS.spec, laws_heldLabelS.spec]
def laws_FnExactGroupOf.md : List (Nat × List Md) := [(33, [.s, .v]), (17, [.s, .v])]
noncomputable def laws_FnExactGroupOf.F : Fun := ⟨(Go.Proofs.Try.f5.body).getD .skip, [.v (.sl false (.pair .str (.pair (.sl false (.pair .str (.pair (.int .i64) (.pair .str .unit)))) (.pair (.sl false .str) (.pair (.int .i64) (.pair (.int .i64) (.pair (.int .i64) (.pair (.sl false (.int .i64)) (.pair .bool (.pair (.int .i64) .unit)))))))))), .v (.int .i64), .v (.sl false (.pair .str (.pair .str .unit)))], [(.tmp 6, .bool)], [], 0, [(64, ⟨[0, 1, 2, 8, 11, 67], [(8, (.pair .str (.pair .str .unit))), (11, (.pair .str (.pair .str .unit)))], [], false⟩)]⟩
inductive laws_FnExactGroupOf.Pt where
  | p0 (a0 : List ((ByteArray) × ((List ((ByteArray) × ((Int) × ((ByteArray) × (Unit))))) × ((List (ByteArray)) × ((Int) × ((Int) × ((Int) × ((List (Int)) × ((Bool) × ((Int) × (Unit))))))))))) (a1 : Int) (a2 : List ((ByteArray) × ((ByteArray) × (Unit))))
  | p64 (y1 : List ((ByteArray) × ((List ((ByteArray) × ((Int) × ((ByteArray) × (Unit))))) × ((List (ByteArray)) × ((Int) × ((Int) × ((Int) × ((List (Int)) × ((Bool) × ((Int) × (Unit))))))))))) (y2 : Int) (y3 : List ((ByteArray) × ((ByteArray) × (Unit)))) (y4 : Bool) (y5 : List ((ByteArray) × ((ByteArray) × (Unit)))) (y6 : List ((ByteArray) × ((ByteArray) × (Unit))))
def laws_FnExactGroupOf.lb : laws_FnExactGroupOf.Pt → Nat
  | .p0 _ _ _ => 0
  | .p64 _ _ _ _ _ _ => 64
def laws_FnExactGroupOf.st : laws_FnExactGroupOf.Pt → St
  | .p0 a0 a1 a2 => enter [.v (.sl false (.pair .str (.pair (.sl false (.pair .str (.pair (.int .i64) (.pair .str .unit)))) (.pair (.sl false .str) (.pair (.int .i64) (.pair (.int .i64) (.pair (.int .i64) (.pair (.sl false (.int .i64)) (.pair .bool (.pair (.int .i64) .unit)))))))))) a0, .v (.int .i64) a1, .v (.sl false (.pair .str (.pair .str .unit))) a2] 0
  | .p64 y1 y2 y3 y4 y5 y6 => ⟨[(0, .im (.sl false (.pair .str (.pair (.sl false (.pair .str (.pair (.int .i64) (.pair .str .unit)))) (.pair (.sl false .str) (.pair (.int .i64) (.pair (.int .i64) (.pair (.int .i64) (.pair (.sl false (.int .i64)) (.pair .bool (.pair (.int .i64) .unit)))))))))) y1), (1, .im (.int .i64) y2), (2, .im (.sl false (.pair .str (.pair .str .unit))) y3), (8, .hs 0 [] none 0), (11, .hs 1 [] none 0), (67, .im .bool y4)], [(0, .arr false (.pair .str (.pair .str .unit)) y5 0), (1, .arr false (.pair .str (.pair .str .unit)) y6 0)], 2⟩
def laws_FnExactGroupOf.step (n : Nat) (K : laws_FnExactGroupOf.Pt → Option (Tup [.bool])) : laws_FnExactGroupOf.Pt → Option (Tup [.bool])
  | .p0 a0 a1 a2 => (laws_szRouteS n a0 (1048576 : Int)).bind fun (r6 : Int) => cond (decide (r6 < (0 : Int))) (some true) ((laws_szLabelS n a2 r6).bind fun (r7 : Int) => cond (decide (r7 < (0 : Int))) (some true) ((laws_toRouteS n a0).bind fun r8 => (laws_toLabelS n a2).bind fun r9 => (spec_GroupOf n r8 a1 r9).bind fun r10 => (laws_toRouteS n a0).bind fun r11 => (laws_toLabelS n a2).bind fun r12 => (impl_GroupOf n r11 a1 r12).bind fun r13 => (laws_eqLabelS n r13 r10).bind fun r14 => cond (!r14) (some false) ((laws_toRouteS n a0).bind fun r15 => (laws_eqRouteS n r11 r15).bind fun r16 => cond (!r16) (some false) ((laws_toLabelS n a2).bind fun r17 => (laws_eqLabelS n r12 r17).bind fun r18 => cond (!r18) (some false) ((laws_markRouteS n r11 (1 : Int)).bind fun r19 => (laws_markLabelS n r12 r19.1).bind fun r20 => cond (decide (r20.1 < (0 : Int))) (K (.p64 a0 a1 a2 true r10 r13)) ((laws_eqLabelS n r13 r10).bind fun r21 => K (.p64 a0 a1 a2 (!r21) r10 r13)))))))
  | .p64 y1 y2 y3 y4 y5 y6 => cond y4 (some false) ((laws_markLabelS n y6 (1 : Int)).bind fun r9 => (laws_heldLabelS n r9.2 (1 : Int)).bind fun (r10 : Int) => cond (decide (r10 < (0 : Int))) (some false) (cond (!(decide (r10 = r9.1))) (some false) ((laws_toRouteS n y1).bind fun r11 => (laws_toLabelS n y3).bind fun r12 => (impl_GroupOf n r11 y2 r12).bind fun r13 => (laws_eqLabelS n r13 y5).bind fun r14 => cond (!r14) (some false) ((laws_heldLabelS n r9.2 (1 : Int)).bind fun (r15 : Int) => cond (decide (r15 < (0 : Int))) (some false) (cond (!(decide (r15 = r9.1))) (some false) (some true))))))
def laws_FnExactGroupOf (n : Nat) (a0 : List ((ByteArray) × ((List ((ByteArray) × ((Int) × ((ByteArray) × (Unit))))) × ((List (ByteArray)) × ((Int) × ((Int) × ((Int) × ((List (Int)) × ((Bool) × ((Int) × (Unit))))))))))) (a1 : Int) (a2 : List ((ByteArray) × ((ByteArray) × (Unit)))) : Option (Tup [.bool]) := goRec laws_FnExactGroupOf.step n (.p0 a0 a1 a2)
def laws_FnExactGroupOf.spec : Ctr := ⟨5, [.v (.sl false (.pair .str (.pair (.sl false (.pair .str (.pair (.int .i64) (.pair .str .unit)))) (.pair (.sl false .str) (.pair (.int .i64) (.pair (.int .i64) (.pair (.int .i64) (.pair (.sl false (.int .i64)) (.pair .bool (.pair (.int .i64) .unit)))))))))), .v (.int .i64), .v (.sl false (.pair .str (.pair .str .unit)))], [.bool], [], fun n x => laws_FnExactGroupOf n x.1 x.2.1 x.2.2.1⟩
theorem laws_FnExactGroupOf.seg_eq (n : Nat) (goto : Nat → St → Option (Tup [.bool])) (y : laws_FnExactGroupOf.Pt) : seg ⟨ty, gl, laws_FnExactGroupOf.md, calOf laws_FnExactGroupOf.T n⟩ laws_FnExactGroupOf.F.np laws_FnExactGroupOf.F.ks goto (laws_FnExactGroupOf.F.fin ⟨ty, gl, laws_FnExactGroupOf.md, calOf laws_FnExactGroupOf.T 0⟩ [.bool]) laws_FnExactGroupOf.F.c (laws_FnExactGroupOf.lb y) (laws_FnExactGroupOf.st y) = laws_FnExactGroupOf.step n (fun z => goto (laws_FnExactGroupOf.lb z) (laws_FnExactGroupOf.st z)) y := by
  cases y <;> kernel_rfl
theorem laws_FnExactGroupOf.text : Text Go.Proofs.Try.prog laws_FnExactGroupOf.F laws_FnExactGroupOf.spec := ⟨⟨Go.Proofs.Try.f5, by kernel_rfl, by kernel_rfl, by decide +kernel, by kernel_rfl, by kernel_rfl, of_decide_eq_true (by kernel_rfl)⟩, fun _ => rfl, fun _ => rfl, rfl⟩
theorem laws_FnExactGroupOf.ok : CtrOK Go.Proofs.Try.prog gl laws_FnExactGroupOf.spec :=
  ctr_ok (T := laws_FnExactGroupOf.T) (F := laws_FnExactGroupOf.F) (lb := laws_FnExactGroupOf.lb) (st := laws_FnExactGroupOf.st) (step := laws_FnExactGroupOf.step) (md := laws_FnExactGroupOf.md) tabs laws_FnExactGroupOf.text laws_FnExactGroupOf.seg_eq (fun n x => ⟨.p0 x.1 x.2.1 x.2.2.1, rfl, rfl, rfl⟩) (consC laws_szRouteS.ok (consC laws_szLabelS.ok (consC laws_toRouteS.ok (consC laws_toLabelS.ok (consC spec_GroupOf.ok (consC impl_GroupOf.ok (consC laws_eqLabelS.ok (consC laws_eqRouteS.ok (consC laws_markRouteS.ok (consC laws_markLabelS.ok (consC laws_heldLabelS.ok (nilC))))))))))))
end Go.GO
