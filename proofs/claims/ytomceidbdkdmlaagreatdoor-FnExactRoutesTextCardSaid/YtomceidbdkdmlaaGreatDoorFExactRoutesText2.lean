/- The functions that the law reaches, each as a Lean function and with its contract, part 2. -/
import Derived.Test.YtomceidbdkdmlaaGreatDoorV1
import Derived.Test.YtomceidbdkdmlaaGreatDoorV2
import Derived.Test.YtomceidbdkdmlaaGreatDoorV3
import Derived.Tactics
import Derived.Tactics2
import Derived.WalkKit
import Derived.Laws.Pointers
import Derived.Lib.Builder
import Derived.Lib.AppendStr
import Derived.Lib.UnsafeStr
import Derived.Shelf.RegionOpenPlain
import Derived.Lib.Bytealg
import Derived.Shelf.Lays
import Derived.Shelf.Small.Strs
import Derived.Lib.Repeat
import Derived.Shelf.Strings.Repeat
import Derived.Lib.Join
import Derived.Shelf.Strings.OnBuilder
import Derived.Lib.LaidTab
import Derived.Shelf.LaysM
import Derived.Shelf.Strconv.Itoa3
import Derived.Test.YtomceidbdkdmlaaGreatDoorProg
import Derived.Test.YtomceidbdkdmlaaGreatDoorFExactRoutesText1
open Go Go.VM
namespace Go.RX
set_option maxRecDepth 100000
set_option linter.unusedVariables false
set_option linter.unusedSimpArgs false
set_option linter.unusedSectionVars false
variable [Bor]
/-! loop.example/g00039/laws.eqMatcherS -/
def laws_eqMatcherS.T : List Ctr := [laws_eqMatcher.spec]
def laws_eqMatcherS.md : List (Nat × List Md) := []
noncomputable def laws_eqMatcherS.F : Fun := ⟨(Go.Proofs.Tryz.f45.body).getD .skip, [.v (.sl false (.pair .str (.pair (.int .i64) (.pair .str .unit)))), .v (.sl false (.pair .str (.pair (.int .i64) (.pair .str .unit))))], [(.tmp 4, .bool)], [], 0, [(15, ⟨[0, 1, 5], [], [], false⟩)]⟩
inductive laws_eqMatcherS.Pt where
  | p0 (a0 : List ((ByteArray) × ((Int) × ((ByteArray) × (Unit))))) (a1 : List ((ByteArray) × ((Int) × ((ByteArray) × (Unit)))))
  | p15 (y1 : List ((ByteArray) × ((Int) × ((ByteArray) × (Unit))))) (y2 : List ((ByteArray) × ((Int) × ((ByteArray) × (Unit))))) (y3 : Int)
def laws_eqMatcherS.lb : laws_eqMatcherS.Pt → Nat
  | .p0 _ _ => 0
  | .p15 _ _ _ => 15
def laws_eqMatcherS.st : laws_eqMatcherS.Pt → St
  | .p0 a0 a1 => enter [.v (.sl false (.pair .str (.pair (.int .i64) (.pair .str .unit)))) a0, .v (.sl false (.pair .str (.pair (.int .i64) (.pair .str .unit)))) a1] 0
  | .p15 y1 y2 y3 => ⟨[(0, .im (.sl false (.pair .str (.pair (.int .i64) (.pair .str .unit)))) y1), (1, .im (.sl false (.pair .str (.pair (.int .i64) (.pair .str .unit)))) y2), (5, .im (.int .i64) y3)], [], 0⟩
def laws_eqMatcherS.step (n : Nat) (K : laws_eqMatcherS.Pt → Option (Tup [.bool])) : laws_eqMatcherS.Pt → Option (Tup [.bool])
  | .p0 a0 a1 => cond (!(decide (((List.length a0) : Int) = ((List.length a1) : Int)))) (some false) (K (.p15 a0 a1 (0 : Int)))
  | .p15 y1 y2 y3 => cond (decide (y3 < ((List.length y1) : Int))) (cond (inB y3 (List.length y1)) (cond (inB y3 (List.length y2)) ((laws_eqMatcher n (List.getD y1 (Int.toNat y3) default) (List.getD y2 (Int.toNat y3) default)).bind fun r6 => cond (!r6) (some false) (K (.p15 y1 y2 (IntKind.wrap .i64 (y3 + (1 : Int)))))) (none)) (none)) (some true)
def laws_eqMatcherS (n : Nat) (a0 : List ((ByteArray) × ((Int) × ((ByteArray) × (Unit))))) (a1 : List ((ByteArray) × ((Int) × ((ByteArray) × (Unit))))) : Option (Tup [.bool]) := goRec laws_eqMatcherS.step n (.p0 a0 a1)
def laws_eqMatcherS.spec : Ctr := ⟨45, [.v (.sl false (.pair .str (.pair (.int .i64) (.pair .str .unit)))), .v (.sl false (.pair .str (.pair (.int .i64) (.pair .str .unit))))], [.bool], [], none, fun n x => laws_eqMatcherS n x.1 x.2.1⟩
theorem laws_eqMatcherS.seg_eq : SegEq ty gl laws_eqMatcherS.F laws_eqMatcherS.md laws_eqMatcherS.T laws_eqMatcherS.spec laws_eqMatcherS.lb laws_eqMatcherS.st laws_eqMatcherS.step := by
  intro n goto y; cases y <;> kernel_rfl
theorem laws_eqMatcherS.text : Text Go.Proofs.Tryz.prog laws_eqMatcherS.F laws_eqMatcherS.spec := textOf Go.Proofs.Tryz.f45
theorem laws_eqMatcherS.ok : CtrOK Go.Proofs.Tryz.prog gl laws_eqMatcherS.spec :=
  ctr_okS tabs laws_eqMatcherS.text laws_eqMatcherS.seg_eq (fun n x => ⟨.p0 x.1 x.2.1, rfl, rfl, rfl⟩) (consC laws_eqMatcher.ok (nilC))

/-! loop.example/g00039/laws.eqStringS -/
def laws_eqStringS.T : List Ctr := []
def laws_eqStringS.md : List (Nat × List Md) := []
noncomputable def laws_eqStringS.F : Fun := ⟨(Go.Proofs.Tryz.f46.body).getD .skip, [.v (.sl false .str), .v (.sl false .str)], [(.tmp 4, .bool)], [], 0, [(15, ⟨[0, 1, 5], [], [], false⟩)]⟩
inductive laws_eqStringS.Pt where
  | p0 (a0 : List (ByteArray)) (a1 : List (ByteArray))
  | p15 (y1 : List (ByteArray)) (y2 : List (ByteArray)) (y3 : Int)
def laws_eqStringS.lb : laws_eqStringS.Pt → Nat
  | .p0 _ _ => 0
  | .p15 _ _ _ => 15
def laws_eqStringS.st : laws_eqStringS.Pt → St
  | .p0 a0 a1 => enter [.v (.sl false .str) a0, .v (.sl false .str) a1] 0
  | .p15 y1 y2 y3 => ⟨[(0, .im (.sl false .str) y1), (1, .im (.sl false .str) y2), (5, .im (.int .i64) y3)], [], 0⟩
def laws_eqStringS.step (n : Nat) (K : laws_eqStringS.Pt → Option (Tup [.bool])) : laws_eqStringS.Pt → Option (Tup [.bool])
  | .p0 a0 a1 => cond (!(decide (((List.length a0) : Int) = ((List.length a1) : Int)))) (some false) (K (.p15 a0 a1 (0 : Int)))
  | .p15 y1 y2 y3 => cond (decide (y3 < ((List.length y1) : Int))) (cond (inB y3 (List.length y1)) (cond (inB y3 (List.length y2)) (cond (!(seq (List.getD y1 (Int.toNat y3) default) (List.getD y2 (Int.toNat y3) default))) (some false) (K (.p15 y1 y2 (IntKind.wrap .i64 (y3 + (1 : Int)))))) (none)) (none)) (some true)
def laws_eqStringS (n : Nat) (a0 : List (ByteArray)) (a1 : List (ByteArray)) : Option (Tup [.bool]) := goRec laws_eqStringS.step n (.p0 a0 a1)
def laws_eqStringS.spec : Ctr := ⟨46, [.v (.sl false .str), .v (.sl false .str)], [.bool], [], none, fun n x => laws_eqStringS n x.1 x.2.1⟩
theorem laws_eqStringS.seg_eq : SegEq ty gl laws_eqStringS.F laws_eqStringS.md laws_eqStringS.T laws_eqStringS.spec laws_eqStringS.lb laws_eqStringS.st laws_eqStringS.step := by
  intro n goto y; cases y <;> kernel_rfl
theorem laws_eqStringS.text : Text Go.Proofs.Tryz.prog laws_eqStringS.F laws_eqStringS.spec := textOf Go.Proofs.Tryz.f46
theorem laws_eqStringS.ok : CtrOK Go.Proofs.Tryz.prog gl laws_eqStringS.spec :=
  ctr_okS tabs laws_eqStringS.text laws_eqStringS.seg_eq (fun n x => ⟨.p0 x.1 x.2.1, rfl, rfl, rfl⟩) (nilC)

/-! loop.example/g00039/laws.eqIntS -/
def laws_eqIntS.T : List Ctr := []
def laws_eqIntS.md : List (Nat × List Md) := []
noncomputable def laws_eqIntS.F : Fun := ⟨(Go.Proofs.Tryz.f47.body).getD .skip, [.v (.sl false (.int .i64)), .v (.sl false (.int .i64))], [(.tmp 4, .bool)], [], 0, [(15, ⟨[0, 1, 5], [], [], false⟩)]⟩
inductive laws_eqIntS.Pt where
  | p0 (a0 : List (Int)) (a1 : List (Int))
  | p15 (y1 : List (Int)) (y2 : List (Int)) (y3 : Int)
def laws_eqIntS.lb : laws_eqIntS.Pt → Nat
  | .p0 _ _ => 0
  | .p15 _ _ _ => 15
def laws_eqIntS.st : laws_eqIntS.Pt → St
  | .p0 a0 a1 => enter [.v (.sl false (.int .i64)) a0, .v (.sl false (.int .i64)) a1] 0
  | .p15 y1 y2 y3 => ⟨[(0, .im (.sl false (.int .i64)) y1), (1, .im (.sl false (.int .i64)) y2), (5, .im (.int .i64) y3)], [], 0⟩
def laws_eqIntS.step (n : Nat) (K : laws_eqIntS.Pt → Option (Tup [.bool])) : laws_eqIntS.Pt → Option (Tup [.bool])
  | .p0 a0 a1 => cond (!(decide (((List.length a0) : Int) = ((List.length a1) : Int)))) (some false) (K (.p15 a0 a1 (0 : Int)))
  | .p15 y1 y2 y3 => cond (decide (y3 < ((List.length y1) : Int))) (cond (inB y3 (List.length y1)) (cond (inB y3 (List.length y2)) (cond (!(decide ((List.getD y1 (Int.toNat y3) default) = (List.getD y2 (Int.toNat y3) default)))) (some false) (K (.p15 y1 y2 (IntKind.wrap .i64 (y3 + (1 : Int)))))) (none)) (none)) (some true)
def laws_eqIntS (n : Nat) (a0 : List (Int)) (a1 : List (Int)) : Option (Tup [.bool]) := goRec laws_eqIntS.step n (.p0 a0 a1)
def laws_eqIntS.spec : Ctr := ⟨47, [.v (.sl false (.int .i64)), .v (.sl false (.int .i64))], [.bool], [], none, fun n x => laws_eqIntS n x.1 x.2.1⟩
theorem laws_eqIntS.seg_eq : SegEq ty gl laws_eqIntS.F laws_eqIntS.md laws_eqIntS.T laws_eqIntS.spec laws_eqIntS.lb laws_eqIntS.st laws_eqIntS.step := by
  intro n goto y; cases y <;> kernel_rfl
theorem laws_eqIntS.text : Text Go.Proofs.Tryz.prog laws_eqIntS.F laws_eqIntS.spec := textOf Go.Proofs.Tryz.f47
theorem laws_eqIntS.ok : CtrOK Go.Proofs.Tryz.prog gl laws_eqIntS.spec :=
  ctr_okS tabs laws_eqIntS.text laws_eqIntS.seg_eq (fun n x => ⟨.p0 x.1 x.2.1, rfl, rfl, rfl⟩) (nilC)

/-! loop.example/g00039/laws.eqRoute -/
def laws_eqRoute.T : List Ctr := [laws_eqMatcherS.spec, laws_eqStringS.spec, laws_eqIntS.spec]
def laws_eqRoute.md : List (Nat × List Md) := []
noncomputable def laws_eqRoute.F : Fun := ⟨(Go.Proofs.Tryz.f21.body).getD .skip, [.v (.pair .str (.pair (.sl false (.pair .str (.pair (.int .i64) (.pair .str .unit)))) (.pair (.sl false .str) (.pair (.int .i64) (.pair (.int .i64) (.pair (.int .i64) (.pair (.sl false (.int .i64)) (.pair .bool (.pair (.int .i64) .unit))))))))), .v (.pair .str (.pair (.sl false (.pair .str (.pair (.int .i64) (.pair .str .unit)))) (.pair (.sl false .str) (.pair (.int .i64) (.pair (.int .i64) (.pair (.int .i64) (.pair (.sl false (.int .i64)) (.pair .bool (.pair (.int .i64) .unit)))))))))], [(.tmp 4, .bool)], [], 0, []⟩
inductive laws_eqRoute.Pt where
  | p0 (a0 : (ByteArray) × ((List ((ByteArray) × ((Int) × ((ByteArray) × (Unit))))) × ((List (ByteArray)) × ((Int) × ((Int) × ((Int) × ((List (Int)) × ((Bool) × ((Int) × (Unit)))))))))) (a1 : (ByteArray) × ((List ((ByteArray) × ((Int) × ((ByteArray) × (Unit))))) × ((List (ByteArray)) × ((Int) × ((Int) × ((Int) × ((List (Int)) × ((Bool) × ((Int) × (Unit))))))))))
def laws_eqRoute.lb : laws_eqRoute.Pt → Nat
  | .p0 _ _ => 0
def laws_eqRoute.st : laws_eqRoute.Pt → St
  | .p0 a0 a1 => enter [.v (.pair .str (.pair (.sl false (.pair .str (.pair (.int .i64) (.pair .str .unit)))) (.pair (.sl false .str) (.pair (.int .i64) (.pair (.int .i64) (.pair (.int .i64) (.pair (.sl false (.int .i64)) (.pair .bool (.pair (.int .i64) .unit))))))))) a0, .v (.pair .str (.pair (.sl false (.pair .str (.pair (.int .i64) (.pair .str .unit)))) (.pair (.sl false .str) (.pair (.int .i64) (.pair (.int .i64) (.pair (.int .i64) (.pair (.sl false (.int .i64)) (.pair .bool (.pair (.int .i64) .unit))))))))) a1] 0
def laws_eqRoute.step (n : Nat) (K : laws_eqRoute.Pt → Option (Tup [.bool])) : laws_eqRoute.Pt → Option (Tup [.bool])
  | .p0 a0 a1 => cond (!(seq a0.1 a1.1)) (some false) ((laws_eqMatcherS n a0.2.1 a1.2.1).bind fun r5 => cond (!r5) (some false) ((laws_eqStringS n a0.2.2.1 a1.2.2.1).bind fun r6 => cond (!r6) (some false) (cond (!(decide (a0.2.2.2.1 = a1.2.2.2.1))) (some false) (cond (!(decide (a0.2.2.2.2.1 = a1.2.2.2.2.1))) (some false) (cond (!(decide (a0.2.2.2.2.2.1 = a1.2.2.2.2.2.1))) (some false) ((laws_eqIntS n a0.2.2.2.2.2.2.1 a1.2.2.2.2.2.2.1).bind fun r7 => cond (!r7) (some false) (cond (a0.2.2.2.2.2.2.2.1 != a1.2.2.2.2.2.2.2.1) (some false) (cond (!(decide (a0.2.2.2.2.2.2.2.2.1 = a1.2.2.2.2.2.2.2.2.1))) (some false) (some true)))))))))
def laws_eqRoute (n : Nat) (a0 : (ByteArray) × ((List ((ByteArray) × ((Int) × ((ByteArray) × (Unit))))) × ((List (ByteArray)) × ((Int) × ((Int) × ((Int) × ((List (Int)) × ((Bool) × ((Int) × (Unit)))))))))) (a1 : (ByteArray) × ((List ((ByteArray) × ((Int) × ((ByteArray) × (Unit))))) × ((List (ByteArray)) × ((Int) × ((Int) × ((Int) × ((List (Int)) × ((Bool) × ((Int) × (Unit)))))))))) : Option (Tup [.bool]) := goRec laws_eqRoute.step n (.p0 a0 a1)
def laws_eqRoute.spec : Ctr := ⟨21, [.v (.pair .str (.pair (.sl false (.pair .str (.pair (.int .i64) (.pair .str .unit)))) (.pair (.sl false .str) (.pair (.int .i64) (.pair (.int .i64) (.pair (.int .i64) (.pair (.sl false (.int .i64)) (.pair .bool (.pair (.int .i64) .unit))))))))), .v (.pair .str (.pair (.sl false (.pair .str (.pair (.int .i64) (.pair .str .unit)))) (.pair (.sl false .str) (.pair (.int .i64) (.pair (.int .i64) (.pair (.int .i64) (.pair (.sl false (.int .i64)) (.pair .bool (.pair (.int .i64) .unit)))))))))], [.bool], [], none, fun n x => laws_eqRoute n x.1 x.2.1⟩
theorem laws_eqRoute.seg_eq : SegEq ty gl laws_eqRoute.F laws_eqRoute.md laws_eqRoute.T laws_eqRoute.spec laws_eqRoute.lb laws_eqRoute.st laws_eqRoute.step := by
  intro n goto y; cases y <;> kernel_rfl
theorem laws_eqRoute.text : Text Go.Proofs.Tryz.prog laws_eqRoute.F laws_eqRoute.spec := textOf Go.Proofs.Tryz.f21
theorem laws_eqRoute.ok : CtrOK Go.Proofs.Tryz.prog gl laws_eqRoute.spec :=
  ctr_okS tabs laws_eqRoute.text laws_eqRoute.seg_eq (fun n x => ⟨.p0 x.1 x.2.1, rfl, rfl, rfl⟩) (consC laws_eqMatcherS.ok (consC laws_eqStringS.ok (consC laws_eqIntS.ok (nilC))))

/-! loop.example/g00039/laws.eqRouteS -/
def laws_eqRouteS.T : List Ctr := [laws_eqRoute.spec]
def laws_eqRouteS.md : List (Nat × List Md) := []
noncomputable def laws_eqRouteS.F : Fun := ⟨(Go.Proofs.Tryz.f8.body).getD .skip, [.v (.sl false (.pair .str (.pair (.sl false (.pair .str (.pair (.int .i64) (.pair .str .unit)))) (.pair (.sl false .str) (.pair (.int .i64) (.pair (.int .i64) (.pair (.int .i64) (.pair (.sl false (.int .i64)) (.pair .bool (.pair (.int .i64) .unit)))))))))), .v (.sl false (.pair .str (.pair (.sl false (.pair .str (.pair (.int .i64) (.pair .str .unit)))) (.pair (.sl false .str) (.pair (.int .i64) (.pair (.int .i64) (.pair (.int .i64) (.pair (.sl false (.int .i64)) (.pair .bool (.pair (.int .i64) .unit))))))))))], [(.tmp 4, .bool)], [], 0, [(15, ⟨[0, 1, 5], [], [], false⟩)]⟩
inductive laws_eqRouteS.Pt where
  | p0 (a0 : List ((ByteArray) × ((List ((ByteArray) × ((Int) × ((ByteArray) × (Unit))))) × ((List (ByteArray)) × ((Int) × ((Int) × ((Int) × ((List (Int)) × ((Bool) × ((Int) × (Unit))))))))))) (a1 : List ((ByteArray) × ((List ((ByteArray) × ((Int) × ((ByteArray) × (Unit))))) × ((List (ByteArray)) × ((Int) × ((Int) × ((Int) × ((List (Int)) × ((Bool) × ((Int) × (Unit)))))))))))
  | p15 (y1 : List ((ByteArray) × ((List ((ByteArray) × ((Int) × ((ByteArray) × (Unit))))) × ((List (ByteArray)) × ((Int) × ((Int) × ((Int) × ((List (Int)) × ((Bool) × ((Int) × (Unit))))))))))) (y2 : List ((ByteArray) × ((List ((ByteArray) × ((Int) × ((ByteArray) × (Unit))))) × ((List (ByteArray)) × ((Int) × ((Int) × ((Int) × ((List (Int)) × ((Bool) × ((Int) × (Unit))))))))))) (y3 : Int)
def laws_eqRouteS.lb : laws_eqRouteS.Pt → Nat
  | .p0 _ _ => 0
  | .p15 _ _ _ => 15
def laws_eqRouteS.st : laws_eqRouteS.Pt → St
  | .p0 a0 a1 => enter [.v (.sl false (.pair .str (.pair (.sl false (.pair .str (.pair (.int .i64) (.pair .str .unit)))) (.pair (.sl false .str) (.pair (.int .i64) (.pair (.int .i64) (.pair (.int .i64) (.pair (.sl false (.int .i64)) (.pair .bool (.pair (.int .i64) .unit)))))))))) a0, .v (.sl false (.pair .str (.pair (.sl false (.pair .str (.pair (.int .i64) (.pair .str .unit)))) (.pair (.sl false .str) (.pair (.int .i64) (.pair (.int .i64) (.pair (.int .i64) (.pair (.sl false (.int .i64)) (.pair .bool (.pair (.int .i64) .unit)))))))))) a1] 0
  | .p15 y1 y2 y3 => ⟨[(0, .im (.sl false (.pair .str (.pair (.sl false (.pair .str (.pair (.int .i64) (.pair .str .unit)))) (.pair (.sl false .str) (.pair (.int .i64) (.pair (.int .i64) (.pair (.int .i64) (.pair (.sl false (.int .i64)) (.pair .bool (.pair (.int .i64) .unit)))))))))) y1), (1, .im (.sl false (.pair .str (.pair (.sl false (.pair .str (.pair (.int .i64) (.pair .str .unit)))) (.pair (.sl false .str) (.pair (.int .i64) (.pair (.int .i64) (.pair (.int .i64) (.pair (.sl false (.int .i64)) (.pair .bool (.pair (.int .i64) .unit)))))))))) y2), (5, .im (.int .i64) y3)], [], 0⟩
def laws_eqRouteS.step (n : Nat) (K : laws_eqRouteS.Pt → Option (Tup [.bool])) : laws_eqRouteS.Pt → Option (Tup [.bool])
  | .p0 a0 a1 => cond (!(decide (((List.length a0) : Int) = ((List.length a1) : Int)))) (some false) (K (.p15 a0 a1 (0 : Int)))
  | .p15 y1 y2 y3 => cond (decide (y3 < ((List.length y1) : Int))) (cond (inB y3 (List.length y1)) (cond (inB y3 (List.length y2)) ((laws_eqRoute n (List.getD y1 (Int.toNat y3) default) (List.getD y2 (Int.toNat y3) default)).bind fun r6 => cond (!r6) (some false) (K (.p15 y1 y2 (IntKind.wrap .i64 (y3 + (1 : Int)))))) (none)) (none)) (some true)
def laws_eqRouteS (n : Nat) (a0 : List ((ByteArray) × ((List ((ByteArray) × ((Int) × ((ByteArray) × (Unit))))) × ((List (ByteArray)) × ((Int) × ((Int) × ((Int) × ((List (Int)) × ((Bool) × ((Int) × (Unit))))))))))) (a1 : List ((ByteArray) × ((List ((ByteArray) × ((Int) × ((ByteArray) × (Unit))))) × ((List (ByteArray)) × ((Int) × ((Int) × ((Int) × ((List (Int)) × ((Bool) × ((Int) × (Unit))))))))))) : Option (Tup [.bool]) := goRec laws_eqRouteS.step n (.p0 a0 a1)
def laws_eqRouteS.spec : Ctr := ⟨8, [.v (.sl false (.pair .str (.pair (.sl false (.pair .str (.pair (.int .i64) (.pair .str .unit)))) (.pair (.sl false .str) (.pair (.int .i64) (.pair (.int .i64) (.pair (.int .i64) (.pair (.sl false (.int .i64)) (.pair .bool (.pair (.int .i64) .unit)))))))))), .v (.sl false (.pair .str (.pair (.sl false (.pair .str (.pair (.int .i64) (.pair .str .unit)))) (.pair (.sl false .str) (.pair (.int .i64) (.pair (.int .i64) (.pair (.int .i64) (.pair (.sl false (.int .i64)) (.pair .bool (.pair (.int .i64) .unit))))))))))], [.bool], [], none, fun n x => laws_eqRouteS n x.1 x.2.1⟩
theorem laws_eqRouteS.seg_eq : SegEq ty gl laws_eqRouteS.F laws_eqRouteS.md laws_eqRouteS.T laws_eqRouteS.spec laws_eqRouteS.lb laws_eqRouteS.st laws_eqRouteS.step := by
  intro n goto y; cases y <;> kernel_rfl
theorem laws_eqRouteS.text : Text Go.Proofs.Tryz.prog laws_eqRouteS.F laws_eqRouteS.spec := textOf Go.Proofs.Tryz.f8
theorem laws_eqRouteS.ok : CtrOK Go.Proofs.Tryz.prog gl laws_eqRouteS.spec :=
  ctr_okS tabs laws_eqRouteS.text laws_eqRouteS.seg_eq (fun n x => ⟨.p0 x.1 x.2.1, rfl, rfl, rfl⟩) (consC laws_eqRoute.ok (nilC))

/-! loop.example/g00039/laws.FnExactRoutesText -/
def laws_FnExactRoutesText.T : List Ctr := [laws_szRouteS.spec, laws_toRouteS.spec, spec_RoutesText.spec, impl_RoutesText.spec, laws_eqRouteS.spec]
def laws_FnExactRoutesText.md : List (Nat × List Md) := []
noncomputable def laws_FnExactRoutesText.F : Fun := ⟨(Go.Proofs.Tryz.f3.body).getD .skip, [.v (.sl false (.pair .str (.pair (.sl false (.pair .str (.pair (.int .i64) (.pair .str .unit)))) (.pair (.sl false .str) (.pair (.int .i64) (.pair (.int .i64) (.pair (.int .i64) (.pair (.sl false (.int .i64)) (.pair .bool (.pair (.int .i64) .unit))))))))))], [(.tmp 2, .bool)], [], 0, []⟩
inductive laws_FnExactRoutesText.Pt where
  | p0 (a0 : List ((ByteArray) × ((List ((ByteArray) × ((Int) × ((ByteArray) × (Unit))))) × ((List (ByteArray)) × ((Int) × ((Int) × ((Int) × ((List (Int)) × ((Bool) × ((Int) × (Unit)))))))))))
def laws_FnExactRoutesText.lb : laws_FnExactRoutesText.Pt → Nat
  | .p0 _ => 0
def laws_FnExactRoutesText.st : laws_FnExactRoutesText.Pt → St
  | .p0 a0 => enter [.v (.sl false (.pair .str (.pair (.sl false (.pair .str (.pair (.int .i64) (.pair .str .unit)))) (.pair (.sl false .str) (.pair (.int .i64) (.pair (.int .i64) (.pair (.int .i64) (.pair (.sl false (.int .i64)) (.pair .bool (.pair (.int .i64) .unit)))))))))) a0] 0
def laws_FnExactRoutesText.step (n : Nat) (K : laws_FnExactRoutesText.Pt → Option (Tup [.bool])) : laws_FnExactRoutesText.Pt → Option (Tup [.bool])
  | .p0 a0 => (laws_szRouteS n a0 (1048576 : Int)).bind fun (r4 : Int) => cond (decide (r4 < (0 : Int))) (some true) ((laws_toRouteS n a0).bind fun r5 => (spec_RoutesText n r5).bind fun r6 => (laws_toRouteS n a0).bind fun r7 => (impl_RoutesText n r7).bind fun r8 => cond (!(seq r8 r6)) (some false) ((laws_toRouteS n a0).bind fun r9 => (laws_eqRouteS n r7 r9).bind fun r10 => cond (!r10) (some false) (some true)))
def laws_FnExactRoutesText (n : Nat) (a0 : List ((ByteArray) × ((List ((ByteArray) × ((Int) × ((ByteArray) × (Unit))))) × ((List (ByteArray)) × ((Int) × ((Int) × ((Int) × ((List (Int)) × ((Bool) × ((Int) × (Unit))))))))))) : Option (Tup [.bool]) := goRec laws_FnExactRoutesText.step n (.p0 a0)
def laws_FnExactRoutesText.spec : Ctr := ⟨3, [.v (.sl false (.pair .str (.pair (.sl false (.pair .str (.pair (.int .i64) (.pair .str .unit)))) (.pair (.sl false .str) (.pair (.int .i64) (.pair (.int .i64) (.pair (.int .i64) (.pair (.sl false (.int .i64)) (.pair .bool (.pair (.int .i64) .unit))))))))))], [.bool], [], none, fun n x => laws_FnExactRoutesText n x.1⟩
theorem laws_FnExactRoutesText.seg_eq : SegEq ty gl laws_FnExactRoutesText.F laws_FnExactRoutesText.md laws_FnExactRoutesText.T laws_FnExactRoutesText.spec laws_FnExactRoutesText.lb laws_FnExactRoutesText.st laws_FnExactRoutesText.step := by
  intro n goto y; cases y <;> kernel_rfl
theorem laws_FnExactRoutesText.text : Text Go.Proofs.Tryz.prog laws_FnExactRoutesText.F laws_FnExactRoutesText.spec := textOf Go.Proofs.Tryz.f3
theorem laws_FnExactRoutesText.ok : CtrOK Go.Proofs.Tryz.prog gl laws_FnExactRoutesText.spec :=
  ctr_okS tabs laws_FnExactRoutesText.text laws_FnExactRoutesText.seg_eq (fun n x => ⟨.p0 x.1, rfl, rfl, rfl⟩) (consC laws_szRouteS.ok (consC laws_toRouteS.ok (consC spec_RoutesText.ok (consC impl_RoutesText.ok (consC laws_eqRouteS.ok (nilC))))))
end Go.RX
