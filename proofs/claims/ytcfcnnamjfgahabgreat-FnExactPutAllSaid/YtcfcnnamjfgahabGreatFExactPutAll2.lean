/- The functions that the law reaches, each as a Lean function and with its contract, part 2. -/
import Derived.Test.YtcfcnnamjfgahabGreatV1
import Derived.Test.YtcfcnnamjfgahabGreatV2
import Derived.Test.YtcfcnnamjfgahabGreatV3
import Derived.Test.YtcfcnnamjfgahabGreatV4
import Derived.Tactics
import Derived.Tactics2
import Derived.WalkKit
import Derived.Shelf.RegionOpenPlain
import Derived.Shelf.Spec.SlicesInsertGrow
import Derived.Lib.Overlaps
import Derived.Test.YtcfcnnamjfgahabGreatProg
import Derived.Test.YtcfcnnamjfgahabGreatFExactPutAll1
open Go Go.VM
namespace Go.PA
set_option maxRecDepth 100000
set_option linter.unusedVariables false
set_option linter.unusedSimpArgs false
set_option linter.unusedSectionVars false
variable [Bor]
/-! loop.example/g00039/impl.PutAll -/
def impl_PutAll.T : List Ctr := [impl_GoodHead.spec, impl_ownSeries.spec, impl_put.spec]
def impl_PutAll.md : List (Nat × List Md) := [(62, [.p (.pair (.int .i64) (.pair (.int .i64) (.pair (.int .i64) (.pair (.sl false (.pair (.sl false (.pair .str (.pair .str .unit))) (.pair (.sl false (.pair (.int .i64) (.pair (.int .i64) .unit))) .unit))) .unit)))), .v, .v])]
noncomputable def impl_PutAll.F : Fun := ⟨(Go.Proofs.Tryz.f21.body).getD .skip, [.v (.pair (.int .i64) (.pair (.int .i64) (.pair (.int .i64) (.pair (.sl false (.pair (.sl false (.pair .str (.pair .str .unit))) (.pair (.sl false (.pair (.int .i64) (.pair (.int .i64) .unit))) .unit))) .unit)))), .v (.sl false (.pair (.sl false (.pair .str (.pair .str .unit))) (.pair (.int .i64) (.pair (.int .i64) .unit))))], [(.cell 4 42, (.pair (.int .i64) (.pair (.int .i64) (.pair (.int .i64) (.pair (.sl false (.pair (.sl false (.pair .str (.pair .str .unit))) (.pair (.sl false (.pair (.int .i64) (.pair (.int .i64) .unit))) .unit))) .unit))))), (.tmp 5, (.sl false (.int .i64)))], [], 0, [(4, ⟨[1, 2, 4, 16], [], [(2, 3, (.pair (.sl false (.pair .str (.pair .str .unit))) (.pair (.sl false (.pair (.int .i64) (.pair (.int .i64) .unit))) .unit))), (4, 3, (.pair (.sl false (.pair .str (.pair .str .unit))) (.pair (.sl false (.pair (.int .i64) (.pair (.int .i64) .unit))) .unit)))], false⟩), (19, ⟨[2, 4, 6, 22, 23, 24], [(6, (.int .i64)), (22, (.pair (.sl false (.pair .str (.pair .str .unit))) (.pair (.int .i64) (.pair (.int .i64) .unit))))], [(2, 3, (.pair (.sl false (.pair .str (.pair .str .unit))) (.pair (.sl false (.pair (.int .i64) (.pair (.int .i64) .unit))) .unit))), (4, 3, (.pair (.sl false (.pair .str (.pair .str .unit))) (.pair (.sl false (.pair (.int .i64) (.pair (.int .i64) .unit))) .unit)))], false⟩)]⟩
inductive impl_PutAll.Pt where
  | p0 (a0 : (Int) × ((Int) × ((Int) × ((List ((List ((ByteArray) × ((ByteArray) × (Unit)))) × ((List ((Int) × ((Int) × (Unit)))) × (Unit)))) × (Unit))))) (a1 : List ((List ((ByteArray) × ((ByteArray) × (Unit)))) × ((Int) × ((Int) × (Unit)))))
  | p4 (y1 : List ((List ((ByteArray) × ((ByteArray) × (Unit)))) × ((Int) × ((Int) × (Unit))))) (y2 : Bool) (y3 : Int) (y4 : Int) (y5 : Int) (y6 : List ((List ((ByteArray) × ((ByteArray) × (Unit)))) × ((List ((Int) × ((Int) × (Unit)))) × (Unit)))) (y7 : Int) (y8 : Int) (y9 : Int) (y10 : List ((List ((ByteArray) × ((ByteArray) × (Unit)))) × ((List ((Int) × ((Int) × (Unit)))) × (Unit))))
  | p19 (y1 : List ((List ((ByteArray) × ((ByteArray) × (Unit)))) × ((Int) × ((Int) × (Unit))))) (y2 : Int) (y3 : Int) (y4 : Int) (y5 : Int) (y6 : Int) (y7 : Int) (y8 : Int) (y9 : Int) (y10 : List (Int)) (y11 : List ((List ((ByteArray) × ((ByteArray) × (Unit)))) × ((List ((Int) × ((Int) × (Unit)))) × (Unit)))) (y12 : List ((List ((ByteArray) × ((ByteArray) × (Unit)))) × ((List ((Int) × ((Int) × (Unit)))) × (Unit))))
def impl_PutAll.lb : impl_PutAll.Pt → Nat
  | .p0 _ _ => 0
  | .p4 _ _ _ _ _ _ _ _ _ _ => 4
  | .p19 _ _ _ _ _ _ _ _ _ _ _ _ => 19
def impl_PutAll.st : impl_PutAll.Pt → St
  | .p0 a0 a1 => enter [.v (.pair (.int .i64) (.pair (.int .i64) (.pair (.int .i64) (.pair (.sl false (.pair (.sl false (.pair .str (.pair .str .unit))) (.pair (.sl false (.pair (.int .i64) (.pair (.int .i64) .unit))) .unit))) .unit)))) a0, .v (.sl false (.pair (.sl false (.pair .str (.pair .str .unit))) (.pair (.int .i64) (.pair (.int .i64) .unit)))) a1] 0
  | .p4 y1 y2 y3 y4 y5 y6 y7 y8 y9 y10 => ⟨[(1, .im (.sl false (.pair (.sl false (.pair .str (.pair .str .unit))) (.pair (.int .i64) (.pair (.int .i64) .unit)))) y1), (2, .po 0 0), (4, .po 1 0), (16, .im .bool y2)], [(0, .obj [.im (.int .i64) y3, .im (.int .i64) y4, .im (.int .i64) y5, .im (.sl false (.pair (.sl false (.pair .str (.pair .str .unit))) (.pair (.sl false (.pair (.int .i64) (.pair (.int .i64) .unit))) .unit))) y6]), (1, .obj [.im (.int .i64) y7, .im (.int .i64) y8, .im (.int .i64) y9, .hs 2 [] none 0]), (2, .arr true (.pair (.sl false (.pair .str (.pair .str .unit))) (.pair (.sl false (.pair (.int .i64) (.pair (.int .i64) .unit))) .unit)) y10 0)], 3⟩
  | .p19 y1 y2 y3 y4 y5 y6 y7 y8 y9 y10 y11 y12 => ⟨[(2, .po 0 0), (4, .po 1 0), (6, .hs 2 [] none 0), (22, .im (.sl false (.pair (.sl false (.pair .str (.pair .str .unit))) (.pair (.int .i64) (.pair (.int .i64) .unit)))) y1), (23, .im (.int .i64) y2), (24, .im (.int .i64) y3)], [(0, .obj [.im (.int .i64) y4, .im (.int .i64) y5, .im (.int .i64) y6, .hs 3 [] none 0]), (1, .obj [.im (.int .i64) y7, .im (.int .i64) y8, .im (.int .i64) y9, .hs 4 [] none 0]), (2, .arr true (.int .i64) y10 0), (3, .arr false (.pair (.sl false (.pair .str (.pair .str .unit))) (.pair (.sl false (.pair (.int .i64) (.pair (.int .i64) .unit))) .unit)) y11 0), (4, .arr true (.pair (.sl false (.pair .str (.pair .str .unit))) (.pair (.sl false (.pair (.int .i64) (.pair (.int .i64) .unit))) .unit)) y12 0)], 5⟩
def impl_PutAll.step (n : Nat) (K : impl_PutAll.Pt → Option (Tup [(.pair (.int .i64) (.pair (.int .i64) (.pair (.int .i64) (.pair (.sl false (.pair (.sl false (.pair .str (.pair .str .unit))) (.pair (.sl false (.pair (.int .i64) (.pair (.int .i64) .unit))) .unit))) .unit)))), (.sl false (.int .i64))])) : impl_PutAll.Pt → Option (Tup [(.pair (.int .i64) (.pair (.int .i64) (.pair (.int .i64) (.pair (.sl false (.pair (.sl false (.pair .str (.pair .str .unit))) (.pair (.sl false (.pair (.int .i64) (.pair (.int .i64) .unit))) .unit))) .unit)))), (.sl false (.int .i64))])
  | .p0 a0 a1 => (impl_GoodHead n a0).bind fun r5 => cond (!r5) (K (.p4 a1 true a0.1 a0.2.1 a0.2.2.1 a0.2.2.2.1 (default : Int) (default : Int) (default : Int) ([] : List ((List ((ByteArray) × ((ByteArray) × (Unit)))) × ((List ((Int) × ((Int) × (Unit)))) × (Unit)))))) (K (.p4 a1 (decide ((500 : Int) < ((List.length a1) : Int))) a0.1 a0.2.1 a0.2.2.1 a0.2.2.2.1 (default : Int) (default : Int) (default : Int) ([] : List ((List ((ByteArray) × ((ByteArray) × (Unit)))) × ((List ((Int) × ((Int) × (Unit)))) × (Unit))))))
  | .p4 y1 y2 y3 y4 y5 y6 y7 y8 y9 y10 => cond y2 (some ((default : (Int) × ((Int) × ((Int) × ((List ((List ((ByteArray) × ((ByteArray) × (Unit)))) × ((List ((Int) × ((Int) × (Unit)))) × (Unit)))) × (Unit))))), ([] : List (Int)))) ((impl_ownSeries n y6).bind fun r13 => K (.p19 y1 ((List.length y1) : Int) (0 : Int) y3 y4 y5 y7 y8 y9 ([] : List (Int)) r13 y10))
  | .p19 y1 y2 y3 y4 y5 y6 y7 y8 y9 y10 y11 y12 => cond (decide (y3 < y2)) (cond (inB y3 (List.length y1)) ((impl_put n (y4, (y5, (y6, (y11, ())))) ((List.getD y1 (Int.toNat y3) default).1, (List.getD y1 (Int.toNat y3) default).2) (0 : Int)).bind fun r15 => cond (room ((List.length y10) + (List.length [r15.1]))) (K (.p19 y1 y2 (IntKind.wrap .i64 (y3 + (1 : Int))) r15.2.1 r15.2.2.1 r15.2.2.2.1 y7 y8 y9 (y10 ++ [r15.1]) r15.2.2.2.2.1 y12)) (none)) (none)) (some ((y4, (y5, (y6, (y11, ())))), y10))
def impl_PutAll (n : Nat) (a0 : (Int) × ((Int) × ((Int) × ((List ((List ((ByteArray) × ((ByteArray) × (Unit)))) × ((List ((Int) × ((Int) × (Unit)))) × (Unit)))) × (Unit))))) (a1 : List ((List ((ByteArray) × ((ByteArray) × (Unit)))) × ((Int) × ((Int) × (Unit))))) : Option (Tup [(.pair (.int .i64) (.pair (.int .i64) (.pair (.int .i64) (.pair (.sl false (.pair (.sl false (.pair .str (.pair .str .unit))) (.pair (.sl false (.pair (.int .i64) (.pair (.int .i64) .unit))) .unit))) .unit)))), (.sl false (.int .i64))]) := goRec impl_PutAll.step n (.p0 a0 a1)
def impl_PutAll.spec : Ctr := ⟨21, [.v (.pair (.int .i64) (.pair (.int .i64) (.pair (.int .i64) (.pair (.sl false (.pair (.sl false (.pair .str (.pair .str .unit))) (.pair (.sl false (.pair (.int .i64) (.pair (.int .i64) .unit))) .unit))) .unit)))), .v (.sl false (.pair (.sl false (.pair .str (.pair .str .unit))) (.pair (.int .i64) (.pair (.int .i64) .unit))))], [(.pair (.int .i64) (.pair (.int .i64) (.pair (.int .i64) (.pair (.sl false (.pair (.sl false (.pair .str (.pair .str .unit))) (.pair (.sl false (.pair (.int .i64) (.pair (.int .i64) .unit))) .unit))) .unit)))), (.sl false (.int .i64))], [], none, fun n x => impl_PutAll n x.1 x.2.1⟩
theorem impl_PutAll.seg_eq : SegEq ty gl impl_PutAll.F impl_PutAll.md impl_PutAll.T impl_PutAll.spec impl_PutAll.lb impl_PutAll.st impl_PutAll.step := by
  intro n goto y; cases y <;> kernel_rfl
theorem impl_PutAll.text : Text Go.Proofs.Tryz.prog impl_PutAll.F impl_PutAll.spec := textOf Go.Proofs.Tryz.f21
theorem impl_PutAll.ok : CtrOK Go.Proofs.Tryz.prog gl impl_PutAll.spec :=
  ctr_okS tabs impl_PutAll.text impl_PutAll.seg_eq (fun n x => ⟨.p0 x.1 x.2.1, rfl, rfl, rfl⟩) (consC impl_GoodHead.ok (consC impl_ownSeries.ok (consC impl_put.ok (nilC))))

/-! loop.example/g00039/laws.eqLabel -/
def laws_eqLabel.T : List Ctr := []
def laws_eqLabel.md : List (Nat × List Md) := []
noncomputable def laws_eqLabel.F : Fun := ⟨(Go.Proofs.Tryz.f125.body).getD .skip, [.v (.pair .str (.pair .str .unit)), .v (.pair .str (.pair .str .unit))], [(.tmp 4, .bool)], [], 0, []⟩
inductive laws_eqLabel.Pt where
  | p0 (a0 : (ByteArray) × ((ByteArray) × (Unit))) (a1 : (ByteArray) × ((ByteArray) × (Unit)))
def laws_eqLabel.lb : laws_eqLabel.Pt → Nat
  | .p0 _ _ => 0
def laws_eqLabel.st : laws_eqLabel.Pt → St
  | .p0 a0 a1 => enter [.v (.pair .str (.pair .str .unit)) a0, .v (.pair .str (.pair .str .unit)) a1] 0
def laws_eqLabel.step (n : Nat) (K : laws_eqLabel.Pt → Option (Tup [.bool])) : laws_eqLabel.Pt → Option (Tup [.bool])
  | .p0 a0 a1 => cond (!(seq a0.1 a1.1)) (some false) (cond (!(seq a0.2.1 a1.2.1)) (some false) (some true))
def laws_eqLabel (n : Nat) (a0 : (ByteArray) × ((ByteArray) × (Unit))) (a1 : (ByteArray) × ((ByteArray) × (Unit))) : Option (Tup [.bool]) := goRec laws_eqLabel.step n (.p0 a0 a1)
def laws_eqLabel.spec : Ctr := ⟨125, [.v (.pair .str (.pair .str .unit)), .v (.pair .str (.pair .str .unit))], [.bool], [], none, fun n x => laws_eqLabel n x.1 x.2.1⟩
theorem laws_eqLabel.seg_eq : SegEq ty gl laws_eqLabel.F laws_eqLabel.md laws_eqLabel.T laws_eqLabel.spec laws_eqLabel.lb laws_eqLabel.st laws_eqLabel.step := by
  intro n goto y; cases y <;> kernel_rfl
theorem laws_eqLabel.text : Text Go.Proofs.Tryz.prog laws_eqLabel.F laws_eqLabel.spec := textOf Go.Proofs.Tryz.f125
theorem laws_eqLabel.ok : CtrOK Go.Proofs.Tryz.prog gl laws_eqLabel.spec :=
  ctr_okS tabs laws_eqLabel.text laws_eqLabel.seg_eq (fun n x => ⟨.p0 x.1 x.2.1, rfl, rfl, rfl⟩) (nilC)

/-! loop.example/g00039/laws.eqLabelS -/
def laws_eqLabelS.T : List Ctr := [laws_eqLabel.spec]
def laws_eqLabelS.md : List (Nat × List Md) := []
noncomputable def laws_eqLabelS.F : Fun := ⟨(Go.Proofs.Tryz.f87.body).getD .skip, [.v (.sl false (.pair .str (.pair .str .unit))), .v (.sl false (.pair .str (.pair .str .unit)))], [(.tmp 4, .bool)], [], 0, [(15, ⟨[0, 1, 5], [], [], false⟩)]⟩
inductive laws_eqLabelS.Pt where
  | p0 (a0 : List ((ByteArray) × ((ByteArray) × (Unit)))) (a1 : List ((ByteArray) × ((ByteArray) × (Unit))))
  | p15 (y1 : List ((ByteArray) × ((ByteArray) × (Unit)))) (y2 : List ((ByteArray) × ((ByteArray) × (Unit)))) (y3 : Int)
def laws_eqLabelS.lb : laws_eqLabelS.Pt → Nat
  | .p0 _ _ => 0
  | .p15 _ _ _ => 15
def laws_eqLabelS.st : laws_eqLabelS.Pt → St
  | .p0 a0 a1 => enter [.v (.sl false (.pair .str (.pair .str .unit))) a0, .v (.sl false (.pair .str (.pair .str .unit))) a1] 0
  | .p15 y1 y2 y3 => ⟨[(0, .im (.sl false (.pair .str (.pair .str .unit))) y1), (1, .im (.sl false (.pair .str (.pair .str .unit))) y2), (5, .im (.int .i64) y3)], [], 0⟩
def laws_eqLabelS.step (n : Nat) (K : laws_eqLabelS.Pt → Option (Tup [.bool])) : laws_eqLabelS.Pt → Option (Tup [.bool])
  | .p0 a0 a1 => cond (!(decide (((List.length a0) : Int) = ((List.length a1) : Int)))) (some false) (K (.p15 a0 a1 (0 : Int)))
  | .p15 y1 y2 y3 => cond (decide (y3 < ((List.length y1) : Int))) (cond (inB y3 (List.length y1)) (cond (inB y3 (List.length y2)) ((laws_eqLabel n (List.getD y1 (Int.toNat y3) default) (List.getD y2 (Int.toNat y3) default)).bind fun r6 => cond (!r6) (some false) (K (.p15 y1 y2 (IntKind.wrap .i64 (y3 + (1 : Int)))))) (none)) (none)) (some true)
def laws_eqLabelS (n : Nat) (a0 : List ((ByteArray) × ((ByteArray) × (Unit)))) (a1 : List ((ByteArray) × ((ByteArray) × (Unit)))) : Option (Tup [.bool]) := goRec laws_eqLabelS.step n (.p0 a0 a1)
def laws_eqLabelS.spec : Ctr := ⟨87, [.v (.sl false (.pair .str (.pair .str .unit))), .v (.sl false (.pair .str (.pair .str .unit)))], [.bool], [], none, fun n x => laws_eqLabelS n x.1 x.2.1⟩
theorem laws_eqLabelS.seg_eq : SegEq ty gl laws_eqLabelS.F laws_eqLabelS.md laws_eqLabelS.T laws_eqLabelS.spec laws_eqLabelS.lb laws_eqLabelS.st laws_eqLabelS.step := by
  intro n goto y; cases y <;> kernel_rfl
theorem laws_eqLabelS.text : Text Go.Proofs.Tryz.prog laws_eqLabelS.F laws_eqLabelS.spec := textOf Go.Proofs.Tryz.f87
theorem laws_eqLabelS.ok : CtrOK Go.Proofs.Tryz.prog gl laws_eqLabelS.spec :=
  ctr_okS tabs laws_eqLabelS.text laws_eqLabelS.seg_eq (fun n x => ⟨.p0 x.1 x.2.1, rfl, rfl, rfl⟩) (consC laws_eqLabel.ok (nilC))

/-! loop.example/g00039/laws.eqSample -/
def laws_eqSample.T : List Ctr := []
def laws_eqSample.md : List (Nat × List Md) := []
noncomputable def laws_eqSample.F : Fun := ⟨(Go.Proofs.Tryz.f126.body).getD .skip, [.v (.pair (.int .i64) (.pair (.int .i64) .unit)), .v (.pair (.int .i64) (.pair (.int .i64) .unit))], [(.tmp 4, .bool)], [], 0, []⟩
inductive laws_eqSample.Pt where
  | p0 (a0 : (Int) × ((Int) × (Unit))) (a1 : (Int) × ((Int) × (Unit)))
def laws_eqSample.lb : laws_eqSample.Pt → Nat
  | .p0 _ _ => 0
def laws_eqSample.st : laws_eqSample.Pt → St
  | .p0 a0 a1 => enter [.v (.pair (.int .i64) (.pair (.int .i64) .unit)) a0, .v (.pair (.int .i64) (.pair (.int .i64) .unit)) a1] 0
def laws_eqSample.step (n : Nat) (K : laws_eqSample.Pt → Option (Tup [.bool])) : laws_eqSample.Pt → Option (Tup [.bool])
  | .p0 a0 a1 => cond (!(decide (a0.1 = a1.1))) (some false) (cond (!(decide (a0.2.1 = a1.2.1))) (some false) (some true))
def laws_eqSample (n : Nat) (a0 : (Int) × ((Int) × (Unit))) (a1 : (Int) × ((Int) × (Unit))) : Option (Tup [.bool]) := goRec laws_eqSample.step n (.p0 a0 a1)
def laws_eqSample.spec : Ctr := ⟨126, [.v (.pair (.int .i64) (.pair (.int .i64) .unit)), .v (.pair (.int .i64) (.pair (.int .i64) .unit))], [.bool], [], none, fun n x => laws_eqSample n x.1 x.2.1⟩
theorem laws_eqSample.seg_eq : SegEq ty gl laws_eqSample.F laws_eqSample.md laws_eqSample.T laws_eqSample.spec laws_eqSample.lb laws_eqSample.st laws_eqSample.step := by
  intro n goto y; cases y <;> kernel_rfl
theorem laws_eqSample.text : Text Go.Proofs.Tryz.prog laws_eqSample.F laws_eqSample.spec := textOf Go.Proofs.Tryz.f126
theorem laws_eqSample.ok : CtrOK Go.Proofs.Tryz.prog gl laws_eqSample.spec :=
  ctr_okS tabs laws_eqSample.text laws_eqSample.seg_eq (fun n x => ⟨.p0 x.1 x.2.1, rfl, rfl, rfl⟩) (nilC)

/-! loop.example/g00039/laws.eqSampleS -/
def laws_eqSampleS.T : List Ctr := [laws_eqSample.spec]
def laws_eqSampleS.md : List (Nat × List Md) := []
noncomputable def laws_eqSampleS.F : Fun := ⟨(Go.Proofs.Tryz.f88.body).getD .skip, [.v (.sl false (.pair (.int .i64) (.pair (.int .i64) .unit))), .v (.sl false (.pair (.int .i64) (.pair (.int .i64) .unit)))], [(.tmp 4, .bool)], [], 0, [(15, ⟨[0, 1, 5], [], [], false⟩)]⟩
inductive laws_eqSampleS.Pt where
  | p0 (a0 : List ((Int) × ((Int) × (Unit)))) (a1 : List ((Int) × ((Int) × (Unit))))
  | p15 (y1 : List ((Int) × ((Int) × (Unit)))) (y2 : List ((Int) × ((Int) × (Unit)))) (y3 : Int)
def laws_eqSampleS.lb : laws_eqSampleS.Pt → Nat
  | .p0 _ _ => 0
  | .p15 _ _ _ => 15
def laws_eqSampleS.st : laws_eqSampleS.Pt → St
  | .p0 a0 a1 => enter [.v (.sl false (.pair (.int .i64) (.pair (.int .i64) .unit))) a0, .v (.sl false (.pair (.int .i64) (.pair (.int .i64) .unit))) a1] 0
  | .p15 y1 y2 y3 => ⟨[(0, .im (.sl false (.pair (.int .i64) (.pair (.int .i64) .unit))) y1), (1, .im (.sl false (.pair (.int .i64) (.pair (.int .i64) .unit))) y2), (5, .im (.int .i64) y3)], [], 0⟩
def laws_eqSampleS.step (n : Nat) (K : laws_eqSampleS.Pt → Option (Tup [.bool])) : laws_eqSampleS.Pt → Option (Tup [.bool])
  | .p0 a0 a1 => cond (!(decide (((List.length a0) : Int) = ((List.length a1) : Int)))) (some false) (K (.p15 a0 a1 (0 : Int)))
  | .p15 y1 y2 y3 => cond (decide (y3 < ((List.length y1) : Int))) (cond (inB y3 (List.length y1)) (cond (inB y3 (List.length y2)) ((laws_eqSample n (List.getD y1 (Int.toNat y3) default) (List.getD y2 (Int.toNat y3) default)).bind fun r6 => cond (!r6) (some false) (K (.p15 y1 y2 (IntKind.wrap .i64 (y3 + (1 : Int)))))) (none)) (none)) (some true)
def laws_eqSampleS (n : Nat) (a0 : List ((Int) × ((Int) × (Unit)))) (a1 : List ((Int) × ((Int) × (Unit)))) : Option (Tup [.bool]) := goRec laws_eqSampleS.step n (.p0 a0 a1)
def laws_eqSampleS.spec : Ctr := ⟨88, [.v (.sl false (.pair (.int .i64) (.pair (.int .i64) .unit))), .v (.sl false (.pair (.int .i64) (.pair (.int .i64) .unit)))], [.bool], [], none, fun n x => laws_eqSampleS n x.1 x.2.1⟩
theorem laws_eqSampleS.seg_eq : SegEq ty gl laws_eqSampleS.F laws_eqSampleS.md laws_eqSampleS.T laws_eqSampleS.spec laws_eqSampleS.lb laws_eqSampleS.st laws_eqSampleS.step := by
  intro n goto y; cases y <;> kernel_rfl
theorem laws_eqSampleS.text : Text Go.Proofs.Tryz.prog laws_eqSampleS.F laws_eqSampleS.spec := textOf Go.Proofs.Tryz.f88
theorem laws_eqSampleS.ok : CtrOK Go.Proofs.Tryz.prog gl laws_eqSampleS.spec :=
  ctr_okS tabs laws_eqSampleS.text laws_eqSampleS.seg_eq (fun n x => ⟨.p0 x.1 x.2.1, rfl, rfl, rfl⟩) (consC laws_eqSample.ok (nilC))

/-! loop.example/g00039/laws.eqSeries -/
def laws_eqSeries.T : List Ctr := [laws_eqLabelS.spec, laws_eqSampleS.spec]
def laws_eqSeries.md : List (Nat × List Md) := []
noncomputable def laws_eqSeries.F : Fun := ⟨(Go.Proofs.Tryz.f48.body).getD .skip, [.v (.pair (.sl false (.pair .str (.pair .str .unit))) (.pair (.sl false (.pair (.int .i64) (.pair (.int .i64) .unit))) .unit)), .v (.pair (.sl false (.pair .str (.pair .str .unit))) (.pair (.sl false (.pair (.int .i64) (.pair (.int .i64) .unit))) .unit))], [(.tmp 4, .bool)], [], 0, []⟩
inductive laws_eqSeries.Pt where
  | p0 (a0 : (List ((ByteArray) × ((ByteArray) × (Unit)))) × ((List ((Int) × ((Int) × (Unit)))) × (Unit))) (a1 : (List ((ByteArray) × ((ByteArray) × (Unit)))) × ((List ((Int) × ((Int) × (Unit)))) × (Unit)))
def laws_eqSeries.lb : laws_eqSeries.Pt → Nat
  | .p0 _ _ => 0
def laws_eqSeries.st : laws_eqSeries.Pt → St
  | .p0 a0 a1 => enter [.v (.pair (.sl false (.pair .str (.pair .str .unit))) (.pair (.sl false (.pair (.int .i64) (.pair (.int .i64) .unit))) .unit)) a0, .v (.pair (.sl false (.pair .str (.pair .str .unit))) (.pair (.sl false (.pair (.int .i64) (.pair (.int .i64) .unit))) .unit)) a1] 0
def laws_eqSeries.step (n : Nat) (K : laws_eqSeries.Pt → Option (Tup [.bool])) : laws_eqSeries.Pt → Option (Tup [.bool])
  | .p0 a0 a1 => (laws_eqLabelS n a0.1 a1.1).bind fun r5 => cond (!r5) (some false) ((laws_eqSampleS n a0.2.1 a1.2.1).bind fun r6 => cond (!r6) (some false) (some true))
def laws_eqSeries (n : Nat) (a0 : (List ((ByteArray) × ((ByteArray) × (Unit)))) × ((List ((Int) × ((Int) × (Unit)))) × (Unit))) (a1 : (List ((ByteArray) × ((ByteArray) × (Unit)))) × ((List ((Int) × ((Int) × (Unit)))) × (Unit))) : Option (Tup [.bool]) := goRec laws_eqSeries.step n (.p0 a0 a1)
def laws_eqSeries.spec : Ctr := ⟨48, [.v (.pair (.sl false (.pair .str (.pair .str .unit))) (.pair (.sl false (.pair (.int .i64) (.pair (.int .i64) .unit))) .unit)), .v (.pair (.sl false (.pair .str (.pair .str .unit))) (.pair (.sl false (.pair (.int .i64) (.pair (.int .i64) .unit))) .unit))], [.bool], [], none, fun n x => laws_eqSeries n x.1 x.2.1⟩
theorem laws_eqSeries.seg_eq : SegEq ty gl laws_eqSeries.F laws_eqSeries.md laws_eqSeries.T laws_eqSeries.spec laws_eqSeries.lb laws_eqSeries.st laws_eqSeries.step := by
  intro n goto y; cases y <;> kernel_rfl
theorem laws_eqSeries.text : Text Go.Proofs.Tryz.prog laws_eqSeries.F laws_eqSeries.spec := textOf Go.Proofs.Tryz.f48
theorem laws_eqSeries.ok : CtrOK Go.Proofs.Tryz.prog gl laws_eqSeries.spec :=
  ctr_okS tabs laws_eqSeries.text laws_eqSeries.seg_eq (fun n x => ⟨.p0 x.1 x.2.1, rfl, rfl, rfl⟩) (consC laws_eqLabelS.ok (consC laws_eqSampleS.ok (nilC)))

/-! loop.example/g00039/laws.eqSeriesS -/
def laws_eqSeriesS.T : List Ctr := [laws_eqSeries.spec]
def laws_eqSeriesS.md : List (Nat × List Md) := []
noncomputable def laws_eqSeriesS.F : Fun := ⟨(Go.Proofs.Tryz.f11.body).getD .skip, [.v (.sl false (.pair (.sl false (.pair .str (.pair .str .unit))) (.pair (.sl false (.pair (.int .i64) (.pair (.int .i64) .unit))) .unit))), .v (.sl false (.pair (.sl false (.pair .str (.pair .str .unit))) (.pair (.sl false (.pair (.int .i64) (.pair (.int .i64) .unit))) .unit)))], [(.tmp 4, .bool)], [], 0, [(15, ⟨[0, 1, 5], [], [], false⟩)]⟩
inductive laws_eqSeriesS.Pt where
  | p0 (a0 : List ((List ((ByteArray) × ((ByteArray) × (Unit)))) × ((List ((Int) × ((Int) × (Unit)))) × (Unit)))) (a1 : List ((List ((ByteArray) × ((ByteArray) × (Unit)))) × ((List ((Int) × ((Int) × (Unit)))) × (Unit))))
  | p15 (y1 : List ((List ((ByteArray) × ((ByteArray) × (Unit)))) × ((List ((Int) × ((Int) × (Unit)))) × (Unit)))) (y2 : List ((List ((ByteArray) × ((ByteArray) × (Unit)))) × ((List ((Int) × ((Int) × (Unit)))) × (Unit)))) (y3 : Int)
def laws_eqSeriesS.lb : laws_eqSeriesS.Pt → Nat
  | .p0 _ _ => 0
  | .p15 _ _ _ => 15
def laws_eqSeriesS.st : laws_eqSeriesS.Pt → St
  | .p0 a0 a1 => enter [.v (.sl false (.pair (.sl false (.pair .str (.pair .str .unit))) (.pair (.sl false (.pair (.int .i64) (.pair (.int .i64) .unit))) .unit))) a0, .v (.sl false (.pair (.sl false (.pair .str (.pair .str .unit))) (.pair (.sl false (.pair (.int .i64) (.pair (.int .i64) .unit))) .unit))) a1] 0
  | .p15 y1 y2 y3 => ⟨[(0, .im (.sl false (.pair (.sl false (.pair .str (.pair .str .unit))) (.pair (.sl false (.pair (.int .i64) (.pair (.int .i64) .unit))) .unit))) y1), (1, .im (.sl false (.pair (.sl false (.pair .str (.pair .str .unit))) (.pair (.sl false (.pair (.int .i64) (.pair (.int .i64) .unit))) .unit))) y2), (5, .im (.int .i64) y3)], [], 0⟩
def laws_eqSeriesS.step (n : Nat) (K : laws_eqSeriesS.Pt → Option (Tup [.bool])) : laws_eqSeriesS.Pt → Option (Tup [.bool])
  | .p0 a0 a1 => cond (!(decide (((List.length a0) : Int) = ((List.length a1) : Int)))) (some false) (K (.p15 a0 a1 (0 : Int)))
  | .p15 y1 y2 y3 => cond (decide (y3 < ((List.length y1) : Int))) (cond (inB y3 (List.length y1)) (cond (inB y3 (List.length y2)) ((laws_eqSeries n ((List.getD y1 (Int.toNat y3) default).1, ((List.getD y1 (Int.toNat y3) default).2.1, ())) ((List.getD y2 (Int.toNat y3) default).1, ((List.getD y2 (Int.toNat y3) default).2.1, ()))).bind fun r6 => cond (!r6) (some false) (K (.p15 y1 y2 (IntKind.wrap .i64 (y3 + (1 : Int)))))) (none)) (none)) (some true)
def laws_eqSeriesS (n : Nat) (a0 : List ((List ((ByteArray) × ((ByteArray) × (Unit)))) × ((List ((Int) × ((Int) × (Unit)))) × (Unit)))) (a1 : List ((List ((ByteArray) × ((ByteArray) × (Unit)))) × ((List ((Int) × ((Int) × (Unit)))) × (Unit)))) : Option (Tup [.bool]) := goRec laws_eqSeriesS.step n (.p0 a0 a1)
def laws_eqSeriesS.spec : Ctr := ⟨11, [.v (.sl false (.pair (.sl false (.pair .str (.pair .str .unit))) (.pair (.sl false (.pair (.int .i64) (.pair (.int .i64) .unit))) .unit))), .v (.sl false (.pair (.sl false (.pair .str (.pair .str .unit))) (.pair (.sl false (.pair (.int .i64) (.pair (.int .i64) .unit))) .unit)))], [.bool], [], none, fun n x => laws_eqSeriesS n x.1 x.2.1⟩
theorem laws_eqSeriesS.seg_eq : SegEq ty gl laws_eqSeriesS.F laws_eqSeriesS.md laws_eqSeriesS.T laws_eqSeriesS.spec laws_eqSeriesS.lb laws_eqSeriesS.st laws_eqSeriesS.step := by
  intro n goto y; cases y <;> kernel_rfl
theorem laws_eqSeriesS.text : Text Go.Proofs.Tryz.prog laws_eqSeriesS.F laws_eqSeriesS.spec := textOf Go.Proofs.Tryz.f11
theorem laws_eqSeriesS.ok : CtrOK Go.Proofs.Tryz.prog gl laws_eqSeriesS.spec :=
  ctr_okS tabs laws_eqSeriesS.text laws_eqSeriesS.seg_eq (fun n x => ⟨.p0 x.1 x.2.1, rfl, rfl, rfl⟩) (consC laws_eqSeries.ok (nilC))

/-! loop.example/g00039/laws.eqHead -/
def laws_eqHead.T : List Ctr := [laws_eqSeriesS.spec]
def laws_eqHead.md : List (Nat × List Md) := []
noncomputable def laws_eqHead.F : Fun := ⟨(Go.Proofs.Tryz.f22.body).getD .skip, [.v (.pair (.int .i64) (.pair (.int .i64) (.pair (.int .i64) (.pair (.sl false (.pair (.sl false (.pair .str (.pair .str .unit))) (.pair (.sl false (.pair (.int .i64) (.pair (.int .i64) .unit))) .unit))) .unit)))), .v (.pair (.int .i64) (.pair (.int .i64) (.pair (.int .i64) (.pair (.sl false (.pair (.sl false (.pair .str (.pair .str .unit))) (.pair (.sl false (.pair (.int .i64) (.pair (.int .i64) .unit))) .unit))) .unit))))], [(.tmp 4, .bool)], [], 0, []⟩
inductive laws_eqHead.Pt where
  | p0 (a0 : (Int) × ((Int) × ((Int) × ((List ((List ((ByteArray) × ((ByteArray) × (Unit)))) × ((List ((Int) × ((Int) × (Unit)))) × (Unit)))) × (Unit))))) (a1 : (Int) × ((Int) × ((Int) × ((List ((List ((ByteArray) × ((ByteArray) × (Unit)))) × ((List ((Int) × ((Int) × (Unit)))) × (Unit)))) × (Unit)))))
def laws_eqHead.lb : laws_eqHead.Pt → Nat
  | .p0 _ _ => 0
def laws_eqHead.st : laws_eqHead.Pt → St
  | .p0 a0 a1 => enter [.v (.pair (.int .i64) (.pair (.int .i64) (.pair (.int .i64) (.pair (.sl false (.pair (.sl false (.pair .str (.pair .str .unit))) (.pair (.sl false (.pair (.int .i64) (.pair (.int .i64) .unit))) .unit))) .unit)))) a0, .v (.pair (.int .i64) (.pair (.int .i64) (.pair (.int .i64) (.pair (.sl false (.pair (.sl false (.pair .str (.pair .str .unit))) (.pair (.sl false (.pair (.int .i64) (.pair (.int .i64) .unit))) .unit))) .unit)))) a1] 0
def laws_eqHead.step (n : Nat) (K : laws_eqHead.Pt → Option (Tup [.bool])) : laws_eqHead.Pt → Option (Tup [.bool])
  | .p0 a0 a1 => cond (!(decide (a0.1 = a1.1))) (some false) (cond (!(decide (a0.2.1 = a1.2.1))) (some false) (cond (!(decide (a0.2.2.1 = a1.2.2.1))) (some false) ((laws_eqSeriesS n a0.2.2.2.1 a1.2.2.2.1).bind fun r5 => cond (!r5) (some false) (some true))))
def laws_eqHead (n : Nat) (a0 : (Int) × ((Int) × ((Int) × ((List ((List ((ByteArray) × ((ByteArray) × (Unit)))) × ((List ((Int) × ((Int) × (Unit)))) × (Unit)))) × (Unit))))) (a1 : (Int) × ((Int) × ((Int) × ((List ((List ((ByteArray) × ((ByteArray) × (Unit)))) × ((List ((Int) × ((Int) × (Unit)))) × (Unit)))) × (Unit))))) : Option (Tup [.bool]) := goRec laws_eqHead.step n (.p0 a0 a1)
def laws_eqHead.spec : Ctr := ⟨22, [.v (.pair (.int .i64) (.pair (.int .i64) (.pair (.int .i64) (.pair (.sl false (.pair (.sl false (.pair .str (.pair .str .unit))) (.pair (.sl false (.pair (.int .i64) (.pair (.int .i64) .unit))) .unit))) .unit)))), .v (.pair (.int .i64) (.pair (.int .i64) (.pair (.int .i64) (.pair (.sl false (.pair (.sl false (.pair .str (.pair .str .unit))) (.pair (.sl false (.pair (.int .i64) (.pair (.int .i64) .unit))) .unit))) .unit))))], [.bool], [], none, fun n x => laws_eqHead n x.1 x.2.1⟩
theorem laws_eqHead.seg_eq : SegEq ty gl laws_eqHead.F laws_eqHead.md laws_eqHead.T laws_eqHead.spec laws_eqHead.lb laws_eqHead.st laws_eqHead.step := by
  intro n goto y; cases y <;> kernel_rfl
theorem laws_eqHead.text : Text Go.Proofs.Tryz.prog laws_eqHead.F laws_eqHead.spec := textOf Go.Proofs.Tryz.f22
theorem laws_eqHead.ok : CtrOK Go.Proofs.Tryz.prog gl laws_eqHead.spec :=
  ctr_okS tabs laws_eqHead.text laws_eqHead.seg_eq (fun n x => ⟨.p0 x.1 x.2.1, rfl, rfl, rfl⟩) (consC laws_eqSeriesS.ok (nilC))

/-! loop.example/g00039/laws.eqIntS -/
def laws_eqIntS.T : List Ctr := []
def laws_eqIntS.md : List (Nat × List Md) := []
noncomputable def laws_eqIntS.F : Fun := ⟨(Go.Proofs.Tryz.f23.body).getD .skip, [.v (.sl false (.int .i64)), .v (.sl false (.int .i64))], [(.tmp 4, .bool)], [], 0, [(15, ⟨[0, 1, 5], [], [], false⟩)]⟩
inductive laws_eqIntS.Pt where
  | p0 (a0 : List (Int)) (a1 : List (Int))
  | p15 (y1 : List (Int)) (y2 : List (Int)) (y3 : Int)
def laws_eqIntS.lb : laws_eqIntS.Pt → Nat
  | .p0 _ _ => 0
  | .p15 _ _ _ => 15
def laws_eqIntS.st : laws_eqIntS.Pt → St
  | .p0 a0 a1 => enter [.v (.sl false (.int .i64)) a0, .v (.sl false (.int .i64)) a1] 0
  | .p15 y1 y2 y3 => ⟨[(0, .im (.sl false (.int .i64)) y1), (1, .im (.sl false (.int .i64)) y2), (5, .im (.int .i64) y3)], [], 0⟩
def laws_eqIntS.step (n : Nat) (K : laws_eqIntS.Pt → Option (Tup [.bool])) : laws_eqIntS.Pt → Option (Tup [.bool])
  | .p0 a0 a1 => cond (!(decide (((List.length a0) : Int) = ((List.length a1) : Int)))) (some false) (K (.p15 a0 a1 (0 : Int)))
  | .p15 y1 y2 y3 => cond (decide (y3 < ((List.length y1) : Int))) (cond (inB y3 (List.length y1)) (cond (inB y3 (List.length y2)) (cond (!(decide ((List.getD y1 (Int.toNat y3) default) = (List.getD y2 (Int.toNat y3) default)))) (some false) (K (.p15 y1 y2 (IntKind.wrap .i64 (y3 + (1 : Int)))))) (none)) (none)) (some true)
def laws_eqIntS (n : Nat) (a0 : List (Int)) (a1 : List (Int)) : Option (Tup [.bool]) := goRec laws_eqIntS.step n (.p0 a0 a1)
def laws_eqIntS.spec : Ctr := ⟨23, [.v (.sl false (.int .i64)), .v (.sl false (.int .i64))], [.bool], [], none, fun n x => laws_eqIntS n x.1 x.2.1⟩
theorem laws_eqIntS.seg_eq : SegEq ty gl laws_eqIntS.F laws_eqIntS.md laws_eqIntS.T laws_eqIntS.spec laws_eqIntS.lb laws_eqIntS.st laws_eqIntS.step := by
  intro n goto y; cases y <;> kernel_rfl
theorem laws_eqIntS.text : Text Go.Proofs.Tryz.prog laws_eqIntS.F laws_eqIntS.spec := textOf Go.Proofs.Tryz.f23
theorem laws_eqIntS.ok : CtrOK Go.Proofs.Tryz.prog gl laws_eqIntS.spec :=
  ctr_okS tabs laws_eqIntS.text laws_eqIntS.seg_eq (fun n x => ⟨.p0 x.1 x.2.1, rfl, rfl, rfl⟩) (nilC)

/-! loop.example/g00039/laws.eqPut -/
def laws_eqPut.T : List Ctr := [laws_eqLabelS.spec]
def laws_eqPut.md : List (Nat × List Md) := []
noncomputable def laws_eqPut.F : Fun := ⟨(Go.Proofs.Tryz.f63.body).getD .skip, [.v (.pair (.sl false (.pair .str (.pair .str .unit))) (.pair (.int .i64) (.pair (.int .i64) .unit))), .v (.pair (.sl false (.pair .str (.pair .str .unit))) (.pair (.int .i64) (.pair (.int .i64) .unit)))], [(.tmp 4, .bool)], [], 0, []⟩
inductive laws_eqPut.Pt where
  | p0 (a0 : (List ((ByteArray) × ((ByteArray) × (Unit)))) × ((Int) × ((Int) × (Unit)))) (a1 : (List ((ByteArray) × ((ByteArray) × (Unit)))) × ((Int) × ((Int) × (Unit))))
def laws_eqPut.lb : laws_eqPut.Pt → Nat
  | .p0 _ _ => 0
def laws_eqPut.st : laws_eqPut.Pt → St
  | .p0 a0 a1 => enter [.v (.pair (.sl false (.pair .str (.pair .str .unit))) (.pair (.int .i64) (.pair (.int .i64) .unit))) a0, .v (.pair (.sl false (.pair .str (.pair .str .unit))) (.pair (.int .i64) (.pair (.int .i64) .unit))) a1] 0
def laws_eqPut.step (n : Nat) (K : laws_eqPut.Pt → Option (Tup [.bool])) : laws_eqPut.Pt → Option (Tup [.bool])
  | .p0 a0 a1 => (laws_eqLabelS n a0.1 a1.1).bind fun r5 => cond (!r5) (some false) (cond (!(decide (a0.2.1 = a1.2.1))) (some false) (cond (!(decide (a0.2.2.1 = a1.2.2.1))) (some false) (some true)))
def laws_eqPut (n : Nat) (a0 : (List ((ByteArray) × ((ByteArray) × (Unit)))) × ((Int) × ((Int) × (Unit)))) (a1 : (List ((ByteArray) × ((ByteArray) × (Unit)))) × ((Int) × ((Int) × (Unit)))) : Option (Tup [.bool]) := goRec laws_eqPut.step n (.p0 a0 a1)
def laws_eqPut.spec : Ctr := ⟨63, [.v (.pair (.sl false (.pair .str (.pair .str .unit))) (.pair (.int .i64) (.pair (.int .i64) .unit))), .v (.pair (.sl false (.pair .str (.pair .str .unit))) (.pair (.int .i64) (.pair (.int .i64) .unit)))], [.bool], [], none, fun n x => laws_eqPut n x.1 x.2.1⟩
theorem laws_eqPut.seg_eq : SegEq ty gl laws_eqPut.F laws_eqPut.md laws_eqPut.T laws_eqPut.spec laws_eqPut.lb laws_eqPut.st laws_eqPut.step := by
  intro n goto y; cases y <;> kernel_rfl
theorem laws_eqPut.text : Text Go.Proofs.Tryz.prog laws_eqPut.F laws_eqPut.spec := textOf Go.Proofs.Tryz.f63
theorem laws_eqPut.ok : CtrOK Go.Proofs.Tryz.prog gl laws_eqPut.spec :=
  ctr_okS tabs laws_eqPut.text laws_eqPut.seg_eq (fun n x => ⟨.p0 x.1 x.2.1, rfl, rfl, rfl⟩) (consC laws_eqLabelS.ok (nilC))

/-! loop.example/g00039/laws.eqPutS -/
def laws_eqPutS.T : List Ctr := [laws_eqPut.spec]
def laws_eqPutS.md : List (Nat × List Md) := []
noncomputable def laws_eqPutS.F : Fun := ⟨(Go.Proofs.Tryz.f24.body).getD .skip, [.v (.sl false (.pair (.sl false (.pair .str (.pair .str .unit))) (.pair (.int .i64) (.pair (.int .i64) .unit)))), .v (.sl false (.pair (.sl false (.pair .str (.pair .str .unit))) (.pair (.int .i64) (.pair (.int .i64) .unit))))], [(.tmp 4, .bool)], [], 0, [(15, ⟨[0, 1, 5], [], [], false⟩)]⟩
inductive laws_eqPutS.Pt where
  | p0 (a0 : List ((List ((ByteArray) × ((ByteArray) × (Unit)))) × ((Int) × ((Int) × (Unit))))) (a1 : List ((List ((ByteArray) × ((ByteArray) × (Unit)))) × ((Int) × ((Int) × (Unit)))))
  | p15 (y1 : List ((List ((ByteArray) × ((ByteArray) × (Unit)))) × ((Int) × ((Int) × (Unit))))) (y2 : List ((List ((ByteArray) × ((ByteArray) × (Unit)))) × ((Int) × ((Int) × (Unit))))) (y3 : Int)
def laws_eqPutS.lb : laws_eqPutS.Pt → Nat
  | .p0 _ _ => 0
  | .p15 _ _ _ => 15
def laws_eqPutS.st : laws_eqPutS.Pt → St
  | .p0 a0 a1 => enter [.v (.sl false (.pair (.sl false (.pair .str (.pair .str .unit))) (.pair (.int .i64) (.pair (.int .i64) .unit)))) a0, .v (.sl false (.pair (.sl false (.pair .str (.pair .str .unit))) (.pair (.int .i64) (.pair (.int .i64) .unit)))) a1] 0
  | .p15 y1 y2 y3 => ⟨[(0, .im (.sl false (.pair (.sl false (.pair .str (.pair .str .unit))) (.pair (.int .i64) (.pair (.int .i64) .unit)))) y1), (1, .im (.sl false (.pair (.sl false (.pair .str (.pair .str .unit))) (.pair (.int .i64) (.pair (.int .i64) .unit)))) y2), (5, .im (.int .i64) y3)], [], 0⟩
def laws_eqPutS.step (n : Nat) (K : laws_eqPutS.Pt → Option (Tup [.bool])) : laws_eqPutS.Pt → Option (Tup [.bool])
  | .p0 a0 a1 => cond (!(decide (((List.length a0) : Int) = ((List.length a1) : Int)))) (some false) (K (.p15 a0 a1 (0 : Int)))
  | .p15 y1 y2 y3 => cond (decide (y3 < ((List.length y1) : Int))) (cond (inB y3 (List.length y1)) (cond (inB y3 (List.length y2)) ((laws_eqPut n ((List.getD y1 (Int.toNat y3) default).1, (List.getD y1 (Int.toNat y3) default).2) ((List.getD y2 (Int.toNat y3) default).1, (List.getD y2 (Int.toNat y3) default).2)).bind fun r6 => cond (!r6) (some false) (K (.p15 y1 y2 (IntKind.wrap .i64 (y3 + (1 : Int)))))) (none)) (none)) (some true)
def laws_eqPutS (n : Nat) (a0 : List ((List ((ByteArray) × ((ByteArray) × (Unit)))) × ((Int) × ((Int) × (Unit))))) (a1 : List ((List ((ByteArray) × ((ByteArray) × (Unit)))) × ((Int) × ((Int) × (Unit))))) : Option (Tup [.bool]) := goRec laws_eqPutS.step n (.p0 a0 a1)
def laws_eqPutS.spec : Ctr := ⟨24, [.v (.sl false (.pair (.sl false (.pair .str (.pair .str .unit))) (.pair (.int .i64) (.pair (.int .i64) .unit)))), .v (.sl false (.pair (.sl false (.pair .str (.pair .str .unit))) (.pair (.int .i64) (.pair (.int .i64) .unit))))], [.bool], [], none, fun n x => laws_eqPutS n x.1 x.2.1⟩
theorem laws_eqPutS.seg_eq : SegEq ty gl laws_eqPutS.F laws_eqPutS.md laws_eqPutS.T laws_eqPutS.spec laws_eqPutS.lb laws_eqPutS.st laws_eqPutS.step := by
  intro n goto y; cases y <;> kernel_rfl
theorem laws_eqPutS.text : Text Go.Proofs.Tryz.prog laws_eqPutS.F laws_eqPutS.spec := textOf Go.Proofs.Tryz.f24
theorem laws_eqPutS.ok : CtrOK Go.Proofs.Tryz.prog gl laws_eqPutS.spec :=
  ctr_okS tabs laws_eqPutS.text laws_eqPutS.seg_eq (fun n x => ⟨.p0 x.1 x.2.1, rfl, rfl, rfl⟩) (consC laws_eqPut.ok (nilC))

/-! loop.example/g00039/laws.markText -/
def laws_markText.T : List Ctr := []
def laws_markText.md : List (Nat × List Md) := []
noncomputable def laws_markText.F : Fun := ⟨(Go.Proofs.Tryz.f90.body).getD .skip, [.v (.int .i64)], [(.tmp 2, .str)], [], 0, [(15, ⟨[0, 3], [], [], false⟩)]⟩
inductive laws_markText.Pt where
  | p0 (a0 : Int)
  | p15 (y1 : Int) (y2 : ByteArray)
def laws_markText.lb : laws_markText.Pt → Nat
  | .p0 _ => 0
  | .p15 _ _ => 15
def laws_markText.st : laws_markText.Pt → St
  | .p0 a0 => enter [.v (.int .i64) a0] 0
  | .p15 y1 y2 => ⟨[(0, .im (.int .i64) y1), (3, .im .str y2)], [], 0⟩
def laws_markText.step (n : Nat) (K : laws_markText.Pt → Option (Tup [.str])) : laws_markText.Pt → Option (Tup [.str])
  | .p0 a0 => cond (decide (a0 ≤ (0 : Int))) (some (⟨#[109, 48]⟩ : ByteArray)) (K (.p15 a0 (⟨#[]⟩ : ByteArray)))
  | .p15 y1 y2 => cond (decide ((0 : Int) < y1)) (cond (room ((ByteArray.size (ofOcts [(IntKind.wrap .u8 (IntKind.wrap .i64 ((48 : Int) + (Int.tmod y1 (10 : Int)))))])) + (ByteArray.size y2))) (K (.p15 (IntKind.wrap .i64 (Int.tdiv y1 (10 : Int))) ((ofOcts [(IntKind.wrap .u8 (IntKind.wrap .i64 ((48 : Int) + (Int.tmod y1 (10 : Int)))))]) ++ y2))) (none)) (cond (room ((ByteArray.size (⟨#[109]⟩ : ByteArray)) + (ByteArray.size y2))) (some ((⟨#[109]⟩ : ByteArray) ++ y2)) (none))
def laws_markText (n : Nat) (a0 : Int) : Option (Tup [.str]) := goRec laws_markText.step n (.p0 a0)
def laws_markText.spec : Ctr := ⟨90, [.v (.int .i64)], [.str], [], none, fun n x => laws_markText n x.1⟩
theorem laws_markText.seg_eq : SegEq ty gl laws_markText.F laws_markText.md laws_markText.T laws_markText.spec laws_markText.lb laws_markText.st laws_markText.step := by
  intro n goto y; cases y <;> kernel_rfl
theorem laws_markText.text : Text Go.Proofs.Tryz.prog laws_markText.F laws_markText.spec := textOf Go.Proofs.Tryz.f90
theorem laws_markText.ok : CtrOK Go.Proofs.Tryz.prog gl laws_markText.spec :=
  ctr_okS tabs laws_markText.text laws_markText.seg_eq (fun n x => ⟨.p0 x.1, rfl, rfl, rfl⟩) (nilC)

/-! loop.example/g00039/laws.markLabelS -/
def laws_markLabelS.T : List Ctr := [laws_markText.spec]
def laws_markLabelS.md : List (Nat × List Md) := []
noncomputable def laws_markLabelS.F : Fun := ⟨(Go.Proofs.Tryz.f50.body).getD .skip, [.s false (.pair .str (.pair .str .unit)), .v (.int .i64)], [(.tmp 4, (.int .i64))], [none], 1, [(7, ⟨[0, 1, 5], [], [], false⟩)]⟩
inductive laws_markLabelS.Pt where
  | p0 (a0 : List ((ByteArray) × ((ByteArray) × (Unit)))) (a1 : Int)
  | p7 (y1 : Int) (y2 : Int) (y3 : List ((ByteArray) × ((ByteArray) × (Unit))))
def laws_markLabelS.lb : laws_markLabelS.Pt → Nat
  | .p0 _ _ => 0
  | .p7 _ _ _ => 7
def laws_markLabelS.st : laws_markLabelS.Pt → St
  | .p0 a0 a1 => enter [.s false (.pair .str (.pair .str .unit)) a0, .v (.int .i64) a1] 1
  | .p7 y1 y2 y3 => ⟨[(0, .hs 0 [] none 0), (1, .im (.int .i64) y1), (5, .im (.int .i64) y2)], [(0, .arr false (.pair .str (.pair .str .unit)) y3 0)], 1⟩
def laws_markLabelS.step (n : Nat) (K : laws_markLabelS.Pt → Option (Tup [(.int .i64), (.sl false (.pair .str (.pair .str .unit)))])) : laws_markLabelS.Pt → Option (Tup [(.int .i64), (.sl false (.pair .str (.pair .str .unit)))])
  | .p0 a0 a1 => K (.p7 a1 (0 : Int) a0)
  | .p7 y1 y2 y3 => cond (decide (y2 < ((List.length y3) : Int))) ((laws_markText n y1).bind fun r6 => cond (inB y2 (List.length y3)) ((laws_markText n (IntKind.wrap .i64 (y1 + (1 : Int)))).bind fun r7 => cond (inB y2 (List.length (List.set y3 (0 + (Int.toNat y2)) (r6, (List.getD y3 (0 + (Int.toNat y2)) default).2)))) (K (.p7 (IntKind.wrap .i64 ((IntKind.wrap .i64 (y1 + (1 : Int))) + (1 : Int))) (IntKind.wrap .i64 (y2 + (1 : Int))) (List.set (List.set y3 (0 + (Int.toNat y2)) (r6, (List.getD y3 (0 + (Int.toNat y2)) default).2)) (0 + (Int.toNat y2)) ((List.getD (List.set y3 (0 + (Int.toNat y2)) (r6, (List.getD y3 (0 + (Int.toNat y2)) default).2)) (0 + (Int.toNat y2)) default).1, (r7, (List.getD (List.set y3 (0 + (Int.toNat y2)) (r6, (List.getD y3 (0 + (Int.toNat y2)) default).2)) (0 + (Int.toNat y2)) default).2.2))))) (none)) (none)) (some (y1, y3))
def laws_markLabelS (n : Nat) (a0 : List ((ByteArray) × ((ByteArray) × (Unit)))) (a1 : Int) : Option (Tup [(.int .i64), (.sl false (.pair .str (.pair .str .unit)))]) := goRec laws_markLabelS.step n (.p0 a0 a1)
def laws_markLabelS.spec : Ctr := ⟨50, [.s false (.pair .str (.pair .str .unit)), .v (.int .i64)], [(.int .i64)], [(.sl false (.pair .str (.pair .str .unit)))], none, fun n x => laws_markLabelS n x.1 x.2.1⟩
theorem laws_markLabelS.seg_eq : SegEq ty gl laws_markLabelS.F laws_markLabelS.md laws_markLabelS.T laws_markLabelS.spec laws_markLabelS.lb laws_markLabelS.st laws_markLabelS.step := by
  intro n goto y; cases y <;> kernel_rfl
theorem laws_markLabelS.text : Text Go.Proofs.Tryz.prog laws_markLabelS.F laws_markLabelS.spec := textOf Go.Proofs.Tryz.f50
theorem laws_markLabelS.ok : CtrOK Go.Proofs.Tryz.prog gl laws_markLabelS.spec :=
  ctr_okS tabs laws_markLabelS.text laws_markLabelS.seg_eq (fun n x => ⟨.p0 x.1 x.2.1, rfl, rfl, rfl⟩) (consC laws_markText.ok (nilC))

/-! loop.example/g00039/laws.markSampleS -/
def laws_markSampleS.T : List Ctr := []
def laws_markSampleS.md : List (Nat × List Md) := []
noncomputable def laws_markSampleS.F : Fun := ⟨(Go.Proofs.Tryz.f51.body).getD .skip, [.s false (.pair (.int .i64) (.pair (.int .i64) .unit)), .v (.int .i64)], [(.tmp 4, (.int .i64))], [none], 1, [(7, ⟨[0, 1, 5], [], [], false⟩)]⟩
inductive laws_markSampleS.Pt where
  | p0 (a0 : List ((Int) × ((Int) × (Unit)))) (a1 : Int)
  | p7 (y1 : Int) (y2 : Int) (y3 : List ((Int) × ((Int) × (Unit))))
def laws_markSampleS.lb : laws_markSampleS.Pt → Nat
  | .p0 _ _ => 0
  | .p7 _ _ _ => 7
def laws_markSampleS.st : laws_markSampleS.Pt → St
  | .p0 a0 a1 => enter [.s false (.pair (.int .i64) (.pair (.int .i64) .unit)) a0, .v (.int .i64) a1] 1
  | .p7 y1 y2 y3 => ⟨[(0, .hs 0 [] none 0), (1, .im (.int .i64) y1), (5, .im (.int .i64) y2)], [(0, .arr false (.pair (.int .i64) (.pair (.int .i64) .unit)) y3 0)], 1⟩
def laws_markSampleS.step (n : Nat) (K : laws_markSampleS.Pt → Option (Tup [(.int .i64), (.sl false (.pair (.int .i64) (.pair (.int .i64) .unit)))])) : laws_markSampleS.Pt → Option (Tup [(.int .i64), (.sl false (.pair (.int .i64) (.pair (.int .i64) .unit)))])
  | .p0 a0 a1 => K (.p7 a1 (0 : Int) a0)
  | .p7 y1 y2 y3 => cond (decide (y2 < ((List.length y3) : Int))) (cond (inB y2 (List.length y3)) (cond (inB y2 (List.length (List.set y3 (0 + (Int.toNat y2)) (y1, (List.getD y3 (0 + (Int.toNat y2)) default).2)))) (let mm0 := (List.set (List.set y3 (0 + (Int.toNat y2)) (y1, (List.getD y3 (0 + (Int.toNat y2)) default).2)) (0 + (Int.toNat y2)) ((List.getD (List.set y3 (0 + (Int.toNat y2)) (y1, (List.getD y3 (0 + (Int.toNat y2)) default).2)) (0 + (Int.toNat y2)) default).1, ((IntKind.wrap .i64 (y1 + (1 : Int))), (List.getD (List.set y3 (0 + (Int.toNat y2)) (y1, (List.getD y3 (0 + (Int.toNat y2)) default).2)) (0 + (Int.toNat y2)) default).2.2))); K (.p7 (IntKind.wrap .i64 ((IntKind.wrap .i64 (y1 + (1 : Int))) + (1 : Int))) (IntKind.wrap .i64 (y2 + (1 : Int))) mm0)) (none)) (none)) (some (y1, y3))
def laws_markSampleS (n : Nat) (a0 : List ((Int) × ((Int) × (Unit)))) (a1 : Int) : Option (Tup [(.int .i64), (.sl false (.pair (.int .i64) (.pair (.int .i64) .unit)))]) := goRec laws_markSampleS.step n (.p0 a0 a1)
def laws_markSampleS.spec : Ctr := ⟨51, [.s false (.pair (.int .i64) (.pair (.int .i64) .unit)), .v (.int .i64)], [(.int .i64)], [(.sl false (.pair (.int .i64) (.pair (.int .i64) .unit)))], none, fun n x => laws_markSampleS n x.1 x.2.1⟩
theorem laws_markSampleS.seg_eq : SegEq ty gl laws_markSampleS.F laws_markSampleS.md laws_markSampleS.T laws_markSampleS.spec laws_markSampleS.lb laws_markSampleS.st laws_markSampleS.step := by
  intro n goto y; cases y <;> kernel_rfl
theorem laws_markSampleS.text : Text Go.Proofs.Tryz.prog laws_markSampleS.F laws_markSampleS.spec := textOf Go.Proofs.Tryz.f51
theorem laws_markSampleS.ok : CtrOK Go.Proofs.Tryz.prog gl laws_markSampleS.spec :=
  ctr_okS tabs laws_markSampleS.text laws_markSampleS.seg_eq (fun n x => ⟨.p0 x.1 x.2.1, rfl, rfl, rfl⟩) (nilC)

/-! loop.example/g00039/laws.markSeriesS -/
def laws_markSeriesS.T : List Ctr := [laws_markLabelS.spec, laws_markSampleS.spec]
def laws_markSeriesS.md : List (Nat × List Md) := [(50, [.s, .v]), (51, [.s, .v])]
noncomputable def laws_markSeriesS.F : Fun := ⟨(Go.Proofs.Tryz.f13.body).getD .skip, [.s false (.pair (.sl false (.pair .str (.pair .str .unit))) (.pair (.sl false (.pair (.int .i64) (.pair (.int .i64) .unit))) .unit)), .v (.int .i64)], [(.tmp 4, (.int .i64))], [none], 1, [(7, ⟨[0, 1, 5], [], [], false⟩)]⟩
inductive laws_markSeriesS.Pt where
  | p0 (a0 : List ((List ((ByteArray) × ((ByteArray) × (Unit)))) × ((List ((Int) × ((Int) × (Unit)))) × (Unit)))) (a1 : Int)
  | p7 (y1 : Int) (y2 : Int) (y3 : List ((List ((ByteArray) × ((ByteArray) × (Unit)))) × ((List ((Int) × ((Int) × (Unit)))) × (Unit))))
def laws_markSeriesS.lb : laws_markSeriesS.Pt → Nat
  | .p0 _ _ => 0
  | .p7 _ _ _ => 7
def laws_markSeriesS.st : laws_markSeriesS.Pt → St
  | .p0 a0 a1 => enter [.s false (.pair (.sl false (.pair .str (.pair .str .unit))) (.pair (.sl false (.pair (.int .i64) (.pair (.int .i64) .unit))) .unit)) a0, .v (.int .i64) a1] 1
  | .p7 y1 y2 y3 => ⟨[(0, .hs 0 [] none 0), (1, .im (.int .i64) y1), (5, .im (.int .i64) y2)], [(0, .arr false (.pair (.sl false (.pair .str (.pair .str .unit))) (.pair (.sl false (.pair (.int .i64) (.pair (.int .i64) .unit))) .unit)) y3 0)], 1⟩
def laws_markSeriesS.step (n : Nat) (K : laws_markSeriesS.Pt → Option (Tup [(.int .i64), (.sl false (.pair (.sl false (.pair .str (.pair .str .unit))) (.pair (.sl false (.pair (.int .i64) (.pair (.int .i64) .unit))) .unit)))])) : laws_markSeriesS.Pt → Option (Tup [(.int .i64), (.sl false (.pair (.sl false (.pair .str (.pair .str .unit))) (.pair (.sl false (.pair (.int .i64) (.pair (.int .i64) .unit))) .unit)))])
  | .p0 a0 a1 => K (.p7 a1 (0 : Int) a0)
  | .p7 y1 y2 y3 => cond (decide (y2 < ((List.length y3) : Int))) (cond (inB y2 (List.length y3)) ((laws_markLabelS n (List.getD y3 (0 + (Int.toNat y2)) default).1 y1).bind fun r6 => cond (inB y2 (List.length (List.set y3 (0 + (Int.toNat y2)) (r6.2, (List.getD y3 (0 + (Int.toNat y2)) default).2)))) ((laws_markSampleS n (List.getD (List.set y3 (0 + (Int.toNat y2)) (r6.2, (List.getD y3 (0 + (Int.toNat y2)) default).2)) (0 + (Int.toNat y2)) default).2.1 r6.1).bind fun r7 => K (.p7 r7.1 (IntKind.wrap .i64 (y2 + (1 : Int))) (List.set (List.set y3 (0 + (Int.toNat y2)) (r6.2, (List.getD y3 (0 + (Int.toNat y2)) default).2)) (0 + (Int.toNat y2)) ((List.getD (List.set y3 (0 + (Int.toNat y2)) (r6.2, (List.getD y3 (0 + (Int.toNat y2)) default).2)) (0 + (Int.toNat y2)) default).1, (r7.2, (List.getD (List.set y3 (0 + (Int.toNat y2)) (r6.2, (List.getD y3 (0 + (Int.toNat y2)) default).2)) (0 + (Int.toNat y2)) default).2.2))))) (none)) (none)) (some (y1, y3))
def laws_markSeriesS (n : Nat) (a0 : List ((List ((ByteArray) × ((ByteArray) × (Unit)))) × ((List ((Int) × ((Int) × (Unit)))) × (Unit)))) (a1 : Int) : Option (Tup [(.int .i64), (.sl false (.pair (.sl false (.pair .str (.pair .str .unit))) (.pair (.sl false (.pair (.int .i64) (.pair (.int .i64) .unit))) .unit)))]) := goRec laws_markSeriesS.step n (.p0 a0 a1)
def laws_markSeriesS.spec : Ctr := ⟨13, [.s false (.pair (.sl false (.pair .str (.pair .str .unit))) (.pair (.sl false (.pair (.int .i64) (.pair (.int .i64) .unit))) .unit)), .v (.int .i64)], [(.int .i64)], [(.sl false (.pair (.sl false (.pair .str (.pair .str .unit))) (.pair (.sl false (.pair (.int .i64) (.pair (.int .i64) .unit))) .unit)))], none, fun n x => laws_markSeriesS n x.1 x.2.1⟩
theorem laws_markSeriesS.seg_eq : SegEq ty gl laws_markSeriesS.F laws_markSeriesS.md laws_markSeriesS.T laws_markSeriesS.spec laws_markSeriesS.lb laws_markSeriesS.st laws_markSeriesS.step := by
  intro n goto y; cases y <;> kernel_rfl
theorem laws_markSeriesS.text : Text Go.Proofs.Tryz.prog laws_markSeriesS.F laws_markSeriesS.spec := textOf Go.Proofs.Tryz.f13
theorem laws_markSeriesS.ok : CtrOK Go.Proofs.Tryz.prog gl laws_markSeriesS.spec :=
  ctr_okS tabs laws_markSeriesS.text laws_markSeriesS.seg_eq (fun n x => ⟨.p0 x.1 x.2.1, rfl, rfl, rfl⟩) (consC laws_markLabelS.ok (consC laws_markSampleS.ok (nilC)))

/-! loop.example/g00039/laws.markHead -/
def laws_markHead.T : List Ctr := [laws_markSeriesS.spec]
def laws_markHead.md : List (Nat × List Md) := [(13, [.s, .v])]
noncomputable def laws_markHead.F : Fun := ⟨(Go.Proofs.Tryz.f25.body).getD .skip, [.ag [.v (.int .i64), .v (.int .i64), .v (.int .i64), .s false (.pair (.sl false (.pair .str (.pair .str .unit))) (.pair (.sl false (.pair (.int .i64) (.pair (.int .i64) .unit))) .unit))], .v (.int .i64)], [(.tmp 4, (.int .i64))], [none], 1, []⟩
inductive laws_markHead.Pt where
  | p0 (a0 : Int) (a1 : Int) (a2 : Int) (a3 : List ((List ((ByteArray) × ((ByteArray) × (Unit)))) × ((List ((Int) × ((Int) × (Unit)))) × (Unit)))) (a4 : Int)
def laws_markHead.lb : laws_markHead.Pt → Nat
  | .p0 _ _ _ _ _ => 0
def laws_markHead.st : laws_markHead.Pt → St
  | .p0 a0 a1 a2 a3 a4 => enter [.ag [.v (.int .i64) a0, .v (.int .i64) a1, .v (.int .i64) a2, .s false (.pair (.sl false (.pair .str (.pair .str .unit))) (.pair (.sl false (.pair (.int .i64) (.pair (.int .i64) .unit))) .unit)) a3], .v (.int .i64) a4] 1
def laws_markHead.step (n : Nat) (K : laws_markHead.Pt → Option (Tup [(.int .i64), (.sl false (.pair (.sl false (.pair .str (.pair .str .unit))) (.pair (.sl false (.pair (.int .i64) (.pair (.int .i64) .unit))) .unit)))])) : laws_markHead.Pt → Option (Tup [(.int .i64), (.sl false (.pair (.sl false (.pair .str (.pair .str .unit))) (.pair (.sl false (.pair (.int .i64) (.pair (.int .i64) .unit))) .unit)))])
  | .p0 a0 a1 a2 a3 a4 => (laws_markSeriesS n a3 a4).bind fun r8 => some (r8.1, r8.2)
def laws_markHead (n : Nat) (a0 : Int) (a1 : Int) (a2 : Int) (a3 : List ((List ((ByteArray) × ((ByteArray) × (Unit)))) × ((List ((Int) × ((Int) × (Unit)))) × (Unit)))) (a4 : Int) : Option (Tup [(.int .i64), (.sl false (.pair (.sl false (.pair .str (.pair .str .unit))) (.pair (.sl false (.pair (.int .i64) (.pair (.int .i64) .unit))) .unit)))]) := goRec laws_markHead.step n (.p0 a0 a1 a2 a3 a4)
def laws_markHead.spec : Ctr := ⟨25, [.ag [.v (.int .i64), .v (.int .i64), .v (.int .i64), .s false (.pair (.sl false (.pair .str (.pair .str .unit))) (.pair (.sl false (.pair (.int .i64) (.pair (.int .i64) .unit))) .unit))], .v (.int .i64)], [(.int .i64)], [(.sl false (.pair (.sl false (.pair .str (.pair .str .unit))) (.pair (.sl false (.pair (.int .i64) (.pair (.int .i64) .unit))) .unit)))], none, fun n x => laws_markHead n x.1.1 x.1.2.1 x.1.2.2.1 x.1.2.2.2.1 x.2.1⟩
theorem laws_markHead.seg_eq : SegEq ty gl laws_markHead.F laws_markHead.md laws_markHead.T laws_markHead.spec laws_markHead.lb laws_markHead.st laws_markHead.step := by
  intro n goto y; cases y <;> kernel_rfl
theorem laws_markHead.text : Text Go.Proofs.Tryz.prog laws_markHead.F laws_markHead.spec := textOf Go.Proofs.Tryz.f25
theorem laws_markHead.ok : CtrOK Go.Proofs.Tryz.prog gl laws_markHead.spec :=
  ctr_okS tabs laws_markHead.text laws_markHead.seg_eq (fun n x => ⟨.p0 x.1.1 x.1.2.1 x.1.2.2.1 x.1.2.2.2.1 x.2.1, rfl, rfl, rfl⟩) (consC laws_markSeriesS.ok (nilC))

/-! loop.example/g00039/laws.markPutS -/
def laws_markPutS.T : List Ctr := [laws_markLabelS.spec]
def laws_markPutS.md : List (Nat × List Md) := [(50, [.s, .v])]
noncomputable def laws_markPutS.F : Fun := ⟨(Go.Proofs.Tryz.f26.body).getD .skip, [.s false (.pair (.sl false (.pair .str (.pair .str .unit))) (.pair (.int .i64) (.pair (.int .i64) .unit))), .v (.int .i64)], [(.tmp 4, (.int .i64))], [none], 1, [(7, ⟨[0, 1, 5], [], [], false⟩)]⟩
inductive laws_markPutS.Pt where
  | p0 (a0 : List ((List ((ByteArray) × ((ByteArray) × (Unit)))) × ((Int) × ((Int) × (Unit))))) (a1 : Int)
  | p7 (y1 : Int) (y2 : Int) (y3 : List ((List ((ByteArray) × ((ByteArray) × (Unit)))) × ((Int) × ((Int) × (Unit)))))
def laws_markPutS.lb : laws_markPutS.Pt → Nat
  | .p0 _ _ => 0
  | .p7 _ _ _ => 7
def laws_markPutS.st : laws_markPutS.Pt → St
  | .p0 a0 a1 => enter [.s false (.pair (.sl false (.pair .str (.pair .str .unit))) (.pair (.int .i64) (.pair (.int .i64) .unit))) a0, .v (.int .i64) a1] 1
  | .p7 y1 y2 y3 => ⟨[(0, .hs 0 [] none 0), (1, .im (.int .i64) y1), (5, .im (.int .i64) y2)], [(0, .arr false (.pair (.sl false (.pair .str (.pair .str .unit))) (.pair (.int .i64) (.pair (.int .i64) .unit))) y3 0)], 1⟩
def laws_markPutS.step (n : Nat) (K : laws_markPutS.Pt → Option (Tup [(.int .i64), (.sl false (.pair (.sl false (.pair .str (.pair .str .unit))) (.pair (.int .i64) (.pair (.int .i64) .unit))))])) : laws_markPutS.Pt → Option (Tup [(.int .i64), (.sl false (.pair (.sl false (.pair .str (.pair .str .unit))) (.pair (.int .i64) (.pair (.int .i64) .unit))))])
  | .p0 a0 a1 => K (.p7 a1 (0 : Int) a0)
  | .p7 y1 y2 y3 => cond (decide (y2 < ((List.length y3) : Int))) (cond (inB y2 (List.length y3)) ((laws_markLabelS n (List.getD y3 (0 + (Int.toNat y2)) default).1 y1).bind fun r6 => cond (inB y2 (List.length (List.set y3 (0 + (Int.toNat y2)) (r6.2, (List.getD y3 (0 + (Int.toNat y2)) default).2)))) (cond (inB y2 (List.length (List.set (List.set y3 (0 + (Int.toNat y2)) (r6.2, (List.getD y3 (0 + (Int.toNat y2)) default).2)) (0 + (Int.toNat y2)) ((List.getD (List.set y3 (0 + (Int.toNat y2)) (r6.2, (List.getD y3 (0 + (Int.toNat y2)) default).2)) (0 + (Int.toNat y2)) default).1, (r6.1, (List.getD (List.set y3 (0 + (Int.toNat y2)) (r6.2, (List.getD y3 (0 + (Int.toNat y2)) default).2)) (0 + (Int.toNat y2)) default).2.2))))) (let mm0 := (List.set (List.set (List.set y3 (0 + (Int.toNat y2)) (r6.2, (List.getD y3 (0 + (Int.toNat y2)) default).2)) (0 + (Int.toNat y2)) ((List.getD (List.set y3 (0 + (Int.toNat y2)) (r6.2, (List.getD y3 (0 + (Int.toNat y2)) default).2)) (0 + (Int.toNat y2)) default).1, (r6.1, (List.getD (List.set y3 (0 + (Int.toNat y2)) (r6.2, (List.getD y3 (0 + (Int.toNat y2)) default).2)) (0 + (Int.toNat y2)) default).2.2))) (0 + (Int.toNat y2)) ((List.getD (List.set (List.set y3 (0 + (Int.toNat y2)) (r6.2, (List.getD y3 (0 + (Int.toNat y2)) default).2)) (0 + (Int.toNat y2)) ((List.getD (List.set y3 (0 + (Int.toNat y2)) (r6.2, (List.getD y3 (0 + (Int.toNat y2)) default).2)) (0 + (Int.toNat y2)) default).1, (r6.1, (List.getD (List.set y3 (0 + (Int.toNat y2)) (r6.2, (List.getD y3 (0 + (Int.toNat y2)) default).2)) (0 + (Int.toNat y2)) default).2.2))) (0 + (Int.toNat y2)) default).1, ((List.getD (List.set (List.set y3 (0 + (Int.toNat y2)) (r6.2, (List.getD y3 (0 + (Int.toNat y2)) default).2)) (0 + (Int.toNat y2)) ((List.getD (List.set y3 (0 + (Int.toNat y2)) (r6.2, (List.getD y3 (0 + (Int.toNat y2)) default).2)) (0 + (Int.toNat y2)) default).1, (r6.1, (List.getD (List.set y3 (0 + (Int.toNat y2)) (r6.2, (List.getD y3 (0 + (Int.toNat y2)) default).2)) (0 + (Int.toNat y2)) default).2.2))) (0 + (Int.toNat y2)) default).2.1, ((IntKind.wrap .i64 (r6.1 + (1 : Int))), (List.getD (List.set (List.set y3 (0 + (Int.toNat y2)) (r6.2, (List.getD y3 (0 + (Int.toNat y2)) default).2)) (0 + (Int.toNat y2)) ((List.getD (List.set y3 (0 + (Int.toNat y2)) (r6.2, (List.getD y3 (0 + (Int.toNat y2)) default).2)) (0 + (Int.toNat y2)) default).1, (r6.1, (List.getD (List.set y3 (0 + (Int.toNat y2)) (r6.2, (List.getD y3 (0 + (Int.toNat y2)) default).2)) (0 + (Int.toNat y2)) default).2.2))) (0 + (Int.toNat y2)) default).2.2.2)))); K (.p7 (IntKind.wrap .i64 ((IntKind.wrap .i64 (r6.1 + (1 : Int))) + (1 : Int))) (IntKind.wrap .i64 (y2 + (1 : Int))) mm0)) (none)) (none)) (none)) (some (y1, y3))
def laws_markPutS (n : Nat) (a0 : List ((List ((ByteArray) × ((ByteArray) × (Unit)))) × ((Int) × ((Int) × (Unit))))) (a1 : Int) : Option (Tup [(.int .i64), (.sl false (.pair (.sl false (.pair .str (.pair .str .unit))) (.pair (.int .i64) (.pair (.int .i64) .unit))))]) := goRec laws_markPutS.step n (.p0 a0 a1)
def laws_markPutS.spec : Ctr := ⟨26, [.s false (.pair (.sl false (.pair .str (.pair .str .unit))) (.pair (.int .i64) (.pair (.int .i64) .unit))), .v (.int .i64)], [(.int .i64)], [(.sl false (.pair (.sl false (.pair .str (.pair .str .unit))) (.pair (.int .i64) (.pair (.int .i64) .unit))))], none, fun n x => laws_markPutS n x.1 x.2.1⟩
theorem laws_markPutS.seg_eq : SegEq ty gl laws_markPutS.F laws_markPutS.md laws_markPutS.T laws_markPutS.spec laws_markPutS.lb laws_markPutS.st laws_markPutS.step := by
  intro n goto y; cases y <;> kernel_rfl
theorem laws_markPutS.text : Text Go.Proofs.Tryz.prog laws_markPutS.F laws_markPutS.spec := textOf Go.Proofs.Tryz.f26
theorem laws_markPutS.ok : CtrOK Go.Proofs.Tryz.prog gl laws_markPutS.spec :=
  ctr_okS tabs laws_markPutS.text laws_markPutS.seg_eq (fun n x => ⟨.p0 x.1 x.2.1, rfl, rfl, rfl⟩) (consC laws_markLabelS.ok (nilC))

/-! loop.example/g00039/laws.markIntS -/
def laws_markIntS.T : List Ctr := []
def laws_markIntS.md : List (Nat × List Md) := []
noncomputable def laws_markIntS.F : Fun := ⟨(Go.Proofs.Tryz.f27.body).getD .skip, [.s false (.int .i64), .v (.int .i64)], [(.tmp 4, (.int .i64))], [none], 1, [(7, ⟨[0, 1, 5], [], [], false⟩)]⟩
inductive laws_markIntS.Pt where
  | p0 (a0 : List (Int)) (a1 : Int)
  | p7 (y1 : Int) (y2 : Int) (y3 : List (Int))
def laws_markIntS.lb : laws_markIntS.Pt → Nat
  | .p0 _ _ => 0
  | .p7 _ _ _ => 7
def laws_markIntS.st : laws_markIntS.Pt → St
  | .p0 a0 a1 => enter [.s false (.int .i64) a0, .v (.int .i64) a1] 1
  | .p7 y1 y2 y3 => ⟨[(0, .hs 0 [] none 0), (1, .im (.int .i64) y1), (5, .im (.int .i64) y2)], [(0, .arr false (.int .i64) y3 0)], 1⟩
def laws_markIntS.step (n : Nat) (K : laws_markIntS.Pt → Option (Tup [(.int .i64), (.sl false (.int .i64))])) : laws_markIntS.Pt → Option (Tup [(.int .i64), (.sl false (.int .i64))])
  | .p0 a0 a1 => K (.p7 a1 (0 : Int) a0)
  | .p7 y1 y2 y3 => cond (decide (y2 < ((List.length y3) : Int))) (cond (inB y2 (List.length y3)) (K (.p7 (IntKind.wrap .i64 (y1 + (1 : Int))) (IntKind.wrap .i64 (y2 + (1 : Int))) (List.set y3 (0 + (Int.toNat y2)) y1))) (none)) (some (y1, y3))
def laws_markIntS (n : Nat) (a0 : List (Int)) (a1 : Int) : Option (Tup [(.int .i64), (.sl false (.int .i64))]) := goRec laws_markIntS.step n (.p0 a0 a1)
def laws_markIntS.spec : Ctr := ⟨27, [.s false (.int .i64), .v (.int .i64)], [(.int .i64)], [(.sl false (.int .i64))], none, fun n x => laws_markIntS n x.1 x.2.1⟩
theorem laws_markIntS.seg_eq : SegEq ty gl laws_markIntS.F laws_markIntS.md laws_markIntS.T laws_markIntS.spec laws_markIntS.lb laws_markIntS.st laws_markIntS.step := by
  intro n goto y; cases y <;> kernel_rfl
theorem laws_markIntS.text : Text Go.Proofs.Tryz.prog laws_markIntS.F laws_markIntS.spec := textOf Go.Proofs.Tryz.f27
theorem laws_markIntS.ok : CtrOK Go.Proofs.Tryz.prog gl laws_markIntS.spec :=
  ctr_okS tabs laws_markIntS.text laws_markIntS.seg_eq (fun n x => ⟨.p0 x.1 x.2.1, rfl, rfl, rfl⟩) (nilC)

/-! loop.example/g00039/laws.heldLabelS -/
def laws_heldLabelS.T : List Ctr := [laws_markText.spec]
def laws_heldLabelS.md : List (Nat × List Md) := []
noncomputable def laws_heldLabelS.F : Fun := ⟨(Go.Proofs.Tryz.f53.body).getD .skip, [.v (.sl false (.pair .str (.pair .str .unit))), .v (.int .i64)], [(.tmp 4, (.int .i64))], [], 0, [(7, ⟨[0, 1, 5], [], [], false⟩)]⟩
inductive laws_heldLabelS.Pt where
  | p0 (a0 : List ((ByteArray) × ((ByteArray) × (Unit)))) (a1 : Int)
  | p7 (y1 : List ((ByteArray) × ((ByteArray) × (Unit)))) (y2 : Int) (y3 : Int)
def laws_heldLabelS.lb : laws_heldLabelS.Pt → Nat
  | .p0 _ _ => 0
  | .p7 _ _ _ => 7
def laws_heldLabelS.st : laws_heldLabelS.Pt → St
  | .p0 a0 a1 => enter [.v (.sl false (.pair .str (.pair .str .unit))) a0, .v (.int .i64) a1] 0
  | .p7 y1 y2 y3 => ⟨[(0, .im (.sl false (.pair .str (.pair .str .unit))) y1), (1, .im (.int .i64) y2), (5, .im (.int .i64) y3)], [], 0⟩
def laws_heldLabelS.step (n : Nat) (K : laws_heldLabelS.Pt → Option (Tup [(.int .i64)])) : laws_heldLabelS.Pt → Option (Tup [(.int .i64)])
  | .p0 a0 a1 => K (.p7 a0 a1 (0 : Int))
  | .p7 y1 y2 y3 => cond (decide (y3 < ((List.length y1) : Int))) (cond (inB y3 (List.length y1)) ((laws_markText n y2).bind fun r6 => cond (!(seq (List.getD y1 (Int.toNat y3) default).1 r6)) (some (-(1 : Int))) (cond (inB y3 (List.length y1)) ((laws_markText n (IntKind.wrap .i64 (y2 + (1 : Int)))).bind fun r7 => cond (!(seq (List.getD y1 (Int.toNat y3) default).2.1 r7)) (some (-(1 : Int))) (K (.p7 y1 (IntKind.wrap .i64 ((IntKind.wrap .i64 (y2 + (1 : Int))) + (1 : Int))) (IntKind.wrap .i64 (y3 + (1 : Int)))))) (none))) (none)) (some y2)
def laws_heldLabelS (n : Nat) (a0 : List ((ByteArray) × ((ByteArray) × (Unit)))) (a1 : Int) : Option (Tup [(.int .i64)]) := goRec laws_heldLabelS.step n (.p0 a0 a1)
def laws_heldLabelS.spec : Ctr := ⟨53, [.v (.sl false (.pair .str (.pair .str .unit))), .v (.int .i64)], [(.int .i64)], [], none, fun n x => laws_heldLabelS n x.1 x.2.1⟩
theorem laws_heldLabelS.seg_eq : SegEq ty gl laws_heldLabelS.F laws_heldLabelS.md laws_heldLabelS.T laws_heldLabelS.spec laws_heldLabelS.lb laws_heldLabelS.st laws_heldLabelS.step := by
  intro n goto y; cases y <;> kernel_rfl
theorem laws_heldLabelS.text : Text Go.Proofs.Tryz.prog laws_heldLabelS.F laws_heldLabelS.spec := textOf Go.Proofs.Tryz.f53
theorem laws_heldLabelS.ok : CtrOK Go.Proofs.Tryz.prog gl laws_heldLabelS.spec :=
  ctr_okS tabs laws_heldLabelS.text laws_heldLabelS.seg_eq (fun n x => ⟨.p0 x.1 x.2.1, rfl, rfl, rfl⟩) (consC laws_markText.ok (nilC))

/-! loop.example/g00039/laws.heldSampleS -/
def laws_heldSampleS.T : List Ctr := []
def laws_heldSampleS.md : List (Nat × List Md) := []
noncomputable def laws_heldSampleS.F : Fun := ⟨(Go.Proofs.Tryz.f54.body).getD .skip, [.v (.sl false (.pair (.int .i64) (.pair (.int .i64) .unit))), .v (.int .i64)], [(.tmp 4, (.int .i64))], [], 0, [(7, ⟨[0, 1, 5], [], [], false⟩)]⟩
inductive laws_heldSampleS.Pt where
  | p0 (a0 : List ((Int) × ((Int) × (Unit)))) (a1 : Int)
  | p7 (y1 : List ((Int) × ((Int) × (Unit)))) (y2 : Int) (y3 : Int)
def laws_heldSampleS.lb : laws_heldSampleS.Pt → Nat
  | .p0 _ _ => 0
  | .p7 _ _ _ => 7
def laws_heldSampleS.st : laws_heldSampleS.Pt → St
  | .p0 a0 a1 => enter [.v (.sl false (.pair (.int .i64) (.pair (.int .i64) .unit))) a0, .v (.int .i64) a1] 0
  | .p7 y1 y2 y3 => ⟨[(0, .im (.sl false (.pair (.int .i64) (.pair (.int .i64) .unit))) y1), (1, .im (.int .i64) y2), (5, .im (.int .i64) y3)], [], 0⟩
def laws_heldSampleS.step (n : Nat) (K : laws_heldSampleS.Pt → Option (Tup [(.int .i64)])) : laws_heldSampleS.Pt → Option (Tup [(.int .i64)])
  | .p0 a0 a1 => K (.p7 a0 a1 (0 : Int))
  | .p7 y1 y2 y3 => cond (decide (y3 < ((List.length y1) : Int))) (cond (inB y3 (List.length y1)) (cond (!(decide ((List.getD y1 (Int.toNat y3) default).1 = y2))) (some (-(1 : Int))) (cond (inB y3 (List.length y1)) (cond (!(decide ((List.getD y1 (Int.toNat y3) default).2.1 = (IntKind.wrap .i64 (y2 + (1 : Int)))))) (some (-(1 : Int))) (K (.p7 y1 (IntKind.wrap .i64 ((IntKind.wrap .i64 (y2 + (1 : Int))) + (1 : Int))) (IntKind.wrap .i64 (y3 + (1 : Int)))))) (none))) (none)) (some y2)
def laws_heldSampleS (n : Nat) (a0 : List ((Int) × ((Int) × (Unit)))) (a1 : Int) : Option (Tup [(.int .i64)]) := goRec laws_heldSampleS.step n (.p0 a0 a1)
def laws_heldSampleS.spec : Ctr := ⟨54, [.v (.sl false (.pair (.int .i64) (.pair (.int .i64) .unit))), .v (.int .i64)], [(.int .i64)], [], none, fun n x => laws_heldSampleS n x.1 x.2.1⟩
theorem laws_heldSampleS.seg_eq : SegEq ty gl laws_heldSampleS.F laws_heldSampleS.md laws_heldSampleS.T laws_heldSampleS.spec laws_heldSampleS.lb laws_heldSampleS.st laws_heldSampleS.step := by
  intro n goto y; cases y <;> kernel_rfl
theorem laws_heldSampleS.text : Text Go.Proofs.Tryz.prog laws_heldSampleS.F laws_heldSampleS.spec := textOf Go.Proofs.Tryz.f54
theorem laws_heldSampleS.ok : CtrOK Go.Proofs.Tryz.prog gl laws_heldSampleS.spec :=
  ctr_okS tabs laws_heldSampleS.text laws_heldSampleS.seg_eq (fun n x => ⟨.p0 x.1 x.2.1, rfl, rfl, rfl⟩) (nilC)

/-! loop.example/g00039/laws.heldSeriesS -/
def laws_heldSeriesS.T : List Ctr := [laws_heldLabelS.spec, laws_heldSampleS.spec]
def laws_heldSeriesS.md : List (Nat × List Md) := []
noncomputable def laws_heldSeriesS.F : Fun := ⟨(Go.Proofs.Tryz.f15.body).getD .skip, [.v (.sl false (.pair (.sl false (.pair .str (.pair .str .unit))) (.pair (.sl false (.pair (.int .i64) (.pair (.int .i64) .unit))) .unit))), .v (.int .i64)], [(.tmp 4, (.int .i64))], [], 0, [(7, ⟨[0, 1, 5], [], [], false⟩)]⟩
inductive laws_heldSeriesS.Pt where
  | p0 (a0 : List ((List ((ByteArray) × ((ByteArray) × (Unit)))) × ((List ((Int) × ((Int) × (Unit)))) × (Unit)))) (a1 : Int)
  | p7 (y1 : List ((List ((ByteArray) × ((ByteArray) × (Unit)))) × ((List ((Int) × ((Int) × (Unit)))) × (Unit)))) (y2 : Int) (y3 : Int)
def laws_heldSeriesS.lb : laws_heldSeriesS.Pt → Nat
  | .p0 _ _ => 0
  | .p7 _ _ _ => 7
def laws_heldSeriesS.st : laws_heldSeriesS.Pt → St
  | .p0 a0 a1 => enter [.v (.sl false (.pair (.sl false (.pair .str (.pair .str .unit))) (.pair (.sl false (.pair (.int .i64) (.pair (.int .i64) .unit))) .unit))) a0, .v (.int .i64) a1] 0
  | .p7 y1 y2 y3 => ⟨[(0, .im (.sl false (.pair (.sl false (.pair .str (.pair .str .unit))) (.pair (.sl false (.pair (.int .i64) (.pair (.int .i64) .unit))) .unit))) y1), (1, .im (.int .i64) y2), (5, .im (.int .i64) y3)], [], 0⟩
def laws_heldSeriesS.step (n : Nat) (K : laws_heldSeriesS.Pt → Option (Tup [(.int .i64)])) : laws_heldSeriesS.Pt → Option (Tup [(.int .i64)])
  | .p0 a0 a1 => K (.p7 a0 a1 (0 : Int))
  | .p7 y1 y2 y3 => cond (decide (y3 < ((List.length y1) : Int))) (cond (inB y3 (List.length y1)) ((laws_heldLabelS n (List.getD y1 (Int.toNat y3) default).1 y2).bind fun (r6 : Int) => cond (decide (r6 < (0 : Int))) (some (-(1 : Int))) (cond (inB y3 (List.length y1)) ((laws_heldSampleS n (List.getD y1 (Int.toNat y3) default).2.1 r6).bind fun (r7 : Int) => cond (decide (r7 < (0 : Int))) (some (-(1 : Int))) (K (.p7 y1 r7 (IntKind.wrap .i64 (y3 + (1 : Int)))))) (none))) (none)) (some y2)
def laws_heldSeriesS (n : Nat) (a0 : List ((List ((ByteArray) × ((ByteArray) × (Unit)))) × ((List ((Int) × ((Int) × (Unit)))) × (Unit)))) (a1 : Int) : Option (Tup [(.int .i64)]) := goRec laws_heldSeriesS.step n (.p0 a0 a1)
def laws_heldSeriesS.spec : Ctr := ⟨15, [.v (.sl false (.pair (.sl false (.pair .str (.pair .str .unit))) (.pair (.sl false (.pair (.int .i64) (.pair (.int .i64) .unit))) .unit))), .v (.int .i64)], [(.int .i64)], [], none, fun n x => laws_heldSeriesS n x.1 x.2.1⟩
theorem laws_heldSeriesS.seg_eq : SegEq ty gl laws_heldSeriesS.F laws_heldSeriesS.md laws_heldSeriesS.T laws_heldSeriesS.spec laws_heldSeriesS.lb laws_heldSeriesS.st laws_heldSeriesS.step := by
  intro n goto y; cases y <;> kernel_rfl
theorem laws_heldSeriesS.text : Text Go.Proofs.Tryz.prog laws_heldSeriesS.F laws_heldSeriesS.spec := textOf Go.Proofs.Tryz.f15
theorem laws_heldSeriesS.ok : CtrOK Go.Proofs.Tryz.prog gl laws_heldSeriesS.spec :=
  ctr_okS tabs laws_heldSeriesS.text laws_heldSeriesS.seg_eq (fun n x => ⟨.p0 x.1 x.2.1, rfl, rfl, rfl⟩) (consC laws_heldLabelS.ok (consC laws_heldSampleS.ok (nilC)))

/-! loop.example/g00039/laws.heldHead -/
def laws_heldHead.T : List Ctr := [laws_heldSeriesS.spec]
def laws_heldHead.md : List (Nat × List Md) := []
noncomputable def laws_heldHead.F : Fun := ⟨(Go.Proofs.Tryz.f28.body).getD .skip, [.v (.pair (.int .i64) (.pair (.int .i64) (.pair (.int .i64) (.pair (.sl false (.pair (.sl false (.pair .str (.pair .str .unit))) (.pair (.sl false (.pair (.int .i64) (.pair (.int .i64) .unit))) .unit))) .unit)))), .v (.int .i64)], [(.tmp 4, (.int .i64))], [], 0, []⟩
inductive laws_heldHead.Pt where
  | p0 (a0 : (Int) × ((Int) × ((Int) × ((List ((List ((ByteArray) × ((ByteArray) × (Unit)))) × ((List ((Int) × ((Int) × (Unit)))) × (Unit)))) × (Unit))))) (a1 : Int)
def laws_heldHead.lb : laws_heldHead.Pt → Nat
  | .p0 _ _ => 0
def laws_heldHead.st : laws_heldHead.Pt → St
  | .p0 a0 a1 => enter [.v (.pair (.int .i64) (.pair (.int .i64) (.pair (.int .i64) (.pair (.sl false (.pair (.sl false (.pair .str (.pair .str .unit))) (.pair (.sl false (.pair (.int .i64) (.pair (.int .i64) .unit))) .unit))) .unit)))) a0, .v (.int .i64) a1] 0
def laws_heldHead.step (n : Nat) (K : laws_heldHead.Pt → Option (Tup [(.int .i64)])) : laws_heldHead.Pt → Option (Tup [(.int .i64)])
  | .p0 a0 a1 => (laws_heldSeriesS n a0.2.2.2.1 a1).bind fun (r5 : Int) => cond (decide (r5 < (0 : Int))) (some (-(1 : Int))) (some r5)
def laws_heldHead (n : Nat) (a0 : (Int) × ((Int) × ((Int) × ((List ((List ((ByteArray) × ((ByteArray) × (Unit)))) × ((List ((Int) × ((Int) × (Unit)))) × (Unit)))) × (Unit))))) (a1 : Int) : Option (Tup [(.int .i64)]) := goRec laws_heldHead.step n (.p0 a0 a1)
def laws_heldHead.spec : Ctr := ⟨28, [.v (.pair (.int .i64) (.pair (.int .i64) (.pair (.int .i64) (.pair (.sl false (.pair (.sl false (.pair .str (.pair .str .unit))) (.pair (.sl false (.pair (.int .i64) (.pair (.int .i64) .unit))) .unit))) .unit)))), .v (.int .i64)], [(.int .i64)], [], none, fun n x => laws_heldHead n x.1 x.2.1⟩
theorem laws_heldHead.seg_eq : SegEq ty gl laws_heldHead.F laws_heldHead.md laws_heldHead.T laws_heldHead.spec laws_heldHead.lb laws_heldHead.st laws_heldHead.step := by
  intro n goto y; cases y <;> kernel_rfl
theorem laws_heldHead.text : Text Go.Proofs.Tryz.prog laws_heldHead.F laws_heldHead.spec := textOf Go.Proofs.Tryz.f28
theorem laws_heldHead.ok : CtrOK Go.Proofs.Tryz.prog gl laws_heldHead.spec :=
  ctr_okS tabs laws_heldHead.text laws_heldHead.seg_eq (fun n x => ⟨.p0 x.1 x.2.1, rfl, rfl, rfl⟩) (consC laws_heldSeriesS.ok (nilC))

/-! loop.example/g00039/laws.heldIntS -/
def laws_heldIntS.T : List Ctr := []
def laws_heldIntS.md : List (Nat × List Md) := []
noncomputable def laws_heldIntS.F : Fun := ⟨(Go.Proofs.Tryz.f29.body).getD .skip, [.v (.sl false (.int .i64)), .v (.int .i64)], [(.tmp 4, (.int .i64))], [], 0, [(7, ⟨[0, 1, 5], [], [], false⟩)]⟩
inductive laws_heldIntS.Pt where
  | p0 (a0 : List (Int)) (a1 : Int)
  | p7 (y1 : List (Int)) (y2 : Int) (y3 : Int)
def laws_heldIntS.lb : laws_heldIntS.Pt → Nat
  | .p0 _ _ => 0
  | .p7 _ _ _ => 7
def laws_heldIntS.st : laws_heldIntS.Pt → St
  | .p0 a0 a1 => enter [.v (.sl false (.int .i64)) a0, .v (.int .i64) a1] 0
  | .p7 y1 y2 y3 => ⟨[(0, .im (.sl false (.int .i64)) y1), (1, .im (.int .i64) y2), (5, .im (.int .i64) y3)], [], 0⟩
def laws_heldIntS.step (n : Nat) (K : laws_heldIntS.Pt → Option (Tup [(.int .i64)])) : laws_heldIntS.Pt → Option (Tup [(.int .i64)])
  | .p0 a0 a1 => K (.p7 a0 a1 (0 : Int))
  | .p7 y1 y2 y3 => cond (decide (y3 < ((List.length y1) : Int))) (cond (inB y3 (List.length y1)) (cond (!(decide ((List.getD y1 (Int.toNat y3) default) = y2))) (some (-(1 : Int))) (K (.p7 y1 (IntKind.wrap .i64 (y2 + (1 : Int))) (IntKind.wrap .i64 (y3 + (1 : Int)))))) (none)) (some y2)
def laws_heldIntS (n : Nat) (a0 : List (Int)) (a1 : Int) : Option (Tup [(.int .i64)]) := goRec laws_heldIntS.step n (.p0 a0 a1)
def laws_heldIntS.spec : Ctr := ⟨29, [.v (.sl false (.int .i64)), .v (.int .i64)], [(.int .i64)], [], none, fun n x => laws_heldIntS n x.1 x.2.1⟩
theorem laws_heldIntS.seg_eq : SegEq ty gl laws_heldIntS.F laws_heldIntS.md laws_heldIntS.T laws_heldIntS.spec laws_heldIntS.lb laws_heldIntS.st laws_heldIntS.step := by
  intro n goto y; cases y <;> kernel_rfl
theorem laws_heldIntS.text : Text Go.Proofs.Tryz.prog laws_heldIntS.F laws_heldIntS.spec := textOf Go.Proofs.Tryz.f29
theorem laws_heldIntS.ok : CtrOK Go.Proofs.Tryz.prog gl laws_heldIntS.spec :=
  ctr_okS tabs laws_heldIntS.text laws_heldIntS.seg_eq (fun n x => ⟨.p0 x.1 x.2.1, rfl, rfl, rfl⟩) (nilC)

/-! loop.example/g00039/laws.FnExactPutAll -/
def laws_FnExactPutAll.T : List Ctr := [laws_szHead.spec, laws_szPutS.spec, laws_toHead.spec, laws_toPutS.spec, spec_PutAll.spec, impl_PutAll.spec, laws_eqHead.spec, laws_eqIntS.spec, laws_eqPutS.spec, laws_markHead.spec, laws_markPutS.spec, laws_markIntS.spec, laws_heldHead.spec, laws_heldIntS.spec]
def laws_FnExactPutAll.md : List (Nat × List Md) := [(25, [.ag 5001600, .v]), (6001600, [.c (.int .i64), .c (.int .i64), .c (.int .i64), .s]), (26, [.s, .v]), (27, [.s, .v])]
noncomputable def laws_FnExactPutAll.F : Fun := ⟨(Go.Proofs.Tryz.f4.body).getD .skip, [.v (.pair (.int .i64) (.pair (.int .i64) (.pair (.int .i64) (.pair (.sl false (.pair (.sl false (.pair .str (.pair .str .unit))) (.pair (.sl false (.pair (.int .i64) (.pair (.int .i64) .unit))) .unit))) .unit)))), .v (.sl false (.pair (.sl false (.pair .str (.pair .str .unit))) (.pair (.int .i64) (.pair (.int .i64) .unit))))], [(.tmp 4, .bool)], [], 0, [(34, ⟨[1, 2, 6, 7, 8, 9, 10, 11, 54], [(7, (.int .i64)), (9, (.pair (.sl false (.pair .str (.pair .str .unit))) (.pair (.int .i64) (.pair (.int .i64) .unit)))), (11, (.int .i64))], [(2, 3, (.pair (.sl false (.pair .str (.pair .str .unit))) (.pair (.sl false (.pair (.int .i64) (.pair (.int .i64) .unit))) .unit))), (6, 3, (.pair (.sl false (.pair .str (.pair .str .unit))) (.pair (.sl false (.pair (.int .i64) (.pair (.int .i64) .unit))) .unit))), (8, 3, (.pair (.sl false (.pair .str (.pair .str .unit))) (.pair (.sl false (.pair (.int .i64) (.pair (.int .i64) .unit))) .unit))), (10, 3, (.pair (.sl false (.pair .str (.pair .str .unit))) (.pair (.sl false (.pair (.int .i64) (.pair (.int .i64) .unit))) .unit)))], false⟩), (64, ⟨[1, 2, 6, 7, 10, 11, 84], [(7, (.int .i64)), (11, (.int .i64))], [(2, 3, (.pair (.sl false (.pair .str (.pair .str .unit))) (.pair (.sl false (.pair (.int .i64) (.pair (.int .i64) .unit))) .unit))), (6, 3, (.pair (.sl false (.pair .str (.pair .str .unit))) (.pair (.sl false (.pair (.int .i64) (.pair (.int .i64) .unit))) .unit))), (10, 3, (.pair (.sl false (.pair .str (.pair .str .unit))) (.pair (.sl false (.pair (.int .i64) (.pair (.int .i64) .unit))) .unit)))], false⟩), (110, ⟨[10, 11, 13, 121], [(11, (.int .i64))], [(10, 3, (.pair (.sl false (.pair .str (.pair .str .unit))) (.pair (.sl false (.pair (.int .i64) (.pair (.int .i64) .unit))) .unit)))], false⟩)]⟩
inductive laws_FnExactPutAll.Pt where
  | p0 (a0 : (Int) × ((Int) × ((Int) × ((List ((List ((ByteArray) × ((ByteArray) × (Unit)))) × ((List ((Int) × ((Int) × (Unit)))) × (Unit)))) × (Unit))))) (a1 : List ((List ((ByteArray) × ((ByteArray) × (Unit)))) × ((Int) × ((Int) × (Unit)))))
  | p34 (y1 : List ((List ((ByteArray) × ((ByteArray) × (Unit)))) × ((Int) × ((Int) × (Unit))))) (y2 : Bool) (y3 : Int) (y4 : Int) (y5 : Int) (y6 : List ((List ((ByteArray) × ((ByteArray) × (Unit)))) × ((List ((Int) × ((Int) × (Unit)))) × (Unit)))) (y7 : Int) (y8 : Int) (y9 : Int) (y10 : List (Int)) (y11 : Int) (y12 : Int) (y13 : Int) (y14 : List ((List ((ByteArray) × ((ByteArray) × (Unit)))) × ((Int) × ((Int) × (Unit))))) (y15 : Int) (y16 : Int) (y17 : Int) (y18 : List (Int)) (y19 : List ((List ((ByteArray) × ((ByteArray) × (Unit)))) × ((List ((Int) × ((Int) × (Unit)))) × (Unit)))) (y20 : List ((List ((ByteArray) × ((ByteArray) × (Unit)))) × ((List ((Int) × ((Int) × (Unit)))) × (Unit)))) (y21 : List ((List ((ByteArray) × ((ByteArray) × (Unit)))) × ((List ((Int) × ((Int) × (Unit)))) × (Unit))))
  | p64 (y1 : List ((List ((ByteArray) × ((ByteArray) × (Unit)))) × ((Int) × ((Int) × (Unit))))) (y2 : Bool) (y3 : Int) (y4 : Int) (y5 : Int) (y6 : List ((List ((ByteArray) × ((ByteArray) × (Unit)))) × ((List ((Int) × ((Int) × (Unit)))) × (Unit)))) (y7 : Int) (y8 : Int) (y9 : Int) (y10 : List (Int)) (y11 : Int) (y12 : Int) (y13 : Int) (y14 : List (Int)) (y15 : List ((List ((ByteArray) × ((ByteArray) × (Unit)))) × ((List ((Int) × ((Int) × (Unit)))) × (Unit)))) (y16 : List ((List ((ByteArray) × ((ByteArray) × (Unit)))) × ((List ((Int) × ((Int) × (Unit)))) × (Unit))))
  | p110 (y1 : Int) (y2 : Bool) (y3 : Int) (y4 : Int) (y5 : Int) (y6 : List (Int)) (y7 : List ((List ((ByteArray) × ((ByteArray) × (Unit)))) × ((List ((Int) × ((Int) × (Unit)))) × (Unit))))
def laws_FnExactPutAll.lb : laws_FnExactPutAll.Pt → Nat
  | .p0 _ _ => 0
  | .p34 _ _ _ _ _ _ _ _ _ _ _ _ _ _ _ _ _ _ _ _ _ => 34
  | .p64 _ _ _ _ _ _ _ _ _ _ _ _ _ _ _ _ => 64
  | .p110 _ _ _ _ _ _ _ => 110
def laws_FnExactPutAll.st : laws_FnExactPutAll.Pt → St
  | .p0 a0 a1 => enter [.v (.pair (.int .i64) (.pair (.int .i64) (.pair (.int .i64) (.pair (.sl false (.pair (.sl false (.pair .str (.pair .str .unit))) (.pair (.sl false (.pair (.int .i64) (.pair (.int .i64) .unit))) .unit))) .unit)))) a0, .v (.sl false (.pair (.sl false (.pair .str (.pair .str .unit))) (.pair (.int .i64) (.pair (.int .i64) .unit)))) a1] 0
  | .p34 y1 y2 y3 y4 y5 y6 y7 y8 y9 y10 y11 y12 y13 y14 y15 y16 y17 y18 y19 y20 y21 => ⟨[(1, .im (.sl false (.pair (.sl false (.pair .str (.pair .str .unit))) (.pair (.int .i64) (.pair (.int .i64) .unit)))) y1), (2, .po 0 0), (6, .po 1 0), (7, .hs 2 [] none 0), (8, .po 3 0), (9, .hs 4 [] none 0), (10, .po 5 0), (11, .hs 6 [] none 0), (54, .im .bool y2)], [(0, .obj [.im (.int .i64) y3, .im (.int .i64) y4, .im (.int .i64) y5, .im (.sl false (.pair (.sl false (.pair .str (.pair .str .unit))) (.pair (.sl false (.pair (.int .i64) (.pair (.int .i64) .unit))) .unit))) y6]), (1, .obj [.im (.int .i64) y7, .im (.int .i64) y8, .im (.int .i64) y9, .hs 7 [] none 0]), (2, .arr false (.int .i64) y10 0), (3, .obj [.im (.int .i64) y11, .im (.int .i64) y12, .im (.int .i64) y13, .hs 8 [] none 0]), (4, .arr false (.pair (.sl false (.pair .str (.pair .str .unit))) (.pair (.int .i64) (.pair (.int .i64) .unit))) y14 0), (5, .obj [.im (.int .i64) y15, .im (.int .i64) y16, .im (.int .i64) y17, .hs 9 [] none 0]), (6, .arr false (.int .i64) y18 0), (7, .arr false (.pair (.sl false (.pair .str (.pair .str .unit))) (.pair (.sl false (.pair (.int .i64) (.pair (.int .i64) .unit))) .unit)) y19 0), (8, .arr false (.pair (.sl false (.pair .str (.pair .str .unit))) (.pair (.sl false (.pair (.int .i64) (.pair (.int .i64) .unit))) .unit)) y20 0), (9, .arr false (.pair (.sl false (.pair .str (.pair .str .unit))) (.pair (.sl false (.pair (.int .i64) (.pair (.int .i64) .unit))) .unit)) y21 0)], 10⟩
  | .p64 y1 y2 y3 y4 y5 y6 y7 y8 y9 y10 y11 y12 y13 y14 y15 y16 => ⟨[(1, .im (.sl false (.pair (.sl false (.pair .str (.pair .str .unit))) (.pair (.int .i64) (.pair (.int .i64) .unit)))) y1), (2, .po 0 0), (6, .po 1 0), (7, .hs 2 [] none 0), (10, .po 3 0), (11, .hs 4 [] none 0), (84, .im .bool y2)], [(0, .obj [.im (.int .i64) y3, .im (.int .i64) y4, .im (.int .i64) y5, .im (.sl false (.pair (.sl false (.pair .str (.pair .str .unit))) (.pair (.sl false (.pair (.int .i64) (.pair (.int .i64) .unit))) .unit))) y6]), (1, .obj [.im (.int .i64) y7, .im (.int .i64) y8, .im (.int .i64) y9, .hs 5 [] none 0]), (2, .arr false (.int .i64) y10 0), (3, .obj [.im (.int .i64) y11, .im (.int .i64) y12, .im (.int .i64) y13, .hs 6 [] none 0]), (4, .arr false (.int .i64) y14 0), (5, .arr false (.pair (.sl false (.pair .str (.pair .str .unit))) (.pair (.sl false (.pair (.int .i64) (.pair (.int .i64) .unit))) .unit)) y15 0), (6, .arr false (.pair (.sl false (.pair .str (.pair .str .unit))) (.pair (.sl false (.pair (.int .i64) (.pair (.int .i64) .unit))) .unit)) y16 0)], 7⟩
  | .p110 y1 y2 y3 y4 y5 y6 y7 => ⟨[(10, .po 0 0), (11, .hs 1 [] none 0), (13, .im (.int .i64) y1), (121, .im .bool y2)], [(0, .obj [.im (.int .i64) y3, .im (.int .i64) y4, .im (.int .i64) y5, .hs 2 [] none 0]), (1, .arr false (.int .i64) y6 0), (2, .arr false (.pair (.sl false (.pair .str (.pair .str .unit))) (.pair (.sl false (.pair (.int .i64) (.pair (.int .i64) .unit))) .unit)) y7 0)], 3⟩
def laws_FnExactPutAll.step (n : Nat) (K : laws_FnExactPutAll.Pt → Option (Tup [.bool])) : laws_FnExactPutAll.Pt → Option (Tup [.bool])
  | .p0 a0 a1 => (laws_szHead n a0 (1048576 : Int)).bind fun (r5 : Int) => cond (decide (r5 < (0 : Int))) (some true) ((laws_szPutS n a1 r5).bind fun (r6 : Int) => cond (decide (r6 < (0 : Int))) (some true) ((laws_toHead n a0).bind fun r7 => (laws_toPutS n a1).bind fun r8 => (spec_PutAll n r7 r8).bind fun r9 => (laws_toHead n a0).bind fun r10 => (laws_toPutS n a1).bind fun r11 => (impl_PutAll n r10 r11).bind fun r12 => (laws_eqHead n r12.1 r9.1).bind fun r13 => cond (!r13) (K (.p34 a1 true a0.1 a0.2.1 a0.2.2.1 a0.2.2.2.1 r9.1.1 r9.1.2.1 r9.1.2.2.1 r9.2 r10.1 r10.2.1 r10.2.2.1 r11 r12.1.1 r12.1.2.1 r12.1.2.2.1 r12.2 r9.1.2.2.2.1 r10.2.2.2.1 r12.1.2.2.2.1)) ((laws_eqIntS n r12.2 r9.2).bind fun r14 => K (.p34 a1 (!r14) a0.1 a0.2.1 a0.2.2.1 a0.2.2.2.1 r9.1.1 r9.1.2.1 r9.1.2.2.1 r9.2 r10.1 r10.2.1 r10.2.2.1 r11 r12.1.1 r12.1.2.1 r12.1.2.2.1 r12.2 r9.1.2.2.2.1 r10.2.2.2.1 r12.1.2.2.2.1))))
  | .p34 y1 y2 y3 y4 y5 y6 y7 y8 y9 y10 y11 y12 y13 y14 y15 y16 y17 y18 y19 y20 y21 => cond y2 (some false) ((laws_toHead n (y3, (y4, (y5, (y6, ()))))).bind fun r24 => (laws_eqHead n (y11, (y12, (y13, (y20, ())))) r24).bind fun r25 => cond (!r25) (some false) ((laws_toPutS n y1).bind fun r26 => (laws_eqPutS n y14 r26).bind fun r27 => cond (!r27) (some false) ((laws_markHead n y11 y12 y13 y20 (1 : Int)).bind fun r28 => (laws_markPutS n y14 r28.1).bind fun r29 => cond (decide (r29.1 < (0 : Int))) (K (.p64 y1 true y3 y4 y5 y6 y7 y8 y9 y10 y15 y16 y17 y18 y19 y21)) ((laws_eqHead n (y15, (y16, (y17, (y21, ())))) (y7, (y8, (y9, (y19, ()))))).bind fun r30 => cond (!r30) (K (.p64 y1 true y3 y4 y5 y6 y7 y8 y9 y10 y15 y16 y17 y18 y19 y21)) ((laws_eqIntS n y18 y10).bind fun r31 => K (.p64 y1 (!r31) y3 y4 y5 y6 y7 y8 y9 y10 y15 y16 y17 y18 y19 y21))))))
  | .p64 y1 y2 y3 y4 y5 y6 y7 y8 y9 y10 y11 y12 y13 y14 y15 y16 => cond y2 (some false) ((laws_markHead n y11 y12 y13 y16 (1 : Int)).bind fun r19 => (laws_markIntS n y14 r19.1).bind fun r20 => (laws_heldHead n (y11, (y12, (y13, (r19.2, ())))) (1 : Int)).bind fun (r21 : Int) => cond (decide (r21 < (0 : Int))) (some false) ((laws_heldIntS n r20.2 r21).bind fun (r22 : Int) => cond (decide (r22 < (0 : Int))) (some false) (cond (!(decide (r22 = r20.1))) (some false) ((laws_toHead n (y3, (y4, (y5, (y6, ()))))).bind fun r23 => (laws_toPutS n y1).bind fun r24 => (impl_PutAll n r23 r24).bind fun r25 => (laws_eqHead n r25.1 (y7, (y8, (y9, (y15, ()))))).bind fun r26 => cond (!r26) (K (.p110 r20.1 true y11 y12 y13 r20.2 r19.2)) ((laws_eqIntS n r25.2 y10).bind fun r27 => K (.p110 r20.1 (!r27) y11 y12 y13 r20.2 r19.2))))))
  | .p110 y1 y2 y3 y4 y5 y6 y7 => cond y2 (some false) ((laws_heldHead n (y3, (y4, (y5, (y7, ())))) (1 : Int)).bind fun (r10 : Int) => cond (decide (r10 < (0 : Int))) (some false) ((laws_heldIntS n y6 r10).bind fun (r11 : Int) => cond (decide (r11 < (0 : Int))) (some false) (cond (!(decide (r11 = y1))) (some false) (some true))))
def laws_FnExactPutAll (n : Nat) (a0 : (Int) × ((Int) × ((Int) × ((List ((List ((ByteArray) × ((ByteArray) × (Unit)))) × ((List ((Int) × ((Int) × (Unit)))) × (Unit)))) × (Unit))))) (a1 : List ((List ((ByteArray) × ((ByteArray) × (Unit)))) × ((Int) × ((Int) × (Unit))))) : Option (Tup [.bool]) := goRec laws_FnExactPutAll.step n (.p0 a0 a1)
def laws_FnExactPutAll.spec : Ctr := ⟨4, [.v (.pair (.int .i64) (.pair (.int .i64) (.pair (.int .i64) (.pair (.sl false (.pair (.sl false (.pair .str (.pair .str .unit))) (.pair (.sl false (.pair (.int .i64) (.pair (.int .i64) .unit))) .unit))) .unit)))), .v (.sl false (.pair (.sl false (.pair .str (.pair .str .unit))) (.pair (.int .i64) (.pair (.int .i64) .unit))))], [.bool], [], none, fun n x => laws_FnExactPutAll n x.1 x.2.1⟩
theorem laws_FnExactPutAll.seg_eq : SegEq ty gl laws_FnExactPutAll.F laws_FnExactPutAll.md laws_FnExactPutAll.T laws_FnExactPutAll.spec laws_FnExactPutAll.lb laws_FnExactPutAll.st laws_FnExactPutAll.step := by
  intro n goto y; cases y <;> kernel_rfl
theorem laws_FnExactPutAll.text : Text Go.Proofs.Tryz.prog laws_FnExactPutAll.F laws_FnExactPutAll.spec := textOf Go.Proofs.Tryz.f4
theorem laws_FnExactPutAll.ok : CtrOK Go.Proofs.Tryz.prog gl laws_FnExactPutAll.spec :=
  ctr_okS tabs laws_FnExactPutAll.text laws_FnExactPutAll.seg_eq (fun n x => ⟨.p0 x.1 x.2.1, rfl, rfl, rfl⟩) (consC laws_szHead.ok (consC laws_szPutS.ok (consC laws_toHead.ok (consC laws_toPutS.ok (consC spec_PutAll.ok (consC impl_PutAll.ok (consC laws_eqHead.ok (consC laws_eqIntS.ok (consC laws_eqPutS.ok (consC laws_markHead.ok (consC laws_markPutS.ok (consC laws_markIntS.ok (consC laws_heldHead.ok (consC laws_heldIntS.ok (nilC)))))))))))))))
end Go.PA
