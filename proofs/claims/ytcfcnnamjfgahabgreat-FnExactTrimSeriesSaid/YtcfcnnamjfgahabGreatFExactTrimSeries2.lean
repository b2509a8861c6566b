/- The functions that the law reaches, each as a Lean function and with its contract, part 2. -/
import Derived.Test.YtcfcnnamjfgahabGreatV1
import Derived.Test.YtcfcnnamjfgahabGreatV2
import Derived.Test.YtcfcnnamjfgahabGreatV3
import Derived.Lib.Bytealg
import Derived.Shelf.Lays
import Derived.Shelf.Small.Strs
import Derived.Test.YtcfcnnamjfgahabGreatProg
import Derived.Test.YtcfcnnamjfgahabGreatFExactTrimSeries1
open Go Go.VM
namespace Go.TS
set_option maxRecDepth 100000
set_option linter.unusedVariables false
set_option linter.unusedSimpArgs false
set_option linter.unusedSectionVars false
variable [Bor]
/-! loop.example/g00039/laws.eqSample -/
def laws_eqSample.T : List Ctr := []
def laws_eqSample.md : List (Nat × List Md) := []
noncomputable def laws_eqSample.F : Fun := ⟨(Go.Proofs.Tryz.f126.body).getD .skip, [.v (.pair (.int .i64) (.pair (.int .i64) .unit)), .v (.pair (.int .i64) (.pair (.int .i64) .unit))], [(.tmp 4, .bool)], [], 0, []⟩
inductive laws_eqSample.Pt where
  | p0 (a0 : (Int) × ((Int) × (Unit))) (a1 : (Int) × ((Int) × (Unit)))
def laws_eqSample.lb : laws_eqSample.Pt → Nat
  | .p0 _ _ => 0
def laws_eqSample.st : laws_eqSample.Pt → St
  | .p0 a0 a1 => enter [.v (.pair (.int .i64) (.pair (.int .i64) .unit)) a0, .v (.pair (.int .i64) (.pair (.int .i64) .unit)) a1] 0
def laws_eqSample.step (n : Nat) (K : laws_eqSample.Pt → Option (Tup [.bool])) : laws_eqSample.Pt → Option (Tup [.bool])
  | .p0 a0 a1 => cond (!(decide (a0.1 = a1.1))) (some false) (cond (!(decide (a0.2.1 = a1.2.1))) (some false) (some true))
def laws_eqSample (n : Nat) (a0 : (Int) × ((Int) × (Unit))) (a1 : (Int) × ((Int) × (Unit))) : Option (Tup [.bool]) := goRec laws_eqSample.step n (.p0 a0 a1)
def laws_eqSample.spec : Ctr := ⟨126, [.v (.pair (.int .i64) (.pair (.int .i64) .unit)), .v (.pair (.int .i64) (.pair (.int .i64) .unit))], [.bool], [], none, fun n x => laws_eqSample n x.1 x.2.1⟩
theorem laws_eqSample.seg_eq : SegEq ty gl laws_eqSample.F laws_eqSample.md laws_eqSample.T laws_eqSample.spec laws_eqSample.lb laws_eqSample.st laws_eqSample.step := by
  intro n goto y; cases y <;> kernel_rfl
theorem laws_eqSample.text : Text Go.Proofs.Tryz.prog laws_eqSample.F laws_eqSample.spec := textOf Go.Proofs.Tryz.f126
theorem laws_eqSample.ok : CtrOK Go.Proofs.Tryz.prog gl laws_eqSample.spec :=
  ctr_okS tabs laws_eqSample.text laws_eqSample.seg_eq (fun n x => ⟨.p0 x.1 x.2.1, rfl, rfl, rfl⟩) (nilC)

/-! loop.example/g00039/laws.eqSampleS -/
def laws_eqSampleS.T : List Ctr := [laws_eqSample.spec]
def laws_eqSampleS.md : List (Nat × List Md) := []
noncomputable def laws_eqSampleS.F : Fun := ⟨(Go.Proofs.Tryz.f88.body).getD .skip, [.v (.sl false (.pair (.int .i64) (.pair (.int .i64) .unit))), .v (.sl false (.pair (.int .i64) (.pair (.int .i64) .unit)))], [(.tmp 4, .bool)], [], 0, [(15, ⟨[0, 1, 5], [], [], false⟩)]⟩
inductive laws_eqSampleS.Pt where
  | p0 (a0 : List ((Int) × ((Int) × (Unit)))) (a1 : List ((Int) × ((Int) × (Unit))))
  | p15 (y1 : List ((Int) × ((Int) × (Unit)))) (y2 : List ((Int) × ((Int) × (Unit)))) (y3 : Int)
def laws_eqSampleS.lb : laws_eqSampleS.Pt → Nat
  | .p0 _ _ => 0
  | .p15 _ _ _ => 15
def laws_eqSampleS.st : laws_eqSampleS.Pt → St
  | .p0 a0 a1 => enter [.v (.sl false (.pair (.int .i64) (.pair (.int .i64) .unit))) a0, .v (.sl false (.pair (.int .i64) (.pair (.int .i64) .unit))) a1] 0
  | .p15 y1 y2 y3 => ⟨[(0, .im (.sl false (.pair (.int .i64) (.pair (.int .i64) .unit))) y1), (1, .im (.sl false (.pair (.int .i64) (.pair (.int .i64) .unit))) y2), (5, .im (.int .i64) y3)], [], 0⟩
def laws_eqSampleS.step (n : Nat) (K : laws_eqSampleS.Pt → Option (Tup [.bool])) : laws_eqSampleS.Pt → Option (Tup [.bool])
  | .p0 a0 a1 => cond (!(decide (((List.length a0) : Int) = ((List.length a1) : Int)))) (some false) (K (.p15 a0 a1 (0 : Int)))
  | .p15 y1 y2 y3 => cond (decide (y3 < ((List.length y1) : Int))) (cond (inB y3 (List.length y1)) (cond (inB y3 (List.length y2)) ((laws_eqSample n (List.getD y1 (Int.toNat y3) default) (List.getD y2 (Int.toNat y3) default)).bind fun r6 => cond (!r6) (some false) (K (.p15 y1 y2 (IntKind.wrap .i64 (y3 + (1 : Int)))))) (none)) (none)) (some true)
def laws_eqSampleS (n : Nat) (a0 : List ((Int) × ((Int) × (Unit)))) (a1 : List ((Int) × ((Int) × (Unit)))) : Option (Tup [.bool]) := goRec laws_eqSampleS.step n (.p0 a0 a1)
def laws_eqSampleS.spec : Ctr := ⟨88, [.v (.sl false (.pair (.int .i64) (.pair (.int .i64) .unit))), .v (.sl false (.pair (.int .i64) (.pair (.int .i64) .unit)))], [.bool], [], none, fun n x => laws_eqSampleS n x.1 x.2.1⟩
theorem laws_eqSampleS.seg_eq : SegEq ty gl laws_eqSampleS.F laws_eqSampleS.md laws_eqSampleS.T laws_eqSampleS.spec laws_eqSampleS.lb laws_eqSampleS.st laws_eqSampleS.step := by
  intro n goto y; cases y <;> kernel_rfl
theorem laws_eqSampleS.text : Text Go.Proofs.Tryz.prog laws_eqSampleS.F laws_eqSampleS.spec := textOf Go.Proofs.Tryz.f88
theorem laws_eqSampleS.ok : CtrOK Go.Proofs.Tryz.prog gl laws_eqSampleS.spec :=
  ctr_okS tabs laws_eqSampleS.text laws_eqSampleS.seg_eq (fun n x => ⟨.p0 x.1 x.2.1, rfl, rfl, rfl⟩) (consC laws_eqSample.ok (nilC))

/-! loop.example/g00039/laws.eqSeries -/
def laws_eqSeries.T : List Ctr := [laws_eqLabelS.spec, laws_eqSampleS.spec]
def laws_eqSeries.md : List (Nat × List Md) := []
noncomputable def laws_eqSeries.F : Fun := ⟨(Go.Proofs.Tryz.f48.body).getD .skip, [.v (.pair (.sl false (.pair .str (.pair .str .unit))) (.pair (.sl false (.pair (.int .i64) (.pair (.int .i64) .unit))) .unit)), .v (.pair (.sl false (.pair .str (.pair .str .unit))) (.pair (.sl false (.pair (.int .i64) (.pair (.int .i64) .unit))) .unit))], [(.tmp 4, .bool)], [], 0, []⟩
inductive laws_eqSeries.Pt where
  | p0 (a0 : (List ((ByteArray) × ((ByteArray) × (Unit)))) × ((List ((Int) × ((Int) × (Unit)))) × (Unit))) (a1 : (List ((ByteArray) × ((ByteArray) × (Unit)))) × ((List ((Int) × ((Int) × (Unit)))) × (Unit)))
def laws_eqSeries.lb : laws_eqSeries.Pt → Nat
  | .p0 _ _ => 0
def laws_eqSeries.st : laws_eqSeries.Pt → St
  | .p0 a0 a1 => enter [.v (.pair (.sl false (.pair .str (.pair .str .unit))) (.pair (.sl false (.pair (.int .i64) (.pair (.int .i64) .unit))) .unit)) a0, .v (.pair (.sl false (.pair .str (.pair .str .unit))) (.pair (.sl false (.pair (.int .i64) (.pair (.int .i64) .unit))) .unit)) a1] 0
def laws_eqSeries.step (n : Nat) (K : laws_eqSeries.Pt → Option (Tup [.bool])) : laws_eqSeries.Pt → Option (Tup [.bool])
  | .p0 a0 a1 => (laws_eqLabelS n a0.1 a1.1).bind fun r5 => cond (!r5) (some false) ((laws_eqSampleS n a0.2.1 a1.2.1).bind fun r6 => cond (!r6) (some false) (some true))
def laws_eqSeries (n : Nat) (a0 : (List ((ByteArray) × ((ByteArray) × (Unit)))) × ((List ((Int) × ((Int) × (Unit)))) × (Unit))) (a1 : (List ((ByteArray) × ((ByteArray) × (Unit)))) × ((List ((Int) × ((Int) × (Unit)))) × (Unit))) : Option (Tup [.bool]) := goRec laws_eqSeries.step n (.p0 a0 a1)
def laws_eqSeries.spec : Ctr := ⟨48, [.v (.pair (.sl false (.pair .str (.pair .str .unit))) (.pair (.sl false (.pair (.int .i64) (.pair (.int .i64) .unit))) .unit)), .v (.pair (.sl false (.pair .str (.pair .str .unit))) (.pair (.sl false (.pair (.int .i64) (.pair (.int .i64) .unit))) .unit))], [.bool], [], none, fun n x => laws_eqSeries n x.1 x.2.1⟩
theorem laws_eqSeries.seg_eq : SegEq ty gl laws_eqSeries.F laws_eqSeries.md laws_eqSeries.T laws_eqSeries.spec laws_eqSeries.lb laws_eqSeries.st laws_eqSeries.step := by
  intro n goto y; cases y <;> kernel_rfl
theorem laws_eqSeries.text : Text Go.Proofs.Tryz.prog laws_eqSeries.F laws_eqSeries.spec := textOf Go.Proofs.Tryz.f48
theorem laws_eqSeries.ok : CtrOK Go.Proofs.Tryz.prog gl laws_eqSeries.spec :=
  ctr_okS tabs laws_eqSeries.text laws_eqSeries.seg_eq (fun n x => ⟨.p0 x.1 x.2.1, rfl, rfl, rfl⟩) (consC laws_eqLabelS.ok (consC laws_eqSampleS.ok (nilC)))

/-! loop.example/g00039/laws.eqSeriesS -/
def laws_eqSeriesS.T : List Ctr := [laws_eqSeries.spec]
def laws_eqSeriesS.md : List (Nat × List Md) := []
noncomputable def laws_eqSeriesS.F : Fun := ⟨(Go.Proofs.Tryz.f11.body).getD .skip, [.v (.sl false (.pair (.sl false (.pair .str (.pair .str .unit))) (.pair (.sl false (.pair (.int .i64) (.pair (.int .i64) .unit))) .unit))), .v (.sl false (.pair (.sl false (.pair .str (.pair .str .unit))) (.pair (.sl false (.pair (.int .i64) (.pair (.int .i64) .unit))) .unit)))], [(.tmp 4, .bool)], [], 0, [(15, ⟨[0, 1, 5], [], [], false⟩)]⟩
inductive laws_eqSeriesS.Pt where
  | p0 (a0 : List ((List ((ByteArray) × ((ByteArray) × (Unit)))) × ((List ((Int) × ((Int) × (Unit)))) × (Unit)))) (a1 : List ((List ((ByteArray) × ((ByteArray) × (Unit)))) × ((List ((Int) × ((Int) × (Unit)))) × (Unit))))
  | p15 (y1 : List ((List ((ByteArray) × ((ByteArray) × (Unit)))) × ((List ((Int) × ((Int) × (Unit)))) × (Unit)))) (y2 : List ((List ((ByteArray) × ((ByteArray) × (Unit)))) × ((List ((Int) × ((Int) × (Unit)))) × (Unit)))) (y3 : Int)
def laws_eqSeriesS.lb : laws_eqSeriesS.Pt → Nat
  | .p0 _ _ => 0
  | .p15 _ _ _ => 15
def laws_eqSeriesS.st : laws_eqSeriesS.Pt → St
  | .p0 a0 a1 => enter [.v (.sl false (.pair (.sl false (.pair .str (.pair .str .unit))) (.pair (.sl false (.pair (.int .i64) (.pair (.int .i64) .unit))) .unit))) a0, .v (.sl false (.pair (.sl false (.pair .str (.pair .str .unit))) (.pair (.sl false (.pair (.int .i64) (.pair (.int .i64) .unit))) .unit))) a1] 0
  | .p15 y1 y2 y3 => ⟨[(0, .im (.sl false (.pair (.sl false (.pair .str (.pair .str .unit))) (.pair (.sl false (.pair (.int .i64) (.pair (.int .i64) .unit))) .unit))) y1), (1, .im (.sl false (.pair (.sl false (.pair .str (.pair .str .unit))) (.pair (.sl false (.pair (.int .i64) (.pair (.int .i64) .unit))) .unit))) y2), (5, .im (.int .i64) y3)], [], 0⟩
def laws_eqSeriesS.step (n : Nat) (K : laws_eqSeriesS.Pt → Option (Tup [.bool])) : laws_eqSeriesS.Pt → Option (Tup [.bool])
  | .p0 a0 a1 => cond (!(decide (((List.length a0) : Int) = ((List.length a1) : Int)))) (some false) (K (.p15 a0 a1 (0 : Int)))
  | .p15 y1 y2 y3 => cond (decide (y3 < ((List.length y1) : Int))) (cond (inB y3 (List.length y1)) (cond (inB y3 (List.length y2)) ((laws_eqSeries n ((List.getD y1 (Int.toNat y3) default).1, ((List.getD y1 (Int.toNat y3) default).2.1, ())) ((List.getD y2 (Int.toNat y3) default).1, ((List.getD y2 (Int.toNat y3) default).2.1, ()))).bind fun r6 => cond (!r6) (some false) (K (.p15 y1 y2 (IntKind.wrap .i64 (y3 + (1 : Int)))))) (none)) (none)) (some true)
def laws_eqSeriesS (n : Nat) (a0 : List ((List ((ByteArray) × ((ByteArray) × (Unit)))) × ((List ((Int) × ((Int) × (Unit)))) × (Unit)))) (a1 : List ((List ((ByteArray) × ((ByteArray) × (Unit)))) × ((List ((Int) × ((Int) × (Unit)))) × (Unit)))) : Option (Tup [.bool]) := goRec laws_eqSeriesS.step n (.p0 a0 a1)
def laws_eqSeriesS.spec : Ctr := ⟨11, [.v (.sl false (.pair (.sl false (.pair .str (.pair .str .unit))) (.pair (.sl false (.pair (.int .i64) (.pair (.int .i64) .unit))) .unit))), .v (.sl false (.pair (.sl false (.pair .str (.pair .str .unit))) (.pair (.sl false (.pair (.int .i64) (.pair (.int .i64) .unit))) .unit)))], [.bool], [], none, fun n x => laws_eqSeriesS n x.1 x.2.1⟩
theorem laws_eqSeriesS.seg_eq : SegEq ty gl laws_eqSeriesS.F laws_eqSeriesS.md laws_eqSeriesS.T laws_eqSeriesS.spec laws_eqSeriesS.lb laws_eqSeriesS.st laws_eqSeriesS.step := by
  intro n goto y; cases y <;> kernel_rfl
theorem laws_eqSeriesS.text : Text Go.Proofs.Tryz.prog laws_eqSeriesS.F laws_eqSeriesS.spec := textOf Go.Proofs.Tryz.f11
theorem laws_eqSeriesS.ok : CtrOK Go.Proofs.Tryz.prog gl laws_eqSeriesS.spec :=
  ctr_okS tabs laws_eqSeriesS.text laws_eqSeriesS.seg_eq (fun n x => ⟨.p0 x.1 x.2.1, rfl, rfl, rfl⟩) (consC laws_eqSeries.ok (nilC))

/-! loop.example/g00039/laws.eqMatcher -/
def laws_eqMatcher.T : List Ctr := []
def laws_eqMatcher.md : List (Nat × List Md) := []
noncomputable def laws_eqMatcher.F : Fun := ⟨(Go.Proofs.Tryz.f127.body).getD .skip, [.v (.pair .str (.pair (.int .i64) (.pair .str .unit))), .v (.pair .str (.pair (.int .i64) (.pair .str .unit)))], [(.tmp 4, .bool)], [], 0, []⟩
inductive laws_eqMatcher.Pt where
  | p0 (a0 : (ByteArray) × ((Int) × ((ByteArray) × (Unit)))) (a1 : (ByteArray) × ((Int) × ((ByteArray) × (Unit))))
def laws_eqMatcher.lb : laws_eqMatcher.Pt → Nat
  | .p0 _ _ => 0
def laws_eqMatcher.st : laws_eqMatcher.Pt → St
  | .p0 a0 a1 => enter [.v (.pair .str (.pair (.int .i64) (.pair .str .unit))) a0, .v (.pair .str (.pair (.int .i64) (.pair .str .unit))) a1] 0
def laws_eqMatcher.step (n : Nat) (K : laws_eqMatcher.Pt → Option (Tup [.bool])) : laws_eqMatcher.Pt → Option (Tup [.bool])
  | .p0 a0 a1 => cond (!(seq a0.1 a1.1)) (some false) (cond (!(decide (a0.2.1 = a1.2.1))) (some false) (cond (!(seq a0.2.2.1 a1.2.2.1)) (some false) (some true)))
def laws_eqMatcher (n : Nat) (a0 : (ByteArray) × ((Int) × ((ByteArray) × (Unit)))) (a1 : (ByteArray) × ((Int) × ((ByteArray) × (Unit)))) : Option (Tup [.bool]) := goRec laws_eqMatcher.step n (.p0 a0 a1)
def laws_eqMatcher.spec : Ctr := ⟨127, [.v (.pair .str (.pair (.int .i64) (.pair .str .unit))), .v (.pair .str (.pair (.int .i64) (.pair .str .unit)))], [.bool], [], none, fun n x => laws_eqMatcher n x.1 x.2.1⟩
theorem laws_eqMatcher.seg_eq : SegEq ty gl laws_eqMatcher.F laws_eqMatcher.md laws_eqMatcher.T laws_eqMatcher.spec laws_eqMatcher.lb laws_eqMatcher.st laws_eqMatcher.step := by
  intro n goto y; cases y <;> kernel_rfl
theorem laws_eqMatcher.text : Text Go.Proofs.Tryz.prog laws_eqMatcher.F laws_eqMatcher.spec := textOf Go.Proofs.Tryz.f127
theorem laws_eqMatcher.ok : CtrOK Go.Proofs.Tryz.prog gl laws_eqMatcher.spec :=
  ctr_okS tabs laws_eqMatcher.text laws_eqMatcher.seg_eq (fun n x => ⟨.p0 x.1 x.2.1, rfl, rfl, rfl⟩) (nilC)

/-! loop.example/g00039/laws.eqMatcherS -/
def laws_eqMatcherS.T : List Ctr := [laws_eqMatcher.spec]
def laws_eqMatcherS.md : List (Nat × List Md) := []
noncomputable def laws_eqMatcherS.F : Fun := ⟨(Go.Proofs.Tryz.f89.body).getD .skip, [.v (.sl false (.pair .str (.pair (.int .i64) (.pair .str .unit)))), .v (.sl false (.pair .str (.pair (.int .i64) (.pair .str .unit))))], [(.tmp 4, .bool)], [], 0, [(15, ⟨[0, 1, 5], [], [], false⟩)]⟩
inductive laws_eqMatcherS.Pt where
  | p0 (a0 : List ((ByteArray) × ((Int) × ((ByteArray) × (Unit))))) (a1 : List ((ByteArray) × ((Int) × ((ByteArray) × (Unit)))))
  | p15 (y1 : List ((ByteArray) × ((Int) × ((ByteArray) × (Unit))))) (y2 : List ((ByteArray) × ((Int) × ((ByteArray) × (Unit))))) (y3 : Int)
def laws_eqMatcherS.lb : laws_eqMatcherS.Pt → Nat
  | .p0 _ _ => 0
  | .p15 _ _ _ => 15
def laws_eqMatcherS.st : laws_eqMatcherS.Pt → St
  | .p0 a0 a1 => enter [.v (.sl false (.pair .str (.pair (.int .i64) (.pair .str .unit)))) a0, .v (.sl false (.pair .str (.pair (.int .i64) (.pair .str .unit)))) a1] 0
  | .p15 y1 y2 y3 => ⟨[(0, .im (.sl false (.pair .str (.pair (.int .i64) (.pair .str .unit)))) y1), (1, .im (.sl false (.pair .str (.pair (.int .i64) (.pair .str .unit)))) y2), (5, .im (.int .i64) y3)], [], 0⟩
def laws_eqMatcherS.step (n : Nat) (K : laws_eqMatcherS.Pt → Option (Tup [.bool])) : laws_eqMatcherS.Pt → Option (Tup [.bool])
  | .p0 a0 a1 => cond (!(decide (((List.length a0) : Int) = ((List.length a1) : Int)))) (some false) (K (.p15 a0 a1 (0 : Int)))
  | .p15 y1 y2 y3 => cond (decide (y3 < ((List.length y1) : Int))) (cond (inB y3 (List.length y1)) (cond (inB y3 (List.length y2)) ((laws_eqMatcher n (List.getD y1 (Int.toNat y3) default) (List.getD y2 (Int.toNat y3) default)).bind fun r6 => cond (!r6) (some false) (K (.p15 y1 y2 (IntKind.wrap .i64 (y3 + (1 : Int)))))) (none)) (none)) (some true)
def laws_eqMatcherS (n : Nat) (a0 : List ((ByteArray) × ((Int) × ((ByteArray) × (Unit))))) (a1 : List ((ByteArray) × ((Int) × ((ByteArray) × (Unit))))) : Option (Tup [.bool]) := goRec laws_eqMatcherS.step n (.p0 a0 a1)
def laws_eqMatcherS.spec : Ctr := ⟨89, [.v (.sl false (.pair .str (.pair (.int .i64) (.pair .str .unit)))), .v (.sl false (.pair .str (.pair (.int .i64) (.pair .str .unit))))], [.bool], [], none, fun n x => laws_eqMatcherS n x.1 x.2.1⟩
theorem laws_eqMatcherS.seg_eq : SegEq ty gl laws_eqMatcherS.F laws_eqMatcherS.md laws_eqMatcherS.T laws_eqMatcherS.spec laws_eqMatcherS.lb laws_eqMatcherS.st laws_eqMatcherS.step := by
  intro n goto y; cases y <;> kernel_rfl
theorem laws_eqMatcherS.text : Text Go.Proofs.Tryz.prog laws_eqMatcherS.F laws_eqMatcherS.spec := textOf Go.Proofs.Tryz.f89
theorem laws_eqMatcherS.ok : CtrOK Go.Proofs.Tryz.prog gl laws_eqMatcherS.spec :=
  ctr_okS tabs laws_eqMatcherS.text laws_eqMatcherS.seg_eq (fun n x => ⟨.p0 x.1 x.2.1, rfl, rfl, rfl⟩) (consC laws_eqMatcher.ok (nilC))

/-! loop.example/g00039/laws.eqNeed -/
def laws_eqNeed.T : List Ctr := [laws_eqMatcherS.spec]
def laws_eqNeed.md : List (Nat × List Md) := []
noncomputable def laws_eqNeed.F : Fun := ⟨(Go.Proofs.Tryz.f49.body).getD .skip, [.v (.pair (.sl false (.pair .str (.pair (.int .i64) (.pair .str .unit)))) (.pair (.int .i64) (.pair (.int .i64) .unit))), .v (.pair (.sl false (.pair .str (.pair (.int .i64) (.pair .str .unit)))) (.pair (.int .i64) (.pair (.int .i64) .unit)))], [(.tmp 4, .bool)], [], 0, []⟩
inductive laws_eqNeed.Pt where
  | p0 (a0 : (List ((ByteArray) × ((Int) × ((ByteArray) × (Unit))))) × ((Int) × ((Int) × (Unit)))) (a1 : (List ((ByteArray) × ((Int) × ((ByteArray) × (Unit))))) × ((Int) × ((Int) × (Unit))))
def laws_eqNeed.lb : laws_eqNeed.Pt → Nat
  | .p0 _ _ => 0
def laws_eqNeed.st : laws_eqNeed.Pt → St
  | .p0 a0 a1 => enter [.v (.pair (.sl false (.pair .str (.pair (.int .i64) (.pair .str .unit)))) (.pair (.int .i64) (.pair (.int .i64) .unit))) a0, .v (.pair (.sl false (.pair .str (.pair (.int .i64) (.pair .str .unit)))) (.pair (.int .i64) (.pair (.int .i64) .unit))) a1] 0
def laws_eqNeed.step (n : Nat) (K : laws_eqNeed.Pt → Option (Tup [.bool])) : laws_eqNeed.Pt → Option (Tup [.bool])
  | .p0 a0 a1 => (laws_eqMatcherS n a0.1 a1.1).bind fun r5 => cond (!r5) (some false) (cond (!(decide (a0.2.1 = a1.2.1))) (some false) (cond (!(decide (a0.2.2.1 = a1.2.2.1))) (some false) (some true)))
def laws_eqNeed (n : Nat) (a0 : (List ((ByteArray) × ((Int) × ((ByteArray) × (Unit))))) × ((Int) × ((Int) × (Unit)))) (a1 : (List ((ByteArray) × ((Int) × ((ByteArray) × (Unit))))) × ((Int) × ((Int) × (Unit)))) : Option (Tup [.bool]) := goRec laws_eqNeed.step n (.p0 a0 a1)
def laws_eqNeed.spec : Ctr := ⟨49, [.v (.pair (.sl false (.pair .str (.pair (.int .i64) (.pair .str .unit)))) (.pair (.int .i64) (.pair (.int .i64) .unit))), .v (.pair (.sl false (.pair .str (.pair (.int .i64) (.pair .str .unit)))) (.pair (.int .i64) (.pair (.int .i64) .unit)))], [.bool], [], none, fun n x => laws_eqNeed n x.1 x.2.1⟩
theorem laws_eqNeed.seg_eq : SegEq ty gl laws_eqNeed.F laws_eqNeed.md laws_eqNeed.T laws_eqNeed.spec laws_eqNeed.lb laws_eqNeed.st laws_eqNeed.step := by
  intro n goto y; cases y <;> kernel_rfl
theorem laws_eqNeed.text : Text Go.Proofs.Tryz.prog laws_eqNeed.F laws_eqNeed.spec := textOf Go.Proofs.Tryz.f49
theorem laws_eqNeed.ok : CtrOK Go.Proofs.Tryz.prog gl laws_eqNeed.spec :=
  ctr_okS tabs laws_eqNeed.text laws_eqNeed.seg_eq (fun n x => ⟨.p0 x.1 x.2.1, rfl, rfl, rfl⟩) (consC laws_eqMatcherS.ok (nilC))

/-! loop.example/g00039/laws.eqNeedS -/
def laws_eqNeedS.T : List Ctr := [laws_eqNeed.spec]
def laws_eqNeedS.md : List (Nat × List Md) := []
noncomputable def laws_eqNeedS.F : Fun := ⟨(Go.Proofs.Tryz.f12.body).getD .skip, [.v (.sl false (.pair (.sl false (.pair .str (.pair (.int .i64) (.pair .str .unit)))) (.pair (.int .i64) (.pair (.int .i64) .unit)))), .v (.sl false (.pair (.sl false (.pair .str (.pair (.int .i64) (.pair .str .unit)))) (.pair (.int .i64) (.pair (.int .i64) .unit))))], [(.tmp 4, .bool)], [], 0, [(15, ⟨[0, 1, 5], [], [], false⟩)]⟩
inductive laws_eqNeedS.Pt where
  | p0 (a0 : List ((List ((ByteArray) × ((Int) × ((ByteArray) × (Unit))))) × ((Int) × ((Int) × (Unit))))) (a1 : List ((List ((ByteArray) × ((Int) × ((ByteArray) × (Unit))))) × ((Int) × ((Int) × (Unit)))))
  | p15 (y1 : List ((List ((ByteArray) × ((Int) × ((ByteArray) × (Unit))))) × ((Int) × ((Int) × (Unit))))) (y2 : List ((List ((ByteArray) × ((Int) × ((ByteArray) × (Unit))))) × ((Int) × ((Int) × (Unit))))) (y3 : Int)
def laws_eqNeedS.lb : laws_eqNeedS.Pt → Nat
  | .p0 _ _ => 0
  | .p15 _ _ _ => 15
def laws_eqNeedS.st : laws_eqNeedS.Pt → St
  | .p0 a0 a1 => enter [.v (.sl false (.pair (.sl false (.pair .str (.pair (.int .i64) (.pair .str .unit)))) (.pair (.int .i64) (.pair (.int .i64) .unit)))) a0, .v (.sl false (.pair (.sl false (.pair .str (.pair (.int .i64) (.pair .str .unit)))) (.pair (.int .i64) (.pair (.int .i64) .unit)))) a1] 0
  | .p15 y1 y2 y3 => ⟨[(0, .im (.sl false (.pair (.sl false (.pair .str (.pair (.int .i64) (.pair .str .unit)))) (.pair (.int .i64) (.pair (.int .i64) .unit)))) y1), (1, .im (.sl false (.pair (.sl false (.pair .str (.pair (.int .i64) (.pair .str .unit)))) (.pair (.int .i64) (.pair (.int .i64) .unit)))) y2), (5, .im (.int .i64) y3)], [], 0⟩
def laws_eqNeedS.step (n : Nat) (K : laws_eqNeedS.Pt → Option (Tup [.bool])) : laws_eqNeedS.Pt → Option (Tup [.bool])
  | .p0 a0 a1 => cond (!(decide (((List.length a0) : Int) = ((List.length a1) : Int)))) (some false) (K (.p15 a0 a1 (0 : Int)))
  | .p15 y1 y2 y3 => cond (decide (y3 < ((List.length y1) : Int))) (cond (inB y3 (List.length y1)) (cond (inB y3 (List.length y2)) ((laws_eqNeed n ((List.getD y1 (Int.toNat y3) default).1, (List.getD y1 (Int.toNat y3) default).2) ((List.getD y2 (Int.toNat y3) default).1, (List.getD y2 (Int.toNat y3) default).2)).bind fun r6 => cond (!r6) (some false) (K (.p15 y1 y2 (IntKind.wrap .i64 (y3 + (1 : Int)))))) (none)) (none)) (some true)
def laws_eqNeedS (n : Nat) (a0 : List ((List ((ByteArray) × ((Int) × ((ByteArray) × (Unit))))) × ((Int) × ((Int) × (Unit))))) (a1 : List ((List ((ByteArray) × ((Int) × ((ByteArray) × (Unit))))) × ((Int) × ((Int) × (Unit))))) : Option (Tup [.bool]) := goRec laws_eqNeedS.step n (.p0 a0 a1)
def laws_eqNeedS.spec : Ctr := ⟨12, [.v (.sl false (.pair (.sl false (.pair .str (.pair (.int .i64) (.pair .str .unit)))) (.pair (.int .i64) (.pair (.int .i64) .unit)))), .v (.sl false (.pair (.sl false (.pair .str (.pair (.int .i64) (.pair .str .unit)))) (.pair (.int .i64) (.pair (.int .i64) .unit))))], [.bool], [], none, fun n x => laws_eqNeedS n x.1 x.2.1⟩
theorem laws_eqNeedS.seg_eq : SegEq ty gl laws_eqNeedS.F laws_eqNeedS.md laws_eqNeedS.T laws_eqNeedS.spec laws_eqNeedS.lb laws_eqNeedS.st laws_eqNeedS.step := by
  intro n goto y; cases y <;> kernel_rfl
theorem laws_eqNeedS.text : Text Go.Proofs.Tryz.prog laws_eqNeedS.F laws_eqNeedS.spec := textOf Go.Proofs.Tryz.f12
theorem laws_eqNeedS.ok : CtrOK Go.Proofs.Tryz.prog gl laws_eqNeedS.spec :=
  ctr_okS tabs laws_eqNeedS.text laws_eqNeedS.seg_eq (fun n x => ⟨.p0 x.1 x.2.1, rfl, rfl, rfl⟩) (consC laws_eqNeed.ok (nilC))

/-! loop.example/g00039/laws.markText -/
def laws_markText.T : List Ctr := []
def laws_markText.md : List (Nat × List Md) := []
noncomputable def laws_markText.F : Fun := ⟨(Go.Proofs.Tryz.f90.body).getD .skip, [.v (.int .i64)], [(.tmp 2, .str)], [], 0, [(15, ⟨[0, 3], [], [], false⟩)]⟩
inductive laws_markText.Pt where
  | p0 (a0 : Int)
  | p15 (y1 : Int) (y2 : ByteArray)
def laws_markText.lb : laws_markText.Pt → Nat
  | .p0 _ => 0
  | .p15 _ _ => 15
def laws_markText.st : laws_markText.Pt → St
  | .p0 a0 => enter [.v (.int .i64) a0] 0
  | .p15 y1 y2 => ⟨[(0, .im (.int .i64) y1), (3, .im .str y2)], [], 0⟩
def laws_markText.step (n : Nat) (K : laws_markText.Pt → Option (Tup [.str])) : laws_markText.Pt → Option (Tup [.str])
  | .p0 a0 => cond (decide (a0 ≤ (0 : Int))) (some (⟨#[109, 48]⟩ : ByteArray)) (K (.p15 a0 (⟨#[]⟩ : ByteArray)))
  | .p15 y1 y2 => cond (decide ((0 : Int) < y1)) (cond (room ((ByteArray.size (ofOcts [(IntKind.wrap .u8 (IntKind.wrap .i64 ((48 : Int) + (Int.tmod y1 (10 : Int)))))])) + (ByteArray.size y2))) (K (.p15 (IntKind.wrap .i64 (Int.tdiv y1 (10 : Int))) ((ofOcts [(IntKind.wrap .u8 (IntKind.wrap .i64 ((48 : Int) + (Int.tmod y1 (10 : Int)))))]) ++ y2))) (none)) (cond (room ((ByteArray.size (⟨#[109]⟩ : ByteArray)) + (ByteArray.size y2))) (some ((⟨#[109]⟩ : ByteArray) ++ y2)) (none))
def laws_markText (n : Nat) (a0 : Int) : Option (Tup [.str]) := goRec laws_markText.step n (.p0 a0)
def laws_markText.spec : Ctr := ⟨90, [.v (.int .i64)], [.str], [], none, fun n x => laws_markText n x.1⟩
theorem laws_markText.seg_eq : SegEq ty gl laws_markText.F laws_markText.md laws_markText.T laws_markText.spec laws_markText.lb laws_markText.st laws_markText.step := by
  intro n goto y; cases y <;> kernel_rfl
theorem laws_markText.text : Text Go.Proofs.Tryz.prog laws_markText.F laws_markText.spec := textOf Go.Proofs.Tryz.f90
theorem laws_markText.ok : CtrOK Go.Proofs.Tryz.prog gl laws_markText.spec :=
  ctr_okS tabs laws_markText.text laws_markText.seg_eq (fun n x => ⟨.p0 x.1, rfl, rfl, rfl⟩) (nilC)

/-! loop.example/g00039/laws.markLabelS -/
def laws_markLabelS.T : List Ctr := [laws_markText.spec]
def laws_markLabelS.md : List (Nat × List Md) := []
noncomputable def laws_markLabelS.F : Fun := ⟨(Go.Proofs.Tryz.f50.body).getD .skip, [.s false (.pair .str (.pair .str .unit)), .v (.int .i64)], [(.tmp 4, (.int .i64))], [none], 1, [(7, ⟨[0, 1, 5], [], [], false⟩)]⟩
inductive laws_markLabelS.Pt where
  | p0 (a0 : List ((ByteArray) × ((ByteArray) × (Unit)))) (a1 : Int)
  | p7 (y1 : Int) (y2 : Int) (y3 : List ((ByteArray) × ((ByteArray) × (Unit))))
def laws_markLabelS.lb : laws_markLabelS.Pt → Nat
  | .p0 _ _ => 0
  | .p7 _ _ _ => 7
def laws_markLabelS.st : laws_markLabelS.Pt → St
  | .p0 a0 a1 => enter [.s false (.pair .str (.pair .str .unit)) a0, .v (.int .i64) a1] 1
  | .p7 y1 y2 y3 => ⟨[(0, .hs 0 [] none 0), (1, .im (.int .i64) y1), (5, .im (.int .i64) y2)], [(0, .arr false (.pair .str (.pair .str .unit)) y3 0)], 1⟩
def laws_markLabelS.step (n : Nat) (K : laws_markLabelS.Pt → Option (Tup [(.int .i64), (.sl false (.pair .str (.pair .str .unit)))])) : laws_markLabelS.Pt → Option (Tup [(.int .i64), (.sl false (.pair .str (.pair .str .unit)))])
  | .p0 a0 a1 => K (.p7 a1 (0 : Int) a0)
  | .p7 y1 y2 y3 => cond (decide (y2 < ((List.length y3) : Int))) ((laws_markText n y1).bind fun r6 => cond (inB y2 (List.length y3)) ((laws_markText n (IntKind.wrap .i64 (y1 + (1 : Int)))).bind fun r7 => cond (inB y2 (List.length (List.set y3 (0 + (Int.toNat y2)) (r6, (List.getD y3 (0 + (Int.toNat y2)) default).2)))) (K (.p7 (IntKind.wrap .i64 ((IntKind.wrap .i64 (y1 + (1 : Int))) + (1 : Int))) (IntKind.wrap .i64 (y2 + (1 : Int))) (List.set (List.set y3 (0 + (Int.toNat y2)) (r6, (List.getD y3 (0 + (Int.toNat y2)) default).2)) (0 + (Int.toNat y2)) ((List.getD (List.set y3 (0 + (Int.toNat y2)) (r6, (List.getD y3 (0 + (Int.toNat y2)) default).2)) (0 + (Int.toNat y2)) default).1, (r7, (List.getD (List.set y3 (0 + (Int.toNat y2)) (r6, (List.getD y3 (0 + (Int.toNat y2)) default).2)) (0 + (Int.toNat y2)) default).2.2))))) (none)) (none)) (some (y1, y3))
def laws_markLabelS (n : Nat) (a0 : List ((ByteArray) × ((ByteArray) × (Unit)))) (a1 : Int) : Option (Tup [(.int .i64), (.sl false (.pair .str (.pair .str .unit)))]) := goRec laws_markLabelS.step n (.p0 a0 a1)
def laws_markLabelS.spec : Ctr := ⟨50, [.s false (.pair .str (.pair .str .unit)), .v (.int .i64)], [(.int .i64)], [(.sl false (.pair .str (.pair .str .unit)))], none, fun n x => laws_markLabelS n x.1 x.2.1⟩
theorem laws_markLabelS.seg_eq : SegEq ty gl laws_markLabelS.F laws_markLabelS.md laws_markLabelS.T laws_markLabelS.spec laws_markLabelS.lb laws_markLabelS.st laws_markLabelS.step := by
  intro n goto y; cases y <;> kernel_rfl
theorem laws_markLabelS.text : Text Go.Proofs.Tryz.prog laws_markLabelS.F laws_markLabelS.spec := textOf Go.Proofs.Tryz.f50
theorem laws_markLabelS.ok : CtrOK Go.Proofs.Tryz.prog gl laws_markLabelS.spec :=
  ctr_okS tabs laws_markLabelS.text laws_markLabelS.seg_eq (fun n x => ⟨.p0 x.1 x.2.1, rfl, rfl, rfl⟩) (consC laws_markText.ok (nilC))

/-! loop.example/g00039/laws.markSampleS -/
def laws_markSampleS.T : List Ctr := []
def laws_markSampleS.md : List (Nat × List Md) := []
noncomputable def laws_markSampleS.F : Fun := ⟨(Go.Proofs.Tryz.f51.body).getD .skip, [.s false (.pair (.int .i64) (.pair (.int .i64) .unit)), .v (.int .i64)], [(.tmp 4, (.int .i64))], [none], 1, [(7, ⟨[0, 1, 5], [], [], false⟩)]⟩
inductive laws_markSampleS.Pt where
  | p0 (a0 : List ((Int) × ((Int) × (Unit)))) (a1 : Int)
  | p7 (y1 : Int) (y2 : Int) (y3 : List ((Int) × ((Int) × (Unit))))
def laws_markSampleS.lb : laws_markSampleS.Pt → Nat
  | .p0 _ _ => 0
  | .p7 _ _ _ => 7
def laws_markSampleS.st : laws_markSampleS.Pt → St
  | .p0 a0 a1 => enter [.s false (.pair (.int .i64) (.pair (.int .i64) .unit)) a0, .v (.int .i64) a1] 1
  | .p7 y1 y2 y3 => ⟨[(0, .hs 0 [] none 0), (1, .im (.int .i64) y1), (5, .im (.int .i64) y2)], [(0, .arr false (.pair (.int .i64) (.pair (.int .i64) .unit)) y3 0)], 1⟩
def laws_markSampleS.step (n : Nat) (K : laws_markSampleS.Pt → Option (Tup [(.int .i64), (.sl false (.pair (.int .i64) (.pair (.int .i64) .unit)))])) : laws_markSampleS.Pt → Option (Tup [(.int .i64), (.sl false (.pair (.int .i64) (.pair (.int .i64) .unit)))])
  | .p0 a0 a1 => K (.p7 a1 (0 : Int) a0)
  | .p7 y1 y2 y3 => cond (decide (y2 < ((List.length y3) : Int))) (cond (inB y2 (List.length y3)) (cond (inB y2 (List.length (List.set y3 (0 + (Int.toNat y2)) (y1, (List.getD y3 (0 + (Int.toNat y2)) default).2)))) (let mm0 := (List.set (List.set y3 (0 + (Int.toNat y2)) (y1, (List.getD y3 (0 + (Int.toNat y2)) default).2)) (0 + (Int.toNat y2)) ((List.getD (List.set y3 (0 + (Int.toNat y2)) (y1, (List.getD y3 (0 + (Int.toNat y2)) default).2)) (0 + (Int.toNat y2)) default).1, ((IntKind.wrap .i64 (y1 + (1 : Int))), (List.getD (List.set y3 (0 + (Int.toNat y2)) (y1, (List.getD y3 (0 + (Int.toNat y2)) default).2)) (0 + (Int.toNat y2)) default).2.2))); K (.p7 (IntKind.wrap .i64 ((IntKind.wrap .i64 (y1 + (1 : Int))) + (1 : Int))) (IntKind.wrap .i64 (y2 + (1 : Int))) mm0)) (none)) (none)) (some (y1, y3))
def laws_markSampleS (n : Nat) (a0 : List ((Int) × ((Int) × (Unit)))) (a1 : Int) : Option (Tup [(.int .i64), (.sl false (.pair (.int .i64) (.pair (.int .i64) .unit)))]) := goRec laws_markSampleS.step n (.p0 a0 a1)
def laws_markSampleS.spec : Ctr := ⟨51, [.s false (.pair (.int .i64) (.pair (.int .i64) .unit)), .v (.int .i64)], [(.int .i64)], [(.sl false (.pair (.int .i64) (.pair (.int .i64) .unit)))], none, fun n x => laws_markSampleS n x.1 x.2.1⟩
theorem laws_markSampleS.seg_eq : SegEq ty gl laws_markSampleS.F laws_markSampleS.md laws_markSampleS.T laws_markSampleS.spec laws_markSampleS.lb laws_markSampleS.st laws_markSampleS.step := by
  intro n goto y; cases y <;> kernel_rfl
theorem laws_markSampleS.text : Text Go.Proofs.Tryz.prog laws_markSampleS.F laws_markSampleS.spec := textOf Go.Proofs.Tryz.f51
theorem laws_markSampleS.ok : CtrOK Go.Proofs.Tryz.prog gl laws_markSampleS.spec :=
  ctr_okS tabs laws_markSampleS.text laws_markSampleS.seg_eq (fun n x => ⟨.p0 x.1 x.2.1, rfl, rfl, rfl⟩) (nilC)

/-! loop.example/g00039/laws.markSeriesS -/
def laws_markSeriesS.T : List Ctr := [laws_markLabelS.spec, laws_markSampleS.spec]
def laws_markSeriesS.md : List (Nat × List Md) := [(50, [.s, .v]), (51, [.s, .v])]
noncomputable def laws_markSeriesS.F : Fun := ⟨(Go.Proofs.Tryz.f13.body).getD .skip, [.s false (.pair (.sl false (.pair .str (.pair .str .unit))) (.pair (.sl false (.pair (.int .i64) (.pair (.int .i64) .unit))) .unit)), .v (.int .i64)], [(.tmp 4, (.int .i64))], [none], 1, [(7, ⟨[0, 1, 5], [], [], false⟩)]⟩
inductive laws_markSeriesS.Pt where
  | p0 (a0 : List ((List ((ByteArray) × ((ByteArray) × (Unit)))) × ((List ((Int) × ((Int) × (Unit)))) × (Unit)))) (a1 : Int)
  | p7 (y1 : Int) (y2 : Int) (y3 : List ((List ((ByteArray) × ((ByteArray) × (Unit)))) × ((List ((Int) × ((Int) × (Unit)))) × (Unit))))
def laws_markSeriesS.lb : laws_markSeriesS.Pt → Nat
  | .p0 _ _ => 0
  | .p7 _ _ _ => 7
def laws_markSeriesS.st : laws_markSeriesS.Pt → St
  | .p0 a0 a1 => enter [.s false (.pair (.sl false (.pair .str (.pair .str .unit))) (.pair (.sl false (.pair (.int .i64) (.pair (.int .i64) .unit))) .unit)) a0, .v (.int .i64) a1] 1
  | .p7 y1 y2 y3 => ⟨[(0, .hs 0 [] none 0), (1, .im (.int .i64) y1), (5, .im (.int .i64) y2)], [(0, .arr false (.pair (.sl false (.pair .str (.pair .str .unit))) (.pair (.sl false (.pair (.int .i64) (.pair (.int .i64) .unit))) .unit)) y3 0)], 1⟩
def laws_markSeriesS.step (n : Nat) (K : laws_markSeriesS.Pt → Option (Tup [(.int .i64), (.sl false (.pair (.sl false (.pair .str (.pair .str .unit))) (.pair (.sl false (.pair (.int .i64) (.pair (.int .i64) .unit))) .unit)))])) : laws_markSeriesS.Pt → Option (Tup [(.int .i64), (.sl false (.pair (.sl false (.pair .str (.pair .str .unit))) (.pair (.sl false (.pair (.int .i64) (.pair (.int .i64) .unit))) .unit)))])
  | .p0 a0 a1 => K (.p7 a1 (0 : Int) a0)
  | .p7 y1 y2 y3 => cond (decide (y2 < ((List.length y3) : Int))) (cond (inB y2 (List.length y3)) ((laws_markLabelS n (List.getD y3 (0 + (Int.toNat y2)) default).1 y1).bind fun r6 => cond (inB y2 (List.length (List.set y3 (0 + (Int.toNat y2)) (r6.2, (List.getD y3 (0 + (Int.toNat y2)) default).2)))) ((laws_markSampleS n (List.getD (List.set y3 (0 + (Int.toNat y2)) (r6.2, (List.getD y3 (0 + (Int.toNat y2)) default).2)) (0 + (Int.toNat y2)) default).2.1 r6.1).bind fun r7 => K (.p7 r7.1 (IntKind.wrap .i64 (y2 + (1 : Int))) (List.set (List.set y3 (0 + (Int.toNat y2)) (r6.2, (List.getD y3 (0 + (Int.toNat y2)) default).2)) (0 + (Int.toNat y2)) ((List.getD (List.set y3 (0 + (Int.toNat y2)) (r6.2, (List.getD y3 (0 + (Int.toNat y2)) default).2)) (0 + (Int.toNat y2)) default).1, (r7.2, (List.getD (List.set y3 (0 + (Int.toNat y2)) (r6.2, (List.getD y3 (0 + (Int.toNat y2)) default).2)) (0 + (Int.toNat y2)) default).2.2))))) (none)) (none)) (some (y1, y3))
def laws_markSeriesS (n : Nat) (a0 : List ((List ((ByteArray) × ((ByteArray) × (Unit)))) × ((List ((Int) × ((Int) × (Unit)))) × (Unit)))) (a1 : Int) : Option (Tup [(.int .i64), (.sl false (.pair (.sl false (.pair .str (.pair .str .unit))) (.pair (.sl false (.pair (.int .i64) (.pair (.int .i64) .unit))) .unit)))]) := goRec laws_markSeriesS.step n (.p0 a0 a1)
def laws_markSeriesS.spec : Ctr := ⟨13, [.s false (.pair (.sl false (.pair .str (.pair .str .unit))) (.pair (.sl false (.pair (.int .i64) (.pair (.int .i64) .unit))) .unit)), .v (.int .i64)], [(.int .i64)], [(.sl false (.pair (.sl false (.pair .str (.pair .str .unit))) (.pair (.sl false (.pair (.int .i64) (.pair (.int .i64) .unit))) .unit)))], none, fun n x => laws_markSeriesS n x.1 x.2.1⟩
theorem laws_markSeriesS.seg_eq : SegEq ty gl laws_markSeriesS.F laws_markSeriesS.md laws_markSeriesS.T laws_markSeriesS.spec laws_markSeriesS.lb laws_markSeriesS.st laws_markSeriesS.step := by
  intro n goto y; cases y <;> kernel_rfl
theorem laws_markSeriesS.text : Text Go.Proofs.Tryz.prog laws_markSeriesS.F laws_markSeriesS.spec := textOf Go.Proofs.Tryz.f13
theorem laws_markSeriesS.ok : CtrOK Go.Proofs.Tryz.prog gl laws_markSeriesS.spec :=
  ctr_okS tabs laws_markSeriesS.text laws_markSeriesS.seg_eq (fun n x => ⟨.p0 x.1 x.2.1, rfl, rfl, rfl⟩) (consC laws_markLabelS.ok (consC laws_markSampleS.ok (nilC)))

/-! loop.example/g00039/laws.markMatcherS -/
def laws_markMatcherS.T : List Ctr := [laws_markText.spec]
def laws_markMatcherS.md : List (Nat × List Md) := []
noncomputable def laws_markMatcherS.F : Fun := ⟨(Go.Proofs.Tryz.f52.body).getD .skip, [.s false (.pair .str (.pair (.int .i64) (.pair .str .unit))), .v (.int .i64)], [(.tmp 4, (.int .i64))], [none], 1, [(7, ⟨[0, 1, 5], [], [], false⟩)]⟩
inductive laws_markMatcherS.Pt where
  | p0 (a0 : List ((ByteArray) × ((Int) × ((ByteArray) × (Unit))))) (a1 : Int)
  | p7 (y1 : Int) (y2 : Int) (y3 : List ((ByteArray) × ((Int) × ((ByteArray) × (Unit)))))
def laws_markMatcherS.lb : laws_markMatcherS.Pt → Nat
  | .p0 _ _ => 0
  | .p7 _ _ _ => 7
def laws_markMatcherS.st : laws_markMatcherS.Pt → St
  | .p0 a0 a1 => enter [.s false (.pair .str (.pair (.int .i64) (.pair .str .unit))) a0, .v (.int .i64) a1] 1
  | .p7 y1 y2 y3 => ⟨[(0, .hs 0 [] none 0), (1, .im (.int .i64) y1), (5, .im (.int .i64) y2)], [(0, .arr false (.pair .str (.pair (.int .i64) (.pair .str .unit))) y3 0)], 1⟩
def laws_markMatcherS.step (n : Nat) (K : laws_markMatcherS.Pt → Option (Tup [(.int .i64), (.sl false (.pair .str (.pair (.int .i64) (.pair .str .unit))))])) : laws_markMatcherS.Pt → Option (Tup [(.int .i64), (.sl false (.pair .str (.pair (.int .i64) (.pair .str .unit))))])
  | .p0 a0 a1 => K (.p7 a1 (0 : Int) a0)
  | .p7 y1 y2 y3 => cond (decide (y2 < ((List.length y3) : Int))) ((laws_markText n y1).bind fun r6 => cond (inB y2 (List.length y3)) (cond (inB y2 (List.length (List.set y3 (0 + (Int.toNat y2)) (r6, (List.getD y3 (0 + (Int.toNat y2)) default).2)))) ((laws_markText n (IntKind.wrap .i64 ((IntKind.wrap .i64 (y1 + (1 : Int))) + (1 : Int)))).bind fun r7 => let mm0 := (List.set (List.set y3 (0 + (Int.toNat y2)) (r6, (List.getD y3 (0 + (Int.toNat y2)) default).2)) (0 + (Int.toNat y2)) ((List.getD (List.set y3 (0 + (Int.toNat y2)) (r6, (List.getD y3 (0 + (Int.toNat y2)) default).2)) (0 + (Int.toNat y2)) default).1, ((IntKind.wrap .i64 (y1 + (1 : Int))), (List.getD (List.set y3 (0 + (Int.toNat y2)) (r6, (List.getD y3 (0 + (Int.toNat y2)) default).2)) (0 + (Int.toNat y2)) default).2.2))); cond (inB y2 (List.length mm0)) (K (.p7 (IntKind.wrap .i64 ((IntKind.wrap .i64 ((IntKind.wrap .i64 (y1 + (1 : Int))) + (1 : Int))) + (1 : Int))) (IntKind.wrap .i64 (y2 + (1 : Int))) (List.set mm0 (0 + (Int.toNat y2)) ((List.getD mm0 (0 + (Int.toNat y2)) default).1, ((List.getD mm0 (0 + (Int.toNat y2)) default).2.1, (r7, (List.getD mm0 (0 + (Int.toNat y2)) default).2.2.2)))))) (none)) (none)) (none)) (some (y1, y3))
def laws_markMatcherS (n : Nat) (a0 : List ((ByteArray) × ((Int) × ((ByteArray) × (Unit))))) (a1 : Int) : Option (Tup [(.int .i64), (.sl false (.pair .str (.pair (.int .i64) (.pair .str .unit))))]) := goRec laws_markMatcherS.step n (.p0 a0 a1)
def laws_markMatcherS.spec : Ctr := ⟨52, [.s false (.pair .str (.pair (.int .i64) (.pair .str .unit))), .v (.int .i64)], [(.int .i64)], [(.sl false (.pair .str (.pair (.int .i64) (.pair .str .unit))))], none, fun n x => laws_markMatcherS n x.1 x.2.1⟩
theorem laws_markMatcherS.seg_eq : SegEq ty gl laws_markMatcherS.F laws_markMatcherS.md laws_markMatcherS.T laws_markMatcherS.spec laws_markMatcherS.lb laws_markMatcherS.st laws_markMatcherS.step := by
  intro n goto y; cases y <;> kernel_rfl
theorem laws_markMatcherS.text : Text Go.Proofs.Tryz.prog laws_markMatcherS.F laws_markMatcherS.spec := textOf Go.Proofs.Tryz.f52
theorem laws_markMatcherS.ok : CtrOK Go.Proofs.Tryz.prog gl laws_markMatcherS.spec :=
  ctr_okS tabs laws_markMatcherS.text laws_markMatcherS.seg_eq (fun n x => ⟨.p0 x.1 x.2.1, rfl, rfl, rfl⟩) (consC laws_markText.ok (nilC))

/-! loop.example/g00039/laws.markNeedS -/
def laws_markNeedS.T : List Ctr := [laws_markMatcherS.spec]
def laws_markNeedS.md : List (Nat × List Md) := [(52, [.s, .v])]
noncomputable def laws_markNeedS.F : Fun := ⟨(Go.Proofs.Tryz.f14.body).getD .skip, [.s false (.pair (.sl false (.pair .str (.pair (.int .i64) (.pair .str .unit)))) (.pair (.int .i64) (.pair (.int .i64) .unit))), .v (.int .i64)], [(.tmp 4, (.int .i64))], [none], 1, [(7, ⟨[0, 1, 5], [], [], false⟩)]⟩
inductive laws_markNeedS.Pt where
  | p0 (a0 : List ((List ((ByteArray) × ((Int) × ((ByteArray) × (Unit))))) × ((Int) × ((Int) × (Unit))))) (a1 : Int)
  | p7 (y1 : Int) (y2 : Int) (y3 : List ((List ((ByteArray) × ((Int) × ((ByteArray) × (Unit))))) × ((Int) × ((Int) × (Unit)))))
def laws_markNeedS.lb : laws_markNeedS.Pt → Nat
  | .p0 _ _ => 0
  | .p7 _ _ _ => 7
def laws_markNeedS.st : laws_markNeedS.Pt → St
  | .p0 a0 a1 => enter [.s false (.pair (.sl false (.pair .str (.pair (.int .i64) (.pair .str .unit)))) (.pair (.int .i64) (.pair (.int .i64) .unit))) a0, .v (.int .i64) a1] 1
  | .p7 y1 y2 y3 => ⟨[(0, .hs 0 [] none 0), (1, .im (.int .i64) y1), (5, .im (.int .i64) y2)], [(0, .arr false (.pair (.sl false (.pair .str (.pair (.int .i64) (.pair .str .unit)))) (.pair (.int .i64) (.pair (.int .i64) .unit))) y3 0)], 1⟩
def laws_markNeedS.step (n : Nat) (K : laws_markNeedS.Pt → Option (Tup [(.int .i64), (.sl false (.pair (.sl false (.pair .str (.pair (.int .i64) (.pair .str .unit)))) (.pair (.int .i64) (.pair (.int .i64) .unit))))])) : laws_markNeedS.Pt → Option (Tup [(.int .i64), (.sl false (.pair (.sl false (.pair .str (.pair (.int .i64) (.pair .str .unit)))) (.pair (.int .i64) (.pair (.int .i64) .unit))))])
  | .p0 a0 a1 => K (.p7 a1 (0 : Int) a0)
  | .p7 y1 y2 y3 => cond (decide (y2 < ((List.length y3) : Int))) (cond (inB y2 (List.length y3)) ((laws_markMatcherS n (List.getD y3 (0 + (Int.toNat y2)) default).1 y1).bind fun r6 => cond (inB y2 (List.length (List.set y3 (0 + (Int.toNat y2)) (r6.2, (List.getD y3 (0 + (Int.toNat y2)) default).2)))) (cond (inB y2 (List.length (List.set (List.set y3 (0 + (Int.toNat y2)) (r6.2, (List.getD y3 (0 + (Int.toNat y2)) default).2)) (0 + (Int.toNat y2)) ((List.getD (List.set y3 (0 + (Int.toNat y2)) (r6.2, (List.getD y3 (0 + (Int.toNat y2)) default).2)) (0 + (Int.toNat y2)) default).1, (r6.1, (List.getD (List.set y3 (0 + (Int.toNat y2)) (r6.2, (List.getD y3 (0 + (Int.toNat y2)) default).2)) (0 + (Int.toNat y2)) default).2.2))))) (let mm0 := (List.set (List.set (List.set y3 (0 + (Int.toNat y2)) (r6.2, (List.getD y3 (0 + (Int.toNat y2)) default).2)) (0 + (Int.toNat y2)) ((List.getD (List.set y3 (0 + (Int.toNat y2)) (r6.2, (List.getD y3 (0 + (Int.toNat y2)) default).2)) (0 + (Int.toNat y2)) default).1, (r6.1, (List.getD (List.set y3 (0 + (Int.toNat y2)) (r6.2, (List.getD y3 (0 + (Int.toNat y2)) default).2)) (0 + (Int.toNat y2)) default).2.2))) (0 + (Int.toNat y2)) ((List.getD (List.set (List.set y3 (0 + (Int.toNat y2)) (r6.2, (List.getD y3 (0 + (Int.toNat y2)) default).2)) (0 + (Int.toNat y2)) ((List.getD (List.set y3 (0 + (Int.toNat y2)) (r6.2, (List.getD y3 (0 + (Int.toNat y2)) default).2)) (0 + (Int.toNat y2)) default).1, (r6.1, (List.getD (List.set y3 (0 + (Int.toNat y2)) (r6.2, (List.getD y3 (0 + (Int.toNat y2)) default).2)) (0 + (Int.toNat y2)) default).2.2))) (0 + (Int.toNat y2)) default).1, ((List.getD (List.set (List.set y3 (0 + (Int.toNat y2)) (r6.2, (List.getD y3 (0 + (Int.toNat y2)) default).2)) (0 + (Int.toNat y2)) ((List.getD (List.set y3 (0 + (Int.toNat y2)) (r6.2, (List.getD y3 (0 + (Int.toNat y2)) default).2)) (0 + (Int.toNat y2)) default).1, (r6.1, (List.getD (List.set y3 (0 + (Int.toNat y2)) (r6.2, (List.getD y3 (0 + (Int.toNat y2)) default).2)) (0 + (Int.toNat y2)) default).2.2))) (0 + (Int.toNat y2)) default).2.1, ((IntKind.wrap .i64 (r6.1 + (1 : Int))), (List.getD (List.set (List.set y3 (0 + (Int.toNat y2)) (r6.2, (List.getD y3 (0 + (Int.toNat y2)) default).2)) (0 + (Int.toNat y2)) ((List.getD (List.set y3 (0 + (Int.toNat y2)) (r6.2, (List.getD y3 (0 + (Int.toNat y2)) default).2)) (0 + (Int.toNat y2)) default).1, (r6.1, (List.getD (List.set y3 (0 + (Int.toNat y2)) (r6.2, (List.getD y3 (0 + (Int.toNat y2)) default).2)) (0 + (Int.toNat y2)) default).2.2))) (0 + (Int.toNat y2)) default).2.2.2)))); K (.p7 (IntKind.wrap .i64 ((IntKind.wrap .i64 (r6.1 + (1 : Int))) + (1 : Int))) (IntKind.wrap .i64 (y2 + (1 : Int))) mm0)) (none)) (none)) (none)) (some (y1, y3))
def laws_markNeedS (n : Nat) (a0 : List ((List ((ByteArray) × ((Int) × ((ByteArray) × (Unit))))) × ((Int) × ((Int) × (Unit))))) (a1 : Int) : Option (Tup [(.int .i64), (.sl false (.pair (.sl false (.pair .str (.pair (.int .i64) (.pair .str .unit)))) (.pair (.int .i64) (.pair (.int .i64) .unit))))]) := goRec laws_markNeedS.step n (.p0 a0 a1)
def laws_markNeedS.spec : Ctr := ⟨14, [.s false (.pair (.sl false (.pair .str (.pair (.int .i64) (.pair .str .unit)))) (.pair (.int .i64) (.pair (.int .i64) .unit))), .v (.int .i64)], [(.int .i64)], [(.sl false (.pair (.sl false (.pair .str (.pair (.int .i64) (.pair .str .unit)))) (.pair (.int .i64) (.pair (.int .i64) .unit))))], none, fun n x => laws_markNeedS n x.1 x.2.1⟩
theorem laws_markNeedS.seg_eq : SegEq ty gl laws_markNeedS.F laws_markNeedS.md laws_markNeedS.T laws_markNeedS.spec laws_markNeedS.lb laws_markNeedS.st laws_markNeedS.step := by
  intro n goto y; cases y <;> kernel_rfl
theorem laws_markNeedS.text : Text Go.Proofs.Tryz.prog laws_markNeedS.F laws_markNeedS.spec := textOf Go.Proofs.Tryz.f14
theorem laws_markNeedS.ok : CtrOK Go.Proofs.Tryz.prog gl laws_markNeedS.spec :=
  ctr_okS tabs laws_markNeedS.text laws_markNeedS.seg_eq (fun n x => ⟨.p0 x.1 x.2.1, rfl, rfl, rfl⟩) (consC laws_markMatcherS.ok (nilC))

/-! loop.example/g00039/laws.heldLabelS -/
def laws_heldLabelS.T : List Ctr := [laws_markText.spec]
def laws_heldLabelS.md : List (Nat × List Md) := []
noncomputable def laws_heldLabelS.F : Fun := ⟨(Go.Proofs.Tryz.f53.body).getD .skip, [.v (.sl false (.pair .str (.pair .str .unit))), .v (.int .i64)], [(.tmp 4, (.int .i64))], [], 0, [(7, ⟨[0, 1, 5], [], [], false⟩)]⟩
inductive laws_heldLabelS.Pt where
  | p0 (a0 : List ((ByteArray) × ((ByteArray) × (Unit)))) (a1 : Int)
  | p7 (y1 : List ((ByteArray) × ((ByteArray) × (Unit)))) (y2 : Int) (y3 : Int)
def laws_heldLabelS.lb : laws_heldLabelS.Pt → Nat
  | .p0 _ _ => 0
  | .p7 _ _ _ => 7
def laws_heldLabelS.st : laws_heldLabelS.Pt → St
  | .p0 a0 a1 => enter [.v (.sl false (.pair .str (.pair .str .unit))) a0, .v (.int .i64) a1] 0
  | .p7 y1 y2 y3 => ⟨[(0, .im (.sl false (.pair .str (.pair .str .unit))) y1), (1, .im (.int .i64) y2), (5, .im (.int .i64) y3)], [], 0⟩
def laws_heldLabelS.step (n : Nat) (K : laws_heldLabelS.Pt → Option (Tup [(.int .i64)])) : laws_heldLabelS.Pt → Option (Tup [(.int .i64)])
  | .p0 a0 a1 => K (.p7 a0 a1 (0 : Int))
  | .p7 y1 y2 y3 => cond (decide (y3 < ((List.length y1) : Int))) (cond (inB y3 (List.length y1)) ((laws_markText n y2).bind fun r6 => cond (!(seq (List.getD y1 (Int.toNat y3) default).1 r6)) (some (-(1 : Int))) (cond (inB y3 (List.length y1)) ((laws_markText n (IntKind.wrap .i64 (y2 + (1 : Int)))).bind fun r7 => cond (!(seq (List.getD y1 (Int.toNat y3) default).2.1 r7)) (some (-(1 : Int))) (K (.p7 y1 (IntKind.wrap .i64 ((IntKind.wrap .i64 (y2 + (1 : Int))) + (1 : Int))) (IntKind.wrap .i64 (y3 + (1 : Int)))))) (none))) (none)) (some y2)
def laws_heldLabelS (n : Nat) (a0 : List ((ByteArray) × ((ByteArray) × (Unit)))) (a1 : Int) : Option (Tup [(.int .i64)]) := goRec laws_heldLabelS.step n (.p0 a0 a1)
def laws_heldLabelS.spec : Ctr := ⟨53, [.v (.sl false (.pair .str (.pair .str .unit))), .v (.int .i64)], [(.int .i64)], [], none, fun n x => laws_heldLabelS n x.1 x.2.1⟩
theorem laws_heldLabelS.seg_eq : SegEq ty gl laws_heldLabelS.F laws_heldLabelS.md laws_heldLabelS.T laws_heldLabelS.spec laws_heldLabelS.lb laws_heldLabelS.st laws_heldLabelS.step := by
  intro n goto y; cases y <;> kernel_rfl
theorem laws_heldLabelS.text : Text Go.Proofs.Tryz.prog laws_heldLabelS.F laws_heldLabelS.spec := textOf Go.Proofs.Tryz.f53
theorem laws_heldLabelS.ok : CtrOK Go.Proofs.Tryz.prog gl laws_heldLabelS.spec :=
  ctr_okS tabs laws_heldLabelS.text laws_heldLabelS.seg_eq (fun n x => ⟨.p0 x.1 x.2.1, rfl, rfl, rfl⟩) (consC laws_markText.ok (nilC))

/-! loop.example/g00039/laws.heldSampleS -/
def laws_heldSampleS.T : List Ctr := []
def laws_heldSampleS.md : List (Nat × List Md) := []
noncomputable def laws_heldSampleS.F : Fun := ⟨(Go.Proofs.Tryz.f54.body).getD .skip, [.v (.sl false (.pair (.int .i64) (.pair (.int .i64) .unit))), .v (.int .i64)], [(.tmp 4, (.int .i64))], [], 0, [(7, ⟨[0, 1, 5], [], [], false⟩)]⟩
inductive laws_heldSampleS.Pt where
  | p0 (a0 : List ((Int) × ((Int) × (Unit)))) (a1 : Int)
  | p7 (y1 : List ((Int) × ((Int) × (Unit)))) (y2 : Int) (y3 : Int)
def laws_heldSampleS.lb : laws_heldSampleS.Pt → Nat
  | .p0 _ _ => 0
  | .p7 _ _ _ => 7
def laws_heldSampleS.st : laws_heldSampleS.Pt → St
  | .p0 a0 a1 => enter [.v (.sl false (.pair (.int .i64) (.pair (.int .i64) .unit))) a0, .v (.int .i64) a1] 0
  | .p7 y1 y2 y3 => ⟨[(0, .im (.sl false (.pair (.int .i64) (.pair (.int .i64) .unit))) y1), (1, .im (.int .i64) y2), (5, .im (.int .i64) y3)], [], 0⟩
def laws_heldSampleS.step (n : Nat) (K : laws_heldSampleS.Pt → Option (Tup [(.int .i64)])) : laws_heldSampleS.Pt → Option (Tup [(.int .i64)])
  | .p0 a0 a1 => K (.p7 a0 a1 (0 : Int))
  | .p7 y1 y2 y3 => cond (decide (y3 < ((List.length y1) : Int))) (cond (inB y3 (List.length y1)) (cond (!(decide ((List.getD y1 (Int.toNat y3) default).1 = y2))) (some (-(1 : Int))) (cond (inB y3 (List.length y1)) (cond (!(decide ((List.getD y1 (Int.toNat y3) default).2.1 = (IntKind.wrap .i64 (y2 + (1 : Int)))))) (some (-(1 : Int))) (K (.p7 y1 (IntKind.wrap .i64 ((IntKind.wrap .i64 (y2 + (1 : Int))) + (1 : Int))) (IntKind.wrap .i64 (y3 + (1 : Int)))))) (none))) (none)) (some y2)
def laws_heldSampleS (n : Nat) (a0 : List ((Int) × ((Int) × (Unit)))) (a1 : Int) : Option (Tup [(.int .i64)]) := goRec laws_heldSampleS.step n (.p0 a0 a1)
def laws_heldSampleS.spec : Ctr := ⟨54, [.v (.sl false (.pair (.int .i64) (.pair (.int .i64) .unit))), .v (.int .i64)], [(.int .i64)], [], none, fun n x => laws_heldSampleS n x.1 x.2.1⟩
theorem laws_heldSampleS.seg_eq : SegEq ty gl laws_heldSampleS.F laws_heldSampleS.md laws_heldSampleS.T laws_heldSampleS.spec laws_heldSampleS.lb laws_heldSampleS.st laws_heldSampleS.step := by
  intro n goto y; cases y <;> kernel_rfl
theorem laws_heldSampleS.text : Text Go.Proofs.Tryz.prog laws_heldSampleS.F laws_heldSampleS.spec := textOf Go.Proofs.Tryz.f54
theorem laws_heldSampleS.ok : CtrOK Go.Proofs.Tryz.prog gl laws_heldSampleS.spec :=
  ctr_okS tabs laws_heldSampleS.text laws_heldSampleS.seg_eq (fun n x => ⟨.p0 x.1 x.2.1, rfl, rfl, rfl⟩) (nilC)

/-! loop.example/g00039/laws.heldSeriesS -/
def laws_heldSeriesS.T : List Ctr := [laws_heldLabelS.spec, laws_heldSampleS.spec]
def laws_heldSeriesS.md : List (Nat × List Md) := []
noncomputable def laws_heldSeriesS.F : Fun := ⟨(Go.Proofs.Tryz.f15.body).getD .skip, [.v (.sl false (.pair (.sl false (.pair .str (.pair .str .unit))) (.pair (.sl false (.pair (.int .i64) (.pair (.int .i64) .unit))) .unit))), .v (.int .i64)], [(.tmp 4, (.int .i64))], [], 0, [(7, ⟨[0, 1, 5], [], [], false⟩)]⟩
inductive laws_heldSeriesS.Pt where
  | p0 (a0 : List ((List ((ByteArray) × ((ByteArray) × (Unit)))) × ((List ((Int) × ((Int) × (Unit)))) × (Unit)))) (a1 : Int)
  | p7 (y1 : List ((List ((ByteArray) × ((ByteArray) × (Unit)))) × ((List ((Int) × ((Int) × (Unit)))) × (Unit)))) (y2 : Int) (y3 : Int)
def laws_heldSeriesS.lb : laws_heldSeriesS.Pt → Nat
  | .p0 _ _ => 0
  | .p7 _ _ _ => 7
def laws_heldSeriesS.st : laws_heldSeriesS.Pt → St
  | .p0 a0 a1 => enter [.v (.sl false (.pair (.sl false (.pair .str (.pair .str .unit))) (.pair (.sl false (.pair (.int .i64) (.pair (.int .i64) .unit))) .unit))) a0, .v (.int .i64) a1] 0
  | .p7 y1 y2 y3 => ⟨[(0, .im (.sl false (.pair (.sl false (.pair .str (.pair .str .unit))) (.pair (.sl false (.pair (.int .i64) (.pair (.int .i64) .unit))) .unit))) y1), (1, .im (.int .i64) y2), (5, .im (.int .i64) y3)], [], 0⟩
def laws_heldSeriesS.step (n : Nat) (K : laws_heldSeriesS.Pt → Option (Tup [(.int .i64)])) : laws_heldSeriesS.Pt → Option (Tup [(.int .i64)])
  | .p0 a0 a1 => K (.p7 a0 a1 (0 : Int))
  | .p7 y1 y2 y3 => cond (decide (y3 < ((List.length y1) : Int))) (cond (inB y3 (List.length y1)) ((laws_heldLabelS n (List.getD y1 (Int.toNat y3) default).1 y2).bind fun (r6 : Int) => cond (decide (r6 < (0 : Int))) (some (-(1 : Int))) (cond (inB y3 (List.length y1)) ((laws_heldSampleS n (List.getD y1 (Int.toNat y3) default).2.1 r6).bind fun (r7 : Int) => cond (decide (r7 < (0 : Int))) (some (-(1 : Int))) (K (.p7 y1 r7 (IntKind.wrap .i64 (y3 + (1 : Int)))))) (none))) (none)) (some y2)
def laws_heldSeriesS (n : Nat) (a0 : List ((List ((ByteArray) × ((ByteArray) × (Unit)))) × ((List ((Int) × ((Int) × (Unit)))) × (Unit)))) (a1 : Int) : Option (Tup [(.int .i64)]) := goRec laws_heldSeriesS.step n (.p0 a0 a1)
def laws_heldSeriesS.spec : Ctr := ⟨15, [.v (.sl false (.pair (.sl false (.pair .str (.pair .str .unit))) (.pair (.sl false (.pair (.int .i64) (.pair (.int .i64) .unit))) .unit))), .v (.int .i64)], [(.int .i64)], [], none, fun n x => laws_heldSeriesS n x.1 x.2.1⟩
theorem laws_heldSeriesS.seg_eq : SegEq ty gl laws_heldSeriesS.F laws_heldSeriesS.md laws_heldSeriesS.T laws_heldSeriesS.spec laws_heldSeriesS.lb laws_heldSeriesS.st laws_heldSeriesS.step := by
  intro n goto y; cases y <;> kernel_rfl
theorem laws_heldSeriesS.text : Text Go.Proofs.Tryz.prog laws_heldSeriesS.F laws_heldSeriesS.spec := textOf Go.Proofs.Tryz.f15
theorem laws_heldSeriesS.ok : CtrOK Go.Proofs.Tryz.prog gl laws_heldSeriesS.spec :=
  ctr_okS tabs laws_heldSeriesS.text laws_heldSeriesS.seg_eq (fun n x => ⟨.p0 x.1 x.2.1, rfl, rfl, rfl⟩) (consC laws_heldLabelS.ok (consC laws_heldSampleS.ok (nilC)))

/-! loop.example/g00039/laws.FnExactTrimSeries -/
def laws_FnExactTrimSeries.T : List Ctr := [laws_szSeriesS.spec, laws_szNeedS.spec, laws_toSeriesS.spec, laws_toNeedS.spec, spec_TrimSeries.spec, impl_TrimSeries.spec, laws_eqSeriesS.spec, laws_eqNeedS.spec, laws_markSeriesS.spec, laws_markNeedS.spec, laws_heldSeriesS.spec]
def laws_FnExactTrimSeries.md : List (Nat × List Md) := [(10, [.v, .b (.sl false (.pair (.bs (.pair .str (.pair (.int .i64) (.pair .str .unit)))) (.pair (.int .i64) (.pair (.int .i64) .unit))))]), (13, [.s, .v]), (14, [.s, .v])]
noncomputable def laws_FnExactTrimSeries.F : Fun := ⟨(Go.Proofs.Tryz.f3.body).getD .skip, [.v (.sl false (.pair (.sl false (.pair .str (.pair .str .unit))) (.pair (.sl false (.pair (.int .i64) (.pair (.int .i64) .unit))) .unit))), .v (.sl false (.pair (.sl false (.pair .str (.pair (.int .i64) (.pair .str .unit)))) (.pair (.int .i64) (.pair (.int .i64) .unit))))], [(.tmp 4, .bool)], [], 0, [(64, ⟨[0, 1, 6, 9, 63], [(6, (.pair (.sl false (.pair .str (.pair .str .unit))) (.pair (.sl false (.pair (.int .i64) (.pair (.int .i64) .unit))) .unit))), (9, (.pair (.sl false (.pair .str (.pair .str .unit))) (.pair (.sl false (.pair (.int .i64) (.pair (.int .i64) .unit))) .unit)))], [], false⟩)]⟩
inductive laws_FnExactTrimSeries.Pt where
  | p0 (a0 : List ((List ((ByteArray) × ((ByteArray) × (Unit)))) × ((List ((Int) × ((Int) × (Unit)))) × (Unit)))) (a1 : List ((List ((ByteArray) × ((Int) × ((ByteArray) × (Unit))))) × ((Int) × ((Int) × (Unit)))))
  | p64 (y1 : List ((List ((ByteArray) × ((ByteArray) × (Unit)))) × ((List ((Int) × ((Int) × (Unit)))) × (Unit)))) (y2 : List ((List ((ByteArray) × ((Int) × ((ByteArray) × (Unit))))) × ((Int) × ((Int) × (Unit))))) (y3 : Bool) (y4 : List ((List ((ByteArray) × ((ByteArray) × (Unit)))) × ((List ((Int) × ((Int) × (Unit)))) × (Unit)))) (y5 : List ((List ((ByteArray) × ((ByteArray) × (Unit)))) × ((List ((Int) × ((Int) × (Unit)))) × (Unit))))
def laws_FnExactTrimSeries.lb : laws_FnExactTrimSeries.Pt → Nat
  | .p0 _ _ => 0
  | .p64 _ _ _ _ _ => 64
def laws_FnExactTrimSeries.st : laws_FnExactTrimSeries.Pt → St
  | .p0 a0 a1 => enter [.v (.sl false (.pair (.sl false (.pair .str (.pair .str .unit))) (.pair (.sl false (.pair (.int .i64) (.pair (.int .i64) .unit))) .unit))) a0, .v (.sl false (.pair (.sl false (.pair .str (.pair (.int .i64) (.pair .str .unit)))) (.pair (.int .i64) (.pair (.int .i64) .unit)))) a1] 0
  | .p64 y1 y2 y3 y4 y5 => ⟨[(0, .im (.sl false (.pair (.sl false (.pair .str (.pair .str .unit))) (.pair (.sl false (.pair (.int .i64) (.pair (.int .i64) .unit))) .unit))) y1), (1, .im (.sl false (.pair (.sl false (.pair .str (.pair (.int .i64) (.pair .str .unit)))) (.pair (.int .i64) (.pair (.int .i64) .unit)))) y2), (6, .hs 0 [] none 0), (9, .hs 1 [] none 0), (63, .im .bool y3)], [(0, .arr false (.pair (.sl false (.pair .str (.pair .str .unit))) (.pair (.sl false (.pair (.int .i64) (.pair (.int .i64) .unit))) .unit)) y4 0), (1, .arr false (.pair (.sl false (.pair .str (.pair .str .unit))) (.pair (.sl false (.pair (.int .i64) (.pair (.int .i64) .unit))) .unit)) y5 0)], 2⟩
def laws_FnExactTrimSeries.step (n : Nat) (K : laws_FnExactTrimSeries.Pt → Option (Tup [.bool])) : laws_FnExactTrimSeries.Pt → Option (Tup [.bool])
  | .p0 a0 a1 => (laws_szSeriesS n a0 (1048576 : Int)).bind fun (r5 : Int) => cond (decide (r5 < (0 : Int))) (some true) ((laws_szNeedS n a1 r5).bind fun (r6 : Int) => cond (decide (r6 < (0 : Int))) (some true) ((laws_toSeriesS n a0).bind fun r7 => (laws_toNeedS n a1).bind fun r8 => (spec_TrimSeries n r7 r8).bind fun r9 => (laws_toSeriesS n a0).bind fun r10 => (laws_toNeedS n a1).bind fun r11 => (impl_TrimSeries n r10 r11).bind fun r12 => (laws_eqSeriesS n r12 r9).bind fun r13 => cond (!r13) (some false) ((laws_toSeriesS n a0).bind fun r14 => (laws_eqSeriesS n r10 r14).bind fun r15 => cond (!r15) (some false) ((laws_toNeedS n a1).bind fun r16 => (laws_eqNeedS n r11 r16).bind fun r17 => cond (!r17) (some false) ((laws_markSeriesS n r10 (1 : Int)).bind fun r18 => (laws_markNeedS n r11 r18.1).bind fun r19 => cond (decide (r19.1 < (0 : Int))) (K (.p64 a0 a1 true r9 r12)) ((laws_eqSeriesS n r12 r9).bind fun r20 => K (.p64 a0 a1 (!r20) r9 r12)))))))
  | .p64 y1 y2 y3 y4 y5 => cond y3 (some false) ((laws_markSeriesS n y5 (1 : Int)).bind fun r8 => (laws_heldSeriesS n r8.2 (1 : Int)).bind fun (r9 : Int) => cond (decide (r9 < (0 : Int))) (some false) (cond (!(decide (r9 = r8.1))) (some false) ((laws_toSeriesS n y1).bind fun r10 => (laws_toNeedS n y2).bind fun r11 => (impl_TrimSeries n r10 r11).bind fun r12 => (laws_eqSeriesS n r12 y4).bind fun r13 => cond (!r13) (some false) ((laws_heldSeriesS n r8.2 (1 : Int)).bind fun (r14 : Int) => cond (decide (r14 < (0 : Int))) (some false) (cond (!(decide (r14 = r8.1))) (some false) (some true))))))
def laws_FnExactTrimSeries (n : Nat) (a0 : List ((List ((ByteArray) × ((ByteArray) × (Unit)))) × ((List ((Int) × ((Int) × (Unit)))) × (Unit)))) (a1 : List ((List ((ByteArray) × ((Int) × ((ByteArray) × (Unit))))) × ((Int) × ((Int) × (Unit))))) : Option (Tup [.bool]) := goRec laws_FnExactTrimSeries.step n (.p0 a0 a1)
def laws_FnExactTrimSeries.spec : Ctr := ⟨3, [.v (.sl false (.pair (.sl false (.pair .str (.pair .str .unit))) (.pair (.sl false (.pair (.int .i64) (.pair (.int .i64) .unit))) .unit))), .v (.sl false (.pair (.sl false (.pair .str (.pair (.int .i64) (.pair .str .unit)))) (.pair (.int .i64) (.pair (.int .i64) .unit))))], [.bool], [], none, fun n x => laws_FnExactTrimSeries n x.1 x.2.1⟩
theorem laws_FnExactTrimSeries.seg_eq : SegEq ty gl laws_FnExactTrimSeries.F laws_FnExactTrimSeries.md laws_FnExactTrimSeries.T laws_FnExactTrimSeries.spec laws_FnExactTrimSeries.lb laws_FnExactTrimSeries.st laws_FnExactTrimSeries.step := by
  intro n goto y; cases y <;> kernel_rfl
theorem laws_FnExactTrimSeries.text : Text Go.Proofs.Tryz.prog laws_FnExactTrimSeries.F laws_FnExactTrimSeries.spec := textOf Go.Proofs.Tryz.f3
theorem laws_FnExactTrimSeries.ok : CtrOK Go.Proofs.Tryz.prog gl laws_FnExactTrimSeries.spec :=
  ctr_okS tabs laws_FnExactTrimSeries.text laws_FnExactTrimSeries.seg_eq (fun n x => ⟨.p0 x.1 x.2.1, rfl, rfl, rfl⟩) (consC laws_szSeriesS.ok (consC laws_szNeedS.ok (consC laws_toSeriesS.ok (consC laws_toNeedS.ok (consC spec_TrimSeries.ok (consC impl_TrimSeries.ok (consC laws_eqSeriesS.ok (consC laws_eqNeedS.ok (consC laws_markSeriesS.ok (consC laws_markNeedS.ok (consC laws_heldSeriesS.ok (nilC))))))))))))
end Go.TS
