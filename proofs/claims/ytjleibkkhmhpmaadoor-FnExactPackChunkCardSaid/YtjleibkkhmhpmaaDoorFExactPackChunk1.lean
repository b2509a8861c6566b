/- The functions that the law reaches, each as a Lean function and with its contract, part 1. -/
import Derived.Test.YtjleibkkhmhpmaaDoorV1
import Derived.Test.YtjleibkkhmhpmaaDoorV2
import Derived.Test.YtjleibkkhmhpmaaDoorV3
import Derived.Test.YtjleibkkhmhpmaaDoorProg
open Go Go.VM
namespace Go.PK
set_option maxRecDepth 100000
set_option linter.unusedVariables false
set_option linter.unusedSimpArgs false
def ty : List (Nat × U) := [(1, .oth), (2, (.int .i64)), (3, (.int .i64)), (4, .bool), (5, (.int .u8)), (6, (.int .u8)), (7, (.pair (.int .i64) (.pair (.int .i64) (.pair .bool (.pair (.int .u8) .unit))))), (8, (.pair (.int .i64) (.pair (.int .i64) (.pair .bool (.pair (.int .u8) .unit))))), (9, .str), (10, .str), (11, .str), (12, (.int .u64)), (13, (.pair .str (.pair (.int .u64) .unit))), (14, (.pair .str (.pair (.int .u64) .unit))), (15, .oth), (16, .oth), (17, .oth), (18, (.pair .oth .unit)), (19, (.pair .oth .unit)), (20, .oth), (21, (.int .i32)), (22, (.sl false (.pair (.int .i64) (.pair (.int .i64) .unit)))), (23, .oth), (24, (.sl false (.int .u8))), (25, (.pair (.sl false (.int .u8)) (.pair (.int .i64) .unit))), (26, (.pair (.sl false (.int .u8)) (.pair (.int .i64) .unit))), (27, .oth), (28, (.sl false (.pair (.int .i64) (.pair (.int .i64) .unit)))), (29, .oth), (30, .oth), (31, .oth), (32, .oth), (33, .oth), (34, .oth), (35, .oth), (36, (.pair (.int .i64) (.pair (.int .i64) .unit))), (37, (.pair (.int .i64) (.pair (.int .i64) .unit))), (38, .oth), (39, (.pair (.int .i64) (.pair (.int .i64) .unit))), (40, .oth), (41, .oth), (42, .oth), (43, .oth), (44, .oth), (45, .oth), (46, (.int .u64)), (48, .oth), (49, (.int .u64)), (50, .oth), (51, (.pair (.sl false (.int .u8)) (.pair (.int .i64) .unit))), (52, (.pair (.sl false (.int .u8)) (.pair (.int .i64) .unit))), (53, .oth), (54, .oth), (55, (.ar 64 (.int .u8))), (56, .oth), (57, (.pair .oth (.pair .oth (.pair .oth (.pair .str .unit))))), (58, (.pair .oth (.pair .oth (.pair .oth (.pair .str .unit))))), (59, (.ar 0 .oth)), (62, .oth), (63, (.int .u32)), (64, (.int .u8)), (65, (.int .u8)), (66, .oth), (67, .oth), (68, (.int .i32)), (69, (.int .i32)), (70, (.pair (.int .u64) (.pair (.int .u64) (.pair (.int .u32) (.pair (.int .u8) (.pair (.int .u8) (.pair (.int .u8) (.pair (.int .u8) (.pair .oth (.pair .oth (.pair (.int .i32) (.pair (.int .i32) .unit)))))))))))), (71, (.pair (.int .u64) (.pair (.int .u64) (.pair (.int .u32) (.pair (.int .u8) (.pair (.int .u8) (.pair (.int .u8) (.pair (.int .u8) (.pair .oth (.pair .oth (.pair (.int .i32) (.pair (.int .i32) .unit)))))))))))), (72, .oth)]
def gl : List (Nat × TV) := [(0, ⟨.ar 64 (.int .u8), ([0, 1, 56, 2, 57, 49, 28, 3, 61, 58, 42, 50, 38, 29, 17, 4, 62, 47, 59, 36, 45, 43, 51, 22, 53, 39, 33, 30, 24, 18, 12, 5, 63, 55, 48, 27, 60, 41, 37, 16, 46, 35, 44, 21, 52, 32, 23, 11, 54, 26, 40, 15, 34, 20, 31, 10, 25, 14, 19, 9, 13, 8, 7, 6] : List Int)⟩)]
theorem tabs : Tabs Go.Proofs.Tryd.prog ty gl := tabs_ofG (by kernel_rfl) (by kernel_rfl) (by kernel_rfl)
/-! loop.example/g00039/laws.szSampleS -/
def laws_szSampleS.T : List Ctr := []
def laws_szSampleS.md : List (Nat × List Md) := []
noncomputable def laws_szSampleS.F : Fun := ⟨(Go.Proofs.Tryd.f4.body).getD .skip, [.v (.sl false (.pair (.int .i64) (.pair (.int .i64) .unit))), .v (.int .i64)], [(.tmp 4, (.int .i64))], [], 0, []⟩
inductive laws_szSampleS.Pt where
  | p0 (a0 : List ((Int) × ((Int) × (Unit)))) (a1 : Int)
def laws_szSampleS.lb : laws_szSampleS.Pt → Nat
  | .p0 _ _ => 0
def laws_szSampleS.st : laws_szSampleS.Pt → St
  | .p0 a0 a1 => enter [.v (.sl false (.pair (.int .i64) (.pair (.int .i64) .unit))) a0, .v (.int .i64) a1] 0
def laws_szSampleS.step (n : Nat) (K : laws_szSampleS.Pt → Option (Tup [(.int .i64)])) : laws_szSampleS.Pt → Option (Tup [(.int .i64)])
  | .p0 a0 a1 => cond (decide ((IntKind.wrap .i64 (a1 - ((List.length a0) : Int))) < (0 : Int))) (some (-(1 : Int))) (some (IntKind.wrap .i64 (a1 - ((List.length a0) : Int))))
def laws_szSampleS (n : Nat) (a0 : List ((Int) × ((Int) × (Unit)))) (a1 : Int) : Option (Tup [(.int .i64)]) := goRec laws_szSampleS.step n (.p0 a0 a1)
def laws_szSampleS.spec : Ctr := ⟨4, [.v (.sl false (.pair (.int .i64) (.pair (.int .i64) .unit))), .v (.int .i64)], [(.int .i64)], [], fun n x => laws_szSampleS n x.1 x.2.1⟩
theorem laws_szSampleS.seg_eq : SegEq ty gl laws_szSampleS.F laws_szSampleS.md laws_szSampleS.T laws_szSampleS.spec laws_szSampleS.lb laws_szSampleS.st laws_szSampleS.step := by
  intro n goto y; cases y <;> kernel_rfl
theorem laws_szSampleS.text : Text Go.Proofs.Tryd.prog laws_szSampleS.F laws_szSampleS.spec := textOf Go.Proofs.Tryd.f4
theorem laws_szSampleS.ok : CtrOK Go.Proofs.Tryd.prog gl laws_szSampleS.spec :=
  ctr_okS tabs laws_szSampleS.text laws_szSampleS.seg_eq (fun n x => ⟨.p0 x.1 x.2.1, rfl, rfl, rfl⟩) (nilC)

/-! loop.example/g00039/laws.toSample -/
def laws_toSample.T : List Ctr := []
def laws_toSample.md : List (Nat × List Md) := []
noncomputable def laws_toSample.F : Fun := ⟨(Go.Proofs.Tryd.f15.body).getD .skip, [.v (.pair (.int .i64) (.pair (.int .i64) .unit))], [(.cell 2 37, (.pair (.int .i64) (.pair (.int .i64) .unit)))], [], 0, []⟩
inductive laws_toSample.Pt where
  | p0 (a0 : (Int) × ((Int) × (Unit)))
def laws_toSample.lb : laws_toSample.Pt → Nat
  | .p0 _ => 0
def laws_toSample.st : laws_toSample.Pt → St
  | .p0 a0 => enter [.v (.pair (.int .i64) (.pair (.int .i64) .unit)) a0] 0
def laws_toSample.step (n : Nat) (K : laws_toSample.Pt → Option (Tup [(.pair (.int .i64) (.pair (.int .i64) .unit))])) : laws_toSample.Pt → Option (Tup [(.pair (.int .i64) (.pair (.int .i64) .unit))])
  | .p0 a0 => some a0
def laws_toSample (n : Nat) (a0 : (Int) × ((Int) × (Unit))) : Option (Tup [(.pair (.int .i64) (.pair (.int .i64) .unit))]) := goRec laws_toSample.step n (.p0 a0)
def laws_toSample.spec : Ctr := ⟨15, [.v (.pair (.int .i64) (.pair (.int .i64) .unit))], [(.pair (.int .i64) (.pair (.int .i64) .unit))], [], fun n x => laws_toSample n x.1⟩
theorem laws_toSample.seg_eq : SegEq ty gl laws_toSample.F laws_toSample.md laws_toSample.T laws_toSample.spec laws_toSample.lb laws_toSample.st laws_toSample.step := by
  intro n goto y; cases y <;> kernel_rfl
theorem laws_toSample.text : Text Go.Proofs.Tryd.prog laws_toSample.F laws_toSample.spec := textOf Go.Proofs.Tryd.f15
theorem laws_toSample.ok : CtrOK Go.Proofs.Tryd.prog gl laws_toSample.spec :=
  ctr_okS tabs laws_toSample.text laws_toSample.seg_eq (fun n x => ⟨.p0 x.1, rfl, rfl, rfl⟩) (nilC)

/-! loop.example/g00039/laws.toSampleS -/
def laws_toSampleS.T : List Ctr := [laws_toSample.spec]
def laws_toSampleS.md : List (Nat × List Md) := []
noncomputable def laws_toSampleS.F : Fun := ⟨(Go.Proofs.Tryd.f6.body).getD .skip, [.v (.sl false (.pair (.int .i64) (.pair (.int .i64) .unit)))], [(.tmp 2, (.sl false (.pair (.int .i64) (.pair (.int .i64) .unit))))], [], 0, [(9, ⟨[0, 3, 4], [(3, (.pair (.int .i64) (.pair (.int .i64) .unit)))], [], false⟩)]⟩
inductive laws_toSampleS.Pt where
  | p0 (a0 : List ((Int) × ((Int) × (Unit))))
  | p9 (y1 : List ((Int) × ((Int) × (Unit)))) (y2 : Int) (y3 : List ((Int) × ((Int) × (Unit))))
def laws_toSampleS.lb : laws_toSampleS.Pt → Nat
  | .p0 _ => 0
  | .p9 _ _ _ => 9
def laws_toSampleS.st : laws_toSampleS.Pt → St
  | .p0 a0 => enter [.v (.sl false (.pair (.int .i64) (.pair (.int .i64) .unit))) a0] 0
  | .p9 y1 y2 y3 => ⟨[(0, .im (.sl false (.pair (.int .i64) (.pair (.int .i64) .unit))) y1), (3, .hs 0 [] none 0), (4, .im (.int .i64) y2)], [(0, .arr false (.pair (.int .i64) (.pair (.int .i64) .unit)) y3 0)], 1⟩
def laws_toSampleS.step (n : Nat) (K : laws_toSampleS.Pt → Option (Tup [(.sl false (.pair (.int .i64) (.pair (.int .i64) .unit)))])) : laws_toSampleS.Pt → Option (Tup [(.sl false (.pair (.int .i64) (.pair (.int .i64) .unit)))])
  | .p0 a0 => cond (inC ((List.length a0) : Int) ((List.length a0) : Int) 1000000000) (K (.p9 a0 (0 : Int) (List.replicate (Int.toNat ((List.length a0) : Int)) (default : (Int) × ((Int) × (Unit)))))) (none)
  | .p9 y1 y2 y3 => cond (decide (y2 < ((List.length y1) : Int))) (cond (inB y2 (List.length y1)) ((laws_toSample n (List.getD y1 (Int.toNat y2) default)).bind fun r6 => cond (inB y2 (List.length y3)) (K (.p9 y1 (IntKind.wrap .i64 (y2 + (1 : Int))) (List.set y3 (0 + (Int.toNat y2)) r6))) (none)) (none)) (some y3)
def laws_toSampleS (n : Nat) (a0 : List ((Int) × ((Int) × (Unit)))) : Option (Tup [(.sl false (.pair (.int .i64) (.pair (.int .i64) .unit)))]) := goRec laws_toSampleS.step n (.p0 a0)
def laws_toSampleS.spec : Ctr := ⟨6, [.v (.sl false (.pair (.int .i64) (.pair (.int .i64) .unit)))], [(.sl false (.pair (.int .i64) (.pair (.int .i64) .unit)))], [], fun n x => laws_toSampleS n x.1⟩
theorem laws_toSampleS.seg_eq : SegEq ty gl laws_toSampleS.F laws_toSampleS.md laws_toSampleS.T laws_toSampleS.spec laws_toSampleS.lb laws_toSampleS.st laws_toSampleS.step := by
  intro n goto y; cases y <;> kernel_rfl
theorem laws_toSampleS.text : Text Go.Proofs.Tryd.prog laws_toSampleS.F laws_toSampleS.spec := textOf Go.Proofs.Tryd.f6
theorem laws_toSampleS.ok : CtrOK Go.Proofs.Tryd.prog gl laws_toSampleS.spec :=
  ctr_okS tabs laws_toSampleS.text laws_toSampleS.seg_eq (fun n x => ⟨.p0 x.1, rfl, rfl, rfl⟩) (consC laws_toSample.ok (nilC))

/-! loop.example/g00039/spec.l3Time -/
def spec_l3Time.T : List Ctr := []
def spec_l3Time.md : List (Nat × List Md) := []
noncomputable def spec_l3Time.F : Fun := ⟨(Go.Proofs.Tryd.f22.body).getD .skip, [.v (.int .i64)], [(.tmp 2, .bool)], [], 0, []⟩
inductive spec_l3Time.Pt where
  | p0 (a0 : Int)
def spec_l3Time.lb : spec_l3Time.Pt → Nat
  | .p0 _ => 0
def spec_l3Time.st : spec_l3Time.Pt → St
  | .p0 a0 => enter [.v (.int .i64) a0] 0
def spec_l3Time.step (n : Nat) (K : spec_l3Time.Pt → Option (Tup [.bool])) : spec_l3Time.Pt → Option (Tup [.bool])
  | .p0 a0 => cond (decide ((0 : Int) ≤ a0)) (some (decide (a0 ≤ (1000000000000 : Int)))) (some false)
def spec_l3Time (n : Nat) (a0 : Int) : Option (Tup [.bool]) := goRec spec_l3Time.step n (.p0 a0)
def spec_l3Time.spec : Ctr := ⟨22, [.v (.int .i64)], [.bool], [], fun n x => spec_l3Time n x.1⟩
theorem spec_l3Time.seg_eq : SegEq ty gl spec_l3Time.F spec_l3Time.md spec_l3Time.T spec_l3Time.spec spec_l3Time.lb spec_l3Time.st spec_l3Time.step := by
  intro n goto y; cases y <;> kernel_rfl
theorem spec_l3Time.text : Text Go.Proofs.Tryd.prog spec_l3Time.F spec_l3Time.spec := textOf Go.Proofs.Tryd.f22
theorem spec_l3Time.ok : CtrOK Go.Proofs.Tryd.prog gl spec_l3Time.spec :=
  ctr_okS tabs spec_l3Time.text spec_l3Time.seg_eq (fun n x => ⟨.p0 x.1, rfl, rfl, rfl⟩) (nilC)

/-! loop.example/g00039/spec.GoodSamples -/
def spec_GoodSamples.T : List Ctr := [spec_l3Time.spec]
def spec_GoodSamples.md : List (Nat × List Md) := []
noncomputable def spec_GoodSamples.F : Fun := ⟨(Go.Proofs.Tryd.f13.body).getD .skip, [.v (.sl false (.pair (.int .i64) (.pair (.int .i64) .unit)))], [(.tmp 2, .bool)], [], 0, [(7, ⟨[0, 5, 6, 7], [(5, (.pair (.int .i64) (.pair (.int .i64) .unit)))], [], false⟩), (18, ⟨[0, 5, 6, 7, 30], [(5, (.pair (.int .i64) (.pair (.int .i64) .unit)))], [], false⟩)]⟩
inductive spec_GoodSamples.Pt where
  | p0 (a0 : List ((Int) × ((Int) × (Unit))))
  | p7 (y1 : List ((Int) × ((Int) × (Unit)))) (y2 : List ((Int) × ((Int) × (Unit)))) (y3 : Int) (y4 : Int)
  | p18 (y1 : List ((Int) × ((Int) × (Unit)))) (y2 : List ((Int) × ((Int) × (Unit)))) (y3 : Int) (y4 : Int) (y5 : Bool)
def spec_GoodSamples.lb : spec_GoodSamples.Pt → Nat
  | .p0 _ => 0
  | .p7 _ _ _ _ => 7
  | .p18 _ _ _ _ _ => 18
def spec_GoodSamples.st : spec_GoodSamples.Pt → St
  | .p0 a0 => enter [.v (.sl false (.pair (.int .i64) (.pair (.int .i64) .unit))) a0] 0
  | .p7 y1 y2 y3 y4 => ⟨[(0, .im (.sl false (.pair (.int .i64) (.pair (.int .i64) .unit))) y1), (5, .im (.sl false (.pair (.int .i64) (.pair (.int .i64) .unit))) y2), (6, .im (.int .i64) y3), (7, .im (.int .i64) y4)], [], 0⟩
  | .p18 y1 y2 y3 y4 y5 => ⟨[(0, .im (.sl false (.pair (.int .i64) (.pair (.int .i64) .unit))) y1), (5, .im (.sl false (.pair (.int .i64) (.pair (.int .i64) .unit))) y2), (6, .im (.int .i64) y3), (7, .im (.int .i64) y4), (30, .im .bool y5)], [], 0⟩
def spec_GoodSamples.step (n : Nat) (K : spec_GoodSamples.Pt → Option (Tup [.bool])) : spec_GoodSamples.Pt → Option (Tup [.bool])
  | .p0 a0 => K (.p7 a0 a0 ((List.length a0) : Int) (0 : Int))
  | .p7 y1 y2 y3 y4 => cond (decide (y4 < y3)) (cond (inB y4 (List.length y2)) ((spec_l3Time n (List.getD y2 (Int.toNat y4) default).1).bind fun r7 => cond (!r7) (K (.p18 y1 y2 y3 y4 true)) (cond (decide ((0 : Int) < y4)) (cond (inB (IntKind.wrap .i64 (y4 - (1 : Int))) (List.length y1)) (K (.p18 y1 y2 y3 y4 (decide ((List.getD y2 (Int.toNat y4) default).1 ≤ (List.getD y1 (Int.toNat (IntKind.wrap .i64 (y4 - (1 : Int)))) default).1)))) (none)) (K (.p18 y1 y2 y3 y4 false)))) (none)) (some (decide (((List.length y1) : Int) ≤ (2000 : Int))))
  | .p18 y1 y2 y3 y4 y5 => cond y5 (some false) (K (.p7 y1 y2 y3 (IntKind.wrap .i64 (y4 + (1 : Int)))))
def spec_GoodSamples (n : Nat) (a0 : List ((Int) × ((Int) × (Unit)))) : Option (Tup [.bool]) := goRec spec_GoodSamples.step n (.p0 a0)
def spec_GoodSamples.spec : Ctr := ⟨13, [.v (.sl false (.pair (.int .i64) (.pair (.int .i64) .unit)))], [.bool], [], fun n x => spec_GoodSamples n x.1⟩
theorem spec_GoodSamples.seg_eq : SegEq ty gl spec_GoodSamples.F spec_GoodSamples.md spec_GoodSamples.T spec_GoodSamples.spec spec_GoodSamples.lb spec_GoodSamples.st spec_GoodSamples.step := by
  intro n goto y; cases y <;> kernel_rfl
theorem spec_GoodSamples.text : Text Go.Proofs.Tryd.prog spec_GoodSamples.F spec_GoodSamples.spec := textOf Go.Proofs.Tryd.f13
theorem spec_GoodSamples.ok : CtrOK Go.Proofs.Tryd.prog gl spec_GoodSamples.spec :=
  ctr_okS tabs spec_GoodSamples.text spec_GoodSamples.seg_eq (fun n x => ⟨.p0 x.1, rfl, rfl, rfl⟩) (consC spec_l3Time.ok (nilC))

/-! loop.example/g00039/spec.l1Put -/
def spec_l1Put.T : List Ctr := []
def spec_l1Put.md : List (Nat × List Md) := []
noncomputable def spec_l1Put.F : Fun := ⟨(Go.Proofs.Tryd.f30.body).getD .skip, [.g (.pair (.sl false (.int .u8)) (.pair (.int .i64) .unit)), .v (.int .i64)], [(.cell 4 26, (.pair (.sl false (.int .u8)) (.pair (.int .i64) .unit)))], [], 0, [(3, ⟨[1, 2, 4], [], [(2, 0, (.int .u8)), (4, 0, (.int .u8))], false⟩)]⟩
inductive spec_l1Put.Pt where
  | p0 (a0 : (List (Int)) × ((Int) × (Unit))) (a1 : Int)
  | p3 (y1 : Int) (y2 : Int) (y3 : Int) (y4 : List (Int)) (y5 : List (Int))
def spec_l1Put.lb : spec_l1Put.Pt → Nat
  | .p0 _ _ => 0
  | .p3 _ _ _ _ _ => 3
def spec_l1Put.st : spec_l1Put.Pt → St
  | .p0 a0 a1 => enter [.g (.pair (.sl false (.int .u8)) (.pair (.int .i64) .unit)) a0, .v (.int .i64) a1] 0
  | .p3 y1 y2 y3 y4 y5 => ⟨[(1, .im (.int .i64) y1), (2, .po 0 0), (4, .po 1 0)], [(0, .obj [.hs 2 [] none 0, .im (.int .i64) y2]), (1, .obj [.hs 3 [] none 0, .im (.int .i64) y3]), (2, .arr false (.int .u8) y4 0), (3, .arr true (.int .u8) y5 0)], 4⟩
def spec_l1Put.step (n : Nat) (K : spec_l1Put.Pt → Option (Tup [(.pair (.sl false (.int .u8)) (.pair (.int .i64) .unit))])) : spec_l1Put.Pt → Option (Tup [(.pair (.sl false (.int .u8)) (.pair (.int .i64) .unit))])
  | .p0 a0 a1 => cond (decide ((Int.tmod a0.2.1 (8 : Int)) = (0 : Int))) (cond (room ((List.length a0.1) + (List.length [(0 : Int)]))) (K (.p3 a1 a0.2.1 (default : Int) (a0.1 ++ [(0 : Int)]) ([] : List (Int)))) (none)) (K (.p3 a1 a0.2.1 (default : Int) a0.1 ([] : List (Int))))
  | .p3 y1 y2 y3 y4 y5 => cond (decide (y1 = (1 : Int))) (cond (inB (IntKind.wrap .i64 (Int.tdiv y2 (8 : Int))) (List.length y4)) (cond (decide (0 ≤ (IntKind.wrap .u64 (Int.tmod y2 (8 : Int))))) (cond (inB (IntKind.wrap .i64 (Int.tdiv y2 (8 : Int))) (List.length y4)) (some ((List.set y4 (0 + (Int.toNat (IntKind.wrap .i64 (Int.tdiv y2 (8 : Int))))) (bor .u8 (List.getD y4 (0 + (Int.toNat (IntKind.wrap .i64 (Int.tdiv y2 (8 : Int))))) default) (shr .u8 (128 : Int) (IntKind.wrap .u64 (Int.tmod y2 (8 : Int)))))), ((IntKind.wrap .i64 (y2 + (1 : Int))), ()))) (none)) (none)) (none)) (some (y4, ((IntKind.wrap .i64 (y2 + (1 : Int))), ())))
def spec_l1Put (n : Nat) (a0 : (List (Int)) × ((Int) × (Unit))) (a1 : Int) : Option (Tup [(.pair (.sl false (.int .u8)) (.pair (.int .i64) .unit))]) := goRec spec_l1Put.step n (.p0 a0 a1)
def spec_l1Put.spec : Ctr := ⟨30, [.g (.pair (.sl false (.int .u8)) (.pair (.int .i64) .unit)), .v (.int .i64)], [(.pair (.sl false (.int .u8)) (.pair (.int .i64) .unit))], [], fun n x => spec_l1Put n x.1 x.2.1⟩
theorem spec_l1Put.seg_eq : SegEq ty gl spec_l1Put.F spec_l1Put.md spec_l1Put.T spec_l1Put.spec spec_l1Put.lb spec_l1Put.st spec_l1Put.step := by
  intro n goto y; cases y <;> kernel_rfl
theorem spec_l1Put.text : Text Go.Proofs.Tryd.prog spec_l1Put.F spec_l1Put.spec := textOf Go.Proofs.Tryd.f30
theorem spec_l1Put.ok : CtrOK Go.Proofs.Tryd.prog gl spec_l1Put.spec :=
  ctr_okS tabs spec_l1Put.text spec_l1Put.seg_eq (fun n x => ⟨.p0 x.1 x.2.1, rfl, rfl, rfl⟩) (nilC)

/-! loop.example/g00039/spec.l1Add -/
def spec_l1Add.T : List Ctr := [spec_l1Put.spec]
def spec_l1Add.md : List (Nat × List Md) := [(30, [.g (.pair (.sl false (.int .u8)) (.pair (.int .i64) .unit)), .v])]
noncomputable def spec_l1Add.F : Fun := ⟨(Go.Proofs.Tryd.f23.body).getD .skip, [.g (.pair (.sl false (.int .u8)) (.pair (.int .i64) .unit)), .v (.int .i64), .v (.int .i64)], [(.cell 6 26, (.pair (.sl false (.int .u8)) (.pair (.int .i64) .unit)))], [], 0, [(7, ⟨[1, 3, 6, 7], [], [(3, 0, (.int .u8)), (6, 0, (.int .u8))], false⟩)]⟩
inductive spec_l1Add.Pt where
  | p0 (a0 : (List (Int)) × ((Int) × (Unit))) (a1 : Int) (a2 : Int)
  | p7 (y1 : Int) (y2 : Int) (y3 : Int) (y4 : Int) (y5 : List (Int)) (y6 : List (Int))
def spec_l1Add.lb : spec_l1Add.Pt → Nat
  | .p0 _ _ _ => 0
  | .p7 _ _ _ _ _ _ => 7
def spec_l1Add.st : spec_l1Add.Pt → St
  | .p0 a0 a1 a2 => enter [.g (.pair (.sl false (.int .u8)) (.pair (.int .i64) .unit)) a0, .v (.int .i64) a1, .v (.int .i64) a2] 0
  | .p7 y1 y2 y3 y4 y5 y6 => ⟨[(1, .im (.int .i64) y1), (3, .po 0 0), (6, .po 1 0), (7, .im (.int .i64) y2)], [(0, .obj [.hs 2 [] none 0, .im (.int .i64) y3]), (1, .obj [.hs 3 [] none 0, .im (.int .i64) y4]), (2, .arr false (.int .u8) y5 0), (3, .arr true (.int .u8) y6 0)], 4⟩
def spec_l1Add.step (n : Nat) (K : spec_l1Add.Pt → Option (Tup [(.pair (.sl false (.int .u8)) (.pair (.int .i64) .unit))])) : spec_l1Add.Pt → Option (Tup [(.pair (.sl false (.int .u8)) (.pair (.int .i64) .unit))])
  | .p0 a0 a1 a2 => K (.p7 a1 (IntKind.wrap .i64 (a2 - (1 : Int))) a0.2.1 (default : Int) a0.1 ([] : List (Int)))
  | .p7 y1 y2 y3 y4 y5 y6 => cond (decide ((0 : Int) ≤ y2)) (cond (decide (0 ≤ (IntKind.wrap .u64 y2))) ((spec_l1Put n (y5, (y3, ())) (IntKind.wrap .i64 (band .u64 (shr .u64 (IntKind.wrap .u64 y1) (IntKind.wrap .u64 y2)) (1 : Int)))).bind fun r9 => K (.p7 y1 (IntKind.wrap .i64 (y2 - (1 : Int))) r9.2.1 y4 r9.1 y6)) (none)) (some (y5, (y3, ())))
def spec_l1Add (n : Nat) (a0 : (List (Int)) × ((Int) × (Unit))) (a1 : Int) (a2 : Int) : Option (Tup [(.pair (.sl false (.int .u8)) (.pair (.int .i64) .unit))]) := goRec spec_l1Add.step n (.p0 a0 a1 a2)
def spec_l1Add.spec : Ctr := ⟨23, [.g (.pair (.sl false (.int .u8)) (.pair (.int .i64) .unit)), .v (.int .i64), .v (.int .i64)], [(.pair (.sl false (.int .u8)) (.pair (.int .i64) .unit))], [], fun n x => spec_l1Add n x.1 x.2.1 x.2.2.1⟩
theorem spec_l1Add.seg_eq : SegEq ty gl spec_l1Add.F spec_l1Add.md spec_l1Add.T spec_l1Add.spec spec_l1Add.lb spec_l1Add.st spec_l1Add.step := by
  intro n goto y; cases y <;> kernel_rfl
theorem spec_l1Add.text : Text Go.Proofs.Tryd.prog spec_l1Add.F spec_l1Add.spec := textOf Go.Proofs.Tryd.f23
theorem spec_l1Add.ok : CtrOK Go.Proofs.Tryd.prog gl spec_l1Add.spec :=
  ctr_okS tabs spec_l1Add.text spec_l1Add.seg_eq (fun n x => ⟨.p0 x.1 x.2.1 x.2.2.1, rfl, rfl, rfl⟩) (consC spec_l1Put.ok (nilC))

/-! loop.example/g00039/spec.l6PutBend -/
def spec_l6PutBend.T : List Ctr := [spec_l1Add.spec]
def spec_l6PutBend.md : List (Nat × List Md) := [(23, [.g (.pair (.sl false (.int .u8)) (.pair (.int .i64) .unit)), .v, .v])]
noncomputable def spec_l6PutBend.F : Fun := ⟨(Go.Proofs.Tryd.f24.body).getD .skip, [.g (.pair (.sl false (.int .u8)) (.pair (.int .i64) .unit)), .v (.int .i64)], [(.cell 4 26, (.pair (.sl false (.int .u8)) (.pair (.int .i64) .unit)))], [], 0, [(11, ⟨[1, 2, 4, 10], [], [(2, 0, (.int .u8)), (4, 0, (.int .u8))], false⟩), (17, ⟨[1, 2, 4, 22], [], [(2, 0, (.int .u8)), (4, 0, (.int .u8))], false⟩), (23, ⟨[1, 2, 4, 34], [], [(2, 0, (.int .u8)), (4, 0, (.int .u8))], false⟩)]⟩
inductive spec_l6PutBend.Pt where
  | p0 (a0 : (List (Int)) × ((Int) × (Unit))) (a1 : Int)
  | p11 (y1 : Int) (y2 : Bool) (y3 : Int) (y4 : Int) (y5 : List (Int)) (y6 : List (Int))
  | p17 (y1 : Int) (y2 : Bool) (y3 : Int) (y4 : Int) (y5 : List (Int)) (y6 : List (Int))
  | p23 (y1 : Int) (y2 : Bool) (y3 : Int) (y4 : Int) (y5 : List (Int)) (y6 : List (Int))
def spec_l6PutBend.lb : spec_l6PutBend.Pt → Nat
  | .p0 _ _ => 0
  | .p11 _ _ _ _ _ _ => 11
  | .p17 _ _ _ _ _ _ => 17
  | .p23 _ _ _ _ _ _ => 23
def spec_l6PutBend.st : spec_l6PutBend.Pt → St
  | .p0 a0 a1 => enter [.g (.pair (.sl false (.int .u8)) (.pair (.int .i64) .unit)) a0, .v (.int .i64) a1] 0
  | .p11 y1 y2 y3 y4 y5 y6 => ⟨[(1, .im (.int .i64) y1), (2, .po 0 0), (4, .po 1 0), (10, .im .bool y2)], [(0, .obj [.hs 2 [] none 0, .im (.int .i64) y3]), (1, .obj [.hs 3 [] none 0, .im (.int .i64) y4]), (2, .arr false (.int .u8) y5 0), (3, .arr true (.int .u8) y6 0)], 4⟩
  | .p17 y1 y2 y3 y4 y5 y6 => ⟨[(1, .im (.int .i64) y1), (2, .po 0 0), (4, .po 1 0), (22, .im .bool y2)], [(0, .obj [.hs 2 [] none 0, .im (.int .i64) y3]), (1, .obj [.hs 3 [] none 0, .im (.int .i64) y4]), (2, .arr false (.int .u8) y5 0), (3, .arr true (.int .u8) y6 0)], 4⟩
  | .p23 y1 y2 y3 y4 y5 y6 => ⟨[(1, .im (.int .i64) y1), (2, .po 0 0), (4, .po 1 0), (34, .im .bool y2)], [(0, .obj [.hs 2 [] none 0, .im (.int .i64) y3]), (1, .obj [.hs 3 [] none 0, .im (.int .i64) y4]), (2, .arr false (.int .u8) y5 0), (3, .arr true (.int .u8) y6 0)], 4⟩
def spec_l6PutBend.step (n : Nat) (K : spec_l6PutBend.Pt → Option (Tup [(.pair (.sl false (.int .u8)) (.pair (.int .i64) .unit))])) : spec_l6PutBend.Pt → Option (Tup [(.pair (.sl false (.int .u8)) (.pair (.int .i64) .unit))])
  | .p0 a0 a1 => cond (decide (a1 = (0 : Int))) ((spec_l1Add n (a0.1, a0.2) (0 : Int) (1 : Int)).bind fun r5 => some (r5.1, r5.2)) (cond (decide ((-(63 : Int)) ≤ a1)) (K (.p11 a1 (decide (a1 ≤ (64 : Int))) a0.2.1 (default : Int) a0.1 ([] : List (Int)))) (K (.p11 a1 false a0.2.1 (default : Int) a0.1 ([] : List (Int)))))
  | .p11 y1 y2 y3 y4 y5 y6 => cond y2 ((spec_l1Add n (y5, (y3, ())) (2 : Int) (2 : Int)).bind fun r9 => (spec_l1Add n (r9.1, r9.2) (IntKind.wrap .i64 (y1 + (63 : Int))) (7 : Int)).bind fun r10 => some (r10.1, r10.2)) (cond (decide ((-(255 : Int)) ≤ y1)) (K (.p17 y1 (decide (y1 ≤ (256 : Int))) y3 y4 y5 y6)) (K (.p17 y1 false y3 y4 y5 y6)))
  | .p17 y1 y2 y3 y4 y5 y6 => cond y2 ((spec_l1Add n (y5, (y3, ())) (6 : Int) (3 : Int)).bind fun r9 => (spec_l1Add n (r9.1, r9.2) (IntKind.wrap .i64 (y1 + (255 : Int))) (9 : Int)).bind fun r10 => some (r10.1, r10.2)) (cond (decide ((-(2047 : Int)) ≤ y1)) (K (.p23 y1 (decide (y1 ≤ (2048 : Int))) y3 y4 y5 y6)) (K (.p23 y1 false y3 y4 y5 y6)))
  | .p23 y1 y2 y3 y4 y5 y6 => cond y2 ((spec_l1Add n (y5, (y3, ())) (14 : Int) (4 : Int)).bind fun r9 => (spec_l1Add n (r9.1, r9.2) (IntKind.wrap .i64 (y1 + (2047 : Int))) (12 : Int)).bind fun r10 => some (r10.1, r10.2)) ((spec_l1Add n (y5, (y3, ())) (15 : Int) (4 : Int)).bind fun r9 => (spec_l1Add n (r9.1, r9.2) y1 (64 : Int)).bind fun r10 => some (r10.1, r10.2))
def spec_l6PutBend (n : Nat) (a0 : (List (Int)) × ((Int) × (Unit))) (a1 : Int) : Option (Tup [(.pair (.sl false (.int .u8)) (.pair (.int .i64) .unit))]) := goRec spec_l6PutBend.step n (.p0 a0 a1)
def spec_l6PutBend.spec : Ctr := ⟨24, [.g (.pair (.sl false (.int .u8)) (.pair (.int .i64) .unit)), .v (.int .i64)], [(.pair (.sl false (.int .u8)) (.pair (.int .i64) .unit))], [], fun n x => spec_l6PutBend n x.1 x.2.1⟩
theorem spec_l6PutBend.seg_eq : SegEq ty gl spec_l6PutBend.F spec_l6PutBend.md spec_l6PutBend.T spec_l6PutBend.spec spec_l6PutBend.lb spec_l6PutBend.st spec_l6PutBend.step := by
  intro n goto y; cases y <;> kernel_rfl
theorem spec_l6PutBend.text : Text Go.Proofs.Tryd.prog spec_l6PutBend.F spec_l6PutBend.spec := textOf Go.Proofs.Tryd.f24
theorem spec_l6PutBend.ok : CtrOK Go.Proofs.Tryd.prog gl spec_l6PutBend.spec :=
  ctr_okS tabs spec_l6PutBend.text spec_l6PutBend.seg_eq (fun n x => ⟨.p0 x.1 x.2.1, rfl, rfl, rfl⟩) (consC spec_l1Add.ok (nilC))

/-! loop.example/g00039/spec.l6Zeros -/
def spec_l6Zeros.T : List Ctr := []
def spec_l6Zeros.md : List (Nat × List Md) := []
noncomputable def spec_l6Zeros.F : Fun := ⟨(Go.Proofs.Tryd.f25.body).getD .skip, [.v (.int .u64)], [(.tmp 2, (.int .i64)), (.tmp 3, (.int .i64))], [], 0, [(7, ⟨[0, 4], [], [], false⟩), (20, ⟨[0, 4, 5], [], [], false⟩)]⟩
inductive spec_l6Zeros.Pt where
  | p0 (a0 : Int)
  | p7 (y1 : Int) (y2 : Int)
  | p20 (y1 : Int) (y2 : Int) (y3 : Int)
def spec_l6Zeros.lb : spec_l6Zeros.Pt → Nat
  | .p0 _ => 0
  | .p7 _ _ => 7
  | .p20 _ _ _ => 20
def spec_l6Zeros.st : spec_l6Zeros.Pt → St
  | .p0 a0 => enter [.v (.int .u64) a0] 0
  | .p7 y1 y2 => ⟨[(0, .im (.int .u64) y1), (4, .im (.int .i64) y2)], [], 0⟩
  | .p20 y1 y2 y3 => ⟨[(0, .im (.int .u64) y1), (4, .im (.int .i64) y2), (5, .im (.int .i64) y3)], [], 0⟩
def spec_l6Zeros.step (n : Nat) (K : spec_l6Zeros.Pt → Option (Tup [(.int .i64), (.int .i64)])) : spec_l6Zeros.Pt → Option (Tup [(.int .i64), (.int .i64)])
  | .p0 a0 => K (.p7 a0 (0 : Int))
  | .p7 y1 y2 => cond (decide (y2 < (64 : Int))) (cond (decide (0 ≤ (IntKind.wrap .u64 (IntKind.wrap .i64 ((63 : Int) - y2))))) (cond (decide ((band .u64 (shr .u64 y1 (IntKind.wrap .u64 (IntKind.wrap .i64 ((63 : Int) - y2)))) (1 : Int)) = (0 : Int))) (K (.p7 y1 (IntKind.wrap .i64 (y2 + (1 : Int))))) (K (.p20 y1 y2 (0 : Int)))) (none)) (K (.p20 y1 y2 (0 : Int)))
  | .p20 y1 y2 y3 => cond (decide (y3 < (64 : Int))) (cond (decide (0 ≤ (IntKind.wrap .u64 y3))) (cond (decide ((band .u64 (shr .u64 y1 (IntKind.wrap .u64 y3)) (1 : Int)) = (0 : Int))) (K (.p20 y1 y2 (IntKind.wrap .i64 (y3 + (1 : Int))))) (some (y2, y3))) (none)) (some (y2, y3))
def spec_l6Zeros (n : Nat) (a0 : Int) : Option (Tup [(.int .i64), (.int .i64)]) := goRec spec_l6Zeros.step n (.p0 a0)
def spec_l6Zeros.spec : Ctr := ⟨25, [.v (.int .u64)], [(.int .i64), (.int .i64)], [], fun n x => spec_l6Zeros n x.1⟩
theorem spec_l6Zeros.seg_eq : SegEq ty gl spec_l6Zeros.F spec_l6Zeros.md spec_l6Zeros.T spec_l6Zeros.spec spec_l6Zeros.lb spec_l6Zeros.st spec_l6Zeros.step := by
  intro n goto y; cases y <;> kernel_rfl
theorem spec_l6Zeros.text : Text Go.Proofs.Tryd.prog spec_l6Zeros.F spec_l6Zeros.spec := textOf Go.Proofs.Tryd.f25
theorem spec_l6Zeros.ok : CtrOK Go.Proofs.Tryd.prog gl spec_l6Zeros.spec :=
  ctr_okS tabs spec_l6Zeros.text spec_l6Zeros.seg_eq (fun n x => ⟨.p0 x.1, rfl, rfl, rfl⟩) (nilC)

/-! loop.example/g00039/spec.l6Pack -/
def spec_l6Pack.T : List Ctr := [spec_l1Add.spec, spec_l6PutBend.spec, spec_l6Zeros.spec]
def spec_l6Pack.md : List (Nat × List Md) := [(23, [.g (.pair (.sl false (.int .u8)) (.pair (.int .i64) .unit)), .v, .v]), (24, [.g (.pair (.sl false (.int .u8)) (.pair (.int .i64) .unit)), .v])]
noncomputable def spec_l6Pack.F : Fun := ⟨(Go.Proofs.Tryd.f14.body).getD .skip, [.v (.sl false (.pair (.int .i64) (.pair (.int .i64) .unit)))], [(.cell 2 26, (.pair (.sl false (.int .u8)) (.pair (.int .i64) .unit)))], [], 0, [(15, ⟨[0, 2, 3, 4, 5, 6, 19, 20, 21], [(19, (.pair (.int .i64) (.pair (.int .i64) .unit)))], [(2, 0, (.int .u8)), (3, 0, (.int .u8))], false⟩), (38, ⟨[0, 2, 3, 4, 5, 7, 8, 9, 10, 19, 20, 21], [(19, (.pair (.int .i64) (.pair (.int .i64) .unit)))], [(2, 0, (.int .u8)), (3, 0, (.int .u8))], false⟩), (61, ⟨[0, 2, 3, 4, 5, 6, 11, 12, 13, 19, 20, 21, 85], [(19, (.pair (.int .i64) (.pair (.int .i64) .unit)))], [(2, 0, (.int .u8)), (3, 0, (.int .u8))], false⟩)]⟩
inductive spec_l6Pack.Pt where
  | p0 (a0 : List ((Int) × ((Int) × (Unit))))
  | p15 (y1 : List ((Int) × ((Int) × (Unit)))) (y2 : Int) (y3 : Int) (y4 : Int) (y5 : List ((Int) × ((Int) × (Unit)))) (y6 : Int) (y7 : Int) (y8 : Int) (y9 : Int) (y10 : List (Int)) (y11 : List (Int))
  | p38 (y1 : List ((Int) × ((Int) × (Unit)))) (y2 : Int) (y3 : Int) (y4 : Int) (y5 : Int) (y6 : Int) (y7 : List ((Int) × ((Int) × (Unit)))) (y8 : Int) (y9 : Int) (y10 : Int) (y11 : Int) (y12 : Int) (y13 : Int) (y14 : List (Int)) (y15 : List (Int))
  | p61 (y1 : List ((Int) × ((Int) × (Unit)))) (y2 : Int) (y3 : Int) (y4 : Int) (y5 : Int) (y6 : Int) (y7 : Int) (y8 : List ((Int) × ((Int) × (Unit)))) (y9 : Int) (y10 : Int) (y11 : Bool) (y12 : Int) (y13 : Int) (y14 : List (Int)) (y15 : List (Int))
def spec_l6Pack.lb : spec_l6Pack.Pt → Nat
  | .p0 _ => 0
  | .p15 _ _ _ _ _ _ _ _ _ _ _ => 15
  | .p38 _ _ _ _ _ _ _ _ _ _ _ _ _ _ _ => 38
  | .p61 _ _ _ _ _ _ _ _ _ _ _ _ _ _ _ => 61
def spec_l6Pack.st : spec_l6Pack.Pt → St
  | .p0 a0 => enter [.v (.sl false (.pair (.int .i64) (.pair (.int .i64) .unit))) a0] 0
  | .p15 y1 y2 y3 y4 y5 y6 y7 y8 y9 y10 y11 => ⟨[(0, .im (.sl false (.pair (.int .i64) (.pair (.int .i64) .unit))) y1), (2, .po 0 0), (3, .po 1 0), (4, .im (.int .i64) y2), (5, .im (.int .i64) y3), (6, .im (.int .i64) y4), (19, .im (.sl false (.pair (.int .i64) (.pair (.int .i64) .unit))) y5), (20, .im (.int .i64) y6), (21, .im (.int .i64) y7)], [(0, .obj [.hs 2 [] none 0, .im (.int .i64) y8]), (1, .obj [.hs 3 [] none 0, .im (.int .i64) y9]), (2, .arr true (.int .u8) y10 0), (3, .arr false (.int .u8) y11 0)], 4⟩
  | .p38 y1 y2 y3 y4 y5 y6 y7 y8 y9 y10 y11 y12 y13 y14 y15 => ⟨[(0, .im (.sl false (.pair (.int .i64) (.pair (.int .i64) .unit))) y1), (2, .po 0 0), (3, .po 1 0), (4, .im (.int .i64) y2), (5, .im (.int .i64) y3), (7, .im (.int .i64) y4), (8, .po 2 0), (9, .im (.int .i64) y5), (10, .im (.int .i64) y6), (19, .im (.sl false (.pair (.int .i64) (.pair (.int .i64) .unit))) y7), (20, .im (.int .i64) y8), (21, .im (.int .i64) y9)], [(0, .obj [.hs 3 [] none 0, .im (.int .i64) y10]), (1, .obj [.hs 4 [] none 0, .im (.int .i64) y11]), (2, .obj [.im (.int .i64) y12, .im (.int .i64) y13]), (3, .arr true (.int .u8) y14 0), (4, .arr false (.int .u8) y15 0)], 5⟩
  | .p61 y1 y2 y3 y4 y5 y6 y7 y8 y9 y10 y11 y12 y13 y14 y15 => ⟨[(0, .im (.sl false (.pair (.int .i64) (.pair (.int .i64) .unit))) y1), (2, .po 0 0), (3, .po 1 0), (4, .im (.int .i64) y2), (5, .im (.int .i64) y3), (6, .im (.int .i64) y4), (11, .im (.int .u64) y5), (12, .im (.int .i64) y6), (13, .im (.int .i64) y7), (19, .im (.sl false (.pair (.int .i64) (.pair (.int .i64) .unit))) y8), (20, .im (.int .i64) y9), (21, .im (.int .i64) y10), (85, .im .bool y11)], [(0, .obj [.hs 2 [] none 0, .im (.int .i64) y12]), (1, .obj [.hs 3 [] none 0, .im (.int .i64) y13]), (2, .arr true (.int .u8) y14 0), (3, .arr false (.int .u8) y15 0)], 4⟩
def spec_l6Pack.step (n : Nat) (K : spec_l6Pack.Pt → Option (Tup [(.pair (.sl false (.int .u8)) (.pair (.int .i64) .unit))])) : spec_l6Pack.Pt → Option (Tup [(.pair (.sl false (.int .u8)) (.pair (.int .i64) .unit))])
  | .p0 a0 => (spec_l1Add n (([] : List (Int)), (default : (Int) × (Unit))) ((List.length a0) : Int) (8 : Int)).bind fun r4 => K (.p15 a0 (-(1 : Int)) (0 : Int) (0 : Int) a0 ((List.length a0) : Int) (0 : Int) (default : Int) r4.2.1 ([] : List (Int)) r4.1)
  | .p15 y1 y2 y3 y4 y5 y6 y7 y8 y9 y10 y11 => cond (decide (y7 < y6)) (cond (inB y7 (List.length y5)) (cond (decide (y7 = (0 : Int))) ((spec_l1Add n (y11, (y9, ())) (List.getD y5 (Int.toNat y7) default).1 (40 : Int)).bind fun r14 => (spec_l1Add n (r14.1, r14.2) (List.getD y5 (Int.toNat y7) default).2.1 (64 : Int)).bind fun r15 => K (.p15 y1 y2 y3 y4 y5 y6 (IntKind.wrap .i64 (y7 + (1 : Int))) y8 r15.2.1 y10 r15.1)) (cond (inB (IntKind.wrap .i64 (y7 - (1 : Int))) (List.length y1)) (cond (decide (y7 = (1 : Int))) (K (.p38 y1 y2 y3 y7 (IntKind.wrap .i64 ((List.getD y5 (Int.toNat y7) default).1 - (List.getD y1 (Int.toNat (IntKind.wrap .i64 (y7 - (1 : Int)))) default).1)) (IntKind.wrap .i64 ((List.getD y5 (Int.toNat y7) default).1 - (List.getD y1 (Int.toNat (IntKind.wrap .i64 (y7 - (1 : Int)))) default).1)) y5 y6 y7 y8 y9 (List.getD y5 (Int.toNat y7) default).1 (List.getD y5 (Int.toNat y7) default).2.1 y10 y11)) (K (.p38 y1 y2 y3 y7 (IntKind.wrap .i64 ((List.getD y5 (Int.toNat y7) default).1 - (List.getD y1 (Int.toNat (IntKind.wrap .i64 (y7 - (1 : Int)))) default).1)) (IntKind.wrap .i64 ((IntKind.wrap .i64 ((List.getD y5 (Int.toNat y7) default).1 - (List.getD y1 (Int.toNat (IntKind.wrap .i64 (y7 - (1 : Int)))) default).1)) - y4)) y5 y6 y7 y8 y9 (List.getD y5 (Int.toNat y7) default).1 (List.getD y5 (Int.toNat y7) default).2.1 y10 y11))) (none))) (none)) (some (y11, (y9, ())))
  | .p38 y1 y2 y3 y4 y5 y6 y7 y8 y9 y10 y11 y12 y13 y14 y15 => (spec_l6PutBend n (y15, (y11, ())) y6).bind fun r18 => cond (inB (IntKind.wrap .i64 (y4 - (1 : Int))) (List.length y1)) (cond (decide ((bxor .u64 (IntKind.wrap .u64 y13) (IntKind.wrap .u64 (List.getD y1 (Int.toNat (IntKind.wrap .i64 (y4 - (1 : Int)))) default).2.1)) = (0 : Int))) ((spec_l1Add n (r18.1, r18.2) (0 : Int) (1 : Int)).bind fun r19 => K (.p15 y1 y2 y3 y5 y7 y8 (IntKind.wrap .i64 (y9 + (1 : Int))) y10 r19.2.1 y14 r19.1)) ((spec_l6Zeros n (bxor .u64 (IntKind.wrap .u64 y13) (IntKind.wrap .u64 (List.getD y1 (Int.toNat (IntKind.wrap .i64 (y4 - (1 : Int)))) default).2.1))).bind fun r19 => cond (decide ((0 : Int) ≤ y2)) (cond (decide (y2 ≤ r19.1)) (K (.p61 y1 y2 y3 y5 (bxor .u64 (IntKind.wrap .u64 y13) (IntKind.wrap .u64 (List.getD y1 (Int.toNat (IntKind.wrap .i64 (y4 - (1 : Int)))) default).2.1)) r19.1 r19.2 y7 y8 y9 (decide (y3 ≤ r19.2)) y10 r18.2.1 y14 r18.1)) (K (.p61 y1 y2 y3 y5 (bxor .u64 (IntKind.wrap .u64 y13) (IntKind.wrap .u64 (List.getD y1 (Int.toNat (IntKind.wrap .i64 (y4 - (1 : Int)))) default).2.1)) r19.1 r19.2 y7 y8 y9 false y10 r18.2.1 y14 r18.1))) (K (.p61 y1 y2 y3 y5 (bxor .u64 (IntKind.wrap .u64 y13) (IntKind.wrap .u64 (List.getD y1 (Int.toNat (IntKind.wrap .i64 (y4 - (1 : Int)))) default).2.1)) r19.1 r19.2 y7 y8 y9 false y10 r18.2.1 y14 r18.1)))) (none)
  | .p61 y1 y2 y3 y4 y5 y6 y7 y8 y9 y10 y11 y12 y13 y14 y15 => cond y11 ((spec_l1Add n (y15, (y13, ())) (2 : Int) (2 : Int)).bind fun r18 => cond (decide (0 ≤ (IntKind.wrap .u64 y3))) ((spec_l1Add n (r18.1, r18.2) (IntKind.wrap .i64 (shr .u64 y5 (IntKind.wrap .u64 y3))) (IntKind.wrap .i64 ((IntKind.wrap .i64 ((64 : Int) - y2)) - y3))).bind fun r19 => K (.p15 y1 y2 y3 y4 y8 y9 (IntKind.wrap .i64 (y10 + (1 : Int))) y12 r19.2.1 y14 r19.1)) (none)) ((spec_l1Add n (y15, (y13, ())) (3 : Int) (2 : Int)).bind fun r18 => (spec_l1Add n (r18.1, r18.2) y6 (6 : Int)).bind fun r19 => (spec_l1Add n (r19.1, r19.2) (IntKind.wrap .i64 ((IntKind.wrap .i64 ((IntKind.wrap .i64 ((64 : Int) - y6)) - y7)) - (1 : Int))) (6 : Int)).bind fun r20 => cond (decide (0 ≤ (IntKind.wrap .u64 y7))) ((spec_l1Add n (r20.1, r20.2) (IntKind.wrap .i64 (shr .u64 y5 (IntKind.wrap .u64 y7))) (IntKind.wrap .i64 ((IntKind.wrap .i64 ((64 : Int) - y6)) - y7))).bind fun r21 => K (.p15 y1 y6 y7 y4 y8 y9 (IntKind.wrap .i64 (y10 + (1 : Int))) y12 r21.2.1 y14 r21.1)) (none))
def spec_l6Pack (n : Nat) (a0 : List ((Int) × ((Int) × (Unit)))) : Option (Tup [(.pair (.sl false (.int .u8)) (.pair (.int .i64) .unit))]) := goRec spec_l6Pack.step n (.p0 a0)
def spec_l6Pack.spec : Ctr := ⟨14, [.v (.sl false (.pair (.int .i64) (.pair (.int .i64) .unit)))], [(.pair (.sl false (.int .u8)) (.pair (.int .i64) .unit))], [], fun n x => spec_l6Pack n x.1⟩
theorem spec_l6Pack.seg_eq : SegEq ty gl spec_l6Pack.F spec_l6Pack.md spec_l6Pack.T spec_l6Pack.spec spec_l6Pack.lb spec_l6Pack.st spec_l6Pack.step := by
  intro n goto y; cases y <;> kernel_rfl
theorem spec_l6Pack.text : Text Go.Proofs.Tryd.prog spec_l6Pack.F spec_l6Pack.spec := textOf Go.Proofs.Tryd.f14
theorem spec_l6Pack.ok : CtrOK Go.Proofs.Tryd.prog gl spec_l6Pack.spec :=
  ctr_okS tabs spec_l6Pack.text spec_l6Pack.seg_eq (fun n x => ⟨.p0 x.1, rfl, rfl, rfl⟩) (consC spec_l1Add.ok (consC spec_l6PutBend.ok (consC spec_l6Zeros.ok (nilC))))

/-! loop.example/g00039/spec.PackChunk -/
def spec_PackChunk.T : List Ctr := [spec_GoodSamples.spec, spec_l6Pack.spec]
def spec_PackChunk.md : List (Nat × List Md) := []
noncomputable def spec_PackChunk.F : Fun := ⟨(Go.Proofs.Tryd.f5.body).getD .skip, [.v (.sl false (.pair (.int .i64) (.pair (.int .i64) .unit)))], [(.cell 2 26, (.pair (.sl false (.int .u8)) (.pair (.int .i64) .unit)))], [], 0, []⟩
inductive spec_PackChunk.Pt where
  | p0 (a0 : List ((Int) × ((Int) × (Unit))))
def spec_PackChunk.lb : spec_PackChunk.Pt → Nat
  | .p0 _ => 0
def spec_PackChunk.st : spec_PackChunk.Pt → St
  | .p0 a0 => enter [.v (.sl false (.pair (.int .i64) (.pair (.int .i64) .unit))) a0] 0
def spec_PackChunk.step (n : Nat) (K : spec_PackChunk.Pt → Option (Tup [(.pair (.sl false (.int .u8)) (.pair (.int .i64) .unit))])) : spec_PackChunk.Pt → Option (Tup [(.pair (.sl false (.int .u8)) (.pair (.int .i64) .unit))])
  | .p0 a0 => (spec_GoodSamples n a0).bind fun r4 => cond (!r4) (some (([] : List (Int)), (default : (Int) × (Unit)))) (cond (decide ((120 : Int) < ((List.length a0) : Int))) (some (([] : List (Int)), (default : (Int) × (Unit)))) ((spec_l6Pack n a0).bind fun r5 => some (r5.1, r5.2)))
def spec_PackChunk (n : Nat) (a0 : List ((Int) × ((Int) × (Unit)))) : Option (Tup [(.pair (.sl false (.int .u8)) (.pair (.int .i64) .unit))]) := goRec spec_PackChunk.step n (.p0 a0)
def spec_PackChunk.spec : Ctr := ⟨5, [.v (.sl false (.pair (.int .i64) (.pair (.int .i64) .unit)))], [(.pair (.sl false (.int .u8)) (.pair (.int .i64) .unit))], [], fun n x => spec_PackChunk n x.1⟩
theorem spec_PackChunk.seg_eq : SegEq ty gl spec_PackChunk.F spec_PackChunk.md spec_PackChunk.T spec_PackChunk.spec spec_PackChunk.lb spec_PackChunk.st spec_PackChunk.step := by
  intro n goto y; cases y <;> kernel_rfl
theorem spec_PackChunk.text : Text Go.Proofs.Tryd.prog spec_PackChunk.F spec_PackChunk.spec := textOf Go.Proofs.Tryd.f5
theorem spec_PackChunk.ok : CtrOK Go.Proofs.Tryd.prog gl spec_PackChunk.spec :=
  ctr_okS tabs spec_PackChunk.text spec_PackChunk.seg_eq (fun n x => ⟨.p0 x.1, rfl, rfl, rfl⟩) (consC spec_GoodSamples.ok (consC spec_l6Pack.ok (nilC)))

/-! loop.example/g00039/impl.isTime -/
def impl_isTime.T : List Ctr := []
def impl_isTime.md : List (Nat × List Md) := []
noncomputable def impl_isTime.F : Fun := ⟨(Go.Proofs.Tryd.f26.body).getD .skip, [.v (.int .i64)], [(.tmp 2, .bool)], [], 0, []⟩
inductive impl_isTime.Pt where
  | p0 (a0 : Int)
def impl_isTime.lb : impl_isTime.Pt → Nat
  | .p0 _ => 0
def impl_isTime.st : impl_isTime.Pt → St
  | .p0 a0 => enter [.v (.int .i64) a0] 0
def impl_isTime.step (n : Nat) (K : impl_isTime.Pt → Option (Tup [.bool])) : impl_isTime.Pt → Option (Tup [.bool])
  | .p0 a0 => cond (decide ((0 : Int) ≤ a0)) (some (decide (a0 ≤ (1000000000000 : Int)))) (some false)
def impl_isTime (n : Nat) (a0 : Int) : Option (Tup [.bool]) := goRec impl_isTime.step n (.p0 a0)
def impl_isTime.spec : Ctr := ⟨26, [.v (.int .i64)], [.bool], [], fun n x => impl_isTime n x.1⟩
theorem impl_isTime.seg_eq : SegEq ty gl impl_isTime.F impl_isTime.md impl_isTime.T impl_isTime.spec impl_isTime.lb impl_isTime.st impl_isTime.step := by
  intro n goto y; cases y <;> kernel_rfl
theorem impl_isTime.text : Text Go.Proofs.Tryd.prog impl_isTime.F impl_isTime.spec := textOf Go.Proofs.Tryd.f26
theorem impl_isTime.ok : CtrOK Go.Proofs.Tryd.prog gl impl_isTime.spec :=
  ctr_okS tabs impl_isTime.text impl_isTime.seg_eq (fun n x => ⟨.p0 x.1, rfl, rfl, rfl⟩) (nilC)

/-! loop.example/g00039/impl.GoodSamples -/
def impl_GoodSamples.T : List Ctr := [impl_isTime.spec]
def impl_GoodSamples.md : List (Nat × List Md) := []
noncomputable def impl_GoodSamples.F : Fun := ⟨(Go.Proofs.Tryd.f16.body).getD .skip, [.v (.sl false (.pair (.int .i64) (.pair (.int .i64) .unit)))], [(.tmp 2, .bool)], [], 0, [(15, ⟨[0, 8, 9, 10], [(8, (.pair (.int .i64) (.pair (.int .i64) .unit)))], [], false⟩), (26, ⟨[0, 8, 9, 10, 33], [(8, (.pair (.int .i64) (.pair (.int .i64) .unit)))], [], false⟩)]⟩
inductive impl_GoodSamples.Pt where
  | p0 (a0 : List ((Int) × ((Int) × (Unit))))
  | p15 (y1 : List ((Int) × ((Int) × (Unit)))) (y2 : List ((Int) × ((Int) × (Unit)))) (y3 : Int) (y4 : Int)
  | p26 (y1 : List ((Int) × ((Int) × (Unit)))) (y2 : List ((Int) × ((Int) × (Unit)))) (y3 : Int) (y4 : Int) (y5 : Bool)
def impl_GoodSamples.lb : impl_GoodSamples.Pt → Nat
  | .p0 _ => 0
  | .p15 _ _ _ _ => 15
  | .p26 _ _ _ _ _ => 26
def impl_GoodSamples.st : impl_GoodSamples.Pt → St
  | .p0 a0 => enter [.v (.sl false (.pair (.int .i64) (.pair (.int .i64) .unit))) a0] 0
  | .p15 y1 y2 y3 y4 => ⟨[(0, .im (.sl false (.pair (.int .i64) (.pair (.int .i64) .unit))) y1), (8, .im (.sl false (.pair (.int .i64) (.pair (.int .i64) .unit))) y2), (9, .im (.int .i64) y3), (10, .im (.int .i64) y4)], [], 0⟩
  | .p26 y1 y2 y3 y4 y5 => ⟨[(0, .im (.sl false (.pair (.int .i64) (.pair (.int .i64) .unit))) y1), (8, .im (.sl false (.pair (.int .i64) (.pair (.int .i64) .unit))) y2), (9, .im (.int .i64) y3), (10, .im (.int .i64) y4), (33, .im .bool y5)], [], 0⟩
def impl_GoodSamples.step (n : Nat) (K : impl_GoodSamples.Pt → Option (Tup [.bool])) : impl_GoodSamples.Pt → Option (Tup [.bool])
  | .p0 a0 => cond (decide ((2000 : Int) < ((List.length a0) : Int))) (some false) (K (.p15 a0 a0 ((List.length a0) : Int) (0 : Int)))
  | .p15 y1 y2 y3 y4 => cond (decide (y4 < y3)) (cond (inB y4 (List.length y2)) ((impl_isTime n (List.getD y2 (Int.toNat y4) default).1).bind fun r7 => cond (!r7) (K (.p26 y1 y2 y3 y4 true)) (cond (decide ((0 : Int) < y4)) (cond (inB (IntKind.wrap .i64 (y4 - (1 : Int))) (List.length y1)) (K (.p26 y1 y2 y3 y4 (decide ((List.getD y2 (Int.toNat y4) default).1 ≤ (List.getD y1 (Int.toNat (IntKind.wrap .i64 (y4 - (1 : Int)))) default).1)))) (none)) (K (.p26 y1 y2 y3 y4 false)))) (none)) (some true)
  | .p26 y1 y2 y3 y4 y5 => cond y5 (some false) (K (.p15 y1 y2 y3 (IntKind.wrap .i64 (y4 + (1 : Int)))))
def impl_GoodSamples (n : Nat) (a0 : List ((Int) × ((Int) × (Unit)))) : Option (Tup [.bool]) := goRec impl_GoodSamples.step n (.p0 a0)
def impl_GoodSamples.spec : Ctr := ⟨16, [.v (.sl false (.pair (.int .i64) (.pair (.int .i64) .unit)))], [.bool], [], fun n x => impl_GoodSamples n x.1⟩
theorem impl_GoodSamples.seg_eq : SegEq ty gl impl_GoodSamples.F impl_GoodSamples.md impl_GoodSamples.T impl_GoodSamples.spec impl_GoodSamples.lb impl_GoodSamples.st impl_GoodSamples.step := by
  intro n goto y; cases y <;> kernel_rfl
theorem impl_GoodSamples.text : Text Go.Proofs.Tryd.prog impl_GoodSamples.F impl_GoodSamples.spec := textOf Go.Proofs.Tryd.f16
theorem impl_GoodSamples.ok : CtrOK Go.Proofs.Tryd.prog gl impl_GoodSamples.spec :=
  ctr_okS tabs impl_GoodSamples.text impl_GoodSamples.seg_eq (fun n x => ⟨.p0 x.1, rfl, rfl, rfl⟩) (consC impl_isTime.ok (nilC))

/-! (*loop.example/g00039/impl.bitWriter).put -/
def impl_bitWriter__put.T : List Ctr := []
def impl_bitWriter__put.md : List (Nat × List Md) := []
noncomputable def impl_bitWriter__put.F : Fun := ⟨(Go.Proofs.Tryd.f27.body).getD .skip, [.p (.pair (.sl false (.int .u8)) (.pair (.int .i64) .unit)), .v (.int .i64), .v (.int .i64)], [], [some (.pair (.sl false (.int .u8)) (.pair (.int .i64) .unit))], 1, [(4, ⟨[0, 1, 6], [], [], false⟩), (13, ⟨[0, 1, 6], [], [], false⟩)]⟩
inductive impl_bitWriter__put.Pt where
  | p0 (a0 : (List (Int)) × ((Int) × (Unit))) (a1 : Int) (a2 : Int)
  | p4 (y1 : Int) (y2 : Int) (y3 : Int) (y4 : List (Int))
  | p13 (y1 : Int) (y2 : Int) (y3 : Int) (y4 : List (Int))
def impl_bitWriter__put.lb : impl_bitWriter__put.Pt → Nat
  | .p0 _ _ _ => 0
  | .p4 _ _ _ _ => 4
  | .p13 _ _ _ _ => 13
def impl_bitWriter__put.st : impl_bitWriter__put.Pt → St
  | .p0 a0 a1 a2 => enter [.p (.pair (.sl false (.int .u8)) (.pair (.int .i64) .unit)) a0, .v (.int .i64) a1, .v (.int .i64) a2] 1
  | .p4 y1 y2 y3 y4 => ⟨[(0, .po 0 0), (1, .im (.int .i64) y1), (6, .im (.int .i64) y2)], [(0, .obj [.hs 1 [] none 0, .im (.int .i64) y3]), (1, .arr false (.int .u8) y4 0)], 2⟩
  | .p13 y1 y2 y3 y4 => ⟨[(0, .po 0 0), (1, .im (.int .i64) y1), (6, .im (.int .i64) y2)], [(0, .obj [.hs 1 [] none 0, .im (.int .i64) y3]), (1, .arr false (.int .u8) y4 0)], 2⟩
def impl_bitWriter__put.step (n : Nat) (K : impl_bitWriter__put.Pt → Option (Tup [(.pair (.sl false (.int .u8)) (.pair (.int .i64) .unit))])) : impl_bitWriter__put.Pt → Option (Tup [(.pair (.sl false (.int .u8)) (.pair (.int .i64) .unit))])
  | .p0 a0 a1 a2 => K (.p4 a1 (IntKind.wrap .i64 (a2 - (1 : Int))) a0.2.1 a0.1)
  | .p4 y1 y2 y3 y4 => cond (decide ((0 : Int) ≤ y2)) (cond (decide ((Int.tmod y3 (8 : Int)) = (0 : Int))) (cond (room ((List.length y4) + (List.length [(0 : Int)]))) (K (.p13 y1 y2 y3 (y4 ++ [(0 : Int)]))) (none)) (K (.p13 y1 y2 y3 y4))) (some (y4, (y3, ())))
  | .p13 y1 y2 y3 y4 => cond (decide (0 ≤ y2)) (cond (decide ((band .u64 (shr .u64 (IntKind.wrap .u64 y1) y2) (1 : Int)) = (1 : Int))) (cond (inB (IntKind.wrap .i64 (Int.tdiv y3 (8 : Int))) (List.length y4)) (cond (decide (0 ≤ (Int.tmod y3 (8 : Int)))) (cond (inB (IntKind.wrap .i64 (Int.tdiv y3 (8 : Int))) (List.length y4)) (K (.p4 y1 (IntKind.wrap .i64 (y2 - (1 : Int))) (IntKind.wrap .i64 (y3 + (1 : Int))) (List.set y4 (0 + (Int.toNat (IntKind.wrap .i64 (Int.tdiv y3 (8 : Int))))) (bor .u8 (List.getD y4 (0 + (Int.toNat (IntKind.wrap .i64 (Int.tdiv y3 (8 : Int))))) default) (shr .u8 (128 : Int) (Int.tmod y3 (8 : Int))))))) (none)) (none)) (none)) (K (.p4 y1 (IntKind.wrap .i64 (y2 - (1 : Int))) (IntKind.wrap .i64 (y3 + (1 : Int))) y4))) (none)
def impl_bitWriter__put (n : Nat) (a0 : (List (Int)) × ((Int) × (Unit))) (a1 : Int) (a2 : Int) : Option (Tup [(.pair (.sl false (.int .u8)) (.pair (.int .i64) .unit))]) := goRec impl_bitWriter__put.step n (.p0 a0 a1 a2)
def impl_bitWriter__put.spec : Ctr := ⟨27, [.p (.pair (.sl false (.int .u8)) (.pair (.int .i64) .unit)), .v (.int .i64), .v (.int .i64)], [], [(.pair (.sl false (.int .u8)) (.pair (.int .i64) .unit))], fun n x => impl_bitWriter__put n x.1 x.2.1 x.2.2.1⟩
theorem impl_bitWriter__put.seg_eq : SegEq ty gl impl_bitWriter__put.F impl_bitWriter__put.md impl_bitWriter__put.T impl_bitWriter__put.spec impl_bitWriter__put.lb impl_bitWriter__put.st impl_bitWriter__put.step := by
  intro n goto y; cases y <;> kernel_rfl
theorem impl_bitWriter__put.text : Text Go.Proofs.Tryd.prog impl_bitWriter__put.F impl_bitWriter__put.spec := textOf Go.Proofs.Tryd.f27
theorem impl_bitWriter__put.ok : CtrOK Go.Proofs.Tryd.prog gl impl_bitWriter__put.spec :=
  ctr_okS tabs impl_bitWriter__put.text impl_bitWriter__put.seg_eq (fun n x => ⟨.p0 x.1 x.2.1 x.2.2.1, rfl, rfl, rfl⟩) (nilC)

/-! math/bits.Len64 -/
def bits_Len64.T : List Ctr := []
def bits_Len64.md : List (Nat × List Md) := []
noncomputable def bits_Len64.F : Fun := ⟨(Go.Proofs.Tryd.f31.body).getD .skip, [.v (.int .u64)], [(.tmp 2, (.int .i64))], [], 0, [(11, ⟨[0, 2], [], [], false⟩)]⟩
inductive bits_Len64.Pt where
  | p0 (a0 : Int)
  | p11 (y1 : Int) (y2 : Int)
def bits_Len64.lb : bits_Len64.Pt → Nat
  | .p0 _ => 0
  | .p11 _ _ => 11
def bits_Len64.st : bits_Len64.Pt → St
  | .p0 a0 => enter [.v (.int .u64) a0] 0
  | .p11 y1 y2 => ⟨[(0, .im (.int .u64) y1), (2, .im (.int .i64) y2)], [], 0⟩
def bits_Len64.step (n : Nat) (K : bits_Len64.Pt → Option (Tup [(.int .i64)])) : bits_Len64.Pt → Option (Tup [(.int .i64)])
  | .p0 a0 => cond (decide ((4294967296 : Int) ≤ a0)) (cond (decide ((65536 : Int) ≤ (shr .u64 a0 (32 : Int)))) (K (.p11 (shr .u64 (shr .u64 a0 (32 : Int)) (16 : Int)) (IntKind.wrap .i64 ((32 : Int) + (16 : Int))))) (K (.p11 (shr .u64 a0 (32 : Int)) (32 : Int)))) (cond (decide ((65536 : Int) ≤ a0)) (K (.p11 (shr .u64 a0 (16 : Int)) (IntKind.wrap .i64 ((0 : Int) + (16 : Int))))) (K (.p11 a0 (0 : Int))))
  | .p11 y1 y2 => cond (decide ((256 : Int) ≤ y1)) (cond (inB (IntKind.wrap .u8 (shr .u64 y1 (8 : Int))) (ByteArray.size (⟨#[0, 1, 2, 2, 3, 3, 3, 3, 4, 4, 4, 4, 4, 4, 4, 4, 5, 5, 5, 5, 5, 5, 5, 5, 5, 5, 5, 5, 5, 5, 5, 5, 6, 6, 6, 6, 6, 6, 6, 6, 6, 6, 6, 6, 6, 6, 6, 6, 6, 6, 6, 6, 6, 6, 6, 6, 6, 6, 6, 6, 6, 6, 6, 6, 7, 7, 7, 7, 7, 7, 7, 7, 7, 7, 7, 7, 7, 7, 7, 7, 7, 7, 7, 7, 7, 7, 7, 7, 7, 7, 7, 7, 7, 7, 7, 7, 7, 7, 7, 7, 7, 7, 7, 7, 7, 7, 7, 7, 7, 7, 7, 7, 7, 7, 7, 7, 7, 7, 7, 7, 7, 7, 7, 7, 7, 7, 7, 7, 8, 8, 8, 8, 8, 8, 8, 8, 8, 8, 8, 8, 8, 8, 8, 8, 8, 8, 8, 8, 8, 8, 8, 8, 8, 8, 8, 8, 8, 8, 8, 8, 8, 8, 8, 8, 8, 8, 8, 8, 8, 8, 8, 8, 8, 8, 8, 8, 8, 8, 8, 8, 8, 8, 8, 8, 8, 8, 8, 8, 8, 8, 8, 8, 8, 8, 8, 8, 8, 8, 8, 8, 8, 8, 8, 8, 8, 8, 8, 8, 8, 8, 8, 8, 8, 8, 8, 8, 8, 8, 8, 8, 8, 8, 8, 8, 8, 8, 8, 8, 8, 8, 8, 8, 8, 8, 8, 8, 8, 8, 8, 8, 8, 8, 8, 8, 8, 8, 8, 8, 8, 8, 8, 8, 8, 8, 8, 8]⟩ : ByteArray))) (some (IntKind.wrap .i64 ((IntKind.wrap .i64 (y2 + (8 : Int))) + (IntKind.wrap .i64 (bt (⟨#[0, 1, 2, 2, 3, 3, 3, 3, 4, 4, 4, 4, 4, 4, 4, 4, 5, 5, 5, 5, 5, 5, 5, 5, 5, 5, 5, 5, 5, 5, 5, 5, 6, 6, 6, 6, 6, 6, 6, 6, 6, 6, 6, 6, 6, 6, 6, 6, 6, 6, 6, 6, 6, 6, 6, 6, 6, 6, 6, 6, 6, 6, 6, 6, 7, 7, 7, 7, 7, 7, 7, 7, 7, 7, 7, 7, 7, 7, 7, 7, 7, 7, 7, 7, 7, 7, 7, 7, 7, 7, 7, 7, 7, 7, 7, 7, 7, 7, 7, 7, 7, 7, 7, 7, 7, 7, 7, 7, 7, 7, 7, 7, 7, 7, 7, 7, 7, 7, 7, 7, 7, 7, 7, 7, 7, 7, 7, 7, 8, 8, 8, 8, 8, 8, 8, 8, 8, 8, 8, 8, 8, 8, 8, 8, 8, 8, 8, 8, 8, 8, 8, 8, 8, 8, 8, 8, 8, 8, 8, 8, 8, 8, 8, 8, 8, 8, 8, 8, 8, 8, 8, 8, 8, 8, 8, 8, 8, 8, 8, 8, 8, 8, 8, 8, 8, 8, 8, 8, 8, 8, 8, 8, 8, 8, 8, 8, 8, 8, 8, 8, 8, 8, 8, 8, 8, 8, 8, 8, 8, 8, 8, 8, 8, 8, 8, 8, 8, 8, 8, 8, 8, 8, 8, 8, 8, 8, 8, 8, 8, 8, 8, 8, 8, 8, 8, 8, 8, 8, 8, 8, 8, 8, 8, 8, 8, 8, 8, 8, 8, 8, 8, 8, 8, 8, 8, 8]⟩ : ByteArray) (IntKind.wrap .u8 (shr .u64 y1 (8 : Int)))))))) (none)) (cond (inB (IntKind.wrap .u8 y1) (ByteArray.size (⟨#[0, 1, 2, 2, 3, 3, 3, 3, 4, 4, 4, 4, 4, 4, 4, 4, 5, 5, 5, 5, 5, 5, 5, 5, 5, 5, 5, 5, 5, 5, 5, 5, 6, 6, 6, 6, 6, 6, 6, 6, 6, 6, 6, 6, 6, 6, 6, 6, 6, 6, 6, 6, 6, 6, 6, 6, 6, 6, 6, 6, 6, 6, 6, 6, 7, 7, 7, 7, 7, 7, 7, 7, 7, 7, 7, 7, 7, 7, 7, 7, 7, 7, 7, 7, 7, 7, 7, 7, 7, 7, 7, 7, 7, 7, 7, 7, 7, 7, 7, 7, 7, 7, 7, 7, 7, 7, 7, 7, 7, 7, 7, 7, 7, 7, 7, 7, 7, 7, 7, 7, 7, 7, 7, 7, 7, 7, 7, 7, 8, 8, 8, 8, 8, 8, 8, 8, 8, 8, 8, 8, 8, 8, 8, 8, 8, 8, 8, 8, 8, 8, 8, 8, 8, 8, 8, 8, 8, 8, 8, 8, 8, 8, 8, 8, 8, 8, 8, 8, 8, 8, 8, 8, 8, 8, 8, 8, 8, 8, 8, 8, 8, 8, 8, 8, 8, 8, 8, 8, 8, 8, 8, 8, 8, 8, 8, 8, 8, 8, 8, 8, 8, 8, 8, 8, 8, 8, 8, 8, 8, 8, 8, 8, 8, 8, 8, 8, 8, 8, 8, 8, 8, 8, 8, 8, 8, 8, 8, 8, 8, 8, 8, 8, 8, 8, 8, 8, 8, 8, 8, 8, 8, 8, 8, 8, 8, 8, 8, 8, 8, 8, 8, 8, 8, 8, 8, 8]⟩ : ByteArray))) (some (IntKind.wrap .i64 (y2 + (IntKind.wrap .i64 (bt (⟨#[0, 1, 2, 2, 3, 3, 3, 3, 4, 4, 4, 4, 4, 4, 4, 4, 5, 5, 5, 5, 5, 5, 5, 5, 5, 5, 5, 5, 5, 5, 5, 5, 6, 6, 6, 6, 6, 6, 6, 6, 6, 6, 6, 6, 6, 6, 6, 6, 6, 6, 6, 6, 6, 6, 6, 6, 6, 6, 6, 6, 6, 6, 6, 6, 7, 7, 7, 7, 7, 7, 7, 7, 7, 7, 7, 7, 7, 7, 7, 7, 7, 7, 7, 7, 7, 7, 7, 7, 7, 7, 7, 7, 7, 7, 7, 7, 7, 7, 7, 7, 7, 7, 7, 7, 7, 7, 7, 7, 7, 7, 7, 7, 7, 7, 7, 7, 7, 7, 7, 7, 7, 7, 7, 7, 7, 7, 7, 7, 8, 8, 8, 8, 8, 8, 8, 8, 8, 8, 8, 8, 8, 8, 8, 8, 8, 8, 8, 8, 8, 8, 8, 8, 8, 8, 8, 8, 8, 8, 8, 8, 8, 8, 8, 8, 8, 8, 8, 8, 8, 8, 8, 8, 8, 8, 8, 8, 8, 8, 8, 8, 8, 8, 8, 8, 8, 8, 8, 8, 8, 8, 8, 8, 8, 8, 8, 8, 8, 8, 8, 8, 8, 8, 8, 8, 8, 8, 8, 8, 8, 8, 8, 8, 8, 8, 8, 8, 8, 8, 8, 8, 8, 8, 8, 8, 8, 8, 8, 8, 8, 8, 8, 8, 8, 8, 8, 8, 8, 8, 8, 8, 8, 8, 8, 8, 8, 8, 8, 8, 8, 8, 8, 8, 8, 8, 8, 8]⟩ : ByteArray) (IntKind.wrap .u8 y1)))))) (none))
def bits_Len64 (n : Nat) (a0 : Int) : Option (Tup [(.int .i64)]) := goRec bits_Len64.step n (.p0 a0)
def bits_Len64.spec : Ctr := ⟨31, [.v (.int .u64)], [(.int .i64)], [], fun n x => bits_Len64 n x.1⟩
theorem bits_Len64.seg_eq : SegEq ty gl bits_Len64.F bits_Len64.md bits_Len64.T bits_Len64.spec bits_Len64.lb bits_Len64.st bits_Len64.step := by
  intro n goto y; cases y <;> kernel_rfl
theorem bits_Len64.text : Text Go.Proofs.Tryd.prog bits_Len64.F bits_Len64.spec := textOf Go.Proofs.Tryd.f31
theorem bits_Len64.ok : CtrOK Go.Proofs.Tryd.prog gl bits_Len64.spec :=
  ctr_okS tabs bits_Len64.text bits_Len64.seg_eq (fun n x => ⟨.p0 x.1, rfl, rfl, rfl⟩) (nilC)

/-! math/bits.LeadingZeros64 -/
def bits_LeadingZeros64.T : List Ctr := [bits_Len64.spec]
def bits_LeadingZeros64.md : List (Nat × List Md) := []
noncomputable def bits_LeadingZeros64.F : Fun := ⟨(Go.Proofs.Tryd.f28.body).getD .skip, [.v (.int .u64)], [(.tmp 2, (.int .i64))], [], 0, []⟩
inductive bits_LeadingZeros64.Pt where
  | p0 (a0 : Int)
def bits_LeadingZeros64.lb : bits_LeadingZeros64.Pt → Nat
  | .p0 _ => 0
def bits_LeadingZeros64.st : bits_LeadingZeros64.Pt → St
  | .p0 a0 => enter [.v (.int .u64) a0] 0
def bits_LeadingZeros64.step (n : Nat) (K : bits_LeadingZeros64.Pt → Option (Tup [(.int .i64)])) : bits_LeadingZeros64.Pt → Option (Tup [(.int .i64)])
  | .p0 a0 => (bits_Len64 n a0).bind fun (r4 : Int) => some (IntKind.wrap .i64 ((64 : Int) - r4))
def bits_LeadingZeros64 (n : Nat) (a0 : Int) : Option (Tup [(.int .i64)]) := goRec bits_LeadingZeros64.step n (.p0 a0)
def bits_LeadingZeros64.spec : Ctr := ⟨28, [.v (.int .u64)], [(.int .i64)], [], fun n x => bits_LeadingZeros64 n x.1⟩
theorem bits_LeadingZeros64.seg_eq : SegEq ty gl bits_LeadingZeros64.F bits_LeadingZeros64.md bits_LeadingZeros64.T bits_LeadingZeros64.spec bits_LeadingZeros64.lb bits_LeadingZeros64.st bits_LeadingZeros64.step := by
  intro n goto y; cases y <;> kernel_rfl
theorem bits_LeadingZeros64.text : Text Go.Proofs.Tryd.prog bits_LeadingZeros64.F bits_LeadingZeros64.spec := textOf Go.Proofs.Tryd.f28
theorem bits_LeadingZeros64.ok : CtrOK Go.Proofs.Tryd.prog gl bits_LeadingZeros64.spec :=
  ctr_okS tabs bits_LeadingZeros64.text bits_LeadingZeros64.seg_eq (fun n x => ⟨.p0 x.1, rfl, rfl, rfl⟩) (consC bits_Len64.ok (nilC))

/-! math/bits.TrailingZeros64 -/
def bits_TrailingZeros64.T : List Ctr := []
def bits_TrailingZeros64.md : List (Nat × List Md) := []
noncomputable def bits_TrailingZeros64.F : Fun := ⟨(Go.Proofs.Tryd.f29.body).getD .skip, [.v (.int .u64)], [(.tmp 2, (.int .i64))], [], 0, []⟩
inductive bits_TrailingZeros64.Pt where
  | p0 (a0 : Int)
def bits_TrailingZeros64.lb : bits_TrailingZeros64.Pt → Nat
  | .p0 _ => 0
def bits_TrailingZeros64.st : bits_TrailingZeros64.Pt → St
  | .p0 a0 => enter [.v (.int .u64) a0] 0
def bits_TrailingZeros64.step (n : Nat) (K : bits_TrailingZeros64.Pt → Option (Tup [(.int .i64)])) : bits_TrailingZeros64.Pt → Option (Tup [(.int .i64)])
  | .p0 a0 => cond (decide (a0 = (0 : Int))) (some (64 : Int)) (cond (inB (shr .u64 (IntKind.wrap .u64 ((285870213051353865 : Int) * (band .u64 a0 (IntKind.wrap .u64 ((0 : Int) - a0))))) (58 : Int)) 64) (some (IntKind.wrap .i64 (List.getD (List.getD [[(0 : Int), (1 : Int), (56 : Int), (2 : Int), (57 : Int), (49 : Int), (28 : Int), (3 : Int), (61 : Int), (58 : Int), (42 : Int), (50 : Int), (38 : Int), (29 : Int), (17 : Int), (4 : Int), (62 : Int), (47 : Int), (59 : Int), (36 : Int), (45 : Int), (43 : Int), (51 : Int), (22 : Int), (53 : Int), (39 : Int), (33 : Int), (30 : Int), (24 : Int), (18 : Int), (12 : Int), (5 : Int), (63 : Int), (55 : Int), (48 : Int), (27 : Int), (60 : Int), (41 : Int), (37 : Int), (16 : Int), (46 : Int), (35 : Int), (44 : Int), (21 : Int), (52 : Int), (32 : Int), (23 : Int), (11 : Int), (54 : Int), (26 : Int), (40 : Int), (15 : Int), (34 : Int), (20 : Int), (31 : Int), (10 : Int), (25 : Int), (14 : Int), (19 : Int), (9 : Int), (13 : Int), (8 : Int), (7 : Int), (6 : Int)]] 0 default) (Int.toNat (shr .u64 (IntKind.wrap .u64 ((285870213051353865 : Int) * (band .u64 a0 (IntKind.wrap .u64 ((0 : Int) - a0))))) (58 : Int))) default))) (none))
def bits_TrailingZeros64 (n : Nat) (a0 : Int) : Option (Tup [(.int .i64)]) := goRec bits_TrailingZeros64.step n (.p0 a0)
def bits_TrailingZeros64.spec : Ctr := ⟨29, [.v (.int .u64)], [(.int .i64)], [], fun n x => bits_TrailingZeros64 n x.1⟩
theorem bits_TrailingZeros64.seg_eq : SegEq ty gl bits_TrailingZeros64.F bits_TrailingZeros64.md bits_TrailingZeros64.T bits_TrailingZeros64.spec bits_TrailingZeros64.lb bits_TrailingZeros64.st bits_TrailingZeros64.step := by
  intro n goto y; cases y <;> kernel_rfl
theorem bits_TrailingZeros64.text : Text Go.Proofs.Tryd.prog bits_TrailingZeros64.F bits_TrailingZeros64.spec := textOf Go.Proofs.Tryd.f29
theorem bits_TrailingZeros64.ok : CtrOK Go.Proofs.Tryd.prog gl bits_TrailingZeros64.spec :=
  ctr_okS tabs bits_TrailingZeros64.text bits_TrailingZeros64.seg_eq (fun n x => ⟨.p0 x.1, rfl, rfl, rfl⟩) (nilC)

/-! loop.example/g00039/impl.packChunk -/
def impl_packChunk.T : List Ctr := [impl_bitWriter__put.spec, bits_LeadingZeros64.spec, bits_TrailingZeros64.spec]
def impl_packChunk.md : List (Nat × List Md) := [(27, [.p (.pair (.sl false (.int .u8)) (.pair (.int .i64) .unit)), .v, .v])]
noncomputable def impl_packChunk.F : Fun := ⟨(Go.Proofs.Tryd.f17.body).getD .skip, [.v (.sl false (.pair (.int .i64) (.pair (.int .i64) .unit)))], [(.cell 2 26, (.pair (.sl false (.int .u8)) (.pair (.int .i64) .unit)))], [], 0, [(15, ⟨[0, 2, 3, 4, 5, 6, 7, 21, 22, 23], [(21, (.pair (.int .i64) (.pair (.int .i64) .unit)))], [(2, 0, (.int .u8))], false⟩), (42, ⟨[0, 2, 3, 4, 5, 6, 7, 8, 9, 11, 21, 22, 23], [(21, (.pair (.int .i64) (.pair (.int .i64) .unit)))], [(2, 0, (.int .u8))], false⟩), (49, ⟨[0, 2, 3, 4, 5, 6, 7, 8, 9, 21, 22, 23], [(21, (.pair (.int .i64) (.pair (.int .i64) .unit)))], [(2, 0, (.int .u8))], false⟩), (54, ⟨[0, 2, 3, 4, 5, 6, 7, 8, 9, 11, 21, 22, 23, 64], [(21, (.pair (.int .i64) (.pair (.int .i64) .unit)))], [(2, 0, (.int .u8))], false⟩), (60, ⟨[0, 2, 3, 4, 5, 6, 7, 8, 9, 11, 21, 22, 23, 77], [(21, (.pair (.int .i64) (.pair (.int .i64) .unit)))], [(2, 0, (.int .u8))], false⟩), (66, ⟨[0, 2, 3, 4, 5, 6, 7, 8, 9, 11, 21, 22, 23, 90], [(21, (.pair (.int .i64) (.pair (.int .i64) .unit)))], [(2, 0, (.int .u8))], false⟩), (88, ⟨[0, 2, 3, 4, 5, 6, 7, 12, 13, 14, 21, 22, 23, 131], [(21, (.pair (.int .i64) (.pair (.int .i64) .unit)))], [(2, 0, (.int .u8))], false⟩)]⟩
inductive impl_packChunk.Pt where
  | p0 (a0 : List ((Int) × ((Int) × (Unit))))
  | p15 (y1 : List ((Int) × ((Int) × (Unit)))) (y2 : Int) (y3 : Bool) (y4 : Int) (y5 : Int) (y6 : List ((Int) × ((Int) × (Unit)))) (y7 : Int) (y8 : Int) (y9 : Int) (y10 : Int) (y11 : List (Int)) (y12 : List (Int))
  | p42 (y1 : List ((Int) × ((Int) × (Unit)))) (y2 : Int) (y3 : Bool) (y4 : Int) (y5 : Int) (y6 : Int) (y7 : Int) (y8 : List ((Int) × ((Int) × (Unit)))) (y9 : Int) (y10 : Int) (y11 : Int) (y12 : Int) (y13 : Int) (y14 : Int) (y15 : List (Int)) (y16 : List (Int))
  | p49 (y1 : List ((Int) × ((Int) × (Unit)))) (y2 : Int) (y3 : Bool) (y4 : Int) (y5 : Int) (y6 : Int) (y7 : List ((Int) × ((Int) × (Unit)))) (y8 : Int) (y9 : Int) (y10 : Int) (y11 : Int) (y12 : Int) (y13 : Int) (y14 : List (Int)) (y15 : List (Int))
  | p54 (y1 : List ((Int) × ((Int) × (Unit)))) (y2 : Int) (y3 : Bool) (y4 : Int) (y5 : Int) (y6 : Int) (y7 : Int) (y8 : List ((Int) × ((Int) × (Unit)))) (y9 : Int) (y10 : Int) (y11 : Bool) (y12 : Int) (y13 : Int) (y14 : Int) (y15 : Int) (y16 : List (Int)) (y17 : List (Int))
  | p88 (y1 : List ((Int) × ((Int) × (Unit)))) (y2 : Int) (y3 : Bool) (y4 : Int) (y5 : Int) (y6 : Int) (y7 : Int) (y8 : Int) (y9 : List ((Int) × ((Int) × (Unit)))) (y10 : Int) (y11 : Int) (y12 : Bool) (y13 : Int) (y14 : Int) (y15 : List (Int)) (y16 : List (Int))
  | p60 (y1 : List ((Int) × ((Int) × (Unit)))) (y2 : Int) (y3 : Bool) (y4 : Int) (y5 : Int) (y6 : Int) (y7 : Int) (y8 : List ((Int) × ((Int) × (Unit)))) (y9 : Int) (y10 : Int) (y11 : Bool) (y12 : Int) (y13 : Int) (y14 : Int) (y15 : Int) (y16 : List (Int)) (y17 : List (Int))
  | p66 (y1 : List ((Int) × ((Int) × (Unit)))) (y2 : Int) (y3 : Bool) (y4 : Int) (y5 : Int) (y6 : Int) (y7 : Int) (y8 : List ((Int) × ((Int) × (Unit)))) (y9 : Int) (y10 : Int) (y11 : Bool) (y12 : Int) (y13 : Int) (y14 : Int) (y15 : Int) (y16 : List (Int)) (y17 : List (Int))
def impl_packChunk.lb : impl_packChunk.Pt → Nat
  | .p0 _ => 0
  | .p15 _ _ _ _ _ _ _ _ _ _ _ _ => 15
  | .p42 _ _ _ _ _ _ _ _ _ _ _ _ _ _ _ _ => 42
  | .p49 _ _ _ _ _ _ _ _ _ _ _ _ _ _ _ => 49
  | .p54 _ _ _ _ _ _ _ _ _ _ _ _ _ _ _ _ _ => 54
  | .p88 _ _ _ _ _ _ _ _ _ _ _ _ _ _ _ _ => 88
  | .p60 _ _ _ _ _ _ _ _ _ _ _ _ _ _ _ _ _ => 60
  | .p66 _ _ _ _ _ _ _ _ _ _ _ _ _ _ _ _ _ => 66
def impl_packChunk.st : impl_packChunk.Pt → St
  | .p0 a0 => enter [.v (.sl false (.pair (.int .i64) (.pair (.int .i64) .unit))) a0] 0
  | .p15 y1 y2 y3 y4 y5 y6 y7 y8 y9 y10 y11 y12 => ⟨[(0, .im (.sl false (.pair (.int .i64) (.pair (.int .i64) .unit))) y1), (2, .po 0 0), (3, .po 1 0), (4, .im (.int .i64) y2), (5, .im .bool y3), (6, .im (.int .i64) y4), (7, .im (.int .i64) y5), (21, .im (.sl false (.pair (.int .i64) (.pair (.int .i64) .unit))) y6), (22, .im (.int .i64) y7), (23, .im (.int .i64) y8)], [(0, .obj [.hs 2 [] none 0, .im (.int .i64) y9]), (1, .obj [.hs 3 [] none 0, .im (.int .i64) y10]), (2, .arr true (.int .u8) y11 0), (3, .arr false (.int .u8) y12 0)], 4⟩
  | .p42 y1 y2 y3 y4 y5 y6 y7 y8 y9 y10 y11 y12 y13 y14 y15 y16 => ⟨[(0, .im (.sl false (.pair (.int .i64) (.pair (.int .i64) .unit))) y1), (2, .po 0 0), (3, .po 1 0), (4, .im (.int .i64) y2), (5, .im .bool y3), (6, .im (.int .i64) y4), (7, .im (.int .i64) y5), (8, .im (.int .i64) y6), (9, .po 2 0), (11, .im (.int .i64) y7), (21, .im (.sl false (.pair (.int .i64) (.pair (.int .i64) .unit))) y8), (22, .im (.int .i64) y9), (23, .im (.int .i64) y10)], [(0, .obj [.hs 3 [] none 0, .im (.int .i64) y11]), (1, .obj [.hs 4 [] none 0, .im (.int .i64) y12]), (2, .obj [.im (.int .i64) y13, .im (.int .i64) y14]), (3, .arr true (.int .u8) y15 0), (4, .arr false (.int .u8) y16 0)], 5⟩
  | .p49 y1 y2 y3 y4 y5 y6 y7 y8 y9 y10 y11 y12 y13 y14 y15 => ⟨[(0, .im (.sl false (.pair (.int .i64) (.pair (.int .i64) .unit))) y1), (2, .po 0 0), (3, .po 1 0), (4, .im (.int .i64) y2), (5, .im .bool y3), (6, .im (.int .i64) y4), (7, .im (.int .i64) y5), (8, .im (.int .i64) y6), (9, .po 2 0), (21, .im (.sl false (.pair (.int .i64) (.pair (.int .i64) .unit))) y7), (22, .im (.int .i64) y8), (23, .im (.int .i64) y9)], [(0, .obj [.hs 3 [] none 0, .im (.int .i64) y10]), (1, .obj [.hs 4 [] none 0, .im (.int .i64) y11]), (2, .obj [.im (.int .i64) y12, .im (.int .i64) y13]), (3, .arr true (.int .u8) y14 0), (4, .arr false (.int .u8) y15 0)], 5⟩
  | .p54 y1 y2 y3 y4 y5 y6 y7 y8 y9 y10 y11 y12 y13 y14 y15 y16 y17 => ⟨[(0, .im (.sl false (.pair (.int .i64) (.pair (.int .i64) .unit))) y1), (2, .po 0 0), (3, .po 1 0), (4, .im (.int .i64) y2), (5, .im .bool y3), (6, .im (.int .i64) y4), (7, .im (.int .i64) y5), (8, .im (.int .i64) y6), (9, .po 2 0), (11, .im (.int .i64) y7), (21, .im (.sl false (.pair (.int .i64) (.pair (.int .i64) .unit))) y8), (22, .im (.int .i64) y9), (23, .im (.int .i64) y10), (64, .im .bool y11)], [(0, .obj [.hs 3 [] none 0, .im (.int .i64) y12]), (1, .obj [.hs 4 [] none 0, .im (.int .i64) y13]), (2, .obj [.im (.int .i64) y14, .im (.int .i64) y15]), (3, .arr true (.int .u8) y16 0), (4, .arr false (.int .u8) y17 0)], 5⟩
  | .p88 y1 y2 y3 y4 y5 y6 y7 y8 y9 y10 y11 y12 y13 y14 y15 y16 => ⟨[(0, .im (.sl false (.pair (.int .i64) (.pair (.int .i64) .unit))) y1), (2, .po 0 0), (3, .po 1 0), (4, .im (.int .i64) y2), (5, .im .bool y3), (6, .im (.int .i64) y4), (7, .im (.int .i64) y5), (12, .im (.int .u64) y6), (13, .im (.int .i64) y7), (14, .im (.int .i64) y8), (21, .im (.sl false (.pair (.int .i64) (.pair (.int .i64) .unit))) y9), (22, .im (.int .i64) y10), (23, .im (.int .i64) y11), (131, .im .bool y12)], [(0, .obj [.hs 2 [] none 0, .im (.int .i64) y13]), (1, .obj [.hs 3 [] none 0, .im (.int .i64) y14]), (2, .arr true (.int .u8) y15 0), (3, .arr false (.int .u8) y16 0)], 4⟩
  | .p60 y1 y2 y3 y4 y5 y6 y7 y8 y9 y10 y11 y12 y13 y14 y15 y16 y17 => ⟨[(0, .im (.sl false (.pair (.int .i64) (.pair (.int .i64) .unit))) y1), (2, .po 0 0), (3, .po 1 0), (4, .im (.int .i64) y2), (5, .im .bool y3), (6, .im (.int .i64) y4), (7, .im (.int .i64) y5), (8, .im (.int .i64) y6), (9, .po 2 0), (11, .im (.int .i64) y7), (21, .im (.sl false (.pair (.int .i64) (.pair (.int .i64) .unit))) y8), (22, .im (.int .i64) y9), (23, .im (.int .i64) y10), (77, .im .bool y11)], [(0, .obj [.hs 3 [] none 0, .im (.int .i64) y12]), (1, .obj [.hs 4 [] none 0, .im (.int .i64) y13]), (2, .obj [.im (.int .i64) y14, .im (.int .i64) y15]), (3, .arr true (.int .u8) y16 0), (4, .arr false (.int .u8) y17 0)], 5⟩
  | .p66 y1 y2 y3 y4 y5 y6 y7 y8 y9 y10 y11 y12 y13 y14 y15 y16 y17 => ⟨[(0, .im (.sl false (.pair (.int .i64) (.pair (.int .i64) .unit))) y1), (2, .po 0 0), (3, .po 1 0), (4, .im (.int .i64) y2), (5, .im .bool y3), (6, .im (.int .i64) y4), (7, .im (.int .i64) y5), (8, .im (.int .i64) y6), (9, .po 2 0), (11, .im (.int .i64) y7), (21, .im (.sl false (.pair (.int .i64) (.pair (.int .i64) .unit))) y8), (22, .im (.int .i64) y9), (23, .im (.int .i64) y10), (90, .im .bool y11)], [(0, .obj [.hs 3 [] none 0, .im (.int .i64) y12]), (1, .obj [.hs 4 [] none 0, .im (.int .i64) y13]), (2, .obj [.im (.int .i64) y14, .im (.int .i64) y15]), (3, .arr true (.int .u8) y16 0), (4, .arr false (.int .u8) y17 0)], 5⟩
def impl_packChunk.step (n : Nat) (K : impl_packChunk.Pt → Option (Tup [(.pair (.sl false (.int .u8)) (.pair (.int .i64) .unit))])) : impl_packChunk.Pt → Option (Tup [(.pair (.sl false (.int .u8)) (.pair (.int .i64) .unit))])
  | .p0 a0 => (impl_bitWriter__put n (([] : List (Int)), (default : (Int) × (Unit))) ((List.length a0) : Int) (8 : Int)).bind fun r4 => K (.p15 a0 (0 : Int) false (0 : Int) (0 : Int) a0 ((List.length a0) : Int) (0 : Int) (default : Int) r4.2.1 ([] : List (Int)) r4.1)
  | .p15 y1 y2 y3 y4 y5 y6 y7 y8 y9 y10 y11 y12 => cond (decide (y8 < y7)) (cond (inB y8 (List.length y6)) (cond (decide (y8 = (0 : Int))) ((impl_bitWriter__put n (y12, (y10, ())) (List.getD y6 (Int.toNat y8) default).1 (40 : Int)).bind fun r15 => (impl_bitWriter__put n (r15.1, r15.2) (List.getD y6 (Int.toNat y8) default).2.1 (64 : Int)).bind fun r16 => K (.p15 y1 y2 y3 y4 y5 y6 y7 (IntKind.wrap .i64 (y8 + (1 : Int))) y9 r16.2.1 y11 r16.1)) (cond (inB (IntKind.wrap .i64 (y8 - (1 : Int))) (List.length y1)) (cond (decide (y8 = (1 : Int))) (K (.p42 y1 (IntKind.wrap .i64 ((List.getD y6 (Int.toNat y8) default).1 - (List.getD y1 (Int.toNat (IntKind.wrap .i64 (y8 - (1 : Int)))) default).1)) y3 y4 y5 y8 (IntKind.wrap .i64 ((List.getD y6 (Int.toNat y8) default).1 - (List.getD y1 (Int.toNat (IntKind.wrap .i64 (y8 - (1 : Int)))) default).1)) y6 y7 y8 y9 y10 (List.getD y6 (Int.toNat y8) default).1 (List.getD y6 (Int.toNat y8) default).2.1 y11 y12)) (K (.p42 y1 (IntKind.wrap .i64 ((List.getD y6 (Int.toNat y8) default).1 - (List.getD y1 (Int.toNat (IntKind.wrap .i64 (y8 - (1 : Int)))) default).1)) y3 y4 y5 y8 (IntKind.wrap .i64 ((IntKind.wrap .i64 ((List.getD y6 (Int.toNat y8) default).1 - (List.getD y1 (Int.toNat (IntKind.wrap .i64 (y8 - (1 : Int)))) default).1)) - y2)) y6 y7 y8 y9 y10 (List.getD y6 (Int.toNat y8) default).1 (List.getD y6 (Int.toNat y8) default).2.1 y11 y12))) (none))) (none)) (some (y12, (y10, ())))
  | .p42 y1 y2 y3 y4 y5 y6 y7 y8 y9 y10 y11 y12 y13 y14 y15 y16 => cond (decide (y7 = (0 : Int))) ((impl_bitWriter__put n (y16, (y12, ())) (0 : Int) (1 : Int)).bind fun r19 => K (.p49 y1 y2 y3 y4 y5 y6 y8 y9 y10 y11 r19.2.1 y13 y14 y15 r19.1)) (cond (decide ((-(63 : Int)) ≤ y7)) (K (.p54 y1 y2 y3 y4 y5 y6 y7 y8 y9 y10 (decide (y7 ≤ (64 : Int))) y11 y12 y13 y14 y15 y16)) (K (.p54 y1 y2 y3 y4 y5 y6 y7 y8 y9 y10 false y11 y12 y13 y14 y15 y16)))
  | .p49 y1 y2 y3 y4 y5 y6 y7 y8 y9 y10 y11 y12 y13 y14 y15 => cond (inB (IntKind.wrap .i64 (y6 - (1 : Int))) (List.length y1)) (cond (decide ((IntKind.wrap .u64 (bxor .i64 y13 (List.getD y1 (Int.toNat (IntKind.wrap .i64 (y6 - (1 : Int)))) default).2.1)) = (0 : Int))) ((impl_bitWriter__put n (y15, (y11, ())) (0 : Int) (1 : Int)).bind fun r18 => K (.p15 y1 y2 y3 y4 y5 y7 y8 (IntKind.wrap .i64 (y9 + (1 : Int))) y10 r18.2.1 y14 r18.1)) ((bits_LeadingZeros64 n (IntKind.wrap .u64 (bxor .i64 y13 (List.getD y1 (Int.toNat (IntKind.wrap .i64 (y6 - (1 : Int)))) default).2.1))).bind fun (r18 : Int) => (bits_TrailingZeros64 n (IntKind.wrap .u64 (bxor .i64 y13 (List.getD y1 (Int.toNat (IntKind.wrap .i64 (y6 - (1 : Int)))) default).2.1))).bind fun (r19 : Int) => cond y3 (cond (decide (y4 ≤ r18)) (K (.p88 y1 y2 y3 y4 y5 (IntKind.wrap .u64 (bxor .i64 y13 (List.getD y1 (Int.toNat (IntKind.wrap .i64 (y6 - (1 : Int)))) default).2.1)) r18 r19 y7 y8 y9 (decide (y5 ≤ r19)) y10 y11 y14 y15)) (K (.p88 y1 y2 y3 y4 y5 (IntKind.wrap .u64 (bxor .i64 y13 (List.getD y1 (Int.toNat (IntKind.wrap .i64 (y6 - (1 : Int)))) default).2.1)) r18 r19 y7 y8 y9 false y10 y11 y14 y15))) (K (.p88 y1 y2 y3 y4 y5 (IntKind.wrap .u64 (bxor .i64 y13 (List.getD y1 (Int.toNat (IntKind.wrap .i64 (y6 - (1 : Int)))) default).2.1)) r18 r19 y7 y8 y9 false y10 y11 y14 y15)))) (none)
  | .p54 y1 y2 y3 y4 y5 y6 y7 y8 y9 y10 y11 y12 y13 y14 y15 y16 y17 => cond y11 ((impl_bitWriter__put n (y17, (y13, ())) (2 : Int) (2 : Int)).bind fun r20 => (impl_bitWriter__put n (r20.1, r20.2) (IntKind.wrap .i64 (y7 + (63 : Int))) (7 : Int)).bind fun r21 => K (.p49 y1 y2 y3 y4 y5 y6 y8 y9 y10 y12 r21.2.1 y14 y15 y16 r21.1)) (cond (decide ((-(255 : Int)) ≤ y7)) (K (.p60 y1 y2 y3 y4 y5 y6 y7 y8 y9 y10 (decide (y7 ≤ (256 : Int))) y12 y13 y14 y15 y16 y17)) (K (.p60 y1 y2 y3 y4 y5 y6 y7 y8 y9 y10 false y12 y13 y14 y15 y16 y17)))
  | .p88 y1 y2 y3 y4 y5 y6 y7 y8 y9 y10 y11 y12 y13 y14 y15 y16 => cond y12 ((impl_bitWriter__put n (y16, (y14, ())) (2 : Int) (2 : Int)).bind fun r19 => cond (decide (0 ≤ y5)) ((impl_bitWriter__put n (r19.1, r19.2) (IntKind.wrap .i64 (shr .u64 y6 y5)) (IntKind.wrap .i64 ((IntKind.wrap .i64 ((64 : Int) - y4)) - y5))).bind fun r20 => K (.p15 y1 y2 y3 y4 y5 y9 y10 (IntKind.wrap .i64 (y11 + (1 : Int))) y13 r20.2.1 y15 r20.1)) (none)) ((impl_bitWriter__put n (y16, (y14, ())) (3 : Int) (2 : Int)).bind fun r19 => (impl_bitWriter__put n (r19.1, r19.2) y7 (6 : Int)).bind fun r20 => (impl_bitWriter__put n (r20.1, r20.2) (IntKind.wrap .i64 ((IntKind.wrap .i64 ((IntKind.wrap .i64 ((64 : Int) - y7)) - y8)) - (1 : Int))) (6 : Int)).bind fun r21 => cond (decide (0 ≤ y8)) ((impl_bitWriter__put n (r21.1, r21.2) (IntKind.wrap .i64 (shr .u64 y6 y8)) (IntKind.wrap .i64 ((IntKind.wrap .i64 ((64 : Int) - y7)) - y8))).bind fun r22 => K (.p15 y1 y2 true y7 y8 y9 y10 (IntKind.wrap .i64 (y11 + (1 : Int))) y13 r22.2.1 y15 r22.1)) (none))
  | .p60 y1 y2 y3 y4 y5 y6 y7 y8 y9 y10 y11 y12 y13 y14 y15 y16 y17 => cond y11 ((impl_bitWriter__put n (y17, (y13, ())) (6 : Int) (3 : Int)).bind fun r20 => (impl_bitWriter__put n (r20.1, r20.2) (IntKind.wrap .i64 (y7 + (255 : Int))) (9 : Int)).bind fun r21 => K (.p49 y1 y2 y3 y4 y5 y6 y8 y9 y10 y12 r21.2.1 y14 y15 y16 r21.1)) (cond (decide ((-(2047 : Int)) ≤ y7)) (K (.p66 y1 y2 y3 y4 y5 y6 y7 y8 y9 y10 (decide (y7 ≤ (2048 : Int))) y12 y13 y14 y15 y16 y17)) (K (.p66 y1 y2 y3 y4 y5 y6 y7 y8 y9 y10 false y12 y13 y14 y15 y16 y17)))
  | .p66 y1 y2 y3 y4 y5 y6 y7 y8 y9 y10 y11 y12 y13 y14 y15 y16 y17 => cond y11 ((impl_bitWriter__put n (y17, (y13, ())) (14 : Int) (4 : Int)).bind fun r20 => (impl_bitWriter__put n (r20.1, r20.2) (IntKind.wrap .i64 (y7 + (2047 : Int))) (12 : Int)).bind fun r21 => K (.p49 y1 y2 y3 y4 y5 y6 y8 y9 y10 y12 r21.2.1 y14 y15 y16 r21.1)) ((impl_bitWriter__put n (y17, (y13, ())) (15 : Int) (4 : Int)).bind fun r20 => (impl_bitWriter__put n (r20.1, r20.2) y7 (64 : Int)).bind fun r21 => K (.p49 y1 y2 y3 y4 y5 y6 y8 y9 y10 y12 r21.2.1 y14 y15 y16 r21.1))
def impl_packChunk (n : Nat) (a0 : List ((Int) × ((Int) × (Unit)))) : Option (Tup [(.pair (.sl false (.int .u8)) (.pair (.int .i64) .unit))]) := goRec impl_packChunk.step n (.p0 a0)
def impl_packChunk.spec : Ctr := ⟨17, [.v (.sl false (.pair (.int .i64) (.pair (.int .i64) .unit)))], [(.pair (.sl false (.int .u8)) (.pair (.int .i64) .unit))], [], fun n x => impl_packChunk n x.1⟩
theorem impl_packChunk.seg_eq : SegEq ty gl impl_packChunk.F impl_packChunk.md impl_packChunk.T impl_packChunk.spec impl_packChunk.lb impl_packChunk.st impl_packChunk.step := by
  intro n goto y; cases y <;> kernel_rfl
theorem impl_packChunk.text : Text Go.Proofs.Tryd.prog impl_packChunk.F impl_packChunk.spec := textOf Go.Proofs.Tryd.f17
theorem impl_packChunk.ok : CtrOK Go.Proofs.Tryd.prog gl impl_packChunk.spec :=
  ctr_okS tabs impl_packChunk.text impl_packChunk.seg_eq (fun n x => ⟨.p0 x.1, rfl, rfl, rfl⟩) (consC impl_bitWriter__put.ok (consC bits_LeadingZeros64.ok (consC bits_TrailingZeros64.ok (nilC))))

/-! loop.example/g00039/impl.PackChunk -/
def impl_PackChunk.T : List Ctr := [impl_GoodSamples.spec, impl_packChunk.spec]
def impl_PackChunk.md : List (Nat × List Md) := []
noncomputable def impl_PackChunk.F : Fun := ⟨(Go.Proofs.Tryd.f7.body).getD .skip, [.v (.sl false (.pair (.int .i64) (.pair (.int .i64) .unit)))], [(.cell 2 26, (.pair (.sl false (.int .u8)) (.pair (.int .i64) .unit)))], [], 0, []⟩
inductive impl_PackChunk.Pt where
  | p0 (a0 : List ((Int) × ((Int) × (Unit))))
def impl_PackChunk.lb : impl_PackChunk.Pt → Nat
  | .p0 _ => 0
def impl_PackChunk.st : impl_PackChunk.Pt → St
  | .p0 a0 => enter [.v (.sl false (.pair (.int .i64) (.pair (.int .i64) .unit))) a0] 0
def impl_PackChunk.step (n : Nat) (K : impl_PackChunk.Pt → Option (Tup [(.pair (.sl false (.int .u8)) (.pair (.int .i64) .unit))])) : impl_PackChunk.Pt → Option (Tup [(.pair (.sl false (.int .u8)) (.pair (.int .i64) .unit))])
  | .p0 a0 => cond (decide ((120 : Int) < ((List.length a0) : Int))) (some (([] : List (Int)), (default : (Int) × (Unit)))) ((impl_GoodSamples n a0).bind fun r4 => cond (!r4) (some (([] : List (Int)), (default : (Int) × (Unit)))) ((impl_packChunk n a0).bind fun r5 => some (r5.1, r5.2)))
def impl_PackChunk (n : Nat) (a0 : List ((Int) × ((Int) × (Unit)))) : Option (Tup [(.pair (.sl false (.int .u8)) (.pair (.int .i64) .unit))]) := goRec impl_PackChunk.step n (.p0 a0)
def impl_PackChunk.spec : Ctr := ⟨7, [.v (.sl false (.pair (.int .i64) (.pair (.int .i64) .unit)))], [(.pair (.sl false (.int .u8)) (.pair (.int .i64) .unit))], [], fun n x => impl_PackChunk n x.1⟩
theorem impl_PackChunk.seg_eq : SegEq ty gl impl_PackChunk.F impl_PackChunk.md impl_PackChunk.T impl_PackChunk.spec impl_PackChunk.lb impl_PackChunk.st impl_PackChunk.step := by
  intro n goto y; cases y <;> kernel_rfl
theorem impl_PackChunk.text : Text Go.Proofs.Tryd.prog impl_PackChunk.F impl_PackChunk.spec := textOf Go.Proofs.Tryd.f7
theorem impl_PackChunk.ok : CtrOK Go.Proofs.Tryd.prog gl impl_PackChunk.spec :=
  ctr_okS tabs impl_PackChunk.text impl_PackChunk.seg_eq (fun n x => ⟨.p0 x.1, rfl, rfl, rfl⟩) (consC impl_GoodSamples.ok (consC impl_packChunk.ok (nilC)))

/-! loop.example/g00039/laws.eqByteS -/
def laws_eqByteS.T : List Ctr := []
def laws_eqByteS.md : List (Nat × List Md) := []
noncomputable def laws_eqByteS.F : Fun := ⟨(Go.Proofs.Tryd.f18.body).getD .skip, [.v (.sl false (.int .u8)), .v (.sl false (.int .u8))], [(.tmp 4, .bool)], [], 0, [(15, ⟨[0, 1, 5], [], [], false⟩)]⟩
inductive laws_eqByteS.Pt where
  | p0 (a0 : List (Int)) (a1 : List (Int))
  | p15 (y1 : List (Int)) (y2 : List (Int)) (y3 : Int)
def laws_eqByteS.lb : laws_eqByteS.Pt → Nat
  | .p0 _ _ => 0
  | .p15 _ _ _ => 15
def laws_eqByteS.st : laws_eqByteS.Pt → St
  | .p0 a0 a1 => enter [.v (.sl false (.int .u8)) a0, .v (.sl false (.int .u8)) a1] 0
  | .p15 y1 y2 y3 => ⟨[(0, .im (.sl false (.int .u8)) y1), (1, .im (.sl false (.int .u8)) y2), (5, .im (.int .i64) y3)], [], 0⟩
def laws_eqByteS.step (n : Nat) (K : laws_eqByteS.Pt → Option (Tup [.bool])) : laws_eqByteS.Pt → Option (Tup [.bool])
  | .p0 a0 a1 => cond (!(decide (((List.length a0) : Int) = ((List.length a1) : Int)))) (some false) (K (.p15 a0 a1 (0 : Int)))
  | .p15 y1 y2 y3 => cond (decide (y3 < ((List.length y1) : Int))) (cond (inB y3 (List.length y1)) (cond (inB y3 (List.length y2)) (cond (!(decide ((List.getD y1 (Int.toNat y3) default) = (List.getD y2 (Int.toNat y3) default)))) (some false) (K (.p15 y1 y2 (IntKind.wrap .i64 (y3 + (1 : Int)))))) (none)) (none)) (some true)
def laws_eqByteS (n : Nat) (a0 : List (Int)) (a1 : List (Int)) : Option (Tup [.bool]) := goRec laws_eqByteS.step n (.p0 a0 a1)
def laws_eqByteS.spec : Ctr := ⟨18, [.v (.sl false (.int .u8)), .v (.sl false (.int .u8))], [.bool], [], fun n x => laws_eqByteS n x.1 x.2.1⟩
theorem laws_eqByteS.seg_eq : SegEq ty gl laws_eqByteS.F laws_eqByteS.md laws_eqByteS.T laws_eqByteS.spec laws_eqByteS.lb laws_eqByteS.st laws_eqByteS.step := by
  intro n goto y; cases y <;> kernel_rfl
theorem laws_eqByteS.text : Text Go.Proofs.Tryd.prog laws_eqByteS.F laws_eqByteS.spec := textOf Go.Proofs.Tryd.f18
theorem laws_eqByteS.ok : CtrOK Go.Proofs.Tryd.prog gl laws_eqByteS.spec :=
  ctr_okS tabs laws_eqByteS.text laws_eqByteS.seg_eq (fun n x => ⟨.p0 x.1 x.2.1, rfl, rfl, rfl⟩) (nilC)

/-! loop.example/g00039/laws.eqBits -/
def laws_eqBits.T : List Ctr := [laws_eqByteS.spec]
def laws_eqBits.md : List (Nat × List Md) := []
noncomputable def laws_eqBits.F : Fun := ⟨(Go.Proofs.Tryd.f8.body).getD .skip, [.v (.pair (.sl false (.int .u8)) (.pair (.int .i64) .unit)), .v (.pair (.sl false (.int .u8)) (.pair (.int .i64) .unit))], [(.tmp 4, .bool)], [], 0, []⟩
inductive laws_eqBits.Pt where
  | p0 (a0 : (List (Int)) × ((Int) × (Unit))) (a1 : (List (Int)) × ((Int) × (Unit)))
def laws_eqBits.lb : laws_eqBits.Pt → Nat
  | .p0 _ _ => 0
def laws_eqBits.st : laws_eqBits.Pt → St
  | .p0 a0 a1 => enter [.v (.pair (.sl false (.int .u8)) (.pair (.int .i64) .unit)) a0, .v (.pair (.sl false (.int .u8)) (.pair (.int .i64) .unit)) a1] 0
def laws_eqBits.step (n : Nat) (K : laws_eqBits.Pt → Option (Tup [.bool])) : laws_eqBits.Pt → Option (Tup [.bool])
  | .p0 a0 a1 => (laws_eqByteS n a0.1 a1.1).bind fun r5 => cond (!r5) (some false) (cond (!(decide (a0.2.1 = a1.2.1))) (some false) (some true))
def laws_eqBits (n : Nat) (a0 : (List (Int)) × ((Int) × (Unit))) (a1 : (List (Int)) × ((Int) × (Unit))) : Option (Tup [.bool]) := goRec laws_eqBits.step n (.p0 a0 a1)
def laws_eqBits.spec : Ctr := ⟨8, [.v (.pair (.sl false (.int .u8)) (.pair (.int .i64) .unit)), .v (.pair (.sl false (.int .u8)) (.pair (.int .i64) .unit))], [.bool], [], fun n x => laws_eqBits n x.1 x.2.1⟩
theorem laws_eqBits.seg_eq : SegEq ty gl laws_eqBits.F laws_eqBits.md laws_eqBits.T laws_eqBits.spec laws_eqBits.lb laws_eqBits.st laws_eqBits.step := by
  intro n goto y; cases y <;> kernel_rfl
theorem laws_eqBits.text : Text Go.Proofs.Tryd.prog laws_eqBits.F laws_eqBits.spec := textOf Go.Proofs.Tryd.f8
theorem laws_eqBits.ok : CtrOK Go.Proofs.Tryd.prog gl laws_eqBits.spec :=
  ctr_okS tabs laws_eqBits.text laws_eqBits.seg_eq (fun n x => ⟨.p0 x.1 x.2.1, rfl, rfl, rfl⟩) (consC laws_eqByteS.ok (nilC))

/-! loop.example/g00039/laws.eqSample -/
def laws_eqSample.T : List Ctr := []
def laws_eqSample.md : List (Nat × List Md) := []
noncomputable def laws_eqSample.F : Fun := ⟨(Go.Proofs.Tryd.f19.body).getD .skip, [.v (.pair (.int .i64) (.pair (.int .i64) .unit)), .v (.pair (.int .i64) (.pair (.int .i64) .unit))], [(.tmp 4, .bool)], [], 0, []⟩
inductive laws_eqSample.Pt where
  | p0 (a0 : (Int) × ((Int) × (Unit))) (a1 : (Int) × ((Int) × (Unit)))
def laws_eqSample.lb : laws_eqSample.Pt → Nat
  | .p0 _ _ => 0
def laws_eqSample.st : laws_eqSample.Pt → St
  | .p0 a0 a1 => enter [.v (.pair (.int .i64) (.pair (.int .i64) .unit)) a0, .v (.pair (.int .i64) (.pair (.int .i64) .unit)) a1] 0
def laws_eqSample.step (n : Nat) (K : laws_eqSample.Pt → Option (Tup [.bool])) : laws_eqSample.Pt → Option (Tup [.bool])
  | .p0 a0 a1 => cond (!(decide (a0.1 = a1.1))) (some false) (cond (!(decide (a0.2.1 = a1.2.1))) (some false) (some true))
def laws_eqSample (n : Nat) (a0 : (Int) × ((Int) × (Unit))) (a1 : (Int) × ((Int) × (Unit))) : Option (Tup [.bool]) := goRec laws_eqSample.step n (.p0 a0 a1)
def laws_eqSample.spec : Ctr := ⟨19, [.v (.pair (.int .i64) (.pair (.int .i64) .unit)), .v (.pair (.int .i64) (.pair (.int .i64) .unit))], [.bool], [], fun n x => laws_eqSample n x.1 x.2.1⟩
theorem laws_eqSample.seg_eq : SegEq ty gl laws_eqSample.F laws_eqSample.md laws_eqSample.T laws_eqSample.spec laws_eqSample.lb laws_eqSample.st laws_eqSample.step := by
  intro n goto y; cases y <;> kernel_rfl
theorem laws_eqSample.text : Text Go.Proofs.Tryd.prog laws_eqSample.F laws_eqSample.spec := textOf Go.Proofs.Tryd.f19
theorem laws_eqSample.ok : CtrOK Go.Proofs.Tryd.prog gl laws_eqSample.spec :=
  ctr_okS tabs laws_eqSample.text laws_eqSample.seg_eq (fun n x => ⟨.p0 x.1 x.2.1, rfl, rfl, rfl⟩) (nilC)

/-! loop.example/g00039/laws.eqSampleS -/
def laws_eqSampleS.T : List Ctr := [laws_eqSample.spec]
def laws_eqSampleS.md : List (Nat × List Md) := []
noncomputable def laws_eqSampleS.F : Fun := ⟨(Go.Proofs.Tryd.f9.body).getD .skip, [.v (.sl false (.pair (.int .i64) (.pair (.int .i64) .unit))), .v (.sl false (.pair (.int .i64) (.pair (.int .i64) .unit)))], [(.tmp 4, .bool)], [], 0, [(15, ⟨[0, 1, 5], [], [], false⟩)]⟩
inductive laws_eqSampleS.Pt where
  | p0 (a0 : List ((Int) × ((Int) × (Unit)))) (a1 : List ((Int) × ((Int) × (Unit))))
  | p15 (y1 : List ((Int) × ((Int) × (Unit)))) (y2 : List ((Int) × ((Int) × (Unit)))) (y3 : Int)
def laws_eqSampleS.lb : laws_eqSampleS.Pt → Nat
  | .p0 _ _ => 0
  | .p15 _ _ _ => 15
def laws_eqSampleS.st : laws_eqSampleS.Pt → St
  | .p0 a0 a1 => enter [.v (.sl false (.pair (.int .i64) (.pair (.int .i64) .unit))) a0, .v (.sl false (.pair (.int .i64) (.pair (.int .i64) .unit))) a1] 0
  | .p15 y1 y2 y3 => ⟨[(0, .im (.sl false (.pair (.int .i64) (.pair (.int .i64) .unit))) y1), (1, .im (.sl false (.pair (.int .i64) (.pair (.int .i64) .unit))) y2), (5, .im (.int .i64) y3)], [], 0⟩
def laws_eqSampleS.step (n : Nat) (K : laws_eqSampleS.Pt → Option (Tup [.bool])) : laws_eqSampleS.Pt → Option (Tup [.bool])
  | .p0 a0 a1 => cond (!(decide (((List.length a0) : Int) = ((List.length a1) : Int)))) (some false) (K (.p15 a0 a1 (0 : Int)))
  | .p15 y1 y2 y3 => cond (decide (y3 < ((List.length y1) : Int))) (cond (inB y3 (List.length y1)) (cond (inB y3 (List.length y2)) ((laws_eqSample n (List.getD y1 (Int.toNat y3) default) (List.getD y2 (Int.toNat y3) default)).bind fun r6 => cond (!r6) (some false) (K (.p15 y1 y2 (IntKind.wrap .i64 (y3 + (1 : Int)))))) (none)) (none)) (some true)
def laws_eqSampleS (n : Nat) (a0 : List ((Int) × ((Int) × (Unit)))) (a1 : List ((Int) × ((Int) × (Unit)))) : Option (Tup [.bool]) := goRec laws_eqSampleS.step n (.p0 a0 a1)
def laws_eqSampleS.spec : Ctr := ⟨9, [.v (.sl false (.pair (.int .i64) (.pair (.int .i64) .unit))), .v (.sl false (.pair (.int .i64) (.pair (.int .i64) .unit)))], [.bool], [], fun n x => laws_eqSampleS n x.1 x.2.1⟩
theorem laws_eqSampleS.seg_eq : SegEq ty gl laws_eqSampleS.F laws_eqSampleS.md laws_eqSampleS.T laws_eqSampleS.spec laws_eqSampleS.lb laws_eqSampleS.st laws_eqSampleS.step := by
  intro n goto y; cases y <;> kernel_rfl
theorem laws_eqSampleS.text : Text Go.Proofs.Tryd.prog laws_eqSampleS.F laws_eqSampleS.spec := textOf Go.Proofs.Tryd.f9
theorem laws_eqSampleS.ok : CtrOK Go.Proofs.Tryd.prog gl laws_eqSampleS.spec :=
  ctr_okS tabs laws_eqSampleS.text laws_eqSampleS.seg_eq (fun n x => ⟨.p0 x.1 x.2.1, rfl, rfl, rfl⟩) (consC laws_eqSample.ok (nilC))

/-! loop.example/g00039/laws.markSampleS -/
def laws_markSampleS.T : List Ctr := []
def laws_markSampleS.md : List (Nat × List Md) := []
noncomputable def laws_markSampleS.F : Fun := ⟨(Go.Proofs.Tryd.f10.body).getD .skip, [.s false (.pair (.int .i64) (.pair (.int .i64) .unit)), .v (.int .i64)], [(.tmp 4, (.int .i64))], [none], 1, [(7, ⟨[0, 1, 5], [], [], false⟩)]⟩
inductive laws_markSampleS.Pt where
  | p0 (a0 : List ((Int) × ((Int) × (Unit)))) (a1 : Int)
  | p7 (y1 : Int) (y2 : Int) (y3 : List ((Int) × ((Int) × (Unit))))
def laws_markSampleS.lb : laws_markSampleS.Pt → Nat
  | .p0 _ _ => 0
  | .p7 _ _ _ => 7
def laws_markSampleS.st : laws_markSampleS.Pt → St
  | .p0 a0 a1 => enter [.s false (.pair (.int .i64) (.pair (.int .i64) .unit)) a0, .v (.int .i64) a1] 1
  | .p7 y1 y2 y3 => ⟨[(0, .hs 0 [] none 0), (1, .im (.int .i64) y1), (5, .im (.int .i64) y2)], [(0, .arr false (.pair (.int .i64) (.pair (.int .i64) .unit)) y3 0)], 1⟩
def laws_markSampleS.step (n : Nat) (K : laws_markSampleS.Pt → Option (Tup [(.int .i64), (.sl false (.pair (.int .i64) (.pair (.int .i64) .unit)))])) : laws_markSampleS.Pt → Option (Tup [(.int .i64), (.sl false (.pair (.int .i64) (.pair (.int .i64) .unit)))])
  | .p0 a0 a1 => K (.p7 a1 (0 : Int) a0)
  | .p7 y1 y2 y3 => cond (decide (y2 < ((List.length y3) : Int))) (cond (inB y2 (List.length y3)) (cond (inB y2 (List.length (List.set y3 (0 + (Int.toNat y2)) (y1, (List.getD y3 (0 + (Int.toNat y2)) default).2)))) (let mm0 := (List.set (List.set y3 (0 + (Int.toNat y2)) (y1, (List.getD y3 (0 + (Int.toNat y2)) default).2)) (0 + (Int.toNat y2)) ((List.getD (List.set y3 (0 + (Int.toNat y2)) (y1, (List.getD y3 (0 + (Int.toNat y2)) default).2)) (0 + (Int.toNat y2)) default).1, ((IntKind.wrap .i64 (y1 + (1 : Int))), (List.getD (List.set y3 (0 + (Int.toNat y2)) (y1, (List.getD y3 (0 + (Int.toNat y2)) default).2)) (0 + (Int.toNat y2)) default).2.2))); K (.p7 (IntKind.wrap .i64 ((IntKind.wrap .i64 (y1 + (1 : Int))) + (1 : Int))) (IntKind.wrap .i64 (y2 + (1 : Int))) mm0)) (none)) (none)) (some (y1, y3))
def laws_markSampleS (n : Nat) (a0 : List ((Int) × ((Int) × (Unit)))) (a1 : Int) : Option (Tup [(.int .i64), (.sl false (.pair (.int .i64) (.pair (.int .i64) .unit)))]) := goRec laws_markSampleS.step n (.p0 a0 a1)
def laws_markSampleS.spec : Ctr := ⟨10, [.s false (.pair (.int .i64) (.pair (.int .i64) .unit)), .v (.int .i64)], [(.int .i64)], [(.sl false (.pair (.int .i64) (.pair (.int .i64) .unit)))], fun n x => laws_markSampleS n x.1 x.2.1⟩
theorem laws_markSampleS.seg_eq : SegEq ty gl laws_markSampleS.F laws_markSampleS.md laws_markSampleS.T laws_markSampleS.spec laws_markSampleS.lb laws_markSampleS.st laws_markSampleS.step := by
  intro n goto y; cases y <;> kernel_rfl
theorem laws_markSampleS.text : Text Go.Proofs.Tryd.prog laws_markSampleS.F laws_markSampleS.spec := textOf Go.Proofs.Tryd.f10
theorem laws_markSampleS.ok : CtrOK Go.Proofs.Tryd.prog gl laws_markSampleS.spec :=
  ctr_okS tabs laws_markSampleS.text laws_markSampleS.seg_eq (fun n x => ⟨.p0 x.1 x.2.1, rfl, rfl, rfl⟩) (nilC)

/-! loop.example/g00039/laws.markByteS -/
def laws_markByteS.T : List Ctr := []
def laws_markByteS.md : List (Nat × List Md) := []
noncomputable def laws_markByteS.F : Fun := ⟨(Go.Proofs.Tryd.f20.body).getD .skip, [.s false (.int .u8), .v (.int .i64)], [(.tmp 4, (.int .i64))], [none], 1, [(7, ⟨[0, 1, 5], [], [], false⟩)]⟩
inductive laws_markByteS.Pt where
  | p0 (a0 : List (Int)) (a1 : Int)
  | p7 (y1 : Int) (y2 : Int) (y3 : List (Int))
def laws_markByteS.lb : laws_markByteS.Pt → Nat
  | .p0 _ _ => 0
  | .p7 _ _ _ => 7
def laws_markByteS.st : laws_markByteS.Pt → St
  | .p0 a0 a1 => enter [.s false (.int .u8) a0, .v (.int .i64) a1] 1
  | .p7 y1 y2 y3 => ⟨[(0, .hs 0 [] none 0), (1, .im (.int .i64) y1), (5, .im (.int .i64) y2)], [(0, .arr false (.int .u8) y3 0)], 1⟩
def laws_markByteS.step (n : Nat) (K : laws_markByteS.Pt → Option (Tup [(.int .i64), (.sl false (.int .u8))])) : laws_markByteS.Pt → Option (Tup [(.int .i64), (.sl false (.int .u8))])
  | .p0 a0 a1 => K (.p7 a1 (0 : Int) a0)
  | .p7 y1 y2 y3 => cond (decide (y2 < ((List.length y3) : Int))) (cond (inB y2 (List.length y3)) (K (.p7 (IntKind.wrap .i64 (y1 + (1 : Int))) (IntKind.wrap .i64 (y2 + (1 : Int))) (List.set y3 (0 + (Int.toNat y2)) (IntKind.wrap .u8 y1)))) (none)) (some (y1, y3))
def laws_markByteS (n : Nat) (a0 : List (Int)) (a1 : Int) : Option (Tup [(.int .i64), (.sl false (.int .u8))]) := goRec laws_markByteS.step n (.p0 a0 a1)
def laws_markByteS.spec : Ctr := ⟨20, [.s false (.int .u8), .v (.int .i64)], [(.int .i64)], [(.sl false (.int .u8))], fun n x => laws_markByteS n x.1 x.2.1⟩
theorem laws_markByteS.seg_eq : SegEq ty gl laws_markByteS.F laws_markByteS.md laws_markByteS.T laws_markByteS.spec laws_markByteS.lb laws_markByteS.st laws_markByteS.step := by
  intro n goto y; cases y <;> kernel_rfl
theorem laws_markByteS.text : Text Go.Proofs.Tryd.prog laws_markByteS.F laws_markByteS.spec := textOf Go.Proofs.Tryd.f20
theorem laws_markByteS.ok : CtrOK Go.Proofs.Tryd.prog gl laws_markByteS.spec :=
  ctr_okS tabs laws_markByteS.text laws_markByteS.seg_eq (fun n x => ⟨.p0 x.1 x.2.1, rfl, rfl, rfl⟩) (nilC)

/-! loop.example/g00039/laws.markBits -/
def laws_markBits.T : List Ctr := [laws_markByteS.spec]
def laws_markBits.md : List (Nat × List Md) := [(20, [.s, .v])]
noncomputable def laws_markBits.F : Fun := ⟨(Go.Proofs.Tryd.f11.body).getD .skip, [.ag [.s false (.int .u8), .v (.int .i64)], .v (.int .i64)], [(.tmp 4, (.int .i64))], [none], 1, []⟩
inductive laws_markBits.Pt where
  | p0 (a0 : List (Int)) (a1 : Int) (a2 : Int)
def laws_markBits.lb : laws_markBits.Pt → Nat
  | .p0 _ _ _ => 0
def laws_markBits.st : laws_markBits.Pt → St
  | .p0 a0 a1 a2 => enter [.ag [.s false (.int .u8) a0, .v (.int .i64) a1], .v (.int .i64) a2] 1
def laws_markBits.step (n : Nat) (K : laws_markBits.Pt → Option (Tup [(.int .i64), (.sl false (.int .u8))])) : laws_markBits.Pt → Option (Tup [(.int .i64), (.sl false (.int .u8))])
  | .p0 a0 a1 a2 => (laws_markByteS n a0 a2).bind fun r6 => some (r6.1, r6.2)
def laws_markBits (n : Nat) (a0 : List (Int)) (a1 : Int) (a2 : Int) : Option (Tup [(.int .i64), (.sl false (.int .u8))]) := goRec laws_markBits.step n (.p0 a0 a1 a2)
def laws_markBits.spec : Ctr := ⟨11, [.ag [.s false (.int .u8), .v (.int .i64)], .v (.int .i64)], [(.int .i64)], [(.sl false (.int .u8))], fun n x => laws_markBits n x.1.1 x.1.2.1 x.2.1⟩
theorem laws_markBits.seg_eq : SegEq ty gl laws_markBits.F laws_markBits.md laws_markBits.T laws_markBits.spec laws_markBits.lb laws_markBits.st laws_markBits.step := by
  intro n goto y; cases y <;> kernel_rfl
theorem laws_markBits.text : Text Go.Proofs.Tryd.prog laws_markBits.F laws_markBits.spec := textOf Go.Proofs.Tryd.f11
theorem laws_markBits.ok : CtrOK Go.Proofs.Tryd.prog gl laws_markBits.spec :=
  ctr_okS tabs laws_markBits.text laws_markBits.seg_eq (fun n x => ⟨.p0 x.1.1 x.1.2.1 x.2.1, rfl, rfl, rfl⟩) (consC laws_markByteS.ok (nilC))

/-! loop.example/g00039/laws.heldByteS -/
def laws_heldByteS.T : List Ctr := []
def laws_heldByteS.md : List (Nat × List Md) := []
noncomputable def laws_heldByteS.F : Fun := ⟨(Go.Proofs.Tryd.f21.body).getD .skip, [.v (.sl false (.int .u8)), .v (.int .i64)], [(.tmp 4, (.int .i64))], [], 0, [(7, ⟨[0, 1, 5], [], [], false⟩)]⟩
inductive laws_heldByteS.Pt where
  | p0 (a0 : List (Int)) (a1 : Int)
  | p7 (y1 : List (Int)) (y2 : Int) (y3 : Int)
def laws_heldByteS.lb : laws_heldByteS.Pt → Nat
  | .p0 _ _ => 0
  | .p7 _ _ _ => 7
def laws_heldByteS.st : laws_heldByteS.Pt → St
  | .p0 a0 a1 => enter [.v (.sl false (.int .u8)) a0, .v (.int .i64) a1] 0
  | .p7 y1 y2 y3 => ⟨[(0, .im (.sl false (.int .u8)) y1), (1, .im (.int .i64) y2), (5, .im (.int .i64) y3)], [], 0⟩
def laws_heldByteS.step (n : Nat) (K : laws_heldByteS.Pt → Option (Tup [(.int .i64)])) : laws_heldByteS.Pt → Option (Tup [(.int .i64)])
  | .p0 a0 a1 => K (.p7 a0 a1 (0 : Int))
  | .p7 y1 y2 y3 => cond (decide (y3 < ((List.length y1) : Int))) (cond (inB y3 (List.length y1)) (cond (!(decide ((List.getD y1 (Int.toNat y3) default) = (IntKind.wrap .u8 y2)))) (some (-(1 : Int))) (K (.p7 y1 (IntKind.wrap .i64 (y2 + (1 : Int))) (IntKind.wrap .i64 (y3 + (1 : Int)))))) (none)) (some y2)
def laws_heldByteS (n : Nat) (a0 : List (Int)) (a1 : Int) : Option (Tup [(.int .i64)]) := goRec laws_heldByteS.step n (.p0 a0 a1)
def laws_heldByteS.spec : Ctr := ⟨21, [.v (.sl false (.int .u8)), .v (.int .i64)], [(.int .i64)], [], fun n x => laws_heldByteS n x.1 x.2.1⟩
theorem laws_heldByteS.seg_eq : SegEq ty gl laws_heldByteS.F laws_heldByteS.md laws_heldByteS.T laws_heldByteS.spec laws_heldByteS.lb laws_heldByteS.st laws_heldByteS.step := by
  intro n goto y; cases y <;> kernel_rfl
theorem laws_heldByteS.text : Text Go.Proofs.Tryd.prog laws_heldByteS.F laws_heldByteS.spec := textOf Go.Proofs.Tryd.f21
theorem laws_heldByteS.ok : CtrOK Go.Proofs.Tryd.prog gl laws_heldByteS.spec :=
  ctr_okS tabs laws_heldByteS.text laws_heldByteS.seg_eq (fun n x => ⟨.p0 x.1 x.2.1, rfl, rfl, rfl⟩) (nilC)

/-! loop.example/g00039/laws.heldBits -/
def laws_heldBits.T : List Ctr := [laws_heldByteS.spec]
def laws_heldBits.md : List (Nat × List Md) := []
noncomputable def laws_heldBits.F : Fun := ⟨(Go.Proofs.Tryd.f12.body).getD .skip, [.v (.pair (.sl false (.int .u8)) (.pair (.int .i64) .unit)), .v (.int .i64)], [(.tmp 4, (.int .i64))], [], 0, []⟩
inductive laws_heldBits.Pt where
  | p0 (a0 : (List (Int)) × ((Int) × (Unit))) (a1 : Int)
def laws_heldBits.lb : laws_heldBits.Pt → Nat
  | .p0 _ _ => 0
def laws_heldBits.st : laws_heldBits.Pt → St
  | .p0 a0 a1 => enter [.v (.pair (.sl false (.int .u8)) (.pair (.int .i64) .unit)) a0, .v (.int .i64) a1] 0
def laws_heldBits.step (n : Nat) (K : laws_heldBits.Pt → Option (Tup [(.int .i64)])) : laws_heldBits.Pt → Option (Tup [(.int .i64)])
  | .p0 a0 a1 => (laws_heldByteS n a0.1 a1).bind fun (r5 : Int) => cond (decide (r5 < (0 : Int))) (some (-(1 : Int))) (some r5)
def laws_heldBits (n : Nat) (a0 : (List (Int)) × ((Int) × (Unit))) (a1 : Int) : Option (Tup [(.int .i64)]) := goRec laws_heldBits.step n (.p0 a0 a1)
def laws_heldBits.spec : Ctr := ⟨12, [.v (.pair (.sl false (.int .u8)) (.pair (.int .i64) .unit)), .v (.int .i64)], [(.int .i64)], [], fun n x => laws_heldBits n x.1 x.2.1⟩
theorem laws_heldBits.seg_eq : SegEq ty gl laws_heldBits.F laws_heldBits.md laws_heldBits.T laws_heldBits.spec laws_heldBits.lb laws_heldBits.st laws_heldBits.step := by
  intro n goto y; cases y <;> kernel_rfl
theorem laws_heldBits.text : Text Go.Proofs.Tryd.prog laws_heldBits.F laws_heldBits.spec := textOf Go.Proofs.Tryd.f12
theorem laws_heldBits.ok : CtrOK Go.Proofs.Tryd.prog gl laws_heldBits.spec :=
  ctr_okS tabs laws_heldBits.text laws_heldBits.seg_eq (fun n x => ⟨.p0 x.1 x.2.1, rfl, rfl, rfl⟩) (consC laws_heldByteS.ok (nilC))

/-! loop.example/g00039/laws.FnExactPackChunk -/
def laws_FnExactPackChunk.T : List Ctr := [laws_szSampleS.spec, laws_toSampleS.spec, spec_PackChunk.spec, impl_PackChunk.spec, laws_eqBits.spec, laws_eqSampleS.spec, laws_markSampleS.spec, laws_markBits.spec, laws_heldBits.spec]
def laws_FnExactPackChunk.md : List (Nat × List Md) := [(10, [.s, .v]), (11, [.ag 5000704, .v]), (6000704, [.s, .c (.int .i64)])]
noncomputable def laws_FnExactPackChunk.F : Fun := ⟨(Go.Proofs.Tryd.f3.body).getD .skip, [.v (.sl false (.pair (.int .i64) (.pair (.int .i64) .unit)))], [(.tmp 2, .bool)], [], 0, [(42, ⟨[0, 4, 6, 42], [], [(4, 0, (.int .u8)), (6, 0, (.int .u8))], false⟩)]⟩
inductive laws_FnExactPackChunk.Pt where
  | p0 (a0 : List ((Int) × ((Int) × (Unit))))
  | p42 (y1 : List ((Int) × ((Int) × (Unit)))) (y2 : Bool) (y3 : Int) (y4 : Int) (y5 : List (Int)) (y6 : List (Int))
def laws_FnExactPackChunk.lb : laws_FnExactPackChunk.Pt → Nat
  | .p0 _ => 0
  | .p42 _ _ _ _ _ _ => 42
def laws_FnExactPackChunk.st : laws_FnExactPackChunk.Pt → St
  | .p0 a0 => enter [.v (.sl false (.pair (.int .i64) (.pair (.int .i64) .unit))) a0] 0
  | .p42 y1 y2 y3 y4 y5 y6 => ⟨[(0, .im (.sl false (.pair (.int .i64) (.pair (.int .i64) .unit))) y1), (4, .po 0 0), (6, .po 1 0), (42, .im .bool y2)], [(0, .obj [.hs 2 [] none 0, .im (.int .i64) y3]), (1, .obj [.hs 3 [] none 0, .im (.int .i64) y4]), (2, .arr false (.int .u8) y5 0), (3, .arr false (.int .u8) y6 0)], 4⟩
def laws_FnExactPackChunk.step (n : Nat) (K : laws_FnExactPackChunk.Pt → Option (Tup [.bool])) : laws_FnExactPackChunk.Pt → Option (Tup [.bool])
  | .p0 a0 => (laws_szSampleS n a0 (1048576 : Int)).bind fun (r4 : Int) => cond (decide (r4 < (0 : Int))) (some true) ((laws_toSampleS n a0).bind fun r5 => (spec_PackChunk n r5).bind fun r6 => (laws_toSampleS n a0).bind fun r7 => (impl_PackChunk n r7).bind fun r8 => (laws_eqBits n (r8.1, r8.2) (r6.1, r6.2)).bind fun r9 => cond (!r9) (some false) ((laws_toSampleS n a0).bind fun r10 => (laws_eqSampleS n r7 r10).bind fun r11 => cond (!r11) (some false) ((laws_markSampleS n r7 (1 : Int)).bind fun r12 => cond (decide (r12.1 < (0 : Int))) (K (.p42 a0 true r6.2.1 r8.2.1 r6.1 r8.1)) ((laws_eqBits n (r8.1, r8.2) (r6.1, r6.2)).bind fun r13 => K (.p42 a0 (!r13) r6.2.1 r8.2.1 r6.1 r8.1)))))
  | .p42 y1 y2 y3 y4 y5 y6 => cond y2 (some false) ((laws_markBits n y6 y4 (1 : Int)).bind fun r9 => (laws_heldBits n (r9.2, (y4, ())) (1 : Int)).bind fun (r10 : Int) => cond (decide (r10 < (0 : Int))) (some false) (cond (!(decide (r10 = r9.1))) (some false) ((laws_toSampleS n y1).bind fun r11 => (impl_PackChunk n r11).bind fun r12 => (laws_eqBits n (r12.1, r12.2) (y5, (y3, ()))).bind fun r13 => cond (!r13) (some false) ((laws_heldBits n (r9.2, (y4, ())) (1 : Int)).bind fun (r14 : Int) => cond (decide (r14 < (0 : Int))) (some false) (cond (!(decide (r14 = r9.1))) (some false) (some true))))))
def laws_FnExactPackChunk (n : Nat) (a0 : List ((Int) × ((Int) × (Unit)))) : Option (Tup [.bool]) := goRec laws_FnExactPackChunk.step n (.p0 a0)
def laws_FnExactPackChunk.spec : Ctr := ⟨3, [.v (.sl false (.pair (.int .i64) (.pair (.int .i64) .unit)))], [.bool], [], fun n x => laws_FnExactPackChunk n x.1⟩
theorem laws_FnExactPackChunk.seg_eq : SegEq ty gl laws_FnExactPackChunk.F laws_FnExactPackChunk.md laws_FnExactPackChunk.T laws_FnExactPackChunk.spec laws_FnExactPackChunk.lb laws_FnExactPackChunk.st laws_FnExactPackChunk.step := by
  intro n goto y; cases y <;> kernel_rfl
theorem laws_FnExactPackChunk.text : Text Go.Proofs.Tryd.prog laws_FnExactPackChunk.F laws_FnExactPackChunk.spec := textOf Go.Proofs.Tryd.f3
theorem laws_FnExactPackChunk.ok : CtrOK Go.Proofs.Tryd.prog gl laws_FnExactPackChunk.spec :=
  ctr_okS tabs laws_FnExactPackChunk.text laws_FnExactPackChunk.seg_eq (fun n x => ⟨.p0 x.1, rfl, rfl, rfl⟩) (consC laws_szSampleS.ok (consC laws_toSampleS.ok (consC spec_PackChunk.ok (consC impl_PackChunk.ok (consC laws_eqBits.ok (consC laws_eqSampleS.ok (consC laws_markSampleS.ok (consC laws_markBits.ok (consC laws_heldBits.ok (nilC))))))))))
end Go.PK
